/- Layer 27: the chapter's rows hold. Conditions: as each theorem states them. -/
import Derived.Test.YtibjafkclojimaaL8
namespace Go.Proofs.Ytibjafkclojimaa
open Go.RowKit
theorem one_ix {α : Type} {l : α} {i : Nat} (h : i < [l].length) : i = 0 := by simpa using h
theorem inv_one {base : Int} {l : LS} {s : SS} (hc : COk s.ep s.ow s.nx) (b0 : 0 ≤ base) (hb : base ≤ s.nx) (hl : LOk base s l) : Inv base [l] s [] := by
  refine ⟨hc, b0, hb, fun i hi => ?_, fun x hx => ?_, fun i _ x hx => ?_, fun i j hi hj hij => ?_⟩
  · rw [one_ix hi]; exact hl
  · cases hx
  · cases hx
  · exact absurd ((one_ix hi).trans (one_ix hj).symm) hij
theorem k_run1 : runP [100, 101, 102, 103] ⟨1, 1, 3, 0, 0⟩ ⟨1, 1, 100, 1, false, 0⟩ = some (⟨1, 1, 3, 104, 106⟩, ⟨1, 1, 106, 3, false, 0⟩) := by simp [runP, takP, renP, wrP]
theorem k_run2 : runP [104, 105] ⟨1, 1, 3, 104, 106⟩ ⟨2, 2, 106, 4, false, 0⟩ = some (⟨1, 1, 3, 106, 106⟩, ⟨2, 2, 106, 4, false, 0⟩) := by simp [runP, takP]
theorem k_tak2 : takP ⟨1, 1, 3, 106, 106⟩ ⟨2, 2, 106, 4, false, 0⟩ = (0, 8, ⟨1, 1, 3, 106, 106⟩, ⟨2, 2, 106, 4, false, 0⟩) := by simp [takP, renP]
theorem k_run3 : runP [106] ⟨2, 2, 5, 0, 0⟩ ⟨2, 2, 106, 4, false, 0⟩ = some (⟨2, 2, 5, 107, 111⟩, ⟨2, 2, 111, 5, false, 0⟩) := by simp [runP, takP, renP, wrP]
theorem k_tak4 : takP ⟨2, 1, 5, 0, 0⟩ ⟨2, 2, 111, 5, false, 0⟩ = (0, 8, ⟨2, 1, 5, 0, 0⟩, ⟨2, 2, 111, 5, false, 0⟩) := by simp [takP, renP]
theorem k_tak5 : takP ⟨2, 2, 0, 0, 0⟩ ⟨2, 2, 111, 5, false, 0⟩ = (0, 2, ⟨2, 2, 0, 0, 0⟩, ⟨2, 2, 111, 5, false, 0⟩) := by simp [takP, renP]
theorem k_wr : wrP ⟨1, 1, 106, 3, false, 0⟩ 2 2 106 = (0, ⟨2, 2, 106, 4, false, 0⟩) := by simp [wrP]
theorem k_c (e o n : Int) (h : 0 ≤ e ∧ e < 100 ∧ 0 ≤ o ∧ o ≤ 2 ∧ 0 ≤ n ∧ n ≤ 1000) : COk e o n := ⟨h.1, by omega, h.2.2.1, h.2.2.2.1, h.2.2.2.2.1, by omega⟩
/-- a Take that fails, the store and the lease as they were -/
theorem ltake_err (gl g : Nat) (l : LS) (s : SS) (e : Int) (w : World) (h : LsH gl w (.pointer (some ⟨g, 0, none⟩)) l) (hs : StH g w s) (hc : COk s.ep s.ow s.nx) (hN : s.N < 1000) (hb0 : 0 ≤ l.bl) (hb1 : l.bl ≤ 1000) (hn0 : 0 ≤ l.nx) (hn1 : l.nx ≤ 4611686018427387904) (ht : takP l s = (0, e, l, s)) :
    Calls Try.prog 7 #[.pointer (some ⟨gl, 0, none⟩)] w fun r w' => r = .returned (.tuple #[.int .u64 0, .int .i64 e]) ∧ StH g w' s ∧ Two g gl w w' := by
  have RD := ltake_any gl g l s w h hs hc hN hb0 hb1 hn0 hn1
  unfold TakPost at RD
  rw [ht] at RD
  refine Calls.mono RD ?_
  rintro r w' ⟨rfl, _, h2, w1, g1, g2⟩
  exact ⟨rfl, h2, Two.of g1 g2⟩
attribute [local irreducible] CL.rcd CL.size takeL newN wrS LastI CL.May lc StH renP wrP takP runP
set_option maxRecDepth 100000 in
set_option maxHeartbeats 8000000 in
theorem known27 (w : World) : Calls Try.prog 4 #[] w fun e w' => e = .returned (.bool true) ∧ Below w.heap.size w w' := by
  go_enter Try.func4, Try.ntmps4
  go_wp2_with fail
  refine Calls.mono (new_any _) ?_
  rintro e w1 ⟨g, rfl, hst, hg, b1⟩
  have Z1 := Lib.hid hst
  have B1 := Lib.hid b1
  have HG := Lib.hid hg
  clear hst b1 hg
  go_wp2_with fail
  refine Calls.mono (write_first g 1 1 100 none 0 w1 Z1.out (k_c 1 1 100 (by decide))) ?_
  rintro e w2 ⟨rfl, s2, g2⟩
  have S2 := Lib.hid s2
  have B2 := Lib.hid (B1.out.trans (below_of_only g2 HG.out B1.out.size))
  clear s2 g2 B1 Z1
  go_wp2_with fail
  refine Calls.mono (new_lease (some ⟨g, 0, none⟩) 1 1 3 w2) ?_
  obtain ⟨gl, hgl⟩ : ∃ z, w2.heap.size = z := ⟨_, rfl⟩
  rw [hgl]
  rintro e w3 ⟨rfl, h3, b3⟩
  rw [← hgl] at b3
  have S3 := Lib.hid (S2.out.below b3)
  have H3 := Lib.hid h3
  have B3 := Lib.hid (B2.out.trans (b3.mono B2.out.size))
  have HGL : Hid (w.heap.size ≤ gl) := Lib.hid (by rw [← hgl]; exact B2.out.size)
  clear hgl h3 b3 S2 B2
  go_wp2_with fail
  have b4 := (Below.refl w3.heap.size w3).alloc (Nat.le_refl _) (.cells #[.int .u64 100, .int .u64 101, .int .u64 102, .int .u64 103] 22)
  have W4 : Hid (Blk (w3.alloc (.cells #[.int .u64 100, .int .u64 101, .int .u64 102, .int .u64 103] 22)) w3.heap.size 22 ([100, 101, 102, 103].map (Value.int .u64)).toArray) := Lib.hid (Blk.new _ _ _)
  have S4 := Lib.hid (S3.out.below b4)
  have H4 := Lib.hid (H3.out.below b4)
  have B4 := Lib.hid (B3.out.trans (b4.mono B3.out.size))
  clear S3 H3 B3 b4
  refine Calls.mono (takes_run gl g w3.heap.size 100 _ _ ⟨1, 1, 3, 104, 106⟩ _ _ ⟨1, 1, 106, 3, false, 0⟩ 0 [100, 101, 102, 103] [] 4 _ H4.out S4.out (inv_one (k_c 1 1 100 (by decide)) (by decide) (by decide) ⟨by decide, by decide, by decide, by decide, by decide, by decide, by decide, by decide, by decide, by decide⟩) (by decide) rfl (by decide) W4.out k_run1 (.inl ⟨rfl, rfl, rfl⟩)) ?_
  rintro e w5 ⟨rfl, h5, s5, t5⟩
  have S5 := Lib.hid s5
  have H5 := Lib.hid h5
  have B5 := Lib.hid (B4.out.trans (t5.below HG.out HGL.out B4.out.size))
  clear h5 s5 t5 S4 H4 B4 W4
  go_wp2_with fail
  refine Calls.mono (limits_any gl _ _ w5 H5.out) ?_
  rintro e w6 ⟨rfl, b6⟩
  have S6 := Lib.hid (S5.out.below b6)
  have H6 := Lib.hid (H5.out.below b6)
  have B6 := Lib.hid (B5.out.trans (b6.mono B5.out.size))
  clear b6 S5 H5 B5
  go_wp2_with fail
  have RD := write_st g _ 2 2 106 none 0 w6 S6.out (k_c 2 2 106 (by decide)) (by decide)
  rw [k_wr] at RD
  refine Calls.mono RD ?_
  clear RD
  rintro e w7 ⟨rfl, s7, g7⟩
  have HNE : Hid (gl ≠ g) := Lib.hid (by
    obtain ⟨cs, hk⟩ := S6.out.blk
    exact Blk.ne_ H6.out hk (by decide))
  have S7 := Lib.hid s7
  have H7 := Lib.hid (Blk.grown H6.out g7 (by intro q; injection q with q; exact HNE.out q))
  have B7 := Lib.hid (B6.out.trans (below_of_only g7 HG.out B6.out.size))
  clear s7 g7 S6 H6 B6
  go_wp2_with fail
  have b8 := (Below.refl w7.heap.size w7).alloc (Nat.le_refl _) (.cells #[.int .u64 104, .int .u64 105] 22)
  have W8 : Hid (Blk (w7.alloc (.cells #[.int .u64 104, .int .u64 105] 22)) w7.heap.size 22 ([104, 105].map (Value.int .u64)).toArray) := Lib.hid (Blk.new _ _ _)
  have S8 := Lib.hid (S7.out.below b8)
  have H8 := Lib.hid (Blk.below H7.out b8 (Blk.lt H7.out))
  have B8 := Lib.hid (B7.out.trans (b8.mono B7.out.size))
  clear S7 H7 B7 b8
  refine Calls.mono (takes_run gl g w7.heap.size 100 _ _ ⟨1, 1, 3, 106, 106⟩ _ _ ⟨2, 2, 106, 4, false, 0⟩ 8 [104, 105] [] 2 _ H8.out S8.out (inv_one (k_c 2 2 106 (by decide)) (by decide) (by decide) ⟨by decide, by decide, by decide, by decide, by decide, by decide, by decide, by decide, by decide, by decide⟩) (by decide) rfl (by decide) W8.out k_run2 (.inr ⟨by decide, k_tak2⟩)) ?_
  rintro e w9 ⟨rfl, h9, s9, t9⟩
  have S9 := Lib.hid s9
  have H9 := Lib.hid h9
  have B9 := Lib.hid (B8.out.trans (t9.below HG.out HGL.out B8.out.size))
  clear h9 s9 t9 S8 H8 B8 W8
  go_wp2_with fail
  refine Calls.mono (limits_nil w9) ?_
  rintro e wk ⟨rfl, rfl⟩
  go_wp2_with fail
  refine Calls.mono (new_lease (some ⟨g, 0, none⟩) 2 2 5 w9) ?_
  obtain ⟨gm, hgm⟩ : ∃ z, w9.heap.size = z := ⟨_, rfl⟩
  rw [hgm]
  rintro e w10 ⟨rfl, h10, b10⟩
  rw [← hgm] at b10
  have S10 := Lib.hid (S9.out.below b10)
  have H10 := Lib.hid (H9.out.below b10)
  have M10 := Lib.hid h10
  have B10 := Lib.hid (B9.out.trans (b10.mono B9.out.size))
  have HGM : Hid (w.heap.size ≤ gm ∧ gl < gm) := Lib.hid (by rw [← hgm]; exact ⟨B9.out.size, Blk.lt H9.out⟩)
  clear hgm h10 b10 S9 H9 B9
  go_wp2_with fail
  have b11 := (Below.refl w10.heap.size w10).alloc (Nat.le_refl _) (.cells #[.int .u64 106] 22)
  have W11 : Hid (Blk (w10.alloc (.cells #[.int .u64 106] 22)) w10.heap.size 22 ([106].map (Value.int .u64)).toArray) := Lib.hid (Blk.new _ _ _)
  have S11 := Lib.hid (S10.out.below b11)
  have H11 := Lib.hid (H10.out.below b11)
  have M11 := Lib.hid (M10.out.below b11)
  have B11 := Lib.hid (B10.out.trans (b11.mono B10.out.size))
  clear S10 H10 B10 M10 b11
  refine Calls.mono (takes_run gm g w10.heap.size 100 _ _ ⟨2, 2, 5, 107, 111⟩ _ _ ⟨2, 2, 111, 5, false, 0⟩ 0 [106] [] 1 _ M11.out S11.out (inv_one (k_c 2 2 106 (by decide)) (by decide) (by decide) ⟨by decide, by decide, by decide, by decide, by decide, by decide, by decide, by decide, by decide, by decide⟩) (by decide) rfl (by decide) W11.out k_run3 (.inl ⟨rfl, rfl, rfl⟩)) ?_
  rintro e w12 ⟨rfl, h12, s12, t12⟩
  have S12 := Lib.hid s12
  have H12 := Lib.hid (show LsH gl w12 (.pointer (some ⟨g, 0, none⟩)) ⟨1, 1, 3, 106, 106⟩ from t12.blk H11.out HNE.out (by have := HGM.out.2; omega))
  have B12 := Lib.hid (B11.out.trans (t12.below HG.out HGM.out.1 B11.out.size))
  clear h12 s12 t12 S11 H11 B11 W11 M11 HGM
  go_wp2_with fail
  refine Calls.mono (new_lease (some ⟨g, 0, none⟩) 2 1 5 w12) ?_
  obtain ⟨gn, hgn⟩ : ∃ z, w12.heap.size = z := ⟨_, rfl⟩
  rw [hgn]
  rintro e w13 ⟨rfl, h13, b13⟩
  rw [← hgn] at b13
  have S13 := Lib.hid (S12.out.below b13)
  have H13 := Lib.hid (H12.out.below b13)
  have M13 := Lib.hid h13
  have B13 := Lib.hid (B12.out.trans (b13.mono B12.out.size))
  have HGN : Hid (w.heap.size ≤ gn ∧ gl < gn) := Lib.hid (by rw [← hgn]; exact ⟨B12.out.size, Blk.lt H12.out⟩)
  clear hgn h13 b13 S12 H12 B12
  go_wp2_with fail
  refine Calls.mono (takes_none (.pointer (some ⟨gn, 0, none⟩)) 8 w13 _ (ltake_err gn g _ _ 8 w13 M13.out S13.out (k_c 2 2 111 (by decide)) (by decide) (by decide) (by decide) (by decide) (by decide) k_tak4) (by decide)) ?_
  rintro e w14 ⟨rfl, s14, t14⟩
  have S14 := Lib.hid s14
  have H14 := Lib.hid (show LsH gl w14 (.pointer (some ⟨g, 0, none⟩)) ⟨1, 1, 3, 106, 106⟩ from t14.blk H13.out HNE.out (by have := HGN.out.2; omega))
  have B14 := Lib.hid (B13.out.trans (t14.below HG.out HGN.out.1 B13.out.size))
  clear s14 t14 S13 H13 B13 M13 HGN
  go_wp2_with fail
  refine Calls.mono (new_lease none 1 1 1 w14) ?_
  obtain ⟨go, hgo⟩ : ∃ z, w14.heap.size = z := ⟨_, rfl⟩
  rw [hgo]
  rintro e w15 ⟨rfl, h15, b15⟩
  rw [← hgo] at b15
  have S15 := Lib.hid (S14.out.below b15)
  have H15 := Lib.hid (H14.out.below b15)
  have M15 := Lib.hid h15
  have B15 := Lib.hid (B14.out.trans (b15.mono B14.out.size))
  clear hgo h15 b15 S14 H14 B14
  go_wp2_with fail
  refine Calls.mono (takes_none (.pointer (some ⟨go, 0, none⟩)) 1 w15 _ (ltake_nost go _ w15 M15.out rfl) (by decide)) ?_
  rintro e w16 ⟨rfl, b16⟩
  have S16 := Lib.hid (S15.out.below b16)
  have H16 := Lib.hid (H15.out.below b16)
  have B16 := Lib.hid (B15.out.trans (b16.mono B15.out.size))
  clear b16 S15 H15 B15 M15
  go_wp2_with fail
  refine Calls.mono (new_lease (some ⟨g, 0, none⟩) 2 2 0 w16) ?_
  obtain ⟨gp, hgp⟩ : ∃ z, w16.heap.size = z := ⟨_, rfl⟩
  rw [hgp]
  rintro e w17 ⟨rfl, h17, b17⟩
  rw [← hgp] at b17
  have S17 := Lib.hid (S16.out.below b17)
  have H17 := Lib.hid (H16.out.below b17)
  have M17 := Lib.hid h17
  have B17 := Lib.hid (B16.out.trans (b17.mono B16.out.size))
  have HGP : Hid (w.heap.size ≤ gp ∧ gl < gp) := Lib.hid (by rw [← hgp]; exact ⟨B16.out.size, Blk.lt H16.out⟩)
  clear hgp h17 b17 S16 H16 B16
  go_wp2_with fail
  refine Calls.mono (takes_none (.pointer (some ⟨gp, 0, none⟩)) 2 w17 _ (ltake_err gp g _ _ 2 w17 M17.out S17.out (k_c 2 2 111 (by decide)) (by decide) (by decide) (by decide) (by decide) (by decide) k_tak5) (by decide)) ?_
  rintro e w18 ⟨rfl, s18, t18⟩
  have H18 := Lib.hid (show LsH gl w18 (.pointer (some ⟨g, 0, none⟩)) ⟨1, 1, 3, 106, 106⟩ from t18.blk H17.out HNE.out (by have := HGP.out.2; omega))
  have B18 := Lib.hid (B17.out.trans (t18.below HG.out HGP.out.1 B17.out.size))
  clear s18 t18 S17 H17 B17 M17 HGP
  go_wp2_with fail
  refine Calls.mono (takes_none (.pointer none) 1 w18 _ (ltake_nil w18) (by decide)) ?_
  rintro e wk ⟨rfl, rfl⟩
  go_wp2_with fail
  refine Calls.mono (epoch_nil w18) ?_
  rintro e wk ⟨rfl, rfl⟩
  go_wp2_with fail
  refine Calls.mono (epoch_any gl _ _ w18 H18.out) ?_
  rintro e wk ⟨rfl, rfl⟩
  go_wp2_with fail
  go_ret
  exact ⟨rfl, B18.out⟩
end Go.Proofs.Ytibjafkclojimaa
