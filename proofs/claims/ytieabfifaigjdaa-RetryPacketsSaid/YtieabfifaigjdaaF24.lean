/- Layer 33: contract of Take, of bytes whose rows or tag are none. Conditions: as each theorem states them. -/
import Derived.Test.YtieabfifaigjdaaF23
namespace Go.Proofs.Ytieabfifaigjdaa
open Go.RowKit
attribute [local irreducible] tagP gsealL
set_option maxRecDepth 100000 in
set_option maxHeartbeats 8000000 in
theorem take_tail (A1 A2 : Option Addr) (n1 n2 c1 c2 : Nat) (b orig : List Int) (w : World) (hn1 : b.length = n1) (hn2 : orig.length = n2) (hr1 : Rd w.heap.size .u8 w A1 b) (hr2 : Rd w.heap.size .u8 w A2 orig) (hb1 : Byt b) (hb2 : Byt orig) (hl1 : n1 ≤ 1000) (hl2 : n2 ≤ 20) (hc1 : n1 ≤ c1) (hc2 : n2 ≤ c2)
    (HL23 : 23 ≤ n1) (q0 : b.getD 0 0 / 16 = 15) (q1 : ofF 0 ((b.drop 1).take 4) = 1) (hno : ¬ ∃ d s, PkOk b orig d s) :
    Calls Try.prog 11 #[.slice A1 n1 c1, .slice A2 n2 c2] w (TkNo w) := by
  have HNO := Lib.hid hno
  clear hno
  have R1 := Lib.hid hr1
  have R2 := Lib.hid hr2
  have HB1 := Lib.hid hb1
  have HB2 := Lib.hid hb2
  have N2 := Lib.hid hn2
  rw [← hn1] at hc1
  obtain ⟨B1, e1, s11, s12, s13, s14, s15⟩ := slice_lh elC hr1 hc1 1 5 4 (by decide) (by decide) (by omega) (by decide)
  obtain ⟨B2, e2, s21, s22, s23, s24, s25⟩ := slice_lh elC hr1 hc1 5 ((n1 : Int) - 16) (n1 - 21) (by decide) (by omega) (by omega) (by omega)
  obtain ⟨B3, e3, s31, s32, s33, s34, s35⟩ := slice_h elC hr1 hc1 ((n1 : Int) - 16) (n1 - 16) (by omega) (by omega)
  obtain ⟨B4, e4, s41, s42, s43, s44, s45⟩ := slice_l elC hr1 hc1 ((n1 : Int) - 16) 16 (by omega) (by omega) (by omega)
  have z1 : (1 : Int).toNat = 1 := rfl
  have z5 : (5 : Int).toNat = 5 := rfl
  have z16 : ((n1 : Int) - 16).toNat = n1 - 16 := by omega
  rw [z1] at s13 s14
  rw [z5] at s23 s24
  rw [z16] at s43 s44
  rw [hn1] at s15 s25 s35 s45 hc1
  obtain ⟨x0, hx0⟩ : ∃ z, b.getD 0 0 = z := ⟨_, rfl⟩
  rw [hx0] at q0
  have hxb := hb1.getD 0
  rw [hx0] at hxb
  obtain ⟨ad, hA, hlt, hcell⟩ := hr1 0 (by omega)
  rw [hx0] at hcell
  have B0 := Lib.hid ((Below.refl w.heap.size w).alloc (Nat.le_refl _) (.cells #[.slice none 0 0, .slice none 0 0, .slice none 0 0] 24))
  have Z0 : Hid (Blk (w.alloc (.cells #[.slice none 0 0, .slice none 0 0, .slice none 0 0] 24)) w.heap.size 24 #[.slice none 0 0, .slice none 0 0, .slice none 0 0]) := Lib.hid (Blk.new _ _ _)
  have c0 : (w.alloc (.cells #[.slice none 0 0, .slice none 0 0, .slice none 0 0] 24)).cell? ad = some (.int .u8 x0) := by
    have h := Below.cell_some B0.out hcell (by rw [block_of_add]; exact hlt)
    simpa [Addr.add] using h
  obtain ⟨hx1, hx2⟩ := hxb
  have d7 : decide ((n1 : Int) - 16 < 7) = false := decide_eq_false (by omega)
  have q2 : (x0 / 16 != 15) = false := by rw [bne_eq_false_iff_eq]; exact q0
  have q3 : (x0 / 16 == 15) = true := by rw [beq_iff_eq]; exact q0
  have d20' : decide ((20 : Int) < (n2 : Int)) = false := decide_eq_false (by omega)
  have L1 := Lib.hid s14
  have L2 := Lib.hid s24
  have L3 := Lib.hid s34
  have L4 := Lib.hid s44
  have M1 := Lib.hid s13
  have M2 := Lib.hid s23
  have M3 := Lib.hid s33
  have M4 := Lib.hid s43
  have Q1 := Lib.hid q1
  have HQ0 : Hid (b.getD 0 0 / 16 = 15) := Lib.hid (by rw [hx0]; exact q0)
  have HQ1 := Lib.hid q1
  have N1 := Lib.hid hn1
  subst hA
  clear hr1 hr2 hb1 hb2 hn1 hn2 q1 s13 s14 s23 s24 s33 s34 s43 s44 hx0 hcell z1 z5 z16 q0
  go_enter Try.func11, Try.ntmps11
  go_wp2_with fail
  generalize w.alloc (.cells #[.slice none 0 0, .slice none 0 0, .slice none 0 0] 24) = w0 at *
  refine Calls.mono (of_any B1 4 e1 _ w0 L1.out (M1.out.below B0.out (Nat.le_refl _) |>.mono B0.out.size) ((HB1.out.drop _).take _) (by decide)) ?_
  rw [Q1.out]
  rintro e wx ⟨rfl, rfl⟩
  clear L1 M1 Q1 s15
  obtain ⟨T, hT⟩ : ∃ z, b.take (n1 - 16) = z := ⟨_, rfl⟩
  have hTl : T.length = n1 - 16 := by rw [← hT, List.length_take, N1.out]; omega
  have hR0 : (b.drop 5).take (n1 - 21) = T.drop 5 := by rw [← hT, List.drop_take, show n1 - 16 - 5 = n1 - 21 by omega]
  have hT2 : b.take (b.length - 16) = T := by rw [N1.out]; exact hT
  rw [hR0] at M2 L2
  rw [hT] at M3 L3
  have HT2 := Lib.hid hT2
  have HT := Lib.hid hT
  have HTL := Lib.hid hTl
  have HB0 := Lib.hid B0.out.size
  have LZ := Lib.hid Z0.out.lt
  have B1 : Hid (Below w0.heap.size w0 ((w0.alloc (.cells #[.slice B2 (n1 - 21) e2] 22)).alloc (.cells #[.bool true] 4))) := Lib.hid (((Below.refl w0.heap.size w0).alloc (Nat.le_refl _) _).alloc (by simp) _)
  have C1 : Hid (CidS w.heap.size (w0.heap.size + 1) w0.heap.size ((w0.alloc (.cells #[.slice B2 (n1 - 21) e2] 22)).alloc (.cells #[.bool true] 4)) true (T.drop 5)) := Lib.hid ⟨by
    have h := Blk.new (w0.alloc (.cells #[.slice B2 (n1 - 21) e2] 22)) 4 #[.bool true]
    rw [World.size_alloc] at h
    exact h, B2, e2, by rw [L2.out]; exact (Blk.new w0 _ _).alloc _, by rw [L2.out]; exact s21, (M2.out.below (B0.out.trans (B1.out.mono HB0.out)) (Nat.le_refl _))⟩
  clear hT hTl hR0 hT2 q2 q3 d20' d7
  go_wp2_with fail
  generalize hw1 : (w0.alloc (.cells #[.slice B2 (n1 - 21) e2] 22)).alloc (.cells #[.bool true] 4) = w1 at *
  have hz1 : w1.heap.size = w0.heap.size + 1 + 1 := by rw [← hw1]; simp
  have HZ1 := Lib.hid hz1
  have HBW : Hid (w.heap.size ≤ w1.heap.size) := Lib.hid (by have := B0.out.size; omega)
  clear hw1 hz1 s25
  obtain ⟨gr, hgr⟩ : ∃ z, w0.heap.size = z := ⟨_, rfl⟩
  have HGR := Lib.hid hgr
  rw [hgr] at C1 HZ1 HB0 LZ ⊢
  have B1' := Lib.hid (B0.out.trans (B1.out.mono B0.out.size))
  have Z0W := Lib.hid (Z0.out.below B1.out Z0.out.lt)
  clear hgr B1
  have HBT : Hid (Byt T) := Lib.hid (by rw [← HT.out]; exact HB1.out.take _)
  have hg : ∀ k, k < n1 - 16 → (T.drop k).getD 0 0 = b.getD k 0 := fun k hk => by
    rw [List.getD_eq_getElem?_getD, List.getElem?_drop, Nat.add_zero, ← HT.out, List.getElem?_take, if_pos (by omega), ← List.getD_eq_getElem?_getD]
  have HG := Lib.hid hg
  clear hg
  have hx5b := (HBT.out.drop 5).getD 0
  by_cases y1 : (T.drop 5).getD 0 0 ≤ 20 ∧ (T.drop 5).getD 0 0 < ((T.drop 5).length : Int)
  · obtain ⟨d, hd⟩ : ∃ d : Nat, (T.drop 5).getD 0 0 = (d : Int) := ⟨((T.drop 5).getD 0 0).toNat, by omega⟩
    rw [hd] at y1
    have HD := Lib.hid hd
    have HLD : Hid (d < (T.drop 5).length) := Lib.hid (by omega)
    have hd20 : d ≤ 20 := by omega
    have hld : 6 + d ≤ n1 - 16 := by have h := HLD.out; rw [List.length_drop, HTL.out] at h; omega
    have HD1 : Hid ((T.drop 5).drop (1 + d) = T.drop (6 + d)) := Lib.hid (by rw [List.drop_drop, show 5 + (1 + d) = 6 + d by omega])
    clear y1 hd hx5b
    refine Calls.mono (cid_yes w.heap.size (gr + 1) gr (T.drop 5) d w1 C1.out (by rw [L2.out]; omega) HD.out hd20 HLD.out (by have := HB0.out; omega) HB0.out (by omega)) ?_
    rw [HD1.out]
    rintro e w2 ⟨A3, n3, c3, rfl, o3, cs3, f3⟩
    have hz3 := f3.size
    have C3 := Lib.hid cs3
    have F3 := Lib.hid f3
    clear o3 cs3 f3 C1 L2
    go_wp2_with fail
    have hl6 : Hid ((T.drop (6 + d)).length = n1 - 22 - d) := Lib.hid (by rw [List.length_drop, HTL.out]; omega)
    have hx6b := (HBT.out.drop (6 + d)).getD 0
    by_cases y2 : 0 < (T.drop (6 + d)).length ∧ (T.drop (6 + d)).getD 0 0 ≤ 20 ∧ (T.drop (6 + d)).getD 0 0 < ((T.drop (6 + d)).length : Int)
    · obtain ⟨s, hs⟩ : ∃ s : Nat, (T.drop (6 + d)).getD 0 0 = (s : Int) := ⟨((T.drop (6 + d)).getD 0 0).toNat, by omega⟩
      rw [hs] at y2
      have HSX := Lib.hid hs
      have HLS : Hid (s < (T.drop (6 + d)).length) := Lib.hid (by omega)
      have hs20 : s ≤ 20 := by omega
      have hls : 7 + d + s ≤ n1 - 16 := by have h := HLS.out; rw [hl6.out] at h; omega
      have HD2 : Hid ((T.drop (6 + d)).drop (1 + s) = T.drop (7 + d + s)) := Lib.hid (by rw [List.drop_drop, show 6 + d + (1 + s) = 7 + d + s by omega])
      have h0l := y2.1
      clear y2 hs hx6b
      refine Calls.mono (cid_yes w.heap.size (gr + 1) gr (T.drop (6 + d)) s w2 C3.out h0l HSX.out hs20 HLS.out (by have := HB0.out; omega) HB0.out (by omega)) ?_
      rw [HD2.out]
      rintro e w3 ⟨A4, n4, c4, rfl, o4, cs4, f4⟩
      have C4 := Lib.hid cs4
      have F4 := Lib.hid (F3.out.trans f4)
      clear o4 cs4 f4 C3 F3 hl6 h0l
      have BZ3 : Hid (Below w.heap.size w w3) := Lib.hid (B1'.out.trans (F4.out.below (by have := HZ1.out; have := HB0.out; omega) (by have := HB0.out; omega) HB0.out))
      have Z3 : Hid (Blk w3 w.heap.size 24 #[.slice none 0 0, .slice none 0 0, .slice none 0 0]) := Lib.hid (F4.out.blk (Z0W.out) (by have := LZ.out; omega) (by have := LZ.out; omega))
      have KB := Lib.hid C4.out.k
      obtain ⟨kk, A5, c5, hr5, hc5, rd5⟩ := C4.out
      by_cases hl0 : 7 + d + s = n1 - 16
      · have hn5 : (T.drop (7 + d + s)).length = 0 := by rw [List.length_drop, HTL.out]; omega
        rw [hn5] at hr5
        have RB := Lib.hid hr5
        clear kk hr5 hc5 rd5 hn5 C4 F4 HNO HG HQ0 HQ1 HD1 HD2 HD HLD HSX HLS HT HT2 N1 HB1 HB2
        go_wp2_with (refine wpList_storeBlk (g := w3.heap.size) (t := 24) (vs := [.slice A3 n3 c3, .slice A4 n4 c4, .slice none 0 0]) rfl _ _ rfl rfl rfl (Blk.new _ _ _) rfl (one3 rfl rfl rfl) size3p ?_; intro w4 k4 g4; have K4 := Lib.hid k4; have G4 := Lib.hid g4; clear k4 g4)
        have E4 : Hid (Below w3.heap.size w3 w4) := Lib.hid (((Below.refl w3.heap.size w3).alloc (Nat.le_refl _) _).trans (below_of_only G4.out (Nat.le_refl _) (by simp)))
        have BZ4 := Lib.hid (BZ3.out.trans (E4.out.mono BZ3.out.size))
        have K5 := Lib.hid (KB.out.below E4.out KB.out.lt)
        have Z5 := Lib.hid (Z3.out.below E4.out Z3.out.lt)
        have k0 : ∀ r : BW w4.heap.size w4, r.world.cell? ⟨gr + 1, 0, none⟩ = some (.bool true) := fun r => by simpa using Blk.cell (K5.out.below r.below K5.out.lt) 0
        have R5 := Lib.hid (RB.out.below E4.out RB.out.lt)
        have r0 : ∀ r : BW w4.heap.size w4, r.world.cell? ⟨gr, 0, none⟩ = some (.slice A5 0 c5) := fun r => by simpa using Blk.cell (R5.out.below r.below R5.out.lt) 0
        refine wp_region_mixN w4.heap.size [([0, 1, 2, 3, 4, 5, 6, 7, 8, 9, 10, 11, 13, 14, 15], 12), ([], 16)] [17, 18] (by kernel_rfl) (by kernel_rfl) (by kernel_rfl) (by kernel_rfl) ?_
        try (rw [put_none])
        simp only [pickL, List.map_cons, List.map_nil, List.filterMap_cons, List.filterMap_nil, List.getElem?_cons_succ, List.getElem?_cons_zero]
        refine mixN_cons ?_
        repeat (show wpQuiet _ _ _ _ (_ :: _) _; go_big_quiet_step (fail))
        refine wpQuiet_nil ?_
        show wpList _ _ _ [_] _ _
        go_wp2_with fail
        have BX : Hid (Below w4.heap.size w4 w4.drew) := Lib.hid (Below.refl w4.heap.size w4).drew
        have Z6 := Lib.hid (Z5.out.below BX.out Z5.out.lt)
        have BZ6 := Lib.hid (BZ4.out.trans (BX.out.mono BZ4.out.size))
        refine MixN.narrow BX.out BX.out.size ?_
        refine mixN_cons ?_
        repeat (show wpQuiet _ _ _ _ (_ :: _) _; go_big_quiet_step (fail))
        refine wpQuiet_nil ?_
        show wpList _ _ _ [_] _ _
        go_wp2_with fail
        refine MixN.narrow (Below.refl _ _) (Nat.le_refl _) ?_
        refine mixN_nil ?_
        repeat (show wpQuiet _ _ _ _ (_ :: _) _; go_big_quiet_step (fail))
        refine wpQuiet_nil ?_
        refine NoPanic.normal ?_
        go_wp2_with (refine wpList_storeBlk (g := w.heap.size) (t := 24) (vs := [.slice none 0 0, .slice none 0 0, .slice none 0 0]) rfl _ _ rfl rfl rfl Z6.out rfl (one3 rfl rfl rfl) size3p ?_; intro wa ka ga; have KA := Lib.hid ka; have GA := Lib.hid ga; clear ka ga)
        have BA := BZ6.out.trans (below_of_only GA.out (Nat.le_refl _) BZ6.out.size)
        exact bodyPost_ret (results_pk rfl rfl KA.out) rfl ⟨rfl, BA⟩
      · have hls2 : 7 + d + s < n1 - 16 := by omega
        have HTN : Hid (tagP T orig ≠ b.drop (n1 - 16)) := Lib.hid (fun q => HNO.out ⟨d, s, HQ0.out, HQ1.out, by rw [← HG.out 5 (by omega)]; exact HD.out, hd20, by rw [N1.out]; omega, by rw [← HG.out (6 + d) (by omega)]; exact HSX.out, hs20, by rw [N1.out]; exact hls2, by rw [HT2.out, N1.out]; exact q⟩)
        clear HNO HG HQ0 HQ1 HD HSX HLD HLS HD1 HD2 F4
        go_wp2_with (refine wpList_storeBlk (g := w3.heap.size) (t := 24) (vs := [.slice A3 n3 c3, .slice A4 n4 c4, .slice none 0 0]) rfl _ _ rfl rfl rfl (Blk.new _ _ _) rfl (one3 rfl rfl rfl) size3p ?_; intro w4 k4 g4; have K4 := Lib.hid k4; have G4 := Lib.hid g4; clear k4 g4)
        have E4 : Hid (Below w3.heap.size w3 w4) := Lib.hid (((Below.refl w3.heap.size w3).alloc (Nat.le_refl _) _).trans (below_of_only G4.out (Nat.le_refl _) (by simp)))
        have hz4 : w3.heap.size < w4.heap.size := K4.out.lt
        obtain ⟨n5, hn5⟩ : ∃ z, (T.drop (7 + d + s)).length = z := ⟨_, rfl⟩
        rw [hn5] at hr5 hc5
        have N5 := Lib.hid (show n5 = n1 - 16 - (7 + d + s) by rw [← hn5, List.length_drop, HTL.out])
        have L5 := Lib.hid hn5
        have K5 := Lib.hid (kk.below E4.out kk.lt)
        have R5 := Lib.hid (hr5.below E4.out hr5.lt)
        have BZ4 := Lib.hid (BZ3.out.trans (E4.out.mono BZ3.out.size))
        have Z5 := Lib.hid (Z3.out.below E4.out Z3.out.lt)
        have hz5 := BZ4.out.size
        have X4 : Hid (Rd w.heap.size .u8 w4 B4 (b.drop (n1 - 16))) := Lib.hid (M4.out.below BZ4.out (Nat.le_refl _))
        have X3 : Hid (Rd w.heap.size .u8 w4 B3 T) := Lib.hid (M3.out.below BZ4.out (Nat.le_refl _))
        have X2 : Hid (Rd w.heap.size .u8 w4 A2 orig) := Lib.hid (R2.out.below BZ4.out (Nat.le_refl _))
        have k0 : ∀ r : BW w4.heap.size w4, r.world.cell? ⟨gr + 1, 0, none⟩ = some (.bool true) := fun r => by simpa using Blk.cell (K5.out.below r.below K5.out.lt) 0
        have r0 : ∀ r : BW w4.heap.size w4, r.world.cell? ⟨gr, 0, none⟩ = some (.slice A5 n5 c5) := fun r => by simpa using Blk.cell (R5.out.below r.below R5.out.lt) 0
        have n50 : ((n5 : Int) == 0) = false := by rw [beq_eq_false_iff_ne]; have := N5.out; omega
        have n51 : decide ((n5 : Int) = 0) = false := decide_eq_false (by have := N5.out; omega)
        clear C4 kk hr5 rd5 hc5 hn5
        refine wp_region_mixN w4.heap.size [([0, 1, 2, 3, 4, 5, 6, 7, 8, 9, 10, 11, 13, 14, 15], 12), ([], 16)] [17, 18] (by kernel_rfl) (by kernel_rfl) (by kernel_rfl) (by kernel_rfl) ?_
        try (rw [put_none])
        simp only [pickL, List.map_cons, List.map_nil, List.filterMap_cons, List.filterMap_nil, List.getElem?_cons_succ, List.getElem?_cons_zero]
        refine mixN_cons ?_
        repeat (show wpQuiet _ _ _ _ (_ :: _) _; go_big_quiet_step (fail))
        refine wpQuiet_nil ?_
        show wpList _ _ _ [_] _ _
        go_wp2_with fail
        clear k0 r0 n50 n51
        refine Calls.mono (tag_any B3 A2 (n1 - 16) n2 e3 c2 T orig _ L3.out N2.out (X3.out.mono (by simpa using hz5)) (X2.out.mono (by simpa using hz5)) (by rw [← HT2.out]; exact HB1.out.take _) HB2.out (by omega) hl2 (by omega) hc2) ?_
        rintro e w5 ⟨A6, n6, c6, rfl, o6, b6⟩
        have N6 := Lib.hid o6.len
        have R6 := Lib.hid o6.rd
        have B6 : Hid (Below w4.heap.size w4 w5) := Lib.hid ((Below.refl w4.heap.size w4).drew.trans b6)
        have hz6 := B6.out.size
        have HBD : Hid (Byt (b.drop (n1 - 16))) := Lib.hid (HB1.out.drop _)
        have HBG : Hid (Byt (tagP T orig)) := Lib.hid (tagP_byt _ _)
        clear o6 b6 HB1 HB2 X3 X2 L3
        go_wp2_with fail
        refine MixN.narrow B6.out hz6 ?_
        refine mixN_cons ?_
        repeat (show wpQuiet _ _ _ _ (_ :: _) _; go_big_quiet_step (fail))
        refine wpQuiet_nil ?_
        show wpList _ _ _ [_] _ _
        go_wp2_with fail
        refine Calls.mono (equal_n N6.out.symm L4.out R6.out ((X4.out.below (B6.out.mono hz5) (Nat.le_refl _)).mono (by omega)) HBG.out HBD.out) ?_
        rw [decide_eq_false HTN.out]
        rintro e w7 ⟨rfl, rfl⟩
        clear R6 X4 HBD
        go_wp2_with fail
        refine MixN.narrow (Below.refl _ _) (Nat.le_refl _) ?_
        refine mixN_nil ?_
        repeat (show wpQuiet _ _ _ _ (_ :: _) _; go_big_quiet_step (fail))
        refine wpQuiet_nil ?_
        refine NoPanic.normal ?_
        have Z7 := Lib.hid (Z5.out.below B6.out Z5.out.lt)
        have B7 := Lib.hid (BZ4.out.trans (B6.out.mono hz5))
        go_wp2_with (refine wpList_storeBlk (g := w.heap.size) (t := 24) (vs := [.slice none 0 0, .slice none 0 0, .slice none 0 0]) rfl _ _ rfl rfl rfl Z7.out rfl (one3 rfl rfl rfl) size3p ?_; intro wa ka ga; have KA := Lib.hid ka; have GA := Lib.hid ga; clear ka ga)
        have BA := B7.out.trans (below_of_only GA.out (Nat.le_refl _) B7.out.size)
        exact bodyPost_ret (results_pk rfl rfl KA.out) rfl ⟨rfl, BA⟩
    · refine Calls.mono (cid_no w.heap.size (gr + 1) gr (T.drop (6 + d)) true w2 C3.out (HBT.out.drop _) (fun q => y2 q.2) (by have := HB0.out; omega) HB0.out (by omega)) ?_
      rintro e w3 ⟨rfl, cs4, f4⟩
      have C4 := Lib.hid cs4
      have F4 := Lib.hid (F3.out.trans f4)
      clear cs4 f4 C3 F3 hl6 y2 hx6b
      have BZ3 : Hid (Below w.heap.size w w3) := Lib.hid (B1'.out.trans (F4.out.below (by have := HZ1.out; have := HB0.out; omega) (by have := HB0.out; omega) HB0.out))
      have Z3 : Hid (Blk w3 w.heap.size 24 #[.slice none 0 0, .slice none 0 0, .slice none 0 0]) := Lib.hid (F4.out.blk (Z0W.out) (by have := LZ.out; omega) (by have := LZ.out; omega))
      have KB := Lib.hid C4.out.k
      clear C4 F4 HNO HG HQ0 HQ1 HD1 HD HLD HT HT2 N1 HB1 HB2
      go_wp2_with (refine wpList_storeBlk (g := w3.heap.size) (t := 24) (vs := [.slice A3 n3 c3, .slice none 0 0, .slice none 0 0]) rfl _ _ rfl rfl rfl (Blk.new _ _ _) rfl (one3 rfl rfl rfl) size3p ?_; intro w4 k4 g4; have K4 := Lib.hid k4; have G4 := Lib.hid g4; clear k4 g4)
      have E4 : Hid (Below w3.heap.size w3 w4) := Lib.hid (((Below.refl w3.heap.size w3).alloc (Nat.le_refl _) _).trans (below_of_only G4.out (Nat.le_refl _) (by simp)))
      have BZ4 := Lib.hid (BZ3.out.trans (E4.out.mono BZ3.out.size))
      have K5 := Lib.hid (KB.out.below E4.out KB.out.lt)
      have Z5 := Lib.hid (Z3.out.below E4.out Z3.out.lt)
      have k0 : ∀ r : BW w4.heap.size w4, r.world.cell? ⟨gr + 1, 0, none⟩ = some (.bool false) := fun r => by simpa using Blk.cell (K5.out.below r.below K5.out.lt) 0
      refine wp_region_mixN w4.heap.size [([0, 1, 2, 3, 4, 5, 6, 7, 8, 9, 10, 11, 13, 14, 15], 12), ([], 16)] [17, 18] (by kernel_rfl) (by kernel_rfl) (by kernel_rfl) (by kernel_rfl) ?_
      try (rw [put_none])
      simp only [pickL, List.map_cons, List.map_nil, List.filterMap_cons, List.filterMap_nil, List.getElem?_cons_succ, List.getElem?_cons_zero]
      refine mixN_cons ?_
      repeat (show wpQuiet _ _ _ _ (_ :: _) _; go_big_quiet_step (fail))
      refine wpQuiet_nil ?_
      show wpList _ _ _ [_] _ _
      go_wp2_with fail
      have BX : Hid (Below w4.heap.size w4 w4.drew) := Lib.hid (Below.refl w4.heap.size w4).drew
      have Z6 := Lib.hid (Z5.out.below BX.out Z5.out.lt)
      have BZ6 := Lib.hid (BZ4.out.trans (BX.out.mono BZ4.out.size))
      refine MixN.narrow BX.out BX.out.size ?_
      refine mixN_cons ?_
      repeat (show wpQuiet _ _ _ _ (_ :: _) _; go_big_quiet_step (fail))
      refine wpQuiet_nil ?_
      show wpList _ _ _ [_] _ _
      go_wp2_with fail
      refine MixN.narrow (Below.refl _ _) (Nat.le_refl _) ?_
      refine mixN_nil ?_
      repeat (show wpQuiet _ _ _ _ (_ :: _) _; go_big_quiet_step (fail))
      refine wpQuiet_nil ?_
      refine NoPanic.normal ?_
      go_wp2_with (refine wpList_storeBlk (g := w.heap.size) (t := 24) (vs := [.slice none 0 0, .slice none 0 0, .slice none 0 0]) rfl _ _ rfl rfl rfl Z6.out rfl (one3 rfl rfl rfl) size3p ?_; intro wa ka ga; have KA := Lib.hid ka; have GA := Lib.hid ga; clear ka ga)
      have BA := BZ6.out.trans (below_of_only GA.out (Nat.le_refl _) BZ6.out.size)
      exact bodyPost_ret (results_pk rfl rfl KA.out) rfl ⟨rfl, BA⟩
  · refine Calls.mono (cid_no w.heap.size (gr + 1) gr (T.drop 5) true w1 C1.out (HBT.out.drop _) (fun q => y1 q.2.2) (by have := HB0.out; omega) HB0.out (by omega)) ?_
    rintro e w2 ⟨rfl, cs3, f3⟩
    have hz3 := f3.size
    have C3 := Lib.hid cs3
    have F3 := Lib.hid f3
    clear cs3 f3 C1 L2 y1 hx5b
    go_wp2_with fail
    refine Calls.mono (cid_no w.heap.size (gr + 1) gr (T.drop 5) false w2 C3.out (HBT.out.drop _) (fun q => by cases q.1) (by have := HB0.out; omega) HB0.out (by omega)) ?_
    rintro e w3 ⟨rfl, cs4, f4⟩
    have C4 := Lib.hid cs4
    have F4 := Lib.hid (F3.out.trans f4)
    clear cs4 f4 C3 F3
    have BZ3 : Hid (Below w.heap.size w w3) := Lib.hid (B1'.out.trans (F4.out.below (by have := HZ1.out; have := HB0.out; omega) (by have := HB0.out; omega) HB0.out))
    have Z3 : Hid (Blk w3 w.heap.size 24 #[.slice none 0 0, .slice none 0 0, .slice none 0 0]) := Lib.hid (F4.out.blk (Z0W.out) (by have := LZ.out; omega) (by have := LZ.out; omega))
    have KB := Lib.hid C4.out.k
    clear C4 F4 HNO HG HQ0 HQ1 HT HT2 N1 HB1 HB2
    go_wp2_with (refine wpList_storeBlk (g := w3.heap.size) (t := 24) (vs := [.slice none 0 0, .slice none 0 0, .slice none 0 0]) rfl _ _ rfl rfl rfl (Blk.new _ _ _) rfl (one3 rfl rfl rfl) size3p ?_; intro w4 k4 g4; have K4 := Lib.hid k4; have G4 := Lib.hid g4; clear k4 g4)
    have E4 : Hid (Below w3.heap.size w3 w4) := Lib.hid (((Below.refl w3.heap.size w3).alloc (Nat.le_refl _) _).trans (below_of_only G4.out (Nat.le_refl _) (by simp)))
    have BZ4 := Lib.hid (BZ3.out.trans (E4.out.mono BZ3.out.size))
    have K5 := Lib.hid (KB.out.below E4.out KB.out.lt)
    have Z5 := Lib.hid (Z3.out.below E4.out Z3.out.lt)
    have k0 : ∀ r : BW w4.heap.size w4, r.world.cell? ⟨gr + 1, 0, none⟩ = some (.bool false) := fun r => by simpa using Blk.cell (K5.out.below r.below K5.out.lt) 0
    refine wp_region_mixN w4.heap.size [([0, 1, 2, 3, 4, 5, 6, 7, 8, 9, 10, 11, 13, 14, 15], 12), ([], 16)] [17, 18] (by kernel_rfl) (by kernel_rfl) (by kernel_rfl) (by kernel_rfl) ?_
    try (rw [put_none])
    simp only [pickL, List.map_cons, List.map_nil, List.filterMap_cons, List.filterMap_nil, List.getElem?_cons_succ, List.getElem?_cons_zero]
    refine mixN_cons ?_
    repeat (show wpQuiet _ _ _ _ (_ :: _) _; go_big_quiet_step (fail))
    refine wpQuiet_nil ?_
    show wpList _ _ _ [_] _ _
    go_wp2_with fail
    have BX : Hid (Below w4.heap.size w4 w4.drew) := Lib.hid (Below.refl w4.heap.size w4).drew
    have Z6 := Lib.hid (Z5.out.below BX.out Z5.out.lt)
    have BZ6 := Lib.hid (BZ4.out.trans (BX.out.mono BZ4.out.size))
    refine MixN.narrow BX.out BX.out.size ?_
    refine mixN_cons ?_
    repeat (show wpQuiet _ _ _ _ (_ :: _) _; go_big_quiet_step (fail))
    refine wpQuiet_nil ?_
    show wpList _ _ _ [_] _ _
    go_wp2_with fail
    refine MixN.narrow (Below.refl _ _) (Nat.le_refl _) ?_
    refine mixN_nil ?_
    repeat (show wpQuiet _ _ _ _ (_ :: _) _; go_big_quiet_step (fail))
    refine wpQuiet_nil ?_
    refine NoPanic.normal ?_
    go_wp2_with (refine wpList_storeBlk (g := w.heap.size) (t := 24) (vs := [.slice none 0 0, .slice none 0 0, .slice none 0 0]) rfl _ _ rfl rfl rfl Z6.out rfl (one3 rfl rfl rfl) size3p ?_; intro wa ka ga; have KA := Lib.hid ka; have GA := Lib.hid ga; clear ka ga)
    have BA := BZ6.out.trans (below_of_only GA.out (Nat.le_refl _) BZ6.out.size)
    exact bodyPost_ret (results_pk rfl rfl KA.out) rfl ⟨rfl, BA⟩
end Go.Proofs.Ytieabfifaigjdaa
