/- Walk: the law VnegPackets. Conditions: as each theorem states them. -/
import Derived.Test.YtakmaocfcmdpmaaV21
import Derived.Test.YtakmaocfcmdpmaaB2
import Derived.Test.YtakmaocfcmdpmaaQN
namespace Go.Proofs.Ytakmaocfcmdpmaa
open Go.RowKit
set_option maxRecDepth 100000 in
set_option maxHeartbeats 8000000 in
theorem packets_yes (Ap As Av A : Option Addr) (cp cs cv c : Nat) (pd ps vs b : List Int) (w : World) (rp : Rd w.heap.size .u8 w Ap pd) (rs : Rd w.heap.size .u8 w As ps) (rv : Rd w.heap.size .u32 w Av vs) (rb : Rd w.heap.size .u8 w A b)
    (fb : Byt b) (hc : b.length ≤ c) (b0 : pd.length + ps.length ≤ 600) (b1 : b.length ≤ 900) (b2 : vs.length ≤ 200) (fv : Wrd vs) (hok : okPut pd ps vs) :
    Calls Try.prog 5 #[.agg #[.slice Ap pd.length cp, .slice As ps.length cs, .slice Av vs.length cv], .slice A b.length c] w fun e w' => e = .returned (.bool true) ∧ Below w.heap.size w w' := by
  have PN := Blk.new w 32 #[.slice Ap pd.length cp, .slice As ps.length cs, .slice Av vs.length cv]
  have HP := Lib.hid (put_yes Ap As Av cp cs cv pd ps vs (w.alloc (.cells #[.slice Ap pd.length cp, .slice As ps.length cs, .slice Av vs.length cv] 32)) ((rp.alloc (Nat.le_refl _) _).mono (by simp)) ((rs.alloc (Nat.le_refl _) _).mono (by simp)) ((rv.alloc (Nat.le_refl _) _).mono (by simp)) fv hok)
  obtain ⟨hk1, hk2, hk3, hk4⟩ := hok
  have k1 : (pd.length : Int) ≤ 255 := by omega
  have k2 : (ps.length : Int) ≤ 255 := by omega
  have k3 : (1 : Int) ≤ vs.length := by omega
  have k4 : (vs.length : Int) ≤ 64 := by omega
  have RP := Lib.hid rp
  have RS := Lib.hid rs
  have RV := Lib.hid rv
  have FV := Lib.hid fv
  have RB := Lib.hid rb
  have FB := Lib.hid fb
  obtain ⟨q0, q1, q2⟩ := pk_facts PN
  have PB := Lib.hid PN
  clear rp rs rv rb fb fv PN hk1 hk2 hk3 hk4
  go_enter Try.func5, Try.ntmps5
  go_wp2_with fail
  refine HP.out.mono ?_
  rintro e w1 ⟨A1, n1, c1, rfl, o1, hb1⟩
  have PB1 := Lib.hid (Blk.below PB.out hb1 (by simp))
  obtain ⟨r0, r1, r2⟩ := pk_facts PB1.out
  have B1 : Hid (Below w.heap.size w w1) := Lib.hid (((Below.refl _ _).alloc (Nat.le_refl _) _).trans (hb1.mono (by simp)))
  have O1 := Lib.hid o1
  have hz1 := B1.out.size
  have RP1 := Lib.hid ((RP.out.below B1.out (Nat.le_refl _)).mono hz1)
  have RS1 := Lib.hid ((RS.out.below B1.out (Nat.le_refl _)).mono hz1)
  have RV1 := Lib.hid ((RV.out.below B1.out (Nat.le_refl _)).mono hz1)
  clear q0 q1 q2 hb1 o1 HP
  go_wp2_with fail
  have h0 : ∀ r : BW w1.heap.size w1, r.world.cell? ⟨w.heap.size, 0, none⟩ = some (.slice Ap pd.length cp) := fun r => (pk_facts (PB1.out.below r.below (Blk.lt PB1.out))).1
  have h1 : ∀ r : BW w1.heap.size w1, r.world.cell? ⟨w.heap.size, 1, none⟩ = some (.slice As ps.length cs) := fun r => (pk_facts (PB1.out.below r.below (Blk.lt PB1.out))).2.1
  have h2 : ∀ r : BW w1.heap.size w1, r.world.cell? ⟨w.heap.size, 2, none⟩ = some (.slice Av vs.length cv) := fun r => (pk_facts (PB1.out.below r.below (Blk.lt PB1.out))).2.2
  have HC1 : ∀ r : BW w1.heap.size w1, (convert 30 9 (.slice A1 n1 c1)).run Try.prog r.world = .ok (.string (strOfNums (putL 192 pd ps vs))) r.world := fun r => conv_own elU8 Try.underlying9 (O1.out.below r.below)
  have HBY := Lib.hid (bytes_any 192 Ap As Av cp cs cv pd ps vs w1.drew RP1.out.drew RS1.out.drew RV1.out.drew FV.out (by omega) (by omega) (by omega))
  generalize putL 192 pd ps vs = LL at *
  generalize hzz : strOfNums LL = zz at *
  have HZZ := Lib.hid hzz
  clear hzz r0 r1 r2
  refine wp_region_mixN w1.heap.size [([0, 1, 2, 3, 4, 5, 6, 7, 8, 9, 10, 11, 12], 13)] [14, 15, 16, 17, 18, 19, 20, 21, 22, 23, 24, 25, 26, 27, 28, 29, 30] (by kernel_rfl) (by kernel_rfl) (by kernel_rfl) (by kernel_rfl) ?_
  simp only [pickL, List.map_cons, List.map_nil, List.filterMap_cons, List.filterMap_nil, List.getElem?_cons_succ, List.getElem?_cons_zero]
  refine mixN_cons ?_
  repeat (show wpQuiet _ _ _ _ (_ :: _) _; go_big_quiet_step (fail))
  refine wpQuiet_nil ?_
  show wpList _ _ _ [_] _ _
  clear h0 h1 h2 HC1
  go_wp2_with fail
  refine HBY.out.mono ?_
  rintro e w2 ⟨A2, n2, c2, rfl, o2, hb2⟩
  have B12 : Hid (Below w1.heap.size w1 w2) := Lib.hid ((Below.drew (Below.refl _ _)).trans hb2)
  have O2 := Lib.hid o2
  have HC2 : ∀ r : BW w2.heap.size w2, (convert 30 9 (.slice A2 n2 c2)).run Try.prog r.world = .ok (.string zz) r.world := fun r => by
    have h := conv_own (P := Try.prog) elU8 Try.underlying9 (O2.out.below r.below)
    rw [HZZ.out] at h
    exact h
  clear hb2 o2 HBY
  go_wp2_with fail
  refine MixN.narrow B12.out B12.out.size ?_
  refine mixN_nil ?_
  repeat (show wpQuiet _ _ _ _ (_ :: _) _; go_big_quiet_step (fail))
  refine wpQuiet_nil ?_
  refine NoPanic.normal ?_
  have B2 : Hid (Below w.heap.size w w2) := Lib.hid (B1.out.trans (B12.out.mono hz1))
  clear HC2 PB1 B1 PB B12 O1 O2 RP1 RS1 RV1 HZZ RP RS RV
  have hz2 := B2.out.size
  have RB2 := Lib.hid (RB.out.below B2.out (Nat.le_refl _))
  go_wp2_with (at_builtin; refine wpList_app (o := ⟨some 95, _, _, _, _, _⟩) (B := w.heap.size) elU8 rfl _ _ rfl rfl rfl (Own.litAt (xs := []) rfl rfl rfl hz2 (by simp)) (RB2.out.alloc hz2 _) rfl ?_ ?_ ?_; (simp only [List.length_nil]; omega); (exact Nat.le_trans hz2 (by simp)); intro A8 n8 c8 w8 h8; have H8 := Lib.hid h8.1; have B8 := Lib.hid ((B2.out.alloc hz2 _).trans h8.2.2.1); clear h8)
  rw [List.nil_append] at H8
  have hn8 := H8.out.len
  have hc8 := H8.out.cap.1
  subst hn8
  have hz8 := B8.out.size
  have HEV := Lib.hid (tk_bounds FB.out b1).2.2.2
  refine (take_all A8 b.length c8 b w8 rfl H8.out.rd FB.out (by omega) hc8).mono ?_
  rintro e w9 ⟨A5, n5, c5, A6, n6, c6, A7, n7, c7, rfl, o5, o6, o7, hb9⟩
  generalize tkE b = ev at *
  have hz9 := hb9.size
  obtain ⟨X9, hX9⟩ : ∃ X9, X9 = w9.alloc (.cells #[.slice A5 n5 c5, .slice A6 n6 c6, .slice A7 n7 c7] 32) := ⟨_, rfl⟩
  have hzx : X9.heap.size = w9.heap.size + 1 := by rw [hX9]; simp
  have P9 : Hid (Blk X9 w9.heap.size 32 #[.slice A5 n5 c5, .slice A6 n6 c6, .slice A7 n7 c7]) := Lib.hid (by rw [hX9]; exact Blk.new w9 _ _)
  have O5 : Hid (Own w8.heap.size 5 .u8 X9 A5 n5 c5 (tkD b)) := Lib.hid (by rw [hX9]; exact o5.alloc _)
  have O6 : Hid (Own w8.heap.size 5 .u8 X9 A6 n6 c6 (tkS b)) := Lib.hid (by rw [hX9]; exact o6.alloc _)
  have O7 : Hid (Own w8.heap.size 23 .u32 X9 A7 n7 c7 (tkV b)) := Lib.hid (by rw [hX9]; exact o7.alloc _)
  have H9 : Hid (Own w.heap.size 5 .u8 X9 A8 b.length c8 b) := Lib.hid (by rw [hX9]; exact (H8.out.below hb9).alloc _)
  have B9 : Hid (Below w.heap.size w X9) := Lib.hid (by rw [hX9]; exact (B8.out.trans (hb9.mono hz8)).alloc (by omega) _)
  have G8 : Hid (∀ g, ablk A8 = some g → w.heap.size ≤ g ∧ g < w8.heap.size) := Lib.hid (fun g hg => by
    rcases A8 with _ | ad8
    · cases hg
    · injection hg with hg; subst hg; exact H8.out.block _ rfl)
  have PN := Blk.new w9 32 #[.slice A5 n5 c5, .slice A6 n6 c6, .slice A7 n7 c7]
  clear o5 o6 o7 hb9 H8 RB2 B8 B2
  clear PN
  go_wp2_with fail
  rw [← hX9]
  clear hX9
  go_loopw [103] (fun i wr => ∃ k : Nat, k ≤ b.length ∧ i = .int .i64 k ∧ Hid (X9.grownBy wr (ablk A8)) ∧ Hid (∃ zs : List Int, zs.length = b.length ∧ Own w.heap.size 5 .u8 wr A8 b.length c8 zs)) (fun i _ => b.length - (intOf i).toNat)
  case atStart => exact ⟨0, by omega, rfl, Lib.hid (World.grownBy.refl _ _), Lib.hid ⟨b, rfl, H9.out⟩⟩
  case round =>
    obtain ⟨k, hk, rfl, HG, HZ⟩ := hrel
    by_cases hlt : k < b.length
    · obtain ⟨zs, hzl, ho⟩ := HZ.out
      obtain ⟨g8, rfl⟩ : ∃ g, A8 = some ⟨g, 0, none⟩ := by
        rcases ho.1.2 with ⟨h1, h2⟩ | ⟨g, _, _, h1, _⟩
        · omega
        · injection h1 with h1; exact ⟨g, h1⟩
      have hc1 := ho.cell0 (show k < zs.length by omega)
      have hf1 := ho.frozen k
      have HOO := Lib.hid ho
      have HZL := Lib.hid hzl
      generalize zs.getD k 0 = z at *
      clear ho hzl
      go_wp2_with fail
      go_roundw
      case rel => exact ⟨k + 1, by omega, by go_num, Lib.hid (only_setCell (g := g8) (p := ⟨g8, k, none⟩) HG.out (.inl rfl) _), Lib.hid ⟨zs.set k _, by rw [List.length_set]; exact HZL.out, HOO.out.set_ k _⟩⟩
      case measure => simp [intOf]; omega
    · have hkb : k = b.length := by omega
      clear hlt
      have hzr := HG.out.size
      have hne : ∀ {B : Nat} {e : TypeId} {k : IntKind} {A : Option Addr} {n c : Nat} {xs : List Int}, Own B e k X9 A n c xs → w8.heap.size ≤ B → Own B e k wr A n c xs := fun h hB =>
        h.kept HG.out (fun ad hA e => by have h1 := (h.block ad hA).1; have h2 := (G8.out _ e.symm).2; omega)
      have Q5 := Lib.hid (hne O5.out (Nat.le_refl _))
      have Q6 := Lib.hid (hne O6.out (Nat.le_refl _))
      have Q7 := Lib.hid (hne O7.out (Nat.le_refl _))
      have PR := Lib.hid (P9.out.grown HG.out (fun e => by have h2 := (G8.out _ e.symm).2; omega))
      have BR : Hid (Below w.heap.size w wr) := Lib.hid (B9.out.grown HG.out B9.out.size (fun g e => (G8.out g e).1))
      have hzw := BR.out.size
      have RBR := Lib.hid ((RB.out.below BR.out (Nat.le_refl _)).mono hzw)
      clear hne O5 O6 O7 P9 B9 H9 HG HZ G8
      subst hkb
      go_wp2_with fail
      refine (rtake_all A c b wr RBR.out FB.out (by omega) hc).mono ?_
      rintro e w11 ⟨A9, n9, c9, A10, n10, c10, A11, n11, c11, rfl, r9, l9, r10, l10, o11, hb11⟩
      have K5 := conv_own elU8 Try.underlying9 (Q5.out.below hb11)
      have K6 := conv_own elU8 Try.underlying9 (Q6.out.below hb11)
      have hz11 := hb11.size
      have K9 := conv_ln elU8 Try.underlying9 r9 n9 c9 l9
      have K10 := conv_ln elU8 Try.underlying9 r10 n10 c10 l10
      have HEQ := Lib.hid (equal32_n A7 A11 n7 n11 c7 c11 (tkV b) w11 Q7.out.len o11.len (Q7.out.below hb11).rd o11.rd (by have := (tk_bounds FB.out b1).2.2.1; omega))
      have P11 := Lib.hid (PR.out.below hb11 (Blk.lt PR.out))
      have B11 := Lib.hid (BR.out.trans (hb11.mono hzw))
      obtain ⟨y0, y1, y2⟩ := pk_facts P11.out
      generalize strOfNums (tkD b) = s5 at *
      generalize strOfNums (tkS b) = s6 at *
      clear r9 l9 r10 l10 o11 hb11 Q5 Q6 Q7 PR RBR
      rcases hok : (tk b).isSome with _ | _
      · rw [hok] at HEV
        obtain rfl : ev = 2 := HEV.out
        go_wp2_with (first | (go_at_call 21; refine HEQ.out.mono ?_; rintro e w12 ⟨rfl, nz, rfl⟩) | (go_at_call 8; refine (works_any _).mono ?_; rintro e w13 ⟨rfl, hb13⟩))
        go_ret
        exact ⟨rfl, (below_drewN B11.out _).trans (hb13.mono (by have := B11.out.size; simp; omega))⟩
      · rw [hok] at HEV
        obtain rfl : ev = 0 := HEV.out
        go_wp2_with (first | (go_at_call 21; refine HEQ.out.mono ?_; rintro e w12 ⟨rfl, nz, rfl⟩) | (go_at_call 8; refine (works_any _).mono ?_; rintro e w13 ⟨rfl, hb13⟩))
        go_ret
        exact ⟨rfl, (below_drewN B11.out _).trans (hb13.mono (by have := B11.out.size; simp; omega))⟩
theorem packets_walk (Ap As Av A : Option Addr) (cp cs cv c : Nat) (pd ps vs b : List Int) (w : World) (rp : Rd w.heap.size .u8 w Ap pd) (rs : Rd w.heap.size .u8 w As ps) (rv : Rd w.heap.size .u32 w Av vs) (rb : Rd w.heap.size .u8 w A b)
    (fb : Byt b) (fv : Wrd vs) (hc : b.length ≤ c) (gp : pd.length ≤ 140737488351232) (gs : ps.length ≤ 140737488351232) (gv : vs.length ≤ 140737488351232) (gb : b.length ≤ 140737488351232) :
    Calls Try.prog 5 #[.agg #[.slice Ap pd.length cp, .slice As ps.length cs, .slice Av vs.length cv], .slice A b.length c] w fun e w' => e = .returned (.bool true) ∧ Below w.heap.size w w' := by
  by_cases hbad : 600 < pd.length + ps.length ∨ 900 < b.length ∨ 200 < vs.length
  · exact packets_bad Ap As Av A cp cs cv c pd ps vs b w gp gs gv gb hbad
  · by_cases hok : okPut pd ps vs
    · exact packets_yes Ap As Av A cp cs cv c pd ps vs b w rp rs rv rb fb hc (by omega) (by omega) (by omega) fv hok
    · exact packets_no Ap As Av A cp cs cv c pd ps vs b w rb fb hc (by omega) (by omega) (by omega) hok
end Go.Proofs.Ytakmaocfcmdpmaa
