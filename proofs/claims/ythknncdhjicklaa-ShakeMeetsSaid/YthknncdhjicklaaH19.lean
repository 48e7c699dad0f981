/- Layer 21: a first message of another type. Conditions: as each theorem states them. -/
import Derived.Test.YthknncdhjicklaaH18
namespace Go.Proofs.Ythknncdhjicklaa
open Go.RowKit
set_option maxRecDepth 100000 in
set_option maxHeartbeats 8000000 in
theorem goes_bad (g : Nat) (p : PS) (vp vq vt : Value) (A B : Option Addr) (c d k : Nat) (w : World) (h : ShB g w p vp vq (.slice A (k + 4) c) (.slice B 0 d) vt) (hs : p.sv = true) (h0 : p.st = 0) (hn : k ≤ 2000) (hsz : sizL p.i0 = (k : Int) + 4) (hkd : p.i0.getD 0 0 = 2) :
    Calls Try.prog 13 #[.pointer (some ⟨g, 0, none⟩)] w fun e w' => e = .returned (.tuple #[.slice none 0 0, .int .i64 2]) ∧ Below w.heap.size w w' := by
  have H0 := Lib.hid h
  have HSV := Lib.hid hs
  have HST := Lib.hid h0
  have HKD := Lib.hid hkd
  have HSZ := Lib.hid hsz
  have HNL : Hid (p.i0.length = k + 4 ∧ p.i1 = []) := Lib.hid ⟨h.i0.mk.1.symm, List.length_eq_zero_iff.1 h.i1.mk.1.symm⟩
  clear h hs h0 hsz hkd
  have SA : Hid (∀ w', Below w.heap.size w w' → Calls Try.prog 19 #[.slice A (k + 4) c] w' fun e w2 => e = .returned (.int .i64 ((k : Int) + 4)) ∧ Below w'.heap.size w' w2) := Lib.hid (fun w' hb => size_b A c (k + 4) p.i0 w' (H0.out.below hb).i0.mk.2.2 H0.out.ok.bi0 HNL.out.1 (by omega) _ HSZ.out)
  have SB : Hid (∀ w', Calls Try.prog 19 #[.slice B 0 d] w' fun e w2 => e = .returned (.int .i64 0) ∧ Below w'.heap.size w' w2) := Lib.hid (fun w' => size_b B d 0 [] w' Rd.nil Byt.nil rfl (by omega) 0 sizL_nil)
  have L0 := Lib.hid H0.out.ld_in
  have ix0 := index_in0 (.slice A (k + 4) c) (.slice B 0 d)
  have ix1 := index_in1 (.slice A (k + 4) c) (.slice B 0 d)
  go_enter Try.func13, Try.ntmps13
  go_wp2_with fail
  refine wp_loop_rounds 2 ?_
  rw [rounds_succ]
  go_wp2_with ((with_reducible (show wpList _ _ _ (⟨some 17, .load _ _, _, _, _, _⟩ :: _) _ _)); refine wpList_loadV (o := ⟨some 17, .load _ _, _, _, _, _⟩) rfl _ rfl rfl (L0.out) ?_)
  refine wp_loop_rounds 3 ?_
  rw [rounds_succ]
  go_wp2_with fail
  refine Calls.mono (SA.out w (Below.refl _ _)) ?_
  rintro e w1 ⟨rfl, b1⟩
  have B1 := Lib.hid b1
  clear b1
  go_wp2_with fail
  rw [rounds_succ]
  go_wp2_with fail
  refine Calls.mono (SB.out w1) ?_
  rintro e w2 ⟨rfl, b2⟩
  have B2 := Lib.hid (B1.out.trans (b2.mono B1.out.size))
  clear b2 B1 L0
  go_wp2_with fail
  rw [rounds_succ]
  go_wp2_with fail
  refine Calls.mono (wants_h g p vp vq _ _ vt w2 (H0.out.below B2.out) HSV.out HST.out) ?_
  rintro e w3 ⟨rfl, b3⟩
  have B3 := Lib.hid (B2.out.trans (b3.mono B2.out.size))
  clear b3 B2
  have F8 : Hid (Blk (w3.alloc (.cells #[.int .u8 0, .int .u8 0, .nilFunc] 50)) w3.heap.size 50 #[.int .u8 0, .int .u8 0, .nilFunc]) := Lib.hid (Blk.new _ _ _)
  go_wp2_with ((with_reducible (show wpList _ _ _ (⟨none, .store 50 _ _, _, _, _, _⟩ :: _) _ _)); go_loud (refine wpList_storeBlk (o := ⟨none, .store 50 _ _, _, _, _, _⟩) (g := w3.heap.size) (t := 50) (vs := wtV 0 1 15) rfl _ _ rfl rfl rfl F8.out rfl (wt_one _ _ _) sizeW ?_); intro w4 z4 g4; obtain ⟨c0, c1, c2⟩ := wt_cells z4; have Z4 := Lib.hid z4; have B4 := Lib.hid (B3.out.trans ((((Below.refl w3.heap.size w3).alloc (Nat.le_refl _) _).trans (below_of_only g4 (Nat.le_refl _) (by simp))).mono B3.out.size)); have H4 := Lib.hid (H0.out.below B4.out); have q4 := H4.out.c5.2.2.1)
  go_region
  go_wp2_with fail
  refine Calls.mono (SA.out _ B4.out.drew) ?_
  rintro e w5 ⟨rfl, b5⟩
  have E5 := Lib.hid ((Below.refl w4.heap.size w4).drew.trans b5)
  have B5 := Lib.hid (B4.out.trans (E5.out.mono B4.out.size))
  have hgw := Z4.out.lt
  have HW3 := Lib.hid B3.out.size
  have Z5 := Lib.hid (Z4.out.below E5.out hgw)
  have H5 := Lib.hid (H0.out.below B5.out)
  obtain ⟨gw, hgw2⟩ : ∃ z, w3.heap.size = z := ⟨_, rfl⟩
  rw [hgw2] at Z5 HW3 ⊢
  clear b5 c0 c1 c2 q4 SA ix0 ix1 g4 F8 Z4 z4 E5 B4 H4 hgw hgw2 B3
  obtain ⟨_, c1, _⟩ := wt_cells Z5.out
  obtain ⟨ad, hA, _, _⟩ := H5.out.i0.mk.2.2 0 (by rw [HNL.out.1]; omega)
  subst hA
  have q5 := H5.out.i0.mk.2.2.at0 (by rw [HNL.out.1]; omega)
  rw [HKD.out] at q5
  go_wp2_with fail
  go_region
  go_wp2_with fail
  exact bodyPost_ret (results_tmp2 rfl _ _ _) rfl ⟨rfl, B5.out.drew⟩
set_option maxRecDepth 100000 in
set_option maxHeartbeats 4000000 in
theorem feed_bad (g : Nat) (p : PS) (vp vq v0 v1 vt : Value) (A : Option Addr) (n c : Nat) (Y : List Int) (w : World) (h : ShB g w p vp vq v0 v1 vt) (hs : p.sv = true) (h0 : p.st = 0) (hr : Rd w.heap.size .u8 w A Y) (hn : Y.length = n) (hb : Byt Y) (hl : n ≤ 100000) (hi : p.i0.length ≤ 100000) (hp : p.i0 = []) (h1nil : p.i1 = []) (hn4 : n = 4) (hsz : sizL Y = 4) (hkd : Y.getD 0 0 = 2) :
    Calls Try.prog 7 #[.pointer (some ⟨g, 0, none⟩), .int .u8 0, .slice A n c] w fun e w' => e = .returned (.tuple #[.slice none 0 0, .int .i64 2]) ∧ (∃ v0', ShB g w' { p with i0 := Y, st := 101 } vp vq v0' v1 vt) ∧ w.grownBy w' (some g) := by
  have H0 := Lib.hid h
  have HR := Lib.hid hr
  have HN := Lib.hid hn
  have HB := Lib.hid hb
  have HSV := Lib.hid hs
  have HST := Lib.hid h0
  have HP0 := Lib.hid hp
  have HY4 := Lib.hid (And.intro hn4 (And.intro hsz hkd))
  have hv1 : ∃ B d, v1 = .slice B 0 d := by
    obtain ⟨B, d, e, _⟩ := h.i1.form
    rw [h1nil] at e
    exact ⟨B, d, e⟩
  obtain ⟨B, d, rfl⟩ := hv1
  obtain ⟨Ai, ci, hvi, hci, hri⟩ := h.i0.form
  subst hvi
  obtain ⟨k, hk⟩ : ∃ k, p.i0.length = k := ⟨_, rfl⟩
  rw [hk] at hci hi
  have HK := Lib.hid hk
  have RI := Lib.hid hri
  clear h hr hn hb hs h0 hri hk hp hn4 hsz hkd h1nil
  go_enter Try.func7, Try.ntmps7
  go_wp2_with fail
  refine Calls.mono (wants_h g p vp vq _ _ vt w H0.out HSV.out HST.out) ?_
  rintro e w3 ⟨rfl, b3⟩
  have B3 := Lib.hid b3
  clear b3
  have F8 : Hid (Blk (w3.alloc (.cells #[.int .u8 0, .int .u8 0, .nilFunc] 50)) w3.heap.size 50 #[.int .u8 0, .int .u8 0, .nilFunc]) := Lib.hid (Blk.new _ _ _)
  go_wp2_with ((with_reducible (show wpList _ _ _ (⟨none, .store 50 _ _, _, _, _, _⟩ :: _) _ _)); go_loud (refine wpList_storeBlk (o := ⟨none, .store 50 _ _, _, _, _, _⟩) (g := w3.heap.size) (t := 50) (vs := wtV 0 1 15) rfl _ _ rfl rfl rfl F8.out rfl (wt_one _ _ _) sizeW ?_); intro w4 z4 g4; have B4 := Lib.hid (B3.out.trans ((((Below.refl w3.heap.size w3).alloc (Nat.le_refl _) _).trans (below_of_only g4 (Nat.le_refl _) (by simp))).mono B3.out.size)))
  have H4 := Lib.hid (H0.out.below B4.out)
  have R4 := Lib.hid ((RI.out.below B4.out (Nat.le_refl _)).mono B4.out.size)
  have Y4 := Lib.hid ((HR.out.below B4.out (Nat.le_refl _)).mono B4.out.size)
  have ci4 : ∀ r : BW w4.heap.size w4, r.world.cell? ⟨g, 100, none⟩ = some (.slice Ai k ci) := fun r => by
    have := (H4.out.below r.below).c5.2.2.1
    rw [HK.out] at this
    exact this
  clear z4 g4 F8 B3 H0 RI HR
  refine wp_region_mixOB w4.heap.size [([0, 1, 2, 3, 4, 5, 6, 7, 8, 10, 12, 13, 14], 9), ([], 11), ([15], 16)] (by kernel_rfl) (by kernel_rfl) (by kernel_rfl) (by kernel_rfl) (by kernel_rfl) ?_
  try (rw [put_none])
  simp only [pickL, List.map_cons, List.map_nil, List.filterMap_cons, List.filterMap_nil, List.getElem?_cons_succ, List.getElem?_cons_zero]
  refine mixO_cons ?_
  repeat (show wpQuiet _ _ _ _ (_ :: _) _; go_big_quiet_step (fail))
  refine wpQuiet_nil ?_
  show wpList _ _ _ [_] _ _
  go_wp2_with fail
  clear ci4
  refine Calls.mono (clone_n Ai ci k _ _ (R4.out.below (Below.refl w4.heap.size w4).drew (Nat.le_refl _)) HK.out.symm (by omega)) ?_
  rintro e w5 ⟨A5, n5, c5, rfl, o5, b5⟩
  have O5 := Lib.hid o5
  have E5 := Lib.hid ((Below.refl w4.heap.size w4).drew.trans b5)
  have Y5 := Lib.hid ((Y4.out.below E5.out (Nat.le_refl _)).mono E5.out.size)
  have hn5 : n5 ≤ 100000 := by rw [o5.len, HK.out]; exact hi
  clear o5 b5 R4 Y4
  go_wp2_with fail
  refine MixO.narrow (fun _ h => h) (⟨BW.mk' E5.out, rfl⟩) ?_
  refine mixO_cons ?_
  repeat (show wpQuiet _ _ _ _ (_ :: _) _; go_big_quiet_step (fail))
  refine wpQuiet_nil ?_
  show wpList _ _ _ [_] _ _
  have hze : w4.drew.heap.size ≤ w5.heap.size := E5.out.size
  go_wp2_with ((at_builtin; go_loud (refine wpList_app (o := ⟨some 38, _, _, _, _, _⟩) elC rfl _ _ rfl rfl rfl O5.out Y5.out HN.out.symm ?_ hze ?_); (rw [HN.out, ← O5.out.len]; omega); intro A2 n2 c2 w6 h6; have O6 := Lib.hid h6.1; have E6 := Lib.hid (show Below w4.heap.size w5 w6 from h6.2.2.1); clear h6))
  have E46 := Lib.hid (E5.out.trans E6.out)
  have H6 := Lib.hid (H4.out.below E46.out)
  have q6 := H6.out.c5.2.2.1
  have f6 := H6.out.fz 100
  have B6 := Lib.hid (B4.out.trans (E46.out.mono B4.out.size))
  have HBB : Hid (Byt (p.i0 ++ Y)) := Lib.hid (H6.out.ok.bi0.append HB.out)
  refine MixO.narrow (fun _ h => h) (⟨BW.mk' E46.out, rfl⟩) ?_
  refine mixO_cons ?_
  repeat (show wpQuiet _ _ _ _ (_ :: _) _; go_big_quiet_step (fail))
  refine wpQuiet_nil ?_
  show wpList _ _ _ [_] _ _
  go_wp2_with fail
  refine MixO.last ?_
  refine mixO_nil ?_
  refine wpQuiet_nil ?_
  refine NoPanic.normal ?_
  have hn2 : n2 = 0 + 4 := by have h1 := O6.out.len; rw [HP0.out, List.nil_append, HN.out, HY4.out.1] at h1; omega
  subst hn2
  have H7' := H6.out.set_i0 (SlT.own O6.out) HBB.out
  rw [HP0.out, List.nil_append] at H7'
  have H7 := Lib.hid H7'
  have G7 := Lib.hid (grown_st (p := ⟨g, 100, none⟩) (v := .slice A2 (0 + 4) c2) (only_of_below B6.out (some g)) rfl)
  clear q6 f6 H7' H6 O5 O6 Y5 E5 E6 E46 B4 B6 H4
  simp only [Nat.zero_add]
  go_wp2_with fail
  refine Calls.mono (goes_bad g _ vp vq vt A2 B c2 d 0 _ H7.out HSV.out HST.out (by omega) HY4.out.2.1 HY4.out.2.2) ?_
  rintro e w8 ⟨rfl, b8⟩
  have H8 := Lib.hid (H7.out.below b8)
  have G8 := Lib.hid (grown_cat_ G7.out (only_of_below b8 _))
  have q8 := H8.out.c1
  have f8 := H8.out.fz 1
  clear b8 H7 G7
  go_wp2_with fail
  have H9 := H8.out.set_st 101
  have G9 := grown_st (p := ⟨g, 1, none⟩) (v := .int .u8 101) G8.out rfl
  exact bodyPost_ret (results_tmp2 rfl _ _ _) rfl ⟨rfl, ⟨_, H9⟩, G9⟩
end Go.Proofs.Ythknncdhjicklaa
