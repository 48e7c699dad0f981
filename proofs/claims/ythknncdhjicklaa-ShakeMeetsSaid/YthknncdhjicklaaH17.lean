/- Layer 21: contracts of Feed, over what goes does. Conditions: as each theorem states them. -/
import Derived.Test.YthknncdhjicklaaH16
namespace Go.Proofs.Ythknncdhjicklaa
open Go.RowKit
set_option maxRecDepth 100000 in
set_option maxHeartbeats 4000000 in
theorem feed_h (R : World → Ending → World → Prop) (g : Nat) (p : PS) (vp vq v0 v1 vt : Value) (A : Option Addr) (n c : Nat) (Y : List Int) (w : World) (h : ShB g w p vp vq v0 v1 vt) (hs : p.sv = true) (h0 : p.st = 0) (hr : Rd w.heap.size .u8 w A Y) (hn : Y.length = n) (hb : Byt Y) (hl : n ≤ 100000) (hi : p.i0.length ≤ 100000)
    (HG : ∀ w1 A' n' c', ShB g w1 { p with i0 := p.i0 ++ Y } vp vq (.slice A' n' c') v1 vt → n' = (p.i0 ++ Y).length → Calls Try.prog 13 #[.pointer (some ⟨g, 0, none⟩)] w1 (R w1)) (hR : ∀ w1 e w', R w1 e w' → ∃ v, e = .returned (.tuple #[v, .int .i64 0])) :
    Calls Try.prog 7 #[.pointer (some ⟨g, 0, none⟩), .int .u8 0, .slice A n c] w fun e w' => ∃ w1, w.grownBy w1 (some g) ∧ R w1 e w' := by
  have H0 := Lib.hid h
  have HR := Lib.hid hr
  have HN := Lib.hid hn
  have HB := Lib.hid hb
  have HSV := Lib.hid hs
  have HST := Lib.hid h0
  have HH := Lib.hid HG
  have HRR := Lib.hid hR
  obtain ⟨Ai, ci, hvi, hci, hri⟩ := h.i0.form
  subst hvi
  obtain ⟨k, hk⟩ : ∃ k, p.i0.length = k := ⟨_, rfl⟩
  rw [hk] at hci hi
  have HK := Lib.hid hk
  have RI := Lib.hid hri
  clear h hr hn hb hs h0 HG hR hri hk
  go_enter Try.func7, Try.ntmps7
  go_wp2_with fail
  refine Calls.mono (wants_h g p vp vq _ _ vt w H0.out HSV.out HST.out) ?_
  rintro e w3 ⟨rfl, b3⟩
  have B3 := Lib.hid b3
  clear b3
  have F8 : Hid (Blk (w3.alloc (.cells #[.int .u8 0, .int .u8 0, .nilFunc] 50)) w3.heap.size 50 #[.int .u8 0, .int .u8 0, .nilFunc]) := Lib.hid (Blk.new _ _ _)
  go_wp2_with ((with_reducible (show wpList _ _ _ (⟨none, .store 50 _ _, _, _, _, _⟩ :: _) _ _)); go_loud (refine wpList_storeBlk (o := ⟨none, .store 50 _ _, _, _, _, _⟩) (g := w3.heap.size) (t := 50) (vs := wtV 0 1 15) rfl _ _ rfl rfl rfl F8.out rfl (wt_one _ _ _) sizeW ?_); intro w4 z4 g4; have B4 := Lib.hid (B3.out.trans ((((Below.refl w3.heap.size w3).alloc (Nat.le_refl _) _).trans (below_of_only g4 (Nat.le_refl _) (by simp))).mono B3.out.size)))
  have H4 := Lib.hid (H0.out.below B4.out)
  have R4 := Lib.hid ((RI.out.below B4.out (Nat.le_refl _)).mono B4.out.size)
  have Y4 := Lib.hid ((HR.out.below B4.out (Nat.le_refl _)).mono B4.out.size)
  have ci4 : ∀ r : BW w4.heap.size w4, r.world.cell? ⟨g, 100, none⟩ = some (.slice Ai k ci) := fun r => by
    have := (H4.out.below r.below).c5.2.2.1
    rw [HK.out] at this
    exact this
  clear z4 g4 F8 B3 H0 RI HR
  refine wp_region_mixOB w4.heap.size [([0, 1, 2, 3, 4, 5, 6, 7, 8, 10, 12, 13, 14], 9), ([], 11), ([15], 16)] (by kernel_rfl) (by kernel_rfl) (by kernel_rfl) (by kernel_rfl) (by kernel_rfl) ?_
  try (rw [put_none])
  simp only [pickL, List.map_cons, List.map_nil, List.filterMap_cons, List.filterMap_nil, List.getElem?_cons_succ, List.getElem?_cons_zero]
  refine mixO_cons ?_
  repeat (show wpQuiet _ _ _ _ (_ :: _) _; go_big_quiet_step (fail))
  refine wpQuiet_nil ?_
  show wpList _ _ _ [_] _ _
  go_wp2_with fail
  clear ci4
  refine Calls.mono (clone_n Ai ci k _ _ (R4.out.below (Below.refl w4.heap.size w4).drew (Nat.le_refl _)) HK.out.symm (by omega)) ?_
  rintro e w5 ⟨A5, n5, c5, rfl, o5, b5⟩
  have O5 := Lib.hid o5
  have E5 := Lib.hid ((Below.refl w4.heap.size w4).drew.trans b5)
  have Y5 := Lib.hid ((Y4.out.below E5.out (Nat.le_refl _)).mono E5.out.size)
  have hn5 : n5 ≤ 100000 := by rw [o5.len, HK.out]; exact hi
  clear o5 b5 R4 Y4
  go_wp2_with fail
  refine MixO.narrow (fun _ h => h) (⟨BW.mk' E5.out, rfl⟩) ?_
  refine mixO_cons ?_
  repeat (show wpQuiet _ _ _ _ (_ :: _) _; go_big_quiet_step (fail))
  refine wpQuiet_nil ?_
  show wpList _ _ _ [_] _ _
  have hze : w4.drew.heap.size ≤ w5.heap.size := E5.out.size
  go_wp2_with ((at_builtin; go_loud (refine wpList_app (o := ⟨some 38, _, _, _, _, _⟩) elC rfl _ _ rfl rfl rfl O5.out Y5.out HN.out.symm ?_ hze ?_); (rw [HN.out, ← O5.out.len]; omega); intro A2 n2 c2 w6 h6; have O6 := Lib.hid h6.1; have E6 := Lib.hid (show Below w4.heap.size w5 w6 from h6.2.2.1); clear h6))
  have E46 := Lib.hid (E5.out.trans E6.out)
  have H6 := Lib.hid (H4.out.below E46.out)
  have q6 := H6.out.c5.2.2.1
  have f6 := H6.out.fz 100
  have B6 := Lib.hid (B4.out.trans (E46.out.mono B4.out.size))
  have HBB : Hid (Byt (p.i0 ++ Y)) := Lib.hid (H6.out.ok.bi0.append HB.out)
  refine MixO.narrow (fun _ h => h) (⟨BW.mk' E46.out, rfl⟩) ?_
  refine mixO_cons ?_
  repeat (show wpQuiet _ _ _ _ (_ :: _) _; go_big_quiet_step (fail))
  refine wpQuiet_nil ?_
  show wpList _ _ _ [_] _ _
  go_wp2_with fail
  refine MixO.last ?_
  refine mixO_nil ?_
  refine wpQuiet_nil ?_
  refine NoPanic.normal ?_
  have H7 := H6.out.set_i0 (SlT.own O6.out) HBB.out
  have G7 := Lib.hid (grown_st (p := ⟨g, 100, none⟩) (v := .slice A2 n2 c2) (only_of_below B6.out (some g)) rfl)
  have HG7 := Lib.hid (HH.out _ _ _ _ H7 O6.out.len)
  clear q6 f6 H7 H6 O5 O6 Y5 E5 E6 E46 B4 B6 H4
  generalize w6.setCell ⟨g, 100, none⟩ (.slice A2 n2 c2) = w7 at *
  go_wp2_with fail
  refine Calls.mono HG7.out ?_
  clear HG7
  intro e w8 h8
  obtain ⟨v, rfl⟩ := HRR.out _ _ _ h8
  have H8 := Lib.hid h8
  clear h8
  go_wp2_with fail
  refine bodyPost_ret (results_tmp2 rfl _ _ _) rfl ?_
  exact ⟨w7, G7.out, H8.out⟩
set_option maxRecDepth 100000 in
set_option maxHeartbeats 4000000 in
theorem feed_c (R : World → Ending → World → Prop) (g : Nat) (p : PS) (vp vq v0 v1 vt : Value) (A : Option Addr) (n c : Nat) (Y : List Int) (w : World) (h : ShB g w p vp vq v0 v1 vt) (hs : p.sv = true) (h0 : p.st = 3) (hr : Rd w.heap.size .u8 w A Y) (hn : Y.length = n) (hb : Byt Y) (hl : n ≤ 100000) (hi : p.i1.length ≤ 100000)
    (HG : ∀ w1 A' n' c', ShB g w1 { p with i1 := p.i1 ++ Y } vp vq v0 (.slice A' n' c') vt → n' = (p.i1 ++ Y).length → Calls Try.prog 13 #[.pointer (some ⟨g, 0, none⟩)] w1 (R w1)) (hR : ∀ w1 e w', R w1 e w' → ∃ v, e = .returned (.tuple #[v, .int .i64 0])) :
    Calls Try.prog 7 #[.pointer (some ⟨g, 0, none⟩), .int .u8 1, .slice A n c] w fun e w' => ∃ w1, w.grownBy w1 (some g) ∧ R w1 e w' := by
  have H0 := Lib.hid h
  have HR := Lib.hid hr
  have HN := Lib.hid hn
  have HB := Lib.hid hb
  have HSV := Lib.hid hs
  have HST := Lib.hid h0
  have HH := Lib.hid HG
  have HRR := Lib.hid hR
  obtain ⟨Ai, ci, hvi, hci, hri⟩ := h.i1.form
  subst hvi
  obtain ⟨k, hk⟩ : ∃ k, p.i1.length = k := ⟨_, rfl⟩
  rw [hk] at hci hi
  have HK := Lib.hid hk
  have RI := Lib.hid hri
  clear h hr hn hb hs h0 HG hR hri hk
  go_enter Try.func7, Try.ntmps7
  go_wp2_with fail
  refine Calls.mono (wants_c g p vp vq _ _ vt w H0.out HSV.out HST.out) ?_
  rintro e w3 ⟨rfl, b3⟩
  have B3 := Lib.hid b3
  clear b3
  have F8 : Hid (Blk (w3.alloc (.cells #[.int .u8 0, .int .u8 0, .nilFunc] 50)) w3.heap.size 50 #[.int .u8 0, .int .u8 0, .nilFunc]) := Lib.hid (Blk.new _ _ _)
  go_wp2_with ((with_reducible (show wpList _ _ _ (⟨none, .store 50 _ _, _, _, _, _⟩ :: _) _ _)); go_loud (refine wpList_storeBlk (o := ⟨none, .store 50 _ _, _, _, _, _⟩) (g := w3.heap.size) (t := 50) (vs := wtV 1 20 16) rfl _ _ rfl rfl rfl F8.out rfl (wt_one _ _ _) sizeW ?_); intro w4 z4 g4; have B4 := Lib.hid (B3.out.trans ((((Below.refl w3.heap.size w3).alloc (Nat.le_refl _) _).trans (below_of_only g4 (Nat.le_refl _) (by simp))).mono B3.out.size)))
  have H4 := Lib.hid (H0.out.below B4.out)
  have R4 := Lib.hid ((RI.out.below B4.out (Nat.le_refl _)).mono B4.out.size)
  have Y4 := Lib.hid ((HR.out.below B4.out (Nat.le_refl _)).mono B4.out.size)
  have ci4 : ∀ r : BW w4.heap.size w4, r.world.cell? ⟨g, 101, none⟩ = some (.slice Ai k ci) := fun r => by
    have := (H4.out.below r.below).c5.2.2.2.1
    rw [HK.out] at this
    exact this
  clear z4 g4 F8 B3 H0 RI HR
  refine wp_region_mixOB w4.heap.size [([0, 1, 2, 3, 4, 5, 6, 7, 8, 10, 12, 13, 14], 9), ([], 11), ([15], 16)] (by kernel_rfl) (by kernel_rfl) (by kernel_rfl) (by kernel_rfl) (by kernel_rfl) ?_
  try (rw [put_none])
  simp only [pickL, List.map_cons, List.map_nil, List.filterMap_cons, List.filterMap_nil, List.getElem?_cons_succ, List.getElem?_cons_zero]
  refine mixO_cons ?_
  repeat (show wpQuiet _ _ _ _ (_ :: _) _; go_big_quiet_step (fail))
  refine wpQuiet_nil ?_
  show wpList _ _ _ [_] _ _
  go_wp2_with fail
  clear ci4
  refine Calls.mono (clone_n Ai ci k _ _ (R4.out.below (Below.refl w4.heap.size w4).drew (Nat.le_refl _)) HK.out.symm (by omega)) ?_
  rintro e w5 ⟨A5, n5, c5, rfl, o5, b5⟩
  have O5 := Lib.hid o5
  have E5 := Lib.hid ((Below.refl w4.heap.size w4).drew.trans b5)
  have Y5 := Lib.hid ((Y4.out.below E5.out (Nat.le_refl _)).mono E5.out.size)
  have hn5 : n5 ≤ 100000 := by rw [o5.len, HK.out]; exact hi
  clear o5 b5 R4 Y4
  go_wp2_with fail
  refine MixO.narrow (fun _ h => h) (⟨BW.mk' E5.out, rfl⟩) ?_
  refine mixO_cons ?_
  repeat (show wpQuiet _ _ _ _ (_ :: _) _; go_big_quiet_step (fail))
  refine wpQuiet_nil ?_
  show wpList _ _ _ [_] _ _
  have hze : w4.drew.heap.size ≤ w5.heap.size := E5.out.size
  go_wp2_with ((at_builtin; go_loud (refine wpList_app (o := ⟨some 38, _, _, _, _, _⟩) elC rfl _ _ rfl rfl rfl O5.out Y5.out HN.out.symm ?_ hze ?_); (rw [HN.out, ← O5.out.len]; omega); intro A2 n2 c2 w6 h6; have O6 := Lib.hid h6.1; have E6 := Lib.hid (show Below w4.heap.size w5 w6 from h6.2.2.1); clear h6))
  have E46 := Lib.hid (E5.out.trans E6.out)
  have H6 := Lib.hid (H4.out.below E46.out)
  have q6 := H6.out.c5.2.2.2.1
  have f6 := H6.out.fz 101
  have B6 := Lib.hid (B4.out.trans (E46.out.mono B4.out.size))
  have HBB : Hid (Byt (p.i1 ++ Y)) := Lib.hid (H6.out.ok.bi1.append HB.out)
  refine MixO.narrow (fun _ h => h) (⟨BW.mk' E46.out, rfl⟩) ?_
  refine mixO_cons ?_
  repeat (show wpQuiet _ _ _ _ (_ :: _) _; go_big_quiet_step (fail))
  refine wpQuiet_nil ?_
  show wpList _ _ _ [_] _ _
  go_wp2_with fail
  refine MixO.last ?_
  refine mixO_nil ?_
  refine wpQuiet_nil ?_
  refine NoPanic.normal ?_
  have H7 := H6.out.set_i1 (SlT.own O6.out) HBB.out
  have G7 := Lib.hid (grown_st (p := ⟨g, 101, none⟩) (v := .slice A2 n2 c2) (only_of_below B6.out (some g)) rfl)
  have HG7 := Lib.hid (HH.out _ _ _ _ H7 O6.out.len)
  clear q6 f6 H7 H6 O5 O6 Y5 E5 E6 E46 B4 B6 H4
  generalize w6.setCell ⟨g, 101, none⟩ (.slice A2 n2 c2) = w7 at *
  go_wp2_with fail
  refine Calls.mono HG7.out ?_
  clear HG7
  intro e w8 h8
  obtain ⟨v, rfl⟩ := HRR.out _ _ _ h8
  have H8 := Lib.hid h8
  clear h8
  go_wp2_with fail
  refine bodyPost_ret (results_tmp2 rfl _ _ _) rfl ?_
  exact ⟨w7, G7.out, H8.out⟩
set_option maxRecDepth 100000 in
set_option maxHeartbeats 4000000 in
theorem feed_a (R : World → Ending → World → Prop) (g : Nat) (p : PS) (vp vq v0 v1 vt : Value) (A : Option Addr) (n c : Nat) (Y : List Int) (w : World) (h : ShB g w p vp vq v0 v1 vt) (hs : p.sv = false) (h0 : p.st = 1) (hr : Rd w.heap.size .u8 w A Y) (hn : Y.length = n) (hb : Byt Y) (hl : n ≤ 100000) (hi : p.i0.length ≤ 100000)
    (HG : ∀ w1 A' n' c', ShB g w1 { p with i0 := p.i0 ++ Y } vp vq (.slice A' n' c') v1 vt → n' = (p.i0 ++ Y).length → Calls Try.prog 13 #[.pointer (some ⟨g, 0, none⟩)] w1 (R w1)) (hR : ∀ w1 e w', R w1 e w' → ∃ v, e = .returned (.tuple #[v, .int .i64 0])) :
    Calls Try.prog 7 #[.pointer (some ⟨g, 0, none⟩), .int .u8 0, .slice A n c] w fun e w' => ∃ w1, w.grownBy w1 (some g) ∧ R w1 e w' := by
  have H0 := Lib.hid h
  have HR := Lib.hid hr
  have HN := Lib.hid hn
  have HB := Lib.hid hb
  have HSV := Lib.hid hs
  have HST := Lib.hid h0
  have HH := Lib.hid HG
  have HRR := Lib.hid hR
  obtain ⟨Ai, ci, hvi, hci, hri⟩ := h.i0.form
  subst hvi
  obtain ⟨k, hk⟩ : ∃ k, p.i0.length = k := ⟨_, rfl⟩
  rw [hk] at hci hi
  have HK := Lib.hid hk
  have RI := Lib.hid hri
  clear h hr hn hb hs h0 HG hR hri hk
  go_enter Try.func7, Try.ntmps7
  go_wp2_with fail
  refine Calls.mono (wants_a g p vp vq _ _ vt w H0.out HSV.out HST.out) ?_
  rintro e w3 ⟨rfl, b3⟩
  have B3 := Lib.hid b3
  clear b3
  have F8 : Hid (Blk (w3.alloc (.cells #[.int .u8 0, .int .u8 0, .nilFunc] 50)) w3.heap.size 50 #[.int .u8 0, .int .u8 0, .nilFunc]) := Lib.hid (Blk.new _ _ _)
  go_wp2_with ((with_reducible (show wpList _ _ _ (⟨none, .store 50 _ _, _, _, _, _⟩ :: _) _ _)); go_loud (refine wpList_storeBlk (o := ⟨none, .store 50 _ _, _, _, _, _⟩) (g := w3.heap.size) (t := 50) (vs := wtV 0 2 17) rfl _ _ rfl rfl rfl F8.out rfl (wt_one _ _ _) sizeW ?_); intro w4 z4 g4; have B4 := Lib.hid (B3.out.trans ((((Below.refl w3.heap.size w3).alloc (Nat.le_refl _) _).trans (below_of_only g4 (Nat.le_refl _) (by simp))).mono B3.out.size)))
  have H4 := Lib.hid (H0.out.below B4.out)
  have R4 := Lib.hid ((RI.out.below B4.out (Nat.le_refl _)).mono B4.out.size)
  have Y4 := Lib.hid ((HR.out.below B4.out (Nat.le_refl _)).mono B4.out.size)
  have ci4 : ∀ r : BW w4.heap.size w4, r.world.cell? ⟨g, 100, none⟩ = some (.slice Ai k ci) := fun r => by
    have := (H4.out.below r.below).c5.2.2.1
    rw [HK.out] at this
    exact this
  clear z4 g4 F8 B3 H0 RI HR
  refine wp_region_mixOB w4.heap.size [([0, 1, 2, 3, 4, 5, 6, 7, 8, 10, 12, 13, 14], 9), ([], 11), ([15], 16)] (by kernel_rfl) (by kernel_rfl) (by kernel_rfl) (by kernel_rfl) (by kernel_rfl) ?_
  try (rw [put_none])
  simp only [pickL, List.map_cons, List.map_nil, List.filterMap_cons, List.filterMap_nil, List.getElem?_cons_succ, List.getElem?_cons_zero]
  refine mixO_cons ?_
  repeat (show wpQuiet _ _ _ _ (_ :: _) _; go_big_quiet_step (fail))
  refine wpQuiet_nil ?_
  show wpList _ _ _ [_] _ _
  go_wp2_with fail
  clear ci4
  refine Calls.mono (clone_n Ai ci k _ _ (R4.out.below (Below.refl w4.heap.size w4).drew (Nat.le_refl _)) HK.out.symm (by omega)) ?_
  rintro e w5 ⟨A5, n5, c5, rfl, o5, b5⟩
  have O5 := Lib.hid o5
  have E5 := Lib.hid ((Below.refl w4.heap.size w4).drew.trans b5)
  have Y5 := Lib.hid ((Y4.out.below E5.out (Nat.le_refl _)).mono E5.out.size)
  have hn5 : n5 ≤ 100000 := by rw [o5.len, HK.out]; exact hi
  clear o5 b5 R4 Y4
  go_wp2_with fail
  refine MixO.narrow (fun _ h => h) (⟨BW.mk' E5.out, rfl⟩) ?_
  refine mixO_cons ?_
  repeat (show wpQuiet _ _ _ _ (_ :: _) _; go_big_quiet_step (fail))
  refine wpQuiet_nil ?_
  show wpList _ _ _ [_] _ _
  have hze : w4.drew.heap.size ≤ w5.heap.size := E5.out.size
  go_wp2_with ((at_builtin; go_loud (refine wpList_app (o := ⟨some 38, _, _, _, _, _⟩) elC rfl _ _ rfl rfl rfl O5.out Y5.out HN.out.symm ?_ hze ?_); (rw [HN.out, ← O5.out.len]; omega); intro A2 n2 c2 w6 h6; have O6 := Lib.hid h6.1; have E6 := Lib.hid (show Below w4.heap.size w5 w6 from h6.2.2.1); clear h6))
  have E46 := Lib.hid (E5.out.trans E6.out)
  have H6 := Lib.hid (H4.out.below E46.out)
  have q6 := H6.out.c5.2.2.1
  have f6 := H6.out.fz 100
  have B6 := Lib.hid (B4.out.trans (E46.out.mono B4.out.size))
  have HBB : Hid (Byt (p.i0 ++ Y)) := Lib.hid (H6.out.ok.bi0.append HB.out)
  refine MixO.narrow (fun _ h => h) (⟨BW.mk' E46.out, rfl⟩) ?_
  refine mixO_cons ?_
  repeat (show wpQuiet _ _ _ _ (_ :: _) _; go_big_quiet_step (fail))
  refine wpQuiet_nil ?_
  show wpList _ _ _ [_] _ _
  go_wp2_with fail
  refine MixO.last ?_
  refine mixO_nil ?_
  refine wpQuiet_nil ?_
  refine NoPanic.normal ?_
  have H7 := H6.out.set_i0 (SlT.own O6.out) HBB.out
  have G7 := Lib.hid (grown_st (p := ⟨g, 100, none⟩) (v := .slice A2 n2 c2) (only_of_below B6.out (some g)) rfl)
  have HG7 := Lib.hid (HH.out _ _ _ _ H7 O6.out.len)
  clear q6 f6 H7 H6 O5 O6 Y5 E5 E6 E46 B4 B6 H4
  generalize w6.setCell ⟨g, 100, none⟩ (.slice A2 n2 c2) = w7 at *
  go_wp2_with fail
  refine Calls.mono HG7.out ?_
  clear HG7
  intro e w8 h8
  obtain ⟨v, rfl⟩ := HRR.out _ _ _ h8
  have H8 := Lib.hid h8
  clear h8
  go_wp2_with fail
  refine bodyPost_ret (results_tmp2 rfl _ _ _) rfl ?_
  exact ⟨w7, G7.out, H8.out⟩
set_option maxRecDepth 100000 in
set_option maxHeartbeats 4000000 in
theorem feed_f (R : World → Ending → World → Prop) (g : Nat) (p : PS) (vp vq v0 v1 vt : Value) (A : Option Addr) (n c : Nat) (Y : List Int) (w : World) (h : ShB g w p vp vq v0 v1 vt) (hs : p.sv = false) (h0 : p.st = 2) (hr : Rd w.heap.size .u8 w A Y) (hn : Y.length = n) (hb : Byt Y) (hl : n ≤ 100000) (hi : p.i1.length ≤ 100000)
    (HG : ∀ w1 A' n' c', ShB g w1 { p with i1 := p.i1 ++ Y } vp vq v0 (.slice A' n' c') vt → n' = (p.i1 ++ Y).length → Calls Try.prog 13 #[.pointer (some ⟨g, 0, none⟩)] w1 (R w1)) (hR : ∀ w1 e w', R w1 e w' → ∃ v, e = .returned (.tuple #[v, .int .i64 0])) :
    Calls Try.prog 7 #[.pointer (some ⟨g, 0, none⟩), .int .u8 1, .slice A n c] w fun e w' => ∃ w1, w.grownBy w1 (some g) ∧ R w1 e w' := by
  have H0 := Lib.hid h
  have HR := Lib.hid hr
  have HN := Lib.hid hn
  have HB := Lib.hid hb
  have HSV := Lib.hid hs
  have HST := Lib.hid h0
  have HH := Lib.hid HG
  have HRR := Lib.hid hR
  obtain ⟨Ai, ci, hvi, hci, hri⟩ := h.i1.form
  subst hvi
  obtain ⟨k, hk⟩ : ∃ k, p.i1.length = k := ⟨_, rfl⟩
  rw [hk] at hci hi
  have HK := Lib.hid hk
  have RI := Lib.hid hri
  clear h hr hn hb hs h0 HG hR hri hk
  go_enter Try.func7, Try.ntmps7
  go_wp2_with fail
  refine Calls.mono (wants_f g p vp vq _ _ vt w H0.out HSV.out HST.out) ?_
  rintro e w3 ⟨rfl, b3⟩
  have B3 := Lib.hid b3
  clear b3
  have F8 : Hid (Blk (w3.alloc (.cells #[.int .u8 0, .int .u8 0, .nilFunc] 50)) w3.heap.size 50 #[.int .u8 0, .int .u8 0, .nilFunc]) := Lib.hid (Blk.new _ _ _)
  go_wp2_with ((with_reducible (show wpList _ _ _ (⟨none, .store 50 _ _, _, _, _, _⟩ :: _) _ _)); go_loud (refine wpList_storeBlk (o := ⟨none, .store 50 _ _, _, _, _, _⟩) (g := w3.heap.size) (t := 50) (vs := wtV 1 20 18) rfl _ _ rfl rfl rfl F8.out rfl (wt_one _ _ _) sizeW ?_); intro w4 z4 g4; have B4 := Lib.hid (B3.out.trans ((((Below.refl w3.heap.size w3).alloc (Nat.le_refl _) _).trans (below_of_only g4 (Nat.le_refl _) (by simp))).mono B3.out.size)))
  have H4 := Lib.hid (H0.out.below B4.out)
  have R4 := Lib.hid ((RI.out.below B4.out (Nat.le_refl _)).mono B4.out.size)
  have Y4 := Lib.hid ((HR.out.below B4.out (Nat.le_refl _)).mono B4.out.size)
  have ci4 : ∀ r : BW w4.heap.size w4, r.world.cell? ⟨g, 101, none⟩ = some (.slice Ai k ci) := fun r => by
    have := (H4.out.below r.below).c5.2.2.2.1
    rw [HK.out] at this
    exact this
  clear z4 g4 F8 B3 H0 RI HR
  refine wp_region_mixOB w4.heap.size [([0, 1, 2, 3, 4, 5, 6, 7, 8, 10, 12, 13, 14], 9), ([], 11), ([15], 16)] (by kernel_rfl) (by kernel_rfl) (by kernel_rfl) (by kernel_rfl) (by kernel_rfl) ?_
  try (rw [put_none])
  simp only [pickL, List.map_cons, List.map_nil, List.filterMap_cons, List.filterMap_nil, List.getElem?_cons_succ, List.getElem?_cons_zero]
  refine mixO_cons ?_
  repeat (show wpQuiet _ _ _ _ (_ :: _) _; go_big_quiet_step (fail))
  refine wpQuiet_nil ?_
  show wpList _ _ _ [_] _ _
  go_wp2_with fail
  clear ci4
  refine Calls.mono (clone_n Ai ci k _ _ (R4.out.below (Below.refl w4.heap.size w4).drew (Nat.le_refl _)) HK.out.symm (by omega)) ?_
  rintro e w5 ⟨A5, n5, c5, rfl, o5, b5⟩
  have O5 := Lib.hid o5
  have E5 := Lib.hid ((Below.refl w4.heap.size w4).drew.trans b5)
  have Y5 := Lib.hid ((Y4.out.below E5.out (Nat.le_refl _)).mono E5.out.size)
  have hn5 : n5 ≤ 100000 := by rw [o5.len, HK.out]; exact hi
  clear o5 b5 R4 Y4
  go_wp2_with fail
  refine MixO.narrow (fun _ h => h) (⟨BW.mk' E5.out, rfl⟩) ?_
  refine mixO_cons ?_
  repeat (show wpQuiet _ _ _ _ (_ :: _) _; go_big_quiet_step (fail))
  refine wpQuiet_nil ?_
  show wpList _ _ _ [_] _ _
  have hze : w4.drew.heap.size ≤ w5.heap.size := E5.out.size
  go_wp2_with ((at_builtin; go_loud (refine wpList_app (o := ⟨some 38, _, _, _, _, _⟩) elC rfl _ _ rfl rfl rfl O5.out Y5.out HN.out.symm ?_ hze ?_); (rw [HN.out, ← O5.out.len]; omega); intro A2 n2 c2 w6 h6; have O6 := Lib.hid h6.1; have E6 := Lib.hid (show Below w4.heap.size w5 w6 from h6.2.2.1); clear h6))
  have E46 := Lib.hid (E5.out.trans E6.out)
  have H6 := Lib.hid (H4.out.below E46.out)
  have q6 := H6.out.c5.2.2.2.1
  have f6 := H6.out.fz 101
  have B6 := Lib.hid (B4.out.trans (E46.out.mono B4.out.size))
  have HBB : Hid (Byt (p.i1 ++ Y)) := Lib.hid (H6.out.ok.bi1.append HB.out)
  refine MixO.narrow (fun _ h => h) (⟨BW.mk' E46.out, rfl⟩) ?_
  refine mixO_cons ?_
  repeat (show wpQuiet _ _ _ _ (_ :: _) _; go_big_quiet_step (fail))
  refine wpQuiet_nil ?_
  show wpList _ _ _ [_] _ _
  go_wp2_with fail
  refine MixO.last ?_
  refine mixO_nil ?_
  refine wpQuiet_nil ?_
  refine NoPanic.normal ?_
  have H7 := H6.out.set_i1 (SlT.own O6.out) HBB.out
  have G7 := Lib.hid (grown_st (p := ⟨g, 101, none⟩) (v := .slice A2 n2 c2) (only_of_below B6.out (some g)) rfl)
  have HG7 := Lib.hid (HH.out _ _ _ _ H7 O6.out.len)
  clear q6 f6 H7 H6 O5 O6 Y5 E5 E6 E46 B4 B6 H4
  generalize w6.setCell ⟨g, 101, none⟩ (.slice A2 n2 c2) = w7 at *
  go_wp2_with fail
  refine Calls.mono HG7.out ?_
  clear HG7
  intro e w8 h8
  obtain ⟨v, rfl⟩ := HRR.out _ _ _ h8
  have H8 := Lib.hid h8
  clear h8
  go_wp2_with fail
  refine bodyPost_ret (results_tmp2 rfl _ _ _) rfl ?_
  exact ⟨w7, G7.out, H8.out⟩
end Go.Proofs.Ythknncdhjicklaa
