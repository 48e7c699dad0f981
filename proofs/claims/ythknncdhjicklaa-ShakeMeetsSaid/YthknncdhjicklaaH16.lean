/- Layer 21: contracts of goes, where a message is whole. Conditions: as each theorem states them. -/
import Derived.Test.YthknncdhjicklaaH15
namespace Go.Proofs.Ythknncdhjicklaa
open Go.RowKit
set_option maxRecDepth 100000 in
set_option maxHeartbeats 8000000 in
theorem goes_h (g : Nat) (p : PS) (vp vq vt : Value) (A B : Option Addr) (c d k : Nat) (w : World) (h : ShB g w p vp vq (.slice A (k + 4) c) (.slice B 0 d) vt) (hs : p.sv = true) (h0 : p.st = 0) (hn : k ≤ 2000) (hsz : sizL p.i0 = (k : Int) + 4) (hkd : p.i0.getD 0 0 = 1) (ht : p.tr.length ≤ 100000) (hk1 : 32 ≤ k) (hk2 : k ≤ 1032) (hp : p.par.length ≤ 1000) :
    Calls Try.prog 13 #[.pointer (some ⟨g, 0, none⟩)] w fun e w' => ∃ v l, e = .returned (.tuple #[v, .int .i64 0]) ∧ SdR w.heap.size w' v l ∧ l.map SX.e = [(0, msgL 2 p.rnd), (1, PS.hfin { p with i0 := [] } p.i0 (p.i0.drop 4))] ∧ (∃ vp' vq' v0' v1' vt', ShB g w' (PS.hello { p with i0 := [] } p.i0 (p.i0.drop 4)) vp' vq' v0' v1' vt') ∧ w.grownBy w' (some g) := by
  have H0 := Lib.hid h
  have HSV := Lib.hid hs
  have HST := Lib.hid h0
  have HKD := Lib.hid hkd
  have HSZ := Lib.hid hsz
  have HNL : Hid (p.i0.length = k + 4 ∧ p.i1 = []) := Lib.hid ⟨h.i0.mk.1.symm, List.length_eq_zero_iff.1 h.i1.mk.1.symm⟩
  clear h hs h0 hsz hkd
  have SA : Hid (∀ w', Below w.heap.size w w' → Calls Try.prog 19 #[.slice A (k + 4) c] w' fun e w2 => e = .returned (.int .i64 ((k : Int) + 4)) ∧ Below w'.heap.size w' w2) := Lib.hid (fun w' hb => size_b A c (k + 4) p.i0 w' (H0.out.below hb).i0.mk.2.2 H0.out.ok.bi0 HNL.out.1 (by omega) _ HSZ.out)
  have SB : Hid (∀ w', Calls Try.prog 19 #[.slice B 0 d] w' fun e w2 => e = .returned (.int .i64 0) ∧ Below w'.heap.size w' w2) := Lib.hid (fun w' => size_b B d 0 [] w' Rd.nil Byt.nil rfl (by omega) 0 sizL_nil)
  have L0 := Lib.hid H0.out.ld_in
  have ix0 := index_in0 (.slice A (k + 4) c) (.slice B 0 d)
  have ix1 := index_in1 (.slice A (k + 4) c) (.slice B 0 d)
  go_enter Try.func13, Try.ntmps13
  go_wp2_with fail
  refine wp_loop_rounds 3 ?_
  rw [rounds_succ]
  go_wp2_with ((with_reducible (show wpList _ _ _ (⟨some 17, .load _ _, _, _, _, _⟩ :: _) _ _)); refine wpList_loadV (o := ⟨some 17, .load _ _, _, _, _, _⟩) rfl _ rfl rfl (L0.out) ?_)
  refine wp_loop_rounds 3 ?_
  rw [rounds_succ]
  go_wp2_with fail
  refine Calls.mono (SA.out w (Below.refl _ _)) ?_
  rintro e w1 ⟨rfl, b1⟩
  have B1 := Lib.hid b1
  clear b1
  go_wp2_with fail
  rw [rounds_succ]
  go_wp2_with fail
  refine Calls.mono (SB.out w1) ?_
  rintro e w2 ⟨rfl, b2⟩
  have B2 := Lib.hid (B1.out.trans (b2.mono B1.out.size))
  clear b2 B1 L0
  go_wp2_with fail
  rw [rounds_succ]
  go_wp2_with fail
  refine Calls.mono (wants_h g p vp vq _ _ vt w2 (H0.out.below B2.out) HSV.out HST.out) ?_
  rintro e w3 ⟨rfl, b3⟩
  have B3 := Lib.hid (B2.out.trans (b3.mono B2.out.size))
  clear b3 B2
  have F8 : Hid (Blk (w3.alloc (.cells #[.int .u8 0, .int .u8 0, .nilFunc] 50)) w3.heap.size 50 #[.int .u8 0, .int .u8 0, .nilFunc]) := Lib.hid (Blk.new _ _ _)
  go_wp2_with ((with_reducible (show wpList _ _ _ (⟨none, .store 50 _ _, _, _, _, _⟩ :: _) _ _)); go_loud (refine wpList_storeBlk (o := ⟨none, .store 50 _ _, _, _, _, _⟩) (g := w3.heap.size) (t := 50) (vs := wtV 0 1 15) rfl _ _ rfl rfl rfl F8.out rfl (wt_one _ _ _) sizeW ?_); intro w4 z4 g4; obtain ⟨c0, c1, c2⟩ := wt_cells z4; have Z4 := Lib.hid z4; have B4 := Lib.hid (B3.out.trans ((((Below.refl w3.heap.size w3).alloc (Nat.le_refl _) _).trans (below_of_only g4 (Nat.le_refl _) (by simp))).mono B3.out.size)); have H4 := Lib.hid (H0.out.below B4.out); have q4 := H4.out.c5.2.2.1)
  go_region
  go_wp2_with fail
  refine Calls.mono (SA.out _ B4.out.drew) ?_
  rintro e w5 ⟨rfl, b5⟩
  have E5 := Lib.hid ((Below.refl w4.heap.size w4).drew.trans b5)
  have B5 := Lib.hid (B4.out.trans (E5.out.mono B4.out.size))
  have hgw := Z4.out.lt
  have HW3 := Lib.hid B3.out.size
  have Z5 := Lib.hid (Z4.out.below E5.out hgw)
  have H5 := Lib.hid (H0.out.below B5.out)
  obtain ⟨gw, hgw2⟩ : ∃ z, w3.heap.size = z := ⟨_, rfl⟩
  rw [hgw2] at Z5 HW3 ⊢
  clear b5 c0 c1 c2 q4 SA ix0 ix1 g4 F8 Z4 z4 E5 B4 H4 hgw hgw2 B3
  obtain ⟨_, c1, _⟩ := wt_cells Z5.out
  obtain ⟨ad, hA, _, _⟩ := H5.out.i0.mk.2.2 0 (by rw [HNL.out.1]; omega)
  subst hA
  have q5 := H5.out.i0.mk.2.2.at0 (by rw [HNL.out.1]; omega)
  rw [HKD.out] at q5
  go_wp2_with fail
  go_region
  go_wp2_with fail
  have D6 := (Below.refl w5.heap.size w5).drew
  have H6 := Lib.hid (H5.out.below D6)
  have Z6 := Lib.hid (Z5.out.below D6 Z5.out.lt)
  have B6 := Lib.hid (B5.out.trans (D6.mono B5.out.size))
  clear D6 H5 Z5 B5 c1 q5
  generalize w5.drew = w6 at *
  have HML : Hid ((k : Int) + 4 = p.i0.length) := Lib.hid (by rw [HNL.out.1]; push_cast; rfl)
  obtain ⟨hcM, RM⟩ := H6.out.i0.mk.2
  obtain ⟨A7, c7, _, _, r7, l7, run7⟩ := slice_l elC RM (by rw [HNL.out.1]; exact hcM) ((k : Int) + 4) 0 (by omega) (by rw [HML.out]; exact Int.le_refl _) (by rw [HML.out]; omega)
  rw [HNL.out.1] at run7
  have R7 := Lib.hid r7
  have L7 := Lib.hid l7
  clear r7 l7 RM hcM
  have cw : ∀ r : BW w6.heap.size w6, r.world.cell? ⟨gw, 0, none⟩ = some (.int .u8 0) := fun r => (wt_cells (Z6.out.below r.below Z6.out.lt)).1
  refine wp_region_mixOB w6.heap.size [([0, 1, 2, 3, 4, 5, 7, 8, 9], 6), ([10], 11)] (by kernel_rfl) (by kernel_rfl) (by kernel_rfl) (by kernel_rfl) (by kernel_rfl) ?_
  try (rw [put_none])
  simp only [pickL, List.map_cons, List.map_nil, List.filterMap_cons, List.filterMap_nil, List.getElem?_cons_succ, List.getElem?_cons_zero]
  refine mixO_cons ?_
  repeat (show wpQuiet _ _ _ _ (_ :: _) _; go_big_quiet_step (fail))
  refine wpQuiet_nil ?_
  show wpList _ _ _ [_] _ _
  go_wp2_with fail
  clear run7 cw
  refine Calls.mono (clone_n A7 c7 0 _ _ (R7.out.below (Below.refl w6.heap.size w6).drew (Nat.le_refl _)) L7.out.symm (by omega)) ?_
  rintro e w7 ⟨A9, n9, c9, rfl, o9, b9⟩
  have HNE : Hid (p.i0.drop ((k : Int) + 4).toNat = []) := Lib.hid (List.length_eq_zero_iff.1 L7.out)
  have hn9 : n9 = 0 := by rw [o9.len, L7.out]
  subst hn9
  rw [HNE.out] at o9
  have O9 := Lib.hid (SlT.own o9)
  have E7 := Lib.hid ((Below.refl w6.heap.size w6).drew.trans b9)
  clear b9 o9 R7 L7 HNE
  have H7 := Lib.hid (H6.out.below E7.out)
  have Z7 := Lib.hid (Z6.out.below E7.out Z6.out.lt)
  have B7 := Lib.hid (B6.out.trans (E7.out.mono B6.out.size))
  have q7 := H7.out.c5.2.2.1
  have f7 := H7.out.fz 100
  have FM := Lib.hid (H7.out.i0.rdF H7.out)
  have hgg : gw ≠ g := Blk.ne_ Z7.out H7.out.blk (by decide)
  go_wp2_with fail
  refine MixO.narrowB E7.out E7.out.size ?_
  refine mixO_cons ?_
  repeat (show wpQuiet _ _ _ _ (_ :: _) _; go_big_quiet_step (fail))
  refine wpQuiet_nil ?_
  show wpList _ _ _ [_] _ _
  go_wp2_with fail
  refine MixO.last ?_
  refine mixO_nil ?_
  refine wpQuiet_nil ?_
  refine NoPanic.normal ?_
  have H8 := Lib.hid (H7.out.set_i0 (SlT.below O9.out (Below.refl _ _)) Byt.nil)
  have g8 := grown_st (p := ⟨g, 100, none⟩) (v := .slice A9 0 c9) (World.grownBy.refl w7 (some g)) rfl
  have G8 := Lib.hid (grown_cat_ (only_of_below B7.out (some g)) g8)
  have Z8 := Lib.hid (Z7.out.grown g8 (by intro q; injection q with q; exact hgg q))
  have FM8 := Lib.hid (FM.out.grown g8)
  have HBM := Lib.hid H7.out.ok.bi0
  have hcM := H7.out.i0.mk.2.1
  clear g8 q7 f7 H7 Z7 B7 FM O9 E7
  generalize w7.setCell ⟨g, 100, none⟩ (.slice A9 0 c9) = w8 at *
  obtain ⟨A10, c10, hc10, r10, bl10, run10⟩ := slice_lhB elC FM8.out.1 HNL.out.1 hcM 4 ((k : Int) + 4) k (by omega) (by omega) (by push_cast; omega) (by omega)
  have HD4 : Hid (((p.i0.drop (4 : Int).toNat).take k) = p.i0.drop 4 ∧ (p.i0.drop 4).length = k) := Lib.hid ⟨List.take_of_length_le (by rw [List.length_drop, HNL.out.1]; show k + 4 - 4 ≤ k; omega), by rw [List.length_drop, HNL.out.1]; omega⟩
  rw [HD4.out.1] at r10
  have FB8 : Hid (RdF g w8 A10 (p.i0.drop 4)) := Lib.hid ⟨r10, fun ad' q => by
    obtain ⟨ad2, e2, e3⟩ := bl10 ad' q
    rw [e3]; exact FM8.out.2 ad2 e2⟩
  clear r10 bl10
  have D8 := Lib.hid (Below.refl w8.heap.size w8).drew
  have H9 := Lib.hid (H8.out.below D8.out)
  have FM9 := Lib.hid (FM8.out.below D8.out)
  have FB9 := Lib.hid (FB8.out.below D8.out)
  have HNB : Hid (Byt p.i0 ∧ Byt (p.i0.drop 4)) := Lib.hid ⟨HBM.out, HBM.out.drop 4⟩
  have hne : Nonempty (CW (fun v : World => Blk v gw 50 (wtV 0 1 15).toArray)) := CW.inh Z8.out
  have cf : ∀ r : CW (fun v : World => Blk v gw 50 (wtV 0 1 15).toArray), r.world.cell? ⟨gw, 2, none⟩ = some (.func (Fn.func 15) #[] #[]) := fun r => (wt_cells r.holds).2.2
  go_wp2_with fail
  refine wp_region_mix_class (fun v : World => Blk v gw 50 (wtV 0 1 15).toArray) [([0, 1, 2, 3, 4, 5, 6, 7, 8], 9)] [10, 11, 12, 13, 14] (by kernel_rfl) (by kernel_rfl) (by kernel_rfl) (by kernel_rfl) Z8.out.drew ?_
  simp only [pickL, List.map_cons, List.map_nil, List.filterMap_cons, List.filterMap_nil, List.getElem?_cons_succ, List.getElem?_cons_zero]
  refine mixS_cons ?_
  repeat (show wpQuiet _ _ _ _ (_ :: _) _; go_big_quiet_step (fail))
  refine wpQuiet_nil ?_
  show wpList _ _ _ [_] _ _
  go_wp2_with fail
  clear run10 cf
  refine Calls.mono (hello_any g _ vp vq _ _ vt (some ad) (k + 4) c p.i0 A10 k c10 (p.i0.drop 4) _ H9.out FM9.out HNL.out.1 HNB.out.1 FB9.out HD4.out.2 hc10 HNB.out.2 hk1 hk2 (by omega) ht hp) ?_
  rintro e w10 ⟨vS, x, y, rfl, sd, hx, hy, ⟨vq2, vt2, h10⟩, g10⟩
  obtain ⟨AS, cS, rfl, _⟩ := sd.form
  have SD := Lib.hid sd
  have H10 := Lib.hid h10
  have G10 := Lib.hid (grown_cat_ G8.out (grown_cat_ (only_of_below D8.out (some g)) g10))
  have Z10 := Lib.hid (Z8.out.drew.grown g10 (by intro q; injection q with q; exact hgg q))
  clear sd h10 g10 H8 H9 FM8 FM9 FB8 FB9 G8 Z8 D8
  simp only [List.length_cons, List.length_nil, Nat.zero_add, Nat.reduceAdd]
  go_wp2_with fail
  refine MixQ.class Z10.out ?_
  refine mixS_nil ?_
  repeat (show wpQuiet _ _ _ _ (_ :: _) _; go_big_quiet_step (fail))
  refine wpQuiet_nil ?_
  refine NoPanic.normal ?_
  have HZ10 := Lib.hid G10.out.size
  go_wp2_with (at_builtin; go_loud (refine wpList_appS (o := ⟨some 89, _, _, _, _, _⟩) rfl _ _ rfl rfl rfl (SdR.nil w.heap.size _) SD.out ?_ HZ10.out ?_); (simp); intro v11 w11 sd11 hfr11 b11; have S11 := Lib.hid sd11; have H11 := Lib.hid (H10.out.fr hfr11); have G11 := Lib.hid (grown_low G10.out b11); clear sd11 hfr11 b11)
  have SC : Hid (∀ w', Calls Try.prog 19 #[.slice A9 0 c9] w' fun e w2 => e = .returned (.int .i64 0) ∧ Below w'.heap.size w' w2) := Lib.hid (fun w' => size_b A9 c9 0 [] w' Rd.nil Byt.nil rfl (by omega) 0 sizL_nil)
  have L11 := Lib.hid H11.out.ld_in
  have iy0 := index_in0 (.slice A9 0 c9) (.slice B 0 d)
  have iy1 := index_in1 (.slice A9 0 c9) (.slice B 0 d)
  clear SD H10 G10 Z10 HZ10
  rw [rounds_succ]
  go_wp2_with ((with_reducible (show wpList _ _ _ (⟨some 17, .load _ _, _, _, _, _⟩ :: _) _ _)); refine wpList_loadV (o := ⟨some 17, .load _ _, _, _, _, _⟩) rfl _ rfl rfl (L11.out) ?_)
  refine wp_loop_rounds 3 ?_
  rw [rounds_succ]
  go_wp2_with fail
  refine Calls.mono (SC.out _) ?_
  rintro e w12 ⟨rfl, b12⟩
  have B12 := Lib.hid b12
  clear b12
  go_wp2_with fail
  rw [rounds_succ]
  go_wp2_with fail
  refine Calls.mono (SB.out _) ?_
  rintro e w13 ⟨rfl, b13⟩
  have B13 := Lib.hid (B12.out.trans (b13.mono B12.out.size))
  clear b13 B12 L11
  go_wp2_with fail
  rw [rounds_succ]
  go_wp2_with fail
  refine Calls.mono (wants_c g _ _ _ _ _ _ w13 (H11.out.below B13.out) HSV.out rfl) ?_
  rintro e w14 ⟨rfl, b14⟩
  have B14 := Lib.hid (B13.out.trans (b14.mono B13.out.size))
  clear b14 B13
  have F14 : Hid (Blk (w14.alloc (.cells #[.int .u8 0, .int .u8 0, .nilFunc] 50)) w14.heap.size 50 #[.int .u8 0, .int .u8 0, .nilFunc]) := Lib.hid (Blk.new _ _ _)
  go_wp2_with ((with_reducible (show wpList _ _ _ (⟨none, .store 50 _ _, _, _, _, _⟩ :: _) _ _)); go_loud (refine wpList_storeBlk (o := ⟨none, .store 50 _ _, _, _, _, _⟩) (g := w14.heap.size) (t := 50) (vs := wtV 1 20 16) rfl _ _ rfl rfl rfl F14.out rfl (wt_one _ _ _) sizeW ?_); intro w15 z15 g15; obtain ⟨d0, d1, d2⟩ := wt_cells z15; have B15 := Lib.hid (B14.out.trans ((((Below.refl w14.heap.size w14).alloc (Nat.le_refl _) _).trans (below_of_only g15 (Nat.le_refl _) (by simp))).mono B14.out.size)); have H15 := Lib.hid (H11.out.below B15.out); have q15 := H15.out.c5.2.2.2.1)
  go_region
  go_wp2_with fail
  refine Calls.mono (SB.out _) ?_
  rintro e w16 ⟨rfl, b16⟩
  have B16 := Lib.hid (B15.out.drew.trans (b16.mono B15.out.size))
  clear b16 d0 d1 d2 q15 z15 g15 B14 B15 F14
  go_wp2_with fail
  have H17 := H11.out.below B16.out
  have S17 := S11.out.below B16.out
  exact bodyPost_ret (results_tmp2 rfl _ _ _) rfl ⟨v11, [x, y], rfl, S17, by simp [hx, hy], ⟨_, _, _, _, _, H17⟩, grown_cat_ G11.out (only_of_below B16.out _)⟩
set_option maxRecDepth 100000 in
set_option maxHeartbeats 8000000 in
theorem goes_c (g : Nat) (p : PS) (vp vq vt : Value) (A B : Option Addr) (c d k : Nat) (w : World) (h : ShB g w p vp vq (.slice B 0 d) (.slice A (k + 4) c) vt) (hs : p.sv = true) (h0 : p.st = 3) (hn : k ≤ 2000) (hsz : sizL p.i1 = (k : Int) + 4) (hkd : p.i1.getD 0 0 = 20) (ht : p.tr.length ≤ 100000) (hbd : p.i1.drop 4 = proL p.c0 p.tr) :
    Calls Try.prog 13 #[.pointer (some ⟨g, 0, none⟩)] w fun e w' => ∃ v l, e = .returned (.tuple #[v, .int .i64 0]) ∧ SdR w.heap.size w' v l ∧ l.map SX.e = [] ∧ (∃ vp' vq' v0' v1' vt', ShB g w' ({ p with i1 := [], st := 100 }) vp' vq' v0' v1' vt') ∧ w.grownBy w' (some g) := by
  have H0 := Lib.hid h
  have HSV := Lib.hid hs
  have HST := Lib.hid h0
  have HKD := Lib.hid hkd
  have HSZ := Lib.hid hsz
  have HNL : Hid (p.i1.length = k + 4 ∧ p.i0 = []) := Lib.hid ⟨h.i1.mk.1.symm, List.length_eq_zero_iff.1 h.i0.mk.1.symm⟩
  clear h hs h0 hsz hkd
  have SA : Hid (∀ w', Below w.heap.size w w' → Calls Try.prog 19 #[.slice A (k + 4) c] w' fun e w2 => e = .returned (.int .i64 ((k : Int) + 4)) ∧ Below w'.heap.size w' w2) := Lib.hid (fun w' hb => size_b A c (k + 4) p.i1 w' (H0.out.below hb).i1.mk.2.2 H0.out.ok.bi1 HNL.out.1 (by omega) _ HSZ.out)
  have SB : Hid (∀ w', Calls Try.prog 19 #[.slice B 0 d] w' fun e w2 => e = .returned (.int .i64 0) ∧ Below w'.heap.size w' w2) := Lib.hid (fun w' => size_b B d 0 [] w' Rd.nil Byt.nil rfl (by omega) 0 sizL_nil)
  have L0 := Lib.hid H0.out.ld_in
  have ix0 := index_in0 (.slice B 0 d) (.slice A (k + 4) c)
  have ix1 := index_in1 (.slice B 0 d) (.slice A (k + 4) c)
  go_enter Try.func13, Try.ntmps13
  go_wp2_with fail
  refine wp_loop_rounds 3 ?_
  rw [rounds_succ]
  go_wp2_with ((with_reducible (show wpList _ _ _ (⟨some 17, .load _ _, _, _, _, _⟩ :: _) _ _)); refine wpList_loadV (o := ⟨some 17, .load _ _, _, _, _, _⟩) rfl _ rfl rfl (L0.out) ?_)
  refine wp_loop_rounds 3 ?_
  rw [rounds_succ]
  go_wp2_with fail
  refine Calls.mono (SB.out w) ?_
  rintro e w1 ⟨rfl, b1⟩
  have B1 := Lib.hid b1
  clear b1
  go_wp2_with fail
  rw [rounds_succ]
  go_wp2_with fail
  refine Calls.mono (SA.out w1 B1.out) ?_
  rintro e w2 ⟨rfl, b2⟩
  have B2 := Lib.hid (B1.out.trans (b2.mono B1.out.size))
  clear b2 B1 L0
  go_wp2_with fail
  rw [rounds_succ]
  go_wp2_with fail
  refine Calls.mono (wants_c g p vp vq _ _ vt w2 (H0.out.below B2.out) HSV.out HST.out) ?_
  rintro e w3 ⟨rfl, b3⟩
  have B3 := Lib.hid (B2.out.trans (b3.mono B2.out.size))
  clear b3 B2
  have F8 : Hid (Blk (w3.alloc (.cells #[.int .u8 0, .int .u8 0, .nilFunc] 50)) w3.heap.size 50 #[.int .u8 0, .int .u8 0, .nilFunc]) := Lib.hid (Blk.new _ _ _)
  go_wp2_with ((with_reducible (show wpList _ _ _ (⟨none, .store 50 _ _, _, _, _, _⟩ :: _) _ _)); go_loud (refine wpList_storeBlk (o := ⟨none, .store 50 _ _, _, _, _, _⟩) (g := w3.heap.size) (t := 50) (vs := wtV 1 20 16) rfl _ _ rfl rfl rfl F8.out rfl (wt_one _ _ _) sizeW ?_); intro w4 z4 g4; obtain ⟨c0, c1, c2⟩ := wt_cells z4; have Z4 := Lib.hid z4; have B4 := Lib.hid (B3.out.trans ((((Below.refl w3.heap.size w3).alloc (Nat.le_refl _) _).trans (below_of_only g4 (Nat.le_refl _) (by simp))).mono B3.out.size)); have H4 := Lib.hid (H0.out.below B4.out); have q4 := H4.out.c5.2.2.2.1)
  go_region
  go_wp2_with fail
  refine Calls.mono (SA.out _ B4.out.drew) ?_
  rintro e w5 ⟨rfl, b5⟩
  have E5 := Lib.hid ((Below.refl w4.heap.size w4).drew.trans b5)
  have B5 := Lib.hid (B4.out.trans (E5.out.mono B4.out.size))
  have hgw := Z4.out.lt
  have HW3 := Lib.hid B3.out.size
  have Z5 := Lib.hid (Z4.out.below E5.out hgw)
  have H5 := Lib.hid (H0.out.below B5.out)
  obtain ⟨gw, hgw2⟩ : ∃ z, w3.heap.size = z := ⟨_, rfl⟩
  rw [hgw2] at Z5 HW3 ⊢
  clear b5 c0 c1 c2 q4 SA ix0 ix1 g4 F8 Z4 z4 E5 B4 H4 hgw hgw2 B3
  obtain ⟨_, c1, _⟩ := wt_cells Z5.out
  obtain ⟨ad, hA, _, _⟩ := H5.out.i1.mk.2.2 0 (by rw [HNL.out.1]; omega)
  subst hA
  have q5 := H5.out.i1.mk.2.2.at0 (by rw [HNL.out.1]; omega)
  rw [HKD.out] at q5
  go_wp2_with fail
  go_region
  go_wp2_with fail
  have D6 := (Below.refl w5.heap.size w5).drew
  have H6 := Lib.hid (H5.out.below D6)
  have Z6 := Lib.hid (Z5.out.below D6 Z5.out.lt)
  have B6 := Lib.hid (B5.out.trans (D6.mono B5.out.size))
  clear D6 H5 Z5 B5 c1 q5
  generalize w5.drew = w6 at *
  have HML : Hid ((k : Int) + 4 = p.i1.length) := Lib.hid (by rw [HNL.out.1]; push_cast; rfl)
  obtain ⟨hcM, RM⟩ := H6.out.i1.mk.2
  obtain ⟨A7, c7, _, _, r7, l7, run7⟩ := slice_l elC RM (by rw [HNL.out.1]; exact hcM) ((k : Int) + 4) 0 (by omega) (by rw [HML.out]; exact Int.le_refl _) (by rw [HML.out]; omega)
  rw [HNL.out.1] at run7
  have R7 := Lib.hid r7
  have L7 := Lib.hid l7
  clear r7 l7 RM hcM
  have cw : ∀ r : BW w6.heap.size w6, r.world.cell? ⟨gw, 0, none⟩ = some (.int .u8 1) := fun r => (wt_cells (Z6.out.below r.below Z6.out.lt)).1
  refine wp_region_mixOB w6.heap.size [([0, 1, 2, 3, 4, 5, 7, 8, 9], 6), ([10], 11)] (by kernel_rfl) (by kernel_rfl) (by kernel_rfl) (by kernel_rfl) (by kernel_rfl) ?_
  try (rw [put_none])
  simp only [pickL, List.map_cons, List.map_nil, List.filterMap_cons, List.filterMap_nil, List.getElem?_cons_succ, List.getElem?_cons_zero]
  refine mixO_cons ?_
  repeat (show wpQuiet _ _ _ _ (_ :: _) _; go_big_quiet_step (fail))
  refine wpQuiet_nil ?_
  show wpList _ _ _ [_] _ _
  go_wp2_with fail
  clear run7 cw
  refine Calls.mono (clone_n A7 c7 0 _ _ (R7.out.below (Below.refl w6.heap.size w6).drew (Nat.le_refl _)) L7.out.symm (by omega)) ?_
  rintro e w7 ⟨A9, n9, c9, rfl, o9, b9⟩
  have HNE : Hid (p.i1.drop ((k : Int) + 4).toNat = []) := Lib.hid (List.length_eq_zero_iff.1 L7.out)
  have hn9 : n9 = 0 := by rw [o9.len, L7.out]
  subst hn9
  rw [HNE.out] at o9
  have O9 := Lib.hid (SlT.own o9)
  have E7 := Lib.hid ((Below.refl w6.heap.size w6).drew.trans b9)
  clear b9 o9 R7 L7 HNE
  have H7 := Lib.hid (H6.out.below E7.out)
  have Z7 := Lib.hid (Z6.out.below E7.out Z6.out.lt)
  have B7 := Lib.hid (B6.out.trans (E7.out.mono B6.out.size))
  have q7 := H7.out.c5.2.2.2.1
  have f7 := H7.out.fz 101
  have FM := Lib.hid (H7.out.i1.rdF H7.out)
  have hgg : gw ≠ g := Blk.ne_ Z7.out H7.out.blk (by decide)
  go_wp2_with fail
  refine MixO.narrowB E7.out E7.out.size ?_
  refine mixO_cons ?_
  repeat (show wpQuiet _ _ _ _ (_ :: _) _; go_big_quiet_step (fail))
  refine wpQuiet_nil ?_
  show wpList _ _ _ [_] _ _
  go_wp2_with fail
  refine MixO.last ?_
  refine mixO_nil ?_
  refine wpQuiet_nil ?_
  refine NoPanic.normal ?_
  have H8 := Lib.hid (H7.out.set_i1 (SlT.below O9.out (Below.refl _ _)) Byt.nil)
  have g8 := grown_st (p := ⟨g, 101, none⟩) (v := .slice A9 0 c9) (World.grownBy.refl w7 (some g)) rfl
  have G8 := Lib.hid (grown_cat_ (only_of_below B7.out (some g)) g8)
  have Z8 := Lib.hid (Z7.out.grown g8 (by intro q; injection q with q; exact hgg q))
  have FM8 := Lib.hid (FM.out.grown g8)
  have HBM := Lib.hid H7.out.ok.bi1
  have hcM := H7.out.i1.mk.2.1
  clear g8 q7 f7 H7 Z7 B7 FM O9 E7
  generalize w7.setCell ⟨g, 101, none⟩ (.slice A9 0 c9) = w8 at *
  obtain ⟨A10, c10, hc10, r10, bl10, run10⟩ := slice_lhB elC FM8.out.1 HNL.out.1 hcM 4 ((k : Int) + 4) k (by omega) (by omega) (by push_cast; omega) (by omega)
  have HD4 : Hid (((p.i1.drop (4 : Int).toNat).take k) = p.i1.drop 4 ∧ (p.i1.drop 4).length = k) := Lib.hid ⟨List.take_of_length_le (by rw [List.length_drop, HNL.out.1]; show k + 4 - 4 ≤ k; omega), by rw [List.length_drop, HNL.out.1]; omega⟩
  rw [HD4.out.1] at r10
  have FB8 : Hid (RdF g w8 A10 (p.i1.drop 4)) := Lib.hid ⟨r10, fun ad' q => by
    obtain ⟨ad2, e2, e3⟩ := bl10 ad' q
    rw [e3]; exact FM8.out.2 ad2 e2⟩
  clear r10 bl10
  have D8 := Lib.hid (Below.refl w8.heap.size w8).drew
  have H9 := Lib.hid (H8.out.below D8.out)
  have FM9 := Lib.hid (FM8.out.below D8.out)
  have FB9 := Lib.hid (FB8.out.below D8.out)
  have HNB : Hid (Byt p.i1 ∧ Byt (p.i1.drop 4)) := Lib.hid ⟨HBM.out, HBM.out.drop 4⟩
  have hne : Nonempty (CW (fun v : World => Blk v gw 50 (wtV 1 20 16).toArray)) := CW.inh Z8.out
  have cf : ∀ r : CW (fun v : World => Blk v gw 50 (wtV 1 20 16).toArray), r.world.cell? ⟨gw, 2, none⟩ = some (.func (Fn.func 16) #[] #[]) := fun r => (wt_cells r.holds).2.2
  go_wp2_with fail
  refine wp_region_mix_class (fun v : World => Blk v gw 50 (wtV 1 20 16).toArray) [([0, 1, 2, 3, 4, 5, 6, 7, 8], 9)] [10, 11, 12, 13, 14] (by kernel_rfl) (by kernel_rfl) (by kernel_rfl) (by kernel_rfl) Z8.out.drew ?_
  simp only [pickL, List.map_cons, List.map_nil, List.filterMap_cons, List.filterMap_nil, List.getElem?_cons_succ, List.getElem?_cons_zero]
  refine mixS_cons ?_
  repeat (show wpQuiet _ _ _ _ (_ :: _) _; go_big_quiet_step (fail))
  refine wpQuiet_nil ?_
  show wpList _ _ _ [_] _ _
  go_wp2_with fail
  clear run10 cf
  refine Calls.mono (client_k g _ vp vq _ _ vt (some ad) (k + 4) c A10 k c10 (p.i1.drop 4) _ H9.out FB9.out.1 (by rw [← HD4.out.2, hbd, proL_len]) hbd ht) ?_
  rintro e w10 ⟨rfl, h10, g10⟩
  have sd := SdR.nil w8.drew.heap.size w10
  have SD := Lib.hid sd
  have H10 := Lib.hid h10
  have G10 := Lib.hid (grown_cat_ G8.out (grown_cat_ (only_of_below D8.out (some g)) g10))
  have Z10 := Lib.hid (Z8.out.drew.grown g10 (by intro q; injection q with q; exact hgg q))
  clear sd h10 g10 H8 H9 FM8 FM9 FB8 FB9 G8 Z8 D8
  go_wp2_with fail
  refine MixQ.class Z10.out ?_
  refine mixS_nil ?_
  repeat (show wpQuiet _ _ _ _ (_ :: _) _; go_big_quiet_step (fail))
  refine wpQuiet_nil ?_
  refine NoPanic.normal ?_
  have HZ10 := Lib.hid G10.out.size
  go_wp2_with (at_builtin; go_loud (refine wpList_appS (o := ⟨some 89, _, _, _, _, _⟩) rfl _ _ rfl rfl rfl (SdR.nil w.heap.size _) SD.out ?_ HZ10.out ?_); (simp); intro v11 w11 sd11 hfr11 b11; have S11 := Lib.hid sd11; have H11 := Lib.hid (H10.out.fr hfr11); have G11 := Lib.hid (grown_low G10.out b11); clear sd11 hfr11 b11)
  have SC : Hid (∀ w', Calls Try.prog 19 #[.slice A9 0 c9] w' fun e w2 => e = .returned (.int .i64 0) ∧ Below w'.heap.size w' w2) := Lib.hid (fun w' => size_b A9 c9 0 [] w' Rd.nil Byt.nil rfl (by omega) 0 sizL_nil)
  have L11 := Lib.hid H11.out.ld_in
  have iy0 := index_in0 (.slice B 0 d) (.slice A9 0 c9)
  have iy1 := index_in1 (.slice B 0 d) (.slice A9 0 c9)
  clear SD H10 G10 Z10 HZ10
  rw [rounds_succ]
  go_wp2_with ((with_reducible (show wpList _ _ _ (⟨some 17, .load _ _, _, _, _, _⟩ :: _) _ _)); refine wpList_loadV (o := ⟨some 17, .load _ _, _, _, _, _⟩) rfl _ rfl rfl (L11.out) ?_)
  refine wp_loop_rounds 3 ?_
  rw [rounds_succ]
  go_wp2_with fail
  refine Calls.mono (SB.out _) ?_
  rintro e w12 ⟨rfl, b12⟩
  have B12 := Lib.hid b12
  clear b12
  go_wp2_with fail
  rw [rounds_succ]
  go_wp2_with fail
  refine Calls.mono (SC.out _) ?_
  rintro e w13 ⟨rfl, b13⟩
  have B13 := Lib.hid (B12.out.trans (b13.mono B12.out.size))
  clear b13 B12 L11
  go_wp2_with fail
  rw [rounds_succ]
  go_wp2_with fail
  refine Calls.mono (wants_no g _ _ _ _ _ _ w13 (H11.out.below B13.out) (fun _ => ⟨by show (100 : Int) ≠ 1; decide, by show (100 : Int) ≠ 2; decide⟩) (fun _ => ⟨by show (100 : Int) ≠ 0; decide, by show (100 : Int) ≠ 3; decide⟩)) ?_
  rintro e w14 ⟨rfl, b14⟩
  have B14 := Lib.hid (B13.out.trans (b14.mono B13.out.size))
  clear b14 B13
  have F14 : Hid (Blk (w14.alloc (.cells #[.int .u8 0, .int .u8 0, .nilFunc] 50)) w14.heap.size 50 #[.int .u8 0, .int .u8 0, .nilFunc]) := Lib.hid (Blk.new _ _ _)
  go_wp2_with ((with_reducible (show wpList _ _ _ (⟨none, .store 50 _ _, _, _, _, _⟩ :: _) _ _)); go_loud (refine wpList_storeBlk (o := ⟨none, .store 50 _ _, _, _, _, _⟩) (g := w14.heap.size) (t := 50) (vs := wtZ) rfl _ _ rfl rfl rfl F14.out rfl (by intro v hv; unfold wtZ at hv; simp only [List.mem_cons, List.not_mem_nil, or_false] at hv; rcases hv with rfl | rfl | rfl <;> rfl) sizeW ?_); intro w15 z15 g15; have B15 := Lib.hid (B14.out.trans ((((Below.refl w14.heap.size w14).alloc (Nat.le_refl _) _).trans (below_of_only g15 (Nat.le_refl _) (by simp))).mono B14.out.size)); have H15 := Lib.hid (H11.out.below B15.out); have q15 := H15.out.c5.2.2.1; have q16 := H15.out.c5.2.2.2.1)
  go_region
  have B16 := Lib.hid B15.out.drew
  clear q15 q16 z15 g15 B14 B15 F14
  go_wp2_with fail
  have H17 := H11.out.below B16.out
  have S17 := S11.out.below B16.out
  exact bodyPost_ret (results_tmp2 rfl _ _ _) rfl ⟨v11, [], rfl, S17, rfl, ⟨_, _, _, _, _, H17⟩, grown_cat_ G11.out (only_of_below B16.out _)⟩
set_option maxRecDepth 100000 in
set_option maxHeartbeats 8000000 in
theorem goes_a (g : Nat) (p : PS) (vp vq vt : Value) (A B : Option Addr) (c d k : Nat) (w : World) (h : ShB g w p vp vq (.slice A (k + 4) c) (.slice B 0 d) vt) (hs : p.sv = false) (h0 : p.st = 1) (hn : k ≤ 2000) (hsz : sizL p.i0 = (k : Int) + 4) (hkd : p.i0.getD 0 0 = 2) (ht : p.tr.length ≤ 100000) (hk1 : k = 32) :
    Calls Try.prog 13 #[.pointer (some ⟨g, 0, none⟩)] w fun e w' => ∃ v l, e = .returned (.tuple #[v, .int .i64 0]) ∧ SdR w.heap.size w' v l ∧ l.map SX.e = [] ∧ (∃ vp' vq' v0' v1' vt', ShB g w' (PS.answer { p with i0 := [] } p.i0 (p.i0.drop 4)) vp' vq' v0' v1' vt') ∧ w.grownBy w' (some g) := by
  have H0 := Lib.hid h
  have HSV := Lib.hid hs
  have HST := Lib.hid h0
  have HKD := Lib.hid hkd
  have HSZ := Lib.hid hsz
  have HNL : Hid (p.i0.length = k + 4 ∧ p.i1 = []) := Lib.hid ⟨h.i0.mk.1.symm, List.length_eq_zero_iff.1 h.i1.mk.1.symm⟩
  have HK1 := Lib.hid hk1
  clear hk1
  clear h hs h0 hsz hkd
  have SA : Hid (∀ w', Below w.heap.size w w' → Calls Try.prog 19 #[.slice A (k + 4) c] w' fun e w2 => e = .returned (.int .i64 ((k : Int) + 4)) ∧ Below w'.heap.size w' w2) := Lib.hid (fun w' hb => size_b A c (k + 4) p.i0 w' (H0.out.below hb).i0.mk.2.2 H0.out.ok.bi0 HNL.out.1 (by omega) _ HSZ.out)
  have SB : Hid (∀ w', Calls Try.prog 19 #[.slice B 0 d] w' fun e w2 => e = .returned (.int .i64 0) ∧ Below w'.heap.size w' w2) := Lib.hid (fun w' => size_b B d 0 [] w' Rd.nil Byt.nil rfl (by omega) 0 sizL_nil)
  have L0 := Lib.hid H0.out.ld_in
  have ix0 := index_in0 (.slice A (k + 4) c) (.slice B 0 d)
  have ix1 := index_in1 (.slice A (k + 4) c) (.slice B 0 d)
  go_enter Try.func13, Try.ntmps13
  go_wp2_with fail
  refine wp_loop_rounds 3 ?_
  rw [rounds_succ]
  go_wp2_with ((with_reducible (show wpList _ _ _ (⟨some 17, .load _ _, _, _, _, _⟩ :: _) _ _)); refine wpList_loadV (o := ⟨some 17, .load _ _, _, _, _, _⟩) rfl _ rfl rfl (L0.out) ?_)
  refine wp_loop_rounds 3 ?_
  rw [rounds_succ]
  go_wp2_with fail
  refine Calls.mono (SA.out w (Below.refl _ _)) ?_
  rintro e w1 ⟨rfl, b1⟩
  have B1 := Lib.hid b1
  clear b1
  go_wp2_with fail
  rw [rounds_succ]
  go_wp2_with fail
  refine Calls.mono (SB.out w1) ?_
  rintro e w2 ⟨rfl, b2⟩
  have B2 := Lib.hid (B1.out.trans (b2.mono B1.out.size))
  clear b2 B1 L0
  go_wp2_with fail
  rw [rounds_succ]
  go_wp2_with fail
  refine Calls.mono (wants_a g p vp vq _ _ vt w2 (H0.out.below B2.out) HSV.out HST.out) ?_
  rintro e w3 ⟨rfl, b3⟩
  have B3 := Lib.hid (B2.out.trans (b3.mono B2.out.size))
  clear b3 B2
  have F8 : Hid (Blk (w3.alloc (.cells #[.int .u8 0, .int .u8 0, .nilFunc] 50)) w3.heap.size 50 #[.int .u8 0, .int .u8 0, .nilFunc]) := Lib.hid (Blk.new _ _ _)
  go_wp2_with ((with_reducible (show wpList _ _ _ (⟨none, .store 50 _ _, _, _, _, _⟩ :: _) _ _)); go_loud (refine wpList_storeBlk (o := ⟨none, .store 50 _ _, _, _, _, _⟩) (g := w3.heap.size) (t := 50) (vs := wtV 0 2 17) rfl _ _ rfl rfl rfl F8.out rfl (wt_one _ _ _) sizeW ?_); intro w4 z4 g4; obtain ⟨c0, c1, c2⟩ := wt_cells z4; have Z4 := Lib.hid z4; have B4 := Lib.hid (B3.out.trans ((((Below.refl w3.heap.size w3).alloc (Nat.le_refl _) _).trans (below_of_only g4 (Nat.le_refl _) (by simp))).mono B3.out.size)); have H4 := Lib.hid (H0.out.below B4.out); have q4 := H4.out.c5.2.2.1)
  go_region
  go_wp2_with fail
  refine Calls.mono (SA.out _ B4.out.drew) ?_
  rintro e w5 ⟨rfl, b5⟩
  have E5 := Lib.hid ((Below.refl w4.heap.size w4).drew.trans b5)
  have B5 := Lib.hid (B4.out.trans (E5.out.mono B4.out.size))
  have hgw := Z4.out.lt
  have HW3 := Lib.hid B3.out.size
  have Z5 := Lib.hid (Z4.out.below E5.out hgw)
  have H5 := Lib.hid (H0.out.below B5.out)
  obtain ⟨gw, hgw2⟩ : ∃ z, w3.heap.size = z := ⟨_, rfl⟩
  rw [hgw2] at Z5 HW3 ⊢
  clear b5 c0 c1 c2 q4 SA ix0 ix1 g4 F8 Z4 z4 E5 B4 H4 hgw hgw2 B3
  obtain ⟨_, c1, _⟩ := wt_cells Z5.out
  obtain ⟨ad, hA, _, _⟩ := H5.out.i0.mk.2.2 0 (by rw [HNL.out.1]; omega)
  subst hA
  have q5 := H5.out.i0.mk.2.2.at0 (by rw [HNL.out.1]; omega)
  rw [HKD.out] at q5
  go_wp2_with fail
  go_region
  go_wp2_with fail
  have D6 := (Below.refl w5.heap.size w5).drew
  have H6 := Lib.hid (H5.out.below D6)
  have Z6 := Lib.hid (Z5.out.below D6 Z5.out.lt)
  have B6 := Lib.hid (B5.out.trans (D6.mono B5.out.size))
  clear D6 H5 Z5 B5 c1 q5
  generalize w5.drew = w6 at *
  have HML : Hid ((k : Int) + 4 = p.i0.length) := Lib.hid (by rw [HNL.out.1]; push_cast; rfl)
  obtain ⟨hcM, RM⟩ := H6.out.i0.mk.2
  obtain ⟨A7, c7, _, _, r7, l7, run7⟩ := slice_l elC RM (by rw [HNL.out.1]; exact hcM) ((k : Int) + 4) 0 (by omega) (by rw [HML.out]; exact Int.le_refl _) (by rw [HML.out]; omega)
  rw [HNL.out.1] at run7
  have R7 := Lib.hid r7
  have L7 := Lib.hid l7
  clear r7 l7 RM hcM
  have cw : ∀ r : BW w6.heap.size w6, r.world.cell? ⟨gw, 0, none⟩ = some (.int .u8 0) := fun r => (wt_cells (Z6.out.below r.below Z6.out.lt)).1
  refine wp_region_mixOB w6.heap.size [([0, 1, 2, 3, 4, 5, 7, 8, 9], 6), ([10], 11)] (by kernel_rfl) (by kernel_rfl) (by kernel_rfl) (by kernel_rfl) (by kernel_rfl) ?_
  try (rw [put_none])
  simp only [pickL, List.map_cons, List.map_nil, List.filterMap_cons, List.filterMap_nil, List.getElem?_cons_succ, List.getElem?_cons_zero]
  refine mixO_cons ?_
  repeat (show wpQuiet _ _ _ _ (_ :: _) _; go_big_quiet_step (fail))
  refine wpQuiet_nil ?_
  show wpList _ _ _ [_] _ _
  go_wp2_with fail
  clear run7 cw
  refine Calls.mono (clone_n A7 c7 0 _ _ (R7.out.below (Below.refl w6.heap.size w6).drew (Nat.le_refl _)) L7.out.symm (by omega)) ?_
  rintro e w7 ⟨A9, n9, c9, rfl, o9, b9⟩
  have HNE : Hid (p.i0.drop ((k : Int) + 4).toNat = []) := Lib.hid (List.length_eq_zero_iff.1 L7.out)
  have hn9 : n9 = 0 := by rw [o9.len, L7.out]
  subst hn9
  rw [HNE.out] at o9
  have O9 := Lib.hid (SlT.own o9)
  have E7 := Lib.hid ((Below.refl w6.heap.size w6).drew.trans b9)
  clear b9 o9 R7 L7 HNE
  have H7 := Lib.hid (H6.out.below E7.out)
  have Z7 := Lib.hid (Z6.out.below E7.out Z6.out.lt)
  have B7 := Lib.hid (B6.out.trans (E7.out.mono B6.out.size))
  have q7 := H7.out.c5.2.2.1
  have f7 := H7.out.fz 100
  have FM := Lib.hid (H7.out.i0.rdF H7.out)
  have hgg : gw ≠ g := Blk.ne_ Z7.out H7.out.blk (by decide)
  go_wp2_with fail
  refine MixO.narrowB E7.out E7.out.size ?_
  refine mixO_cons ?_
  repeat (show wpQuiet _ _ _ _ (_ :: _) _; go_big_quiet_step (fail))
  refine wpQuiet_nil ?_
  show wpList _ _ _ [_] _ _
  go_wp2_with fail
  refine MixO.last ?_
  refine mixO_nil ?_
  refine wpQuiet_nil ?_
  refine NoPanic.normal ?_
  have H8 := Lib.hid (H7.out.set_i0 (SlT.below O9.out (Below.refl _ _)) Byt.nil)
  have g8 := grown_st (p := ⟨g, 100, none⟩) (v := .slice A9 0 c9) (World.grownBy.refl w7 (some g)) rfl
  have G8 := Lib.hid (grown_cat_ (only_of_below B7.out (some g)) g8)
  have Z8 := Lib.hid (Z7.out.grown g8 (by intro q; injection q with q; exact hgg q))
  have FM8 := Lib.hid (FM.out.grown g8)
  have HBM := Lib.hid H7.out.ok.bi0
  have hcM := H7.out.i0.mk.2.1
  clear g8 q7 f7 H7 Z7 B7 FM O9 E7
  generalize w7.setCell ⟨g, 100, none⟩ (.slice A9 0 c9) = w8 at *
  obtain ⟨A10, c10, hc10, r10, bl10, run10⟩ := slice_lhB elC FM8.out.1 HNL.out.1 hcM 4 ((k : Int) + 4) k (by omega) (by omega) (by push_cast; omega) (by omega)
  have HD4 : Hid (((p.i0.drop (4 : Int).toNat).take k) = p.i0.drop 4 ∧ (p.i0.drop 4).length = k) := Lib.hid ⟨List.take_of_length_le (by rw [List.length_drop, HNL.out.1]; show k + 4 - 4 ≤ k; omega), by rw [List.length_drop, HNL.out.1]; omega⟩
  rw [HD4.out.1] at r10
  have FB8 : Hid (RdF g w8 A10 (p.i0.drop 4)) := Lib.hid ⟨r10, fun ad' q => by
    obtain ⟨ad2, e2, e3⟩ := bl10 ad' q
    rw [e3]; exact FM8.out.2 ad2 e2⟩
  clear r10 bl10
  have D8 := Lib.hid (Below.refl w8.heap.size w8).drew
  have H9 := Lib.hid (H8.out.below D8.out)
  have FM9 := Lib.hid (FM8.out.below D8.out)
  have FB9 := Lib.hid (FB8.out.below D8.out)
  have HNB : Hid (Byt p.i0 ∧ Byt (p.i0.drop 4)) := Lib.hid ⟨HBM.out, HBM.out.drop 4⟩
  have hne : Nonempty (CW (fun v : World => Blk v gw 50 (wtV 0 2 17).toArray)) := CW.inh Z8.out
  have cf : ∀ r : CW (fun v : World => Blk v gw 50 (wtV 0 2 17).toArray), r.world.cell? ⟨gw, 2, none⟩ = some (.func (Fn.func 17) #[] #[]) := fun r => (wt_cells r.holds).2.2
  go_wp2_with fail
  refine wp_region_mix_class (fun v : World => Blk v gw 50 (wtV 0 2 17).toArray) [([0, 1, 2, 3, 4, 5, 6, 7, 8], 9)] [10, 11, 12, 13, 14] (by kernel_rfl) (by kernel_rfl) (by kernel_rfl) (by kernel_rfl) Z8.out.drew ?_
  simp only [pickL, List.map_cons, List.map_nil, List.filterMap_cons, List.filterMap_nil, List.getElem?_cons_succ, List.getElem?_cons_zero]
  refine mixS_cons ?_
  repeat (show wpQuiet _ _ _ _ (_ :: _) _; go_big_quiet_step (fail))
  refine wpQuiet_nil ?_
  show wpList _ _ _ [_] _ _
  go_wp2_with fail
  clear run10 cf
  refine Calls.mono (answer_k g _ vp vq _ _ vt (some ad) (k + 4) c p.i0 A10 k c10 (p.i0.drop 4) _ H9.out FM9.out HNL.out.1 HNB.out.1 FB9.out HD4.out.2 HK1.out HNB.out.2 (by omega) ht) ?_
  rintro e w10 ⟨rfl, ⟨vt2, h10⟩, g10⟩
  have sd := SdR.nil w8.drew.heap.size w10
  have SD := Lib.hid sd
  have H10 := Lib.hid h10
  have G10 := Lib.hid (grown_cat_ G8.out (grown_cat_ (only_of_below D8.out (some g)) g10))
  have Z10 := Lib.hid (Z8.out.drew.grown g10 (by intro q; injection q with q; exact hgg q))
  clear sd h10 g10 H8 H9 FM8 FM9 FB8 FB9 G8 Z8 D8
  go_wp2_with fail
  refine MixQ.class Z10.out ?_
  refine mixS_nil ?_
  repeat (show wpQuiet _ _ _ _ (_ :: _) _; go_big_quiet_step (fail))
  refine wpQuiet_nil ?_
  refine NoPanic.normal ?_
  have HZ10 := Lib.hid G10.out.size
  go_wp2_with (at_builtin; go_loud (refine wpList_appS (o := ⟨some 89, _, _, _, _, _⟩) rfl _ _ rfl rfl rfl (SdR.nil w.heap.size _) SD.out ?_ HZ10.out ?_); (simp); intro v11 w11 sd11 hfr11 b11; have S11 := Lib.hid sd11; have H11 := Lib.hid (H10.out.fr hfr11); have G11 := Lib.hid (grown_low G10.out b11); clear sd11 hfr11 b11)
  have SC : Hid (∀ w', Calls Try.prog 19 #[.slice A9 0 c9] w' fun e w2 => e = .returned (.int .i64 0) ∧ Below w'.heap.size w' w2) := Lib.hid (fun w' => size_b A9 c9 0 [] w' Rd.nil Byt.nil rfl (by omega) 0 sizL_nil)
  have L11 := Lib.hid H11.out.ld_in
  have iy0 := index_in0 (.slice A9 0 c9) (.slice B 0 d)
  have iy1 := index_in1 (.slice A9 0 c9) (.slice B 0 d)
  clear SD H10 G10 Z10 HZ10
  rw [rounds_succ]
  go_wp2_with ((with_reducible (show wpList _ _ _ (⟨some 17, .load _ _, _, _, _, _⟩ :: _) _ _)); refine wpList_loadV (o := ⟨some 17, .load _ _, _, _, _, _⟩) rfl _ rfl rfl (L11.out) ?_)
  refine wp_loop_rounds 3 ?_
  rw [rounds_succ]
  go_wp2_with fail
  refine Calls.mono (SC.out _) ?_
  rintro e w12 ⟨rfl, b12⟩
  have B12 := Lib.hid b12
  clear b12
  go_wp2_with fail
  rw [rounds_succ]
  go_wp2_with fail
  refine Calls.mono (SB.out _) ?_
  rintro e w13 ⟨rfl, b13⟩
  have B13 := Lib.hid (B12.out.trans (b13.mono B12.out.size))
  clear b13 B12 L11
  go_wp2_with fail
  rw [rounds_succ]
  go_wp2_with fail
  refine Calls.mono (wants_f g _ _ _ _ _ _ w13 (H11.out.below B13.out) HSV.out rfl) ?_
  rintro e w14 ⟨rfl, b14⟩
  have B14 := Lib.hid (B13.out.trans (b14.mono B13.out.size))
  clear b14 B13
  have F14 : Hid (Blk (w14.alloc (.cells #[.int .u8 0, .int .u8 0, .nilFunc] 50)) w14.heap.size 50 #[.int .u8 0, .int .u8 0, .nilFunc]) := Lib.hid (Blk.new _ _ _)
  go_wp2_with ((with_reducible (show wpList _ _ _ (⟨none, .store 50 _ _, _, _, _, _⟩ :: _) _ _)); go_loud (refine wpList_storeBlk (o := ⟨none, .store 50 _ _, _, _, _, _⟩) (g := w14.heap.size) (t := 50) (vs := wtV 1 20 18) rfl _ _ rfl rfl rfl F14.out rfl (wt_one _ _ _) sizeW ?_); intro w15 z15 g15; obtain ⟨d0, d1, d2⟩ := wt_cells z15; have B15 := Lib.hid (B14.out.trans ((((Below.refl w14.heap.size w14).alloc (Nat.le_refl _) _).trans (below_of_only g15 (Nat.le_refl _) (by simp))).mono B14.out.size)); have H15 := Lib.hid (H11.out.below B15.out); have q15 := H15.out.c5.2.2.2.1)
  go_region
  go_wp2_with fail
  refine Calls.mono (SB.out _) ?_
  rintro e w16 ⟨rfl, b16⟩
  have B16 := Lib.hid (B15.out.drew.trans (b16.mono B15.out.size))
  clear b16 d0 d1 d2 q15 z15 g15 B14 B15 F14
  go_wp2_with fail
  have H17 := H11.out.below B16.out
  have S17 := S11.out.below B16.out
  exact bodyPost_ret (results_tmp2 rfl _ _ _) rfl ⟨v11, [], rfl, S17, rfl, ⟨_, _, _, _, _, H17⟩, grown_cat_ G11.out (only_of_below B16.out _)⟩
set_option maxRecDepth 100000 in
set_option maxHeartbeats 8000000 in
theorem goes_f (g : Nat) (p : PS) (vp vq vt : Value) (A B : Option Addr) (c d k : Nat) (w : World) (h : ShB g w p vp vq (.slice B 0 d) (.slice A (k + 4) c) vt) (hs : p.sv = false) (h0 : p.st = 2) (hn : k ≤ 2000) (hsz : sizL p.i1 = (k : Int) + 4) (hkd : p.i1.getD 0 0 = 20) (ht : p.tr.length ≤ 100000) (X : List Int) (hX : X.length ≤ 1000) (hbX : Byt X) (hbd : p.i1.drop 4 = X ++ proL p.a0 (p.tr ++ X)) :
    Calls Try.prog 13 #[.pointer (some ⟨g, 0, none⟩)] w fun e w' => ∃ v l, e = .returned (.tuple #[v, .int .i64 0]) ∧ SdR w.heap.size w' v l ∧ l.map SX.e = [(1, msgL 20 (proL p.c0 (p.tr ++ p.i1)))] ∧ (∃ vp' vq' v0' v1' vt', ShB g w' (PS.finish { p with i1 := [] } p.i1 X) vp' vq' v0' v1' vt') ∧ w.grownBy w' (some g) := by
  have H0 := Lib.hid h
  have HSV := Lib.hid hs
  have HST := Lib.hid h0
  have HKD := Lib.hid hkd
  have HSZ := Lib.hid hsz
  have HNL : Hid (p.i1.length = k + 4 ∧ p.i0 = []) := Lib.hid ⟨h.i1.mk.1.symm, List.length_eq_zero_iff.1 h.i0.mk.1.symm⟩
  clear h hs h0 hsz hkd
  have SA : Hid (∀ w', Below w.heap.size w w' → Calls Try.prog 19 #[.slice A (k + 4) c] w' fun e w2 => e = .returned (.int .i64 ((k : Int) + 4)) ∧ Below w'.heap.size w' w2) := Lib.hid (fun w' hb => size_b A c (k + 4) p.i1 w' (H0.out.below hb).i1.mk.2.2 H0.out.ok.bi1 HNL.out.1 (by omega) _ HSZ.out)
  have SB : Hid (∀ w', Calls Try.prog 19 #[.slice B 0 d] w' fun e w2 => e = .returned (.int .i64 0) ∧ Below w'.heap.size w' w2) := Lib.hid (fun w' => size_b B d 0 [] w' Rd.nil Byt.nil rfl (by omega) 0 sizL_nil)
  have L0 := Lib.hid H0.out.ld_in
  have ix0 := index_in0 (.slice B 0 d) (.slice A (k + 4) c)
  have ix1 := index_in1 (.slice B 0 d) (.slice A (k + 4) c)
  go_enter Try.func13, Try.ntmps13
  go_wp2_with fail
  refine wp_loop_rounds 3 ?_
  rw [rounds_succ]
  go_wp2_with ((with_reducible (show wpList _ _ _ (⟨some 17, .load _ _, _, _, _, _⟩ :: _) _ _)); refine wpList_loadV (o := ⟨some 17, .load _ _, _, _, _, _⟩) rfl _ rfl rfl (L0.out) ?_)
  refine wp_loop_rounds 3 ?_
  rw [rounds_succ]
  go_wp2_with fail
  refine Calls.mono (SB.out w) ?_
  rintro e w1 ⟨rfl, b1⟩
  have B1 := Lib.hid b1
  clear b1
  go_wp2_with fail
  rw [rounds_succ]
  go_wp2_with fail
  refine Calls.mono (SA.out w1 B1.out) ?_
  rintro e w2 ⟨rfl, b2⟩
  have B2 := Lib.hid (B1.out.trans (b2.mono B1.out.size))
  clear b2 B1 L0
  go_wp2_with fail
  rw [rounds_succ]
  go_wp2_with fail
  refine Calls.mono (wants_f g p vp vq _ _ vt w2 (H0.out.below B2.out) HSV.out HST.out) ?_
  rintro e w3 ⟨rfl, b3⟩
  have B3 := Lib.hid (B2.out.trans (b3.mono B2.out.size))
  clear b3 B2
  have F8 : Hid (Blk (w3.alloc (.cells #[.int .u8 0, .int .u8 0, .nilFunc] 50)) w3.heap.size 50 #[.int .u8 0, .int .u8 0, .nilFunc]) := Lib.hid (Blk.new _ _ _)
  go_wp2_with ((with_reducible (show wpList _ _ _ (⟨none, .store 50 _ _, _, _, _, _⟩ :: _) _ _)); go_loud (refine wpList_storeBlk (o := ⟨none, .store 50 _ _, _, _, _, _⟩) (g := w3.heap.size) (t := 50) (vs := wtV 1 20 18) rfl _ _ rfl rfl rfl F8.out rfl (wt_one _ _ _) sizeW ?_); intro w4 z4 g4; obtain ⟨c0, c1, c2⟩ := wt_cells z4; have Z4 := Lib.hid z4; have B4 := Lib.hid (B3.out.trans ((((Below.refl w3.heap.size w3).alloc (Nat.le_refl _) _).trans (below_of_only g4 (Nat.le_refl _) (by simp))).mono B3.out.size)); have H4 := Lib.hid (H0.out.below B4.out); have q4 := H4.out.c5.2.2.2.1)
  go_region
  go_wp2_with fail
  refine Calls.mono (SA.out _ B4.out.drew) ?_
  rintro e w5 ⟨rfl, b5⟩
  have E5 := Lib.hid ((Below.refl w4.heap.size w4).drew.trans b5)
  have B5 := Lib.hid (B4.out.trans (E5.out.mono B4.out.size))
  have hgw := Z4.out.lt
  have HW3 := Lib.hid B3.out.size
  have Z5 := Lib.hid (Z4.out.below E5.out hgw)
  have H5 := Lib.hid (H0.out.below B5.out)
  obtain ⟨gw, hgw2⟩ : ∃ z, w3.heap.size = z := ⟨_, rfl⟩
  rw [hgw2] at Z5 HW3 ⊢
  clear b5 c0 c1 c2 q4 SA ix0 ix1 g4 F8 Z4 z4 E5 B4 H4 hgw hgw2 B3
  obtain ⟨_, c1, _⟩ := wt_cells Z5.out
  obtain ⟨ad, hA, _, _⟩ := H5.out.i1.mk.2.2 0 (by rw [HNL.out.1]; omega)
  subst hA
  have q5 := H5.out.i1.mk.2.2.at0 (by rw [HNL.out.1]; omega)
  rw [HKD.out] at q5
  go_wp2_with fail
  go_region
  go_wp2_with fail
  have D6 := (Below.refl w5.heap.size w5).drew
  have H6 := Lib.hid (H5.out.below D6)
  have Z6 := Lib.hid (Z5.out.below D6 Z5.out.lt)
  have B6 := Lib.hid (B5.out.trans (D6.mono B5.out.size))
  clear D6 H5 Z5 B5 c1 q5
  generalize w5.drew = w6 at *
  have HML : Hid ((k : Int) + 4 = p.i1.length) := Lib.hid (by rw [HNL.out.1]; push_cast; rfl)
  obtain ⟨hcM, RM⟩ := H6.out.i1.mk.2
  obtain ⟨A7, c7, _, _, r7, l7, run7⟩ := slice_l elC RM (by rw [HNL.out.1]; exact hcM) ((k : Int) + 4) 0 (by omega) (by rw [HML.out]; exact Int.le_refl _) (by rw [HML.out]; omega)
  rw [HNL.out.1] at run7
  have R7 := Lib.hid r7
  have L7 := Lib.hid l7
  clear r7 l7 RM hcM
  have cw : ∀ r : BW w6.heap.size w6, r.world.cell? ⟨gw, 0, none⟩ = some (.int .u8 1) := fun r => (wt_cells (Z6.out.below r.below Z6.out.lt)).1
  refine wp_region_mixOB w6.heap.size [([0, 1, 2, 3, 4, 5, 7, 8, 9], 6), ([10], 11)] (by kernel_rfl) (by kernel_rfl) (by kernel_rfl) (by kernel_rfl) (by kernel_rfl) ?_
  try (rw [put_none])
  simp only [pickL, List.map_cons, List.map_nil, List.filterMap_cons, List.filterMap_nil, List.getElem?_cons_succ, List.getElem?_cons_zero]
  refine mixO_cons ?_
  repeat (show wpQuiet _ _ _ _ (_ :: _) _; go_big_quiet_step (fail))
  refine wpQuiet_nil ?_
  show wpList _ _ _ [_] _ _
  go_wp2_with fail
  clear run7 cw
  refine Calls.mono (clone_n A7 c7 0 _ _ (R7.out.below (Below.refl w6.heap.size w6).drew (Nat.le_refl _)) L7.out.symm (by omega)) ?_
  rintro e w7 ⟨A9, n9, c9, rfl, o9, b9⟩
  have HNE : Hid (p.i1.drop ((k : Int) + 4).toNat = []) := Lib.hid (List.length_eq_zero_iff.1 L7.out)
  have hn9 : n9 = 0 := by rw [o9.len, L7.out]
  subst hn9
  rw [HNE.out] at o9
  have O9 := Lib.hid (SlT.own o9)
  have E7 := Lib.hid ((Below.refl w6.heap.size w6).drew.trans b9)
  clear b9 o9 R7 L7 HNE
  have H7 := Lib.hid (H6.out.below E7.out)
  have Z7 := Lib.hid (Z6.out.below E7.out Z6.out.lt)
  have B7 := Lib.hid (B6.out.trans (E7.out.mono B6.out.size))
  have q7 := H7.out.c5.2.2.2.1
  have f7 := H7.out.fz 101
  have FM := Lib.hid (H7.out.i1.rdF H7.out)
  have hgg : gw ≠ g := Blk.ne_ Z7.out H7.out.blk (by decide)
  go_wp2_with fail
  refine MixO.narrowB E7.out E7.out.size ?_
  refine mixO_cons ?_
  repeat (show wpQuiet _ _ _ _ (_ :: _) _; go_big_quiet_step (fail))
  refine wpQuiet_nil ?_
  show wpList _ _ _ [_] _ _
  go_wp2_with fail
  refine MixO.last ?_
  refine mixO_nil ?_
  refine wpQuiet_nil ?_
  refine NoPanic.normal ?_
  have H8 := Lib.hid (H7.out.set_i1 (SlT.below O9.out (Below.refl _ _)) Byt.nil)
  have g8 := grown_st (p := ⟨g, 101, none⟩) (v := .slice A9 0 c9) (World.grownBy.refl w7 (some g)) rfl
  have G8 := Lib.hid (grown_cat_ (only_of_below B7.out (some g)) g8)
  have Z8 := Lib.hid (Z7.out.grown g8 (by intro q; injection q with q; exact hgg q))
  have FM8 := Lib.hid (FM.out.grown g8)
  have HBM := Lib.hid H7.out.ok.bi1
  have hcM := H7.out.i1.mk.2.1
  clear g8 q7 f7 H7 Z7 B7 FM O9 E7
  generalize w7.setCell ⟨g, 101, none⟩ (.slice A9 0 c9) = w8 at *
  obtain ⟨A10, c10, hc10, r10, bl10, run10⟩ := slice_lhB elC FM8.out.1 HNL.out.1 hcM 4 ((k : Int) + 4) k (by omega) (by omega) (by push_cast; omega) (by omega)
  have HD4 : Hid (((p.i1.drop (4 : Int).toNat).take k) = p.i1.drop 4 ∧ (p.i1.drop 4).length = k) := Lib.hid ⟨List.take_of_length_le (by rw [List.length_drop, HNL.out.1]; show k + 4 - 4 ≤ k; omega), by rw [List.length_drop, HNL.out.1]; omega⟩
  rw [HD4.out.1] at r10
  have FB8 : Hid (RdF g w8 A10 (p.i1.drop 4)) := Lib.hid ⟨r10, fun ad' q => by
    obtain ⟨ad2, e2, e3⟩ := bl10 ad' q
    rw [e3]; exact FM8.out.2 ad2 e2⟩
  clear r10 bl10
  have D8 := Lib.hid (Below.refl w8.heap.size w8).drew
  have H9 := Lib.hid (H8.out.below D8.out)
  have FM9 := Lib.hid (FM8.out.below D8.out)
  have FB9 := Lib.hid (FB8.out.below D8.out)
  have HNB : Hid (Byt p.i1 ∧ Byt (p.i1.drop 4)) := Lib.hid ⟨HBM.out, HBM.out.drop 4⟩
  have hne : Nonempty (CW (fun v : World => Blk v gw 50 (wtV 1 20 18).toArray)) := CW.inh Z8.out
  have cf : ∀ r : CW (fun v : World => Blk v gw 50 (wtV 1 20 18).toArray), r.world.cell? ⟨gw, 2, none⟩ = some (.func (Fn.func 18) #[] #[]) := fun r => (wt_cells r.holds).2.2
  go_wp2_with fail
  refine wp_region_mix_class (fun v : World => Blk v gw 50 (wtV 1 20 18).toArray) [([0, 1, 2, 3, 4, 5, 6, 7, 8], 9)] [10, 11, 12, 13, 14] (by kernel_rfl) (by kernel_rfl) (by kernel_rfl) (by kernel_rfl) Z8.out.drew ?_
  simp only [pickL, List.map_cons, List.map_nil, List.filterMap_cons, List.filterMap_nil, List.getElem?_cons_succ, List.getElem?_cons_zero]
  refine mixS_cons ?_
  repeat (show wpQuiet _ _ _ _ (_ :: _) _; go_big_quiet_step (fail))
  refine wpQuiet_nil ?_
  show wpList _ _ _ [_] _ _
  go_wp2_with fail
  clear run10 cf
  refine Calls.mono (finish_any g _ vp vq _ _ vt (some ad) (k + 4) c p.i1 A10 k c10 X (p.i1.drop 4) _ H9.out FM9.out HNL.out.1 HNB.out.1 FB9.out hbd HD4.out.2 hc10 hbX hX (by omega) ht) ?_
  rintro e w10 ⟨vS, x, rfl, sd, hx, ⟨vq2, vt2, h10⟩, g10⟩
  obtain ⟨AS, cS, rfl, _⟩ := sd.form
  have SD := Lib.hid sd
  have H10 := Lib.hid h10
  have G10 := Lib.hid (grown_cat_ G8.out (grown_cat_ (only_of_below D8.out (some g)) g10))
  have Z10 := Lib.hid (Z8.out.drew.grown g10 (by intro q; injection q with q; exact hgg q))
  clear sd h10 g10 H8 H9 FM8 FM9 FB8 FB9 G8 Z8 D8
  simp only [List.length_cons, List.length_nil, Nat.zero_add]
  go_wp2_with fail
  refine MixQ.class Z10.out ?_
  refine mixS_nil ?_
  repeat (show wpQuiet _ _ _ _ (_ :: _) _; go_big_quiet_step (fail))
  refine wpQuiet_nil ?_
  refine NoPanic.normal ?_
  have HZ10 := Lib.hid G10.out.size
  go_wp2_with (at_builtin; go_loud (refine wpList_appS (o := ⟨some 89, _, _, _, _, _⟩) rfl _ _ rfl rfl rfl (SdR.nil w.heap.size _) SD.out ?_ HZ10.out ?_); (simp); intro v11 w11 sd11 hfr11 b11; have S11 := Lib.hid sd11; have H11 := Lib.hid (H10.out.fr hfr11); have G11 := Lib.hid (grown_low G10.out b11); clear sd11 hfr11 b11)
  have SC : Hid (∀ w', Calls Try.prog 19 #[.slice A9 0 c9] w' fun e w2 => e = .returned (.int .i64 0) ∧ Below w'.heap.size w' w2) := Lib.hid (fun w' => size_b A9 c9 0 [] w' Rd.nil Byt.nil rfl (by omega) 0 sizL_nil)
  have L11 := Lib.hid H11.out.ld_in
  have iy0 := index_in0 (.slice B 0 d) (.slice A9 0 c9)
  have iy1 := index_in1 (.slice B 0 d) (.slice A9 0 c9)
  clear SD H10 G10 Z10 HZ10
  rw [rounds_succ]
  go_wp2_with ((with_reducible (show wpList _ _ _ (⟨some 17, .load _ _, _, _, _, _⟩ :: _) _ _)); refine wpList_loadV (o := ⟨some 17, .load _ _, _, _, _, _⟩) rfl _ rfl rfl (L11.out) ?_)
  refine wp_loop_rounds 3 ?_
  rw [rounds_succ]
  go_wp2_with fail
  refine Calls.mono (SB.out _) ?_
  rintro e w12 ⟨rfl, b12⟩
  have B12 := Lib.hid b12
  clear b12
  go_wp2_with fail
  rw [rounds_succ]
  go_wp2_with fail
  refine Calls.mono (SC.out _) ?_
  rintro e w13 ⟨rfl, b13⟩
  have B13 := Lib.hid (B12.out.trans (b13.mono B12.out.size))
  clear b13 B12 L11
  go_wp2_with fail
  rw [rounds_succ]
  go_wp2_with fail
  refine Calls.mono (wants_no g _ _ _ _ _ _ w13 (H11.out.below B13.out) (fun _ => ⟨by show (100 : Int) ≠ 1; decide, by show (100 : Int) ≠ 2; decide⟩) (fun _ => ⟨by show (100 : Int) ≠ 0; decide, by show (100 : Int) ≠ 3; decide⟩)) ?_
  rintro e w14 ⟨rfl, b14⟩
  have B14 := Lib.hid (B13.out.trans (b14.mono B13.out.size))
  clear b14 B13
  have F14 : Hid (Blk (w14.alloc (.cells #[.int .u8 0, .int .u8 0, .nilFunc] 50)) w14.heap.size 50 #[.int .u8 0, .int .u8 0, .nilFunc]) := Lib.hid (Blk.new _ _ _)
  go_wp2_with ((with_reducible (show wpList _ _ _ (⟨none, .store 50 _ _, _, _, _, _⟩ :: _) _ _)); go_loud (refine wpList_storeBlk (o := ⟨none, .store 50 _ _, _, _, _, _⟩) (g := w14.heap.size) (t := 50) (vs := wtZ) rfl _ _ rfl rfl rfl F14.out rfl (by intro v hv; unfold wtZ at hv; simp only [List.mem_cons, List.not_mem_nil, or_false] at hv; rcases hv with rfl | rfl | rfl <;> rfl) sizeW ?_); intro w15 z15 g15; have B15 := Lib.hid (B14.out.trans ((((Below.refl w14.heap.size w14).alloc (Nat.le_refl _) _).trans (below_of_only g15 (Nat.le_refl _) (by simp))).mono B14.out.size)); have H15 := Lib.hid (H11.out.below B15.out); have q15 := H15.out.c5.2.2.1; have q16 := H15.out.c5.2.2.2.1)
  go_region
  have B16 := Lib.hid B15.out.drew
  clear q15 q16 z15 g15 B14 B15 F14
  go_wp2_with fail
  have H17 := H11.out.below B16.out
  have S17 := S11.out.below B16.out
  exact bodyPost_ret (results_tmp2 rfl _ _ _) rfl ⟨v11, [x], rfl, S17, by simp [hx], ⟨_, _, _, _, _, H17⟩, grown_cat_ G11.out (only_of_below B16.out _)⟩
end Go.Proofs.Ythknncdhjicklaa
