/- Contract of gcm: Open. Conditions: as each theorem states them. -/
import Derived.Test.YtepkbllcaeceeaaG11
namespace Go.Proofs.Ytepkbllcaeceeaa
open Go.RowKit
theorem slice_hN {P : Program} {t e : TypeId} {k : IntKind} {bytes B n c : Nat} {w : World} {A : Option Addr} {xs : List Int} (E : ElT P t e k bytes) (hr : Rd B k w A xs) (hn : xs.length = n) (hc : n ≤ c) (m : Nat) (h2 : m ≤ n) :
    ∃ A' c', m ≤ c' ∧ c' ≤ c ∧ Rd B k w A' (xs.take m) ∧ (xs.take m).length = m ∧
      ∀ (w : World) (kh : IntKind), (Instr.sliceAt t (.slice A n c) none (some (.int kh (m : Int))) none).run P w = .ok (.slice A' m c') w := by
  subst hn; exact slice_h E hr hc (m : Int) m (by omega) rfl
theorem neq16 {X Y : List Int} (hX : X.length = 16) (hY : Y.length = 16) (hbX : Byt X) (hbY : Byt Y) (w : World) : (binOp .neq 32 (.agg (cellsL .u8 X)) (.agg (cellsL .u8 Y))).run Try.prog w = .ok (.bool (!decide (X = Y))) w := by
  have h := eql16E hX hY hbX hbY w
  rw [run_eql_struct] at h
  rw [run_neq_struct]
  generalize (Op.equalIn 10000 32 (.agg (cellsL .u8 X)) (.agg (cellsL .u8 Y))).run Try.prog w = R at *
  cases R with
  | ok b w' =>
    simp only [Result.andThen_ok] at h ⊢
    injection h with h1 h2
    injection h1 with h1
    rw [h1, h2]
  | halt x w' => cases h
/-- what Open hands back -/
def OpenPost (o : Option (List Int)) (w : World) (e : Ending) (w' : World) : Prop :=
  match o with
  | some T => RetOwn2 5 .u8 T (.bool true) w e w'
  | none => e = .returned (.tuple #[.slice none 0 0, .bool false]) ∧ Below w.heap.size w w'
set_option maxRecDepth 100000 in
set_option maxHeartbeats 8000000 in
theorem gopen_short (n1 c1 n2 c2 : Nat) (A1 A2 : Option Addr) (K nonce aad text : List Int) (w : World) (h2 : text.length = n2) (hs : n2 < 16) :
    Calls Try.prog 39 #[.agg (cellsL .u8 K), .agg (cellsL .u8 nonce), .slice A1 n1 c1, .slice A2 n2 c2] w (OpenPost (gopenL K nonce aad text) w) := by
  have HG : Hid (gopenL K nonce aad text = none) := Lib.hid (by unfold gopenL; rw [if_pos (by omega)])
  rw [HG.out]
  clear h2
  have B0 : Hid (Below w.heap.size w ((w.alloc (.cells (cellsL .u8 K) 32)).alloc (.cells (cellsL .u8 nonce) 51))) := Lib.hid (((Below.refl _ _).alloc (Nat.le_refl _) _).alloc (by simp) _)
  go_enter Try.func39, Try.ntmps39
  go_wp2_with fail
  go_ret2
  exact ⟨rfl, B0.out⟩
set_option maxRecDepth 100000 in
set_option maxHeartbeats 8000000 in
theorem gopen_long (n1 c1 m c2 : Nat) (A1 A2 : Option Addr) (K nonce aad text : List Int) (w : World) (hK : Blk16 K) (hn : nonce.length = 12) (hnb : Byt nonce) (h1 : aad.length = n1) (h2 : text.length = m + 16) (hc2 : m + 16 ≤ c2) (hb1 : Byt aad) (hb2 : Byt text)
    (hl1 : n1 ≤ 5000) (hl2 : m ≤ 5000) (hr1 : Rd w.heap.size .u8 w A1 aad) (hr2 : Rd w.heap.size .u8 w A2 text) :
    Calls Try.prog 39 #[.agg (cellsL .u8 K), .agg (cellsL .u8 nonce), .slice A1 n1 c1, .slice A2 (m + 16) c2] w (OpenPost (gopenL K nonce aad text) w) := by
  have HK := Lib.hid hK
  have HN := Lib.hid hn
  have HNB := Lib.hid hnb
  have HL1 := Lib.hid h1
  have HL2 := Lib.hid h2
  have HB1 := Lib.hid hb1
  have HR1 := Lib.hid hr1
  have HR2 := Lib.hid hr2
  have HGE : Hid (gopenL K nonce aad text = if tagL K nonce aad (text.take m) = text.drop m then some (turnL K nonce (text.take m)) else none) := Lib.hid (by unfold gopenL; rw [if_neg (by omega), h2, Nat.add_sub_cancel])
  have HTB := Lib.hid (hb2.take m)
  have HDB := Lib.hid (hb2.drop m)
  have HDL : Hid ((text.drop m).length = 16) := Lib.hid (by rw [List.length_drop, h2]; omega)
  have HTL : Hid ((text.take m).length = m) := Lib.hid (by rw [List.length_take, h2]; omega)
  have HUL : Hid ((turnL K nonce (text.take m)).length = m) := Lib.hid (by rw [turnL_len, List.length_take, h2]; omega)
  have HGL := Lib.hid (tagL_len hK hn hnb aad (text.take m))
  have HGB := Lib.hid (tagL_byt K nonce aad (text.take m))
  obtain ⟨A3, c3, s1, s2, s3, s4, s5⟩ := slice_hN elB8 hr2 h2 hc2 m (by omega)
  obtain ⟨A4, c4, t1, t2, t3, t4, t5⟩ := slice_lN elB8 hr2 h2 hc2 (m : Int) 16 (by omega) (by omega) (by omega)
  rw [Int.toNat_natCast] at t3 t4
  have S3 := Lib.hid s3
  have T3 := Lib.hid t3
  have HSB : Hid (∀ gc, Try.prog.built 90 [(0, .pointer (some ⟨gc, 0, none⟩)), (1, .agg (cellsL .u8 nonce))] = some (stV gc nonce).toArray) := Lib.hid (fun gc => st_built gc hn)
  have B0 : Hid (Below w.heap.size w ((w.alloc (.cells (cellsL .u8 K) 32)).alloc (.cells (cellsL .u8 nonce) 51))) := Lib.hid (((Below.refl _ _).alloc (Nat.le_refl _) _).alloc (by simp) _)
  have K0 : Hid (Arr ((w.alloc (.cells (cellsL .u8 K) 32)).alloc (.cells (cellsL .u8 nonce) 51)) w.heap.size 32 .u8 K) := Lib.hid ((Arr.newAt rfl rfl).alloc _)
  have N0 : Hid (Arr ((w.alloc (.cells (cellsL .u8 K) 32)).alloc (.cells (cellsL .u8 nonce) 51)) (w.heap.size + 1) 51 .u8 nonce) := Lib.hid (Arr.newAt (by simp) rfl)
  clear hK hn hnb h1 h2 hb1 hb2 hr1 hr2 s3 s4 t3 t4
  generalize text.take m = T at *
  generalize text.drop m = D at *
  go_enter Try.func39, Try.ntmps39
  go_wp2_with fail
  obtain ⟨w2, hw2⟩ : ∃ w2, ((w.alloc (.cells (cellsL .u8 K) 32)).alloc (.cells (cellsL .u8 nonce) 51)) = w2 := ⟨_, rfl⟩
  rw [hw2] at B0 K0 N0 ⊢
  have hs2 : w.heap.size + 1 + 1 = w2.heap.size := by rw [← hw2]; simp
  clear hw2
  have hk0 := K0.out.lt
  have hn0 := N0.out.lt
  refine wp_region_mixVB [⟨4, 11, 90, stZ.toArray⟩] 5 [([0, 2], 1), ([], 3)] (by kernel_rfl) (by kernel_rfl) (by kernel_rfl) (by kernel_rfl) (by kernel_rfl) (by kernel_rfl) (by kernel_rfl) (by kernel_rfl) (by kernel_rfl) ?_ ?_
  · refine ⟨⟨by decide, _, rfl, ?_⟩, trivial⟩
    exact ⟨rfl, rfl, by kernel_rfl, al90 _ rfl⟩
  simp only [pickL, List.map_cons, List.map_nil, List.filterMap_cons, List.filterMap_nil, List.getElem?_cons_succ, List.getElem?_cons_zero]
  refine mixV_cons ?_
  show wpQuiet _ _ _ _ (_ :: _) _
  refine wpQuiet_loadV (o := ⟨some 17, _, _, _, _, _⟩) rfl _ rfl rfl (fun w' hw' => by obtain ⟨r, rfl⟩ := hw'; exact arr_load (K0.out.below r.below hk0) Try.underlying32 sizeE16 HK.out.1.symm) ?_
  simp only [Act.put, List.setIfInBounds_toArray, List.set_cons_zero, List.set_cons_succ]
  show wpQuiet _ _ _ _ (_ :: _) _
  refine wpQuiet_loadV (o := ⟨some 19, _, _, _, _, _⟩) rfl _ rfl rfl (fun w' hw' => by obtain ⟨r, rfl⟩ := hw'; exact arr_load (N0.out.below r.below hn0) Try.underlying51 size51 HN.out.symm) ?_
  simp only [Act.put, List.setIfInBounds_toArray, List.set_cons_zero, List.set_cons_succ]
  refine wpQuiet_nil ?_
  rintro x0 ⟨r0, rfl⟩
  show wpList _ _ _ [_] _ _
  go_wp2_with fail
  refine Calls.mono (anew_any K _ HK.out) ?_
  rintro e x1 ⟨gc, rfl, hgc, hc1, hb1⟩
  have C1 := Lib.hid hc1
  have X1 := Lib.hid (r0.below.trans (hb1.mono r0.below.size))
  have hsb := HSB.out gc
  clear hc1
  go_wp2_with fail
  refine MixV.bw r0.below r0.below.size hb1 ?_
  clear hb1
  refine mixV_cons ?_
  refine wpQuiet_nil ?_
  rintro x2 ⟨r2, rfl⟩
  show wpList _ _ _ [_] _ _
  go_wp2_with ((with_reducible (show wpList _ _ _ (⟨some 20, _, _, _, _, _⟩ :: _) _ _)); refine wpList_buildV (o := ⟨some 20, _, _, _, _, _⟩) rfl _ rfl hsb ?_)
  refine MixV.bw r2.below r2.below.size (Below.refl _ _) ?_
  refine mixV_nil ?_
  rintro x4 ⟨r4, rfl⟩
  intro γ hγ hd
  obtain ⟨g4, e4, hN4, hB4⟩ := hγ _ (List.mem_cons_self ..)
  simp only at e4 hB4
  simp only [putsA, step1, e4, Act.put, ptr0, List.setIfInBounds_toArray, List.set_cons_zero, List.set_cons_succ]
  have X2 := Lib.hid (X1.out.trans (r2.below.mono X1.out.size))
  have X4 := Lib.hid (X2.out.trans (r4.below.mono X2.out.size))
  have C4 := Lib.hid ((C1.out.all r2.below).all r4.below)
  obtain ⟨w5, hs5, hz5, hg5⟩ := blk_storeAll (P := Try.prog) (ty := 90) (vs := stV gc nonce) hB4 (by rw [stV_len gc HN.out]; rfl) (stV_one _ _) (by rw [stV_len gc HN.out]; exact size90)
  have S5 := Lib.hid hs5
  have Z5 := Lib.hid hz5
  have B5 := Lib.hid (X4.out.trans (below_of_only hg5 hN4 X4.out.size))
  have hge : gc ≠ g4 := Blk.ne_ C4.out hB4 (by decide)
  have C5 := Lib.hid (Ci.grown C4.out hg5 (fun e => hge (by injection e)))
  clear hs5 hz5 hg5 hB4 hγ hd e4 X1 X2 X4 C1 C4 hsb K0 N0
  go_wp2_with ((with_reducible (show wpList _ _ _ (⟨none, .store 90 _ _, _, _, _, _⟩ :: _) _ _)); refine wpList_storeV (o := ⟨none, .store 90 _ _, _, _, _, _⟩) rfl _ _ rfl rfl rfl (S5.out) ?_)
  refine NoPanic.normal ?_
  have W5 := Lib.hid (B0.out.trans (B5.out.mono B0.out.size))
  have hg4 := Blk.lt Z5.out
  have L16 := Lib.hid (blk_load (P := Try.prog) Z5.out Try.underlying90 rfl (by rw [List.size_toArray, stV_len gc HN.out]; exact size90))
  clear S5 B5 B0 hge hgc hN4 hk0 hn0
  have S5 := Lib.hid ((S3.out.below W5.out (Nat.le_refl _)).mono W5.out.size)
  have T5 := Lib.hid ((T3.out.below W5.out (Nat.le_refl _)).mono W5.out.size)
  have R5 := Lib.hid ((HR1.out.below W5.out (Nat.le_refl _)).mono W5.out.size)
  have HL3 : Hid (∀ r : BW w5.heap.size w5, (Instr.loadAt 90 (.pointer (some ⟨g4, 0, none⟩))).run Try.prog r.world = .ok (.agg (stV gc nonce).toArray) r.world) := Lib.hid (fun r => blk_load (P := Try.prog) (Z5.out.below r.below hg4) Try.underlying90 rfl (by rw [List.size_toArray, stV_len gc HN.out]; exact size90))
  have HL4 : Hid (∀ r : BW w5.heap.size w5, (Instr.loadAt 32 (.pointer A4)).run Try.prog r.world = .ok (.agg (cellsL .u8 D)) r.world) := Lib.hid (fun r => by
    have := rd_loadArr (P := Try.prog) (T5.out.below r.below (Nat.le_refl _)) Try.underlying32 sizeE16 (by rw [HDL.out]; exact Nat.le_refl _) (by decide)
    rwa [List.take_of_length_le (by rw [HDL.out]; exact Nat.le_refl _)] at this)
  have HNE : Hid (∀ v, (binOp .neq 32 (.agg (cellsL .u8 (tagL K nonce aad T))) (.agg (cellsL .u8 D))).run Try.prog v = .ok (.bool (!decide (tagL K nonce aad T = D))) v) := Lib.hid (fun v => neq16 HGL.out HDL.out HGB.out HDB.out v)
  clear S3 T3
  go_wp2_with fail
  refine wp_region_mix_below w5.heap.size [([0, 1, 2, 3, 4, 6, 7, 8, 9, 10], 5)] [11] (by kernel_rfl) (by kernel_rfl) (by kernel_rfl) (by kernel_rfl) ?_
  simp only [pickL, List.map_cons, List.map_nil, List.filterMap_cons, List.filterMap_nil, List.getElem?_cons_succ, List.getElem?_cons_zero]
  refine mixS_cons ?_
  show wpQuiet _ _ _ _ (_ :: _) _
  refine wpQuiet_loadV (o := ⟨some 21, _, _, _, _, _⟩) rfl _ rfl rfl (fun w' hw' => by obtain ⟨r, rfl⟩ := hw'; exact HL3.out r) ?_
  simp only [Act.put, List.setIfInBounds_toArray, List.set_cons_zero, List.set_cons_succ]
  repeat (show wpQuiet _ _ _ _ (_ :: _) _; go_big_quiet_step (fail))
  show wpQuiet _ _ _ _ (_ :: _) _
  refine wpQuiet_arrayAt (o := ⟨some 30, _, _, _, _, _⟩) rfl _ rfl rfl (fun w' => arrayAt_run Try.underlying32 A4 c4 (Nat.le_refl 16) w') ?_
  simp only [Act.put, List.setIfInBounds_toArray, List.set_cons_zero, List.set_cons_succ]
  show wpQuiet _ _ _ _ (_ :: _) _
  refine wpQuiet_loadV (o := ⟨some 31, _, _, _, _, _⟩) rfl _ rfl rfl (fun w' hw' => by obtain ⟨r, rfl⟩ := hw'; exact HL4.out r) ?_
  simp only [Act.put, List.setIfInBounds_toArray, List.set_cons_zero, List.set_cons_succ]
  refine wpQuiet_nil ?_
  show wpList _ _ _ [_] _ _
  go_wp2_with fail
  refine Calls.mono (stag_any gc n1 c1 m c3 A1 A3 K nonce aad T _ HK.out HN.out HNB.out (C5.out.below (Below.refl w5.heap.size w5).drew C5.out.lt) HL1.out HTL.out HB1.out HTB.out hl1 hl2 (Rd.drew R5.out) (Rd.drew S5.out)) ?_
  rintro e w6 ⟨rfl, hb6⟩
  have Y6 := Lib.hid ((Below.refl w5.heap.size w5).drew.trans hb6)
  generalize tagL K nonce aad T = G at *
  clear hb6 HL4 T5
  go_wp2_with fail
  refine MixQ.below Y6.out ?_
  refine mixS_nil ?_
  have hne := HNE.out
  repeat (show wpQuiet _ _ _ _ (_ :: _) _; go_big_quiet_step (fail))
  refine wpQuiet_nil ?_
  refine NoPanic.normal ?_
  clear hne
  have Z6 := Lib.hid (Z5.out.below Y6.out hg4)
  have C6 := Lib.hid (C5.out.all Y6.out)
  have S6 := Lib.hid ((S5.out.below Y6.out (Nat.le_refl _)).mono Y6.out.size)
  have W6 := Lib.hid (W5.out.trans (Y6.out.mono W5.out.size))
  have hg6 := Blk.lt Z6.out
  have HL5 : Hid (∀ r : BW w6.heap.size w6, (Instr.loadAt 90 (.pointer (some ⟨g4, 0, none⟩))).run Try.prog r.world = .ok (.agg (stV gc nonce).toArray) r.world) := Lib.hid (fun r => blk_load (P := Try.prog) (Z6.out.below r.below hg6) Try.underlying90 rfl (by rw [List.size_toArray, stV_len gc HN.out]; exact size90))
  clear HL3 L16 Z5 C5 S5 W5 Y6 HNE HGL HGB R5
  by_cases hGD : G = D
  · have hdd : (!decide (G = D)) = false := by rw [decide_eq_true hGD]; rfl
    rw [hdd]
    clear hdd
    have HG2 : Hid (gopenL K nonce aad text = some (turnL K nonce T)) := Lib.hid (by rw [HGE.out, if_pos hGD])
    go_wp2_with fail
    refine wp_region_mix_below w6.heap.size [([0, 1, 2, 3], 4)] [5, 6] (by kernel_rfl) (by kernel_rfl) (by kernel_rfl) (by kernel_rfl) ?_
    simp only [pickL, List.map_cons, List.map_nil, List.filterMap_cons, List.filterMap_nil, List.getElem?_cons_succ, List.getElem?_cons_zero]
    refine mixS_cons ?_
    show wpQuiet _ _ _ _ (_ :: _) _
    refine wpQuiet_loadV (o := ⟨some 33, _, _, _, _, _⟩) rfl _ rfl rfl (fun w' hw' => by obtain ⟨r, rfl⟩ := hw'; exact HL5.out r) ?_
    simp only [Act.put, List.setIfInBounds_toArray, List.set_cons_zero, List.set_cons_succ]
    repeat (show wpQuiet _ _ _ _ (_ :: _) _; go_big_quiet_step (fail))
    refine wpQuiet_nil ?_
    show wpList _ _ _ [_] _ _
    go_wp2_with fail
    refine Calls.mono (sturn_any gc m c3 A3 K nonce T _ HK.out HN.out HNB.out (C6.out.below (Below.refl w6.heap.size w6).drew C6.out.lt) HTL.out (by omega) (Rd.drew S6.out)) ?_
    rintro e w7 ⟨A7, n7, c7, rfl, ho7, hb7⟩
    have O7 := Lib.hid ho7
    have Y7 := Lib.hid ((Below.refl w6.heap.size w6).drew.trans hb7)
    have HOB := Lib.hid W6.out.size
    clear hb7 ho7
    go_wp2_with fail
    refine MixQ.below Y7.out ?_
    refine mixS_nil ?_
    repeat (show wpQuiet _ _ _ _ (_ :: _) _; go_big_quiet_step (fail))
    refine wpQuiet_nil ?_
    refine NoPanic.normal ?_
    go_wp2_with fail
    go_ret2
    rw [HG2.out]
    exact ⟨A7, n7, c7, rfl, O7.out.mono HOB.out, W6.out.trans (Y7.out.mono W6.out.size)⟩
  · have hdd : (!decide (G = D)) = true := by rw [decide_eq_false hGD]; rfl
    rw [hdd]
    clear hdd
    have HG2 : Hid (gopenL K nonce aad text = none) := Lib.hid (by rw [HGE.out, if_neg hGD])
    go_wp2_with fail
    go_ret2
    rw [HG2.out]
    exact ⟨rfl, W6.out⟩
end Go.Proofs.Ytepkbllcaeceeaa
