/- The walk of KdfMacs. Conditions: as each theorem states them. -/
import Derived.Test.YtepkbllcaeceeaaK6
namespace Go.Proofs.Ytepkbllcaeceeaa
open Go.RowKit
theorem rmac_at {n m : Nat} (A : Option Addr) (c : Nat) (K : List Int) (A2 : Option Addr) (c2 : Nat) (T : List Int) (w : World) (hn : K.length = n) (hm : T.length = m) (hr : Rd w.heap.size .u8 w A K) (hb : Byt K) (hl : K.length ≤ 1000000000) (hr2 : Rd w.heap.size .u8 w A2 T) (hb2 : Byt T) (hl2 : T.length ≤ 1000000000) :
    Calls Try.prog 27 #[.slice A n c, .slice A2 m c2] w (ArrPost (macL K T) w) := by
  subst hn; subst hm; exact rmac_any A c K A2 c2 T w hr hb hl hr2 hb2 hl2
theorem eql_arr32 {X : List Int} (hX : X.length = 32) (hb : Byt X) (w : World) : (binOp .eql 25 (.agg (cellsL .u8 X)) (.agg (cellsL .u8 X))).run Try.prog w = .ok (.bool true) w := by
  rw [eql_bytes Try.underlying25 Try.underlying5 elU8.size hb hb hX.symm hX.symm]; simp

set_option maxRecDepth 100000 in
set_option maxHeartbeats 4000000 in
theorem macs_any (A : Option Addr) (c : Nat) (K : List Int) (A2 : Option Addr) (c2 : Nat) (ts : List Tx) (w : World) (hr : Rd w.heap.size .u8 w A K) (hb : Byt K) (hcap : K.length ≤ c) (hkl : K.length ≤ 140737488351232) (ht : Txs w.heap.size w A2 ts) (hbt : BytT ts) (hl : ts.length ≤ 140737488351232) (hx : ∀ y ∈ ts, y.xs.length ≤ 140737488351232) :
    Calls Try.prog 7 #[.slice A K.length c, .slice A2 ts.length c2] w fun e w' => e = .returned (.bool true) ∧ Below w.heap.size w w' := by
  have HR := Lib.hid hr
  have HBY := Lib.hid hb
  have HT := Lib.hid ht
  have HBT := Lib.hid hbt
  have HX := Lib.hid hx
  clear hr hb ht hbt hx
  go_enter Try.func7, Try.ntmps7
  go_wp2_with fail
  refine Calls.mono (known07_any _) ?_
  rintro e w1 ⟨rfl, hb1⟩
  have B1 := Lib.hid hb1
  clear hb1
  have T1 := Lib.hid ((HT.out.below B1.out (Nat.le_refl _)).mono B1.out.size)
  by_cases h1 : 2000 < K.length
  · go_wp2_with fail
    go_ret
    exact ⟨rfl, B1.out⟩
  by_cases h : 2000 < ts.length + (joinT ts).length
  · have HH := Lib.hid h
    clear h
    go_wp2_with fail
    refine Calls.mono (great_yes A2 c2 ts 2000 _ T1.out hl HX.out (by decide) HH.out) ?_
    rintro e w2 ⟨rfl, rfl⟩
    go_wp2_with fail
    go_ret
    exact ⟨rfl, B1.out⟩
  have HH := Lib.hid h
  have HJ := Lib.hid (show (joinT ts).length ≤ 2000 by omega)
  have HN := Lib.hid (show ts.length ≤ 2000 by omega)
  clear h
  go_wp2_with fail
  refine Calls.mono (great_no A2 c2 ts 2000 _ T1.out hl HX.out (by decide) HH.out) ?_
  rintro e w2 ⟨rfl, rfl⟩
  go_wp2_with fail
  refine Calls.mono (join_any A2 c2 ts _ T1.out hl (by have := HJ.out; omega)) ?_
  rintro e w3 ⟨A3, n3, c3, rfl, ho3, hb3⟩
  have HTB := Lib.hid (byt_join HBT.out)
  have O3 := Lib.hid ho3
  have B3 := Lib.hid (B1.out.trans (hb3.mono B1.out.size))
  have R3 := Lib.hid ((HR.out.below B3.out (Nat.le_refl _)).mono B3.out.size)
  clear hb3 ho3 T1
  have HTE : Hid (macL K (joinT ts) = macL K (joinT ts)) := Lib.hid rfl
  obtain ⟨T, hT⟩ : ∃ T, joinT ts = T := ⟨_, rfl⟩
  have HTT := Lib.hid hT
  rw [hT] at O3 HTB HJ
  clear hT HTE HH
  have hcc := O3.out.cap
  have HN3 := Lib.hid O3.out.len
  go_wp2_with fail
  refine Calls.mono (rmac_at A c K A3 c3 T _ rfl HN3.out.symm R3.out HBY.out (by omega) O3.out.rd HTB.out (by have := HJ.out; omega)) ?_
  rintro e w4 ⟨rfl, hb4⟩
  have HXL := Lib.hid (macL_len K T)
  have HXB := Lib.hid (macL_byt K T)
  have B4 := Lib.hid (B3.out.trans (hb4.mono B3.out.size))
  have O4 := Lib.hid (O3.out.below hb4)
  clear hb4 O3 R3
  obtain ⟨X, hX⟩ : ∃ X, macL K T = X := ⟨_, rfl⟩
  have HXX := Lib.hid hX
  rw [hX] at HXL HXB ⊢
  clear hX
  go_wp2_with (with_reducible (show wpList _ _ _ (⟨none, .store 25 _ _, _, _, _, _⟩ :: _) _ _); refine wpList_storeArr (o := ⟨none, .store 25 _ _, _, _, _, _⟩) (g := w4.heap.size) (t := 25) (k := .u8) (xs := X) (n := 32) rfl _ _ rfl rfl rfl (Blk.new _ _ _) size32 HXL.out.symm rfl ?_; intro w5 ha5 hg5; have A5 := Lib.hid ha5; have B45 := Lib.hid (((Below.refl w4.heap.size w4).alloc (Nat.le_refl _) _).trans (below_of_only hg5 (Nat.le_refl _) (by simp))); clear ha5 hg5)
  have B5 := Lib.hid (B4.out.trans (B45.out.mono B4.out.size))
  have O5 := Lib.hid (O4.out.below B45.out)
  have T5 := Lib.hid ((HT.out.below B5.out (Nat.le_refl _)).mono B5.out.size)
  have R5 := Lib.hid ((HR.out.below B5.out (Nat.le_refl _)).mono B5.out.size)
  clear O4 B45 B4 B3
  have HL : ∀ r : BW w5.heap.size w5, (Instr.loadAt 25 (.pointer (some ⟨w4.heap.size, 0, none⟩))).run Try.prog r.world = .ok (.agg (cellsL .u8 X)) r.world := fun r => arr_load (A5.out.below r.below A5.out.lt) Try.underlying25 size32 HXL.out.symm
  have HE := eql_arr32 HXL.out HXB.out
  refine wp_region_mix_below w5.heap.size [([0, 1, 3], 2), ([4, 5, 6, 7, 9], 8)] [10, 11, 12] (by kernel_rfl) (by kernel_rfl) (by kernel_rfl) (by kernel_rfl) ?_
  simp only [put_none, pickL, List.map_cons, List.map_nil, List.filterMap_cons, List.filterMap_nil, List.getElem?_cons_succ, List.getElem?_cons_zero]
  refine mixS_cons ?_
  repeat (show wpQuiet _ _ _ _ (_ :: _) _; go_big_quiet_step (fail))
  show wpQuiet _ _ _ _ [_] _
  refine wpQuiet_loadV (o := ⟨some 24, _, _, _, _, _⟩) rfl _ rfl rfl (fun w' hw' => by obtain ⟨r, rfl⟩ := hw'; exact HL r) ?_
  simp only [Act.put, List.setIfInBounds_toArray, List.set_cons_zero, List.set_cons_succ]
  refine wpQuiet_nil ?_
  show wpList _ _ _ [_] _ _
  go_wp2_with fail
  refine Calls.mono (mac_at A c K A2 c2 ts _ rfl rfl R5.out.drew HBY.out hcap (by omega) (T5.out.below (Below.refl _ _).drew (Nat.le_refl _)) HBT.out (by rw [HTT.out]; have := HJ.out; omega) (by have := HN.out; omega)) ?_
  rintro e w6 ⟨rfl, hb6⟩
  rw [HTT.out, HXX.out]
  have B56 := Lib.hid ((Below.refl w5.heap.size w5).drew.trans hb6)
  have O6 := Lib.hid (O5.out.below B56.out)
  have R6 := Lib.hid ((R5.out.below B56.out (Nat.le_refl _)).mono B56.out.size)
  clear hb6
  go_wp2_with fail
  refine MixQ.below B56.out ?_
  refine mixS_cons ?_
  repeat (show wpQuiet _ _ _ _ (_ :: _) _; go_big_quiet_step (fail))
  show wpQuiet _ _ _ _ [_] _
  refine wpQuiet_loadV (o := ⟨some 30, _, _, _, _, _⟩) rfl _ rfl rfl (fun w' hw' => by obtain ⟨r, rfl⟩ := hw'; exact HL r) ?_
  simp only [Act.put, List.setIfInBounds_toArray, List.set_cons_zero, List.set_cons_succ]
  refine wpQuiet_nil ?_
  show wpList _ _ _ [_] _ _
  go_wp2_with fail
  refine Calls.mono (extract_at A c K A3 c3 T _ rfl HN3.out.symm R6.out HBY.out hcap (by omega) O6.out.rd HTB.out (by rw [← HN3.out]; exact hcc.1) (by have := HJ.out; omega)) ?_
  rintro e w7 ⟨rfl, hb7⟩
  rw [HXX.out]
  have B57 := Lib.hid (B56.out.trans (hb7.mono B56.out.size))
  clear hb7
  go_wp2_with fail
  refine MixQ.below B57.out ?_
  refine mixS_nil ?_
  repeat (show wpQuiet _ _ _ _ (_ :: _) _; go_big_quiet_step (fail))
  refine wpQuiet_nil ?_
  refine NoPanic.normal ?_
  go_wp2_with fail
  go_ret
  exact ⟨rfl, B5.out.trans (B57.out.mono B5.out.size)⟩
end Go.Proofs.Ytepkbllcaeceeaa
