/- Contract of gcm: Seal. Conditions: as each theorem states them. -/
import Derived.Test.YtepkbllcaeceeaaG10
namespace Go.Proofs.Ytepkbllcaeceeaa
open Go.RowKit
def stZ : List Value := .pointer none :: iv .u8 (nul 12)
theorem st_eq (parts : List (Nat × Value)) : Try.prog.built 90 parts = Instr.fill ((#[(0, 1), (1, 12)] : Array (Nat × Nat))[·]?) stZ.toArray parts := by kernel_rfl
theorem fill_agg (place : Nat → Option (Nat × Nat)) (cs : Array Value) (i : Nat) (v : Value) (rest : List (Nat × Value)) : Instr.fill place cs ((i, v) :: rest) = Instr.fill place cs ((i, .agg v.cells) :: rest) := by
  rw [Instr.fill, Instr.fill]; rfl
theorem st_built (gc : Nat) {nonce : List Int} (h : nonce.length = 12) : Try.prog.built 90 [(0, .pointer (some ⟨gc, 0, none⟩)), (1, .agg (cellsL .u8 nonce))] = some (stV gc nonce).toArray := by
  rw [st_eq, fill_agg]
  rw [show (Value.pointer (some (⟨gc, 0, none⟩ : Addr))).cells = ([Value.pointer (some ⟨gc, 0, none⟩)]).toArray from rfl]
  rw [fill_step (off := 0) (size := 1) _ rfl rfl (by decide)]
  simp only [← iv_cells]
  have e1 : ovl stZ 0 [Value.pointer (some (⟨gc, 0, none⟩ : Addr))] = [Value.pointer (some ⟨gc, 0, none⟩)] ++ (iv .u8 (nul 12) ++ []) := by
    have := over_at (A := []) (B := [Value.pointer none]) (C := iv .u8 (nul 12)) (vs := [Value.pointer (some (⟨gc, 0, none⟩ : Addr))]) (o := 0) rfl rfl
    simpa [stZ] using this
  rw [e1, fill_step (off := 1) (size := 12) _ rfl (by rw [iv_len, h]) (by simp [iv_len, nul_len])]
  rw [over_at (by rfl) (by rw [iv_len, iv_len, h, nul_len])]
  rw [Instr.fill, stV_cut]
theorem al90 (o : Oper) (ho : o.op = .alloc 90) (ρ : Operand → Value) (w : World) : (execOp ρ o).run Try.prog w = .ok (.value (ptr0 w.heap.size)) (w.alloc (.cells stZ.toArray 90)) := by
  obtain ⟨d, op, ty, p, af, g⟩ := o
  simp only at ho
  subst ho
  kernel_rfl
theorem stV_one (gc : Nat) (nonce : List Int) : ∀ v ∈ stV gc nonce, v.oneCell' = true := fun v hv => by
  unfold stV at hv
  rcases List.mem_cons.1 hv with h | h
  · subst h; rfl
  · exact iv_one _ _ v h
theorem size51 : (Try.prog.info? 51).map (·.size) = some 12 := by kernel_rfl
set_option maxRecDepth 100000 in
set_option maxHeartbeats 8000000 in
theorem gseal_any (n1 c1 n2 c2 : Nat) (A1 A2 : Option Addr) (K nonce aad text : List Int) (w : World) (hK : Blk16 K) (hn : nonce.length = 12) (hnb : Byt nonce) (h1 : aad.length = n1) (h2 : text.length = n2) (hb1 : Byt aad)
    (hl1 : n1 ≤ 5000) (hl2 : n2 ≤ 5000) (hr1 : Rd w.heap.size .u8 w A1 aad) (hr2 : Rd w.heap.size .u8 w A2 text) :
    Calls Try.prog 36 #[.agg (cellsL .u8 K), .agg (cellsL .u8 nonce), .slice A1 n1 c1, .slice A2 n2 c2] w (RetOwn 5 .u8 (gsealL K nonce aad text) w) := by
  have HK := Lib.hid hK
  have HN := Lib.hid hn
  have HNB := Lib.hid hnb
  have HL1 := Lib.hid h1
  have HL2 := Lib.hid h2
  have HB1 := Lib.hid hb1
  have HR1 := Lib.hid hr1
  have HR2 := Lib.hid hr2
  have HGE : Hid (gsealL K nonce aad text = turnL K nonce text ++ tagL K nonce aad (turnL K nonce text)) := Lib.hid rfl
  have HTL : Hid ((turnL K nonce text).length = n2) := Lib.hid (by rw [turnL_len, h2])
  have HTB := Lib.hid (turnL_byt K nonce text)
  have HGL := Lib.hid (tagL_len hK hn hnb aad (turnL K nonce text))
  have HSB : Hid (∀ gc, Try.prog.built 90 [(0, .pointer (some ⟨gc, 0, none⟩)), (1, .agg (cellsL .u8 nonce))] = some (stV gc nonce).toArray) := Lib.hid (fun gc => st_built gc hn)
  have B0 : Hid (Below w.heap.size w ((w.alloc (.cells (cellsL .u8 K) 32)).alloc (.cells (cellsL .u8 nonce) 51))) := Lib.hid (((Below.refl _ _).alloc (Nat.le_refl _) _).alloc (by simp) _)
  have K0 : Hid (Arr ((w.alloc (.cells (cellsL .u8 K) 32)).alloc (.cells (cellsL .u8 nonce) 51)) w.heap.size 32 .u8 K) := Lib.hid ((Arr.newAt rfl rfl).alloc _)
  have N0 : Hid (Arr ((w.alloc (.cells (cellsL .u8 K) 32)).alloc (.cells (cellsL .u8 nonce) 51)) (w.heap.size + 1) 51 .u8 nonce) := Lib.hid (Arr.newAt (by simp) rfl)
  clear hK hn hnb h1 h2 hb1 hr1 hr2
  go_enter Try.func36, Try.ntmps36
  go_wp2_with fail
  obtain ⟨w2, hw2⟩ : ∃ w2, ((w.alloc (.cells (cellsL .u8 K) 32)).alloc (.cells (cellsL .u8 nonce) 51)) = w2 := ⟨_, rfl⟩
  rw [hw2] at B0 K0 N0 ⊢
  have hs2 : w.heap.size + 1 + 1 = w2.heap.size := by rw [← hw2]; simp
  clear hw2
  have hk0 := K0.out.lt
  have hn0 := N0.out.lt
  refine wp_region_mixVB [⟨4, 9, 90, stZ.toArray⟩] 5 [([0, 2], 1), ([], 3)] (by kernel_rfl) (by kernel_rfl) (by kernel_rfl) (by kernel_rfl) (by kernel_rfl) (by kernel_rfl) (by kernel_rfl) (by kernel_rfl) (by kernel_rfl) ?_ ?_
  · refine ⟨⟨by decide, _, rfl, ?_⟩, trivial⟩
    exact ⟨rfl, rfl, by kernel_rfl, al90 _ rfl⟩
  simp only [pickL, List.map_cons, List.map_nil, List.filterMap_cons, List.filterMap_nil, List.getElem?_cons_succ, List.getElem?_cons_zero]
  refine mixV_cons ?_
  show wpQuiet _ _ _ _ (_ :: _) _
  refine wpQuiet_loadV (o := ⟨some 12, _, _, _, _, _⟩) rfl _ rfl rfl (fun w' hw' => by obtain ⟨r, rfl⟩ := hw'; exact arr_load (K0.out.below r.below hk0) Try.underlying32 sizeE16 HK.out.1.symm) ?_
  simp only [Act.put, List.setIfInBounds_toArray, List.set_cons_zero, List.set_cons_succ]
  show wpQuiet _ _ _ _ (_ :: _) _
  refine wpQuiet_loadV (o := ⟨some 14, _, _, _, _, _⟩) rfl _ rfl rfl (fun w' hw' => by obtain ⟨r, rfl⟩ := hw'; exact arr_load (N0.out.below r.below hn0) Try.underlying51 size51 HN.out.symm) ?_
  simp only [Act.put, List.setIfInBounds_toArray, List.set_cons_zero, List.set_cons_succ]
  refine wpQuiet_nil ?_
  rintro x0 ⟨r0, rfl⟩
  show wpList _ _ _ [_] _ _
  go_wp2_with fail
  refine Calls.mono (anew_any K _ HK.out) ?_
  rintro e x1 ⟨gc, rfl, hgc, hc1, hb1⟩
  have C1 := Lib.hid hc1
  have X1 := Lib.hid (r0.below.trans (hb1.mono r0.below.size))
  have hsb := HSB.out gc
  clear hc1
  go_wp2_with fail
  refine MixV.bw r0.below r0.below.size hb1 ?_
  clear hb1
  refine mixV_cons ?_
  refine wpQuiet_nil ?_
  rintro x2 ⟨r2, rfl⟩
  show wpList _ _ _ [_] _ _
  go_wp2_with ((with_reducible (show wpList _ _ _ (⟨some 15, _, _, _, _, _⟩ :: _) _ _)); refine wpList_buildV (o := ⟨some 15, _, _, _, _, _⟩) rfl _ rfl hsb ?_)
  refine MixV.bw r2.below r2.below.size (Below.refl _ _) ?_
  refine mixV_nil ?_
  rintro x4 ⟨r4, rfl⟩
  intro γ hγ hd
  obtain ⟨g4, e4, hN4, hB4⟩ := hγ _ (List.mem_cons_self ..)
  simp only at e4 hB4
  simp only [putsA, step1, e4, Act.put, ptr0, List.setIfInBounds_toArray, List.set_cons_zero, List.set_cons_succ]
  have X2 := Lib.hid (X1.out.trans (r2.below.mono X1.out.size))
  have X4 := Lib.hid (X2.out.trans (r4.below.mono X2.out.size))
  have C4 := Lib.hid ((C1.out.all r2.below).all r4.below)
  obtain ⟨w5, hs5, hz5, hg5⟩ := blk_storeAll (P := Try.prog) (ty := 90) (vs := stV gc nonce) hB4 (by rw [stV_len gc HN.out]; rfl) (stV_one _ _) (by rw [stV_len gc HN.out]; exact size90)
  have S5 := Lib.hid hs5
  have Z5 := Lib.hid hz5
  have B5 := Lib.hid (X4.out.trans (below_of_only hg5 hN4 X4.out.size))
  have hge : gc ≠ g4 := Blk.ne_ C4.out hB4 (by decide)
  have C5 := Lib.hid (Ci.grown C4.out hg5 (fun e => hge (by injection e)))
  clear hs5 hz5 hg5 hB4 hγ hd e4 X1 X2 X4 C1 C4 hsb K0 N0
  go_wp2_with ((with_reducible (show wpList _ _ _ (⟨none, .store 90 _ _, _, _, _, _⟩ :: _) _ _)); refine wpList_storeV (o := ⟨none, .store 90 _ _, _, _, _, _⟩) rfl _ _ rfl rfl rfl (S5.out) ?_)
  refine NoPanic.normal ?_
  have W5 := Lib.hid (B0.out.trans (B5.out.mono B0.out.size))
  have hg4 := Blk.lt Z5.out
  have L16 := Lib.hid (blk_load (P := Try.prog) Z5.out Try.underlying90 rfl (by rw [List.size_toArray, stV_len gc HN.out]; exact size90))
  clear S5 B5 B0 hge hgc hN4 hk0 hn0
  go_wp2_with ((with_reducible (show wpList _ _ _ (⟨some 16, .load _ _, _, _, _, _⟩ :: _) _ _)); refine wpList_loadV (o := ⟨some 16, .load _ _, _, _, _, _⟩) rfl _ rfl rfl (L16.out) ?_)
  refine Calls.mono (sturn_any gc n2 c2 A2 K nonce text _ HK.out HN.out HNB.out C5.out HL2.out (by omega) ((HR2.out.below W5.out (Nat.le_refl _)).mono W5.out.size)) ?_
  rintro e w6 ⟨A6, n6, c6, rfl, ho6, hb6⟩
  obtain rfl : n6 = n2 := by rw [ho6.len, HTL.out]
  have O6 := Lib.hid ho6
  have Z6 := Lib.hid (Z5.out.below hb6 hg4)
  have C6 := Lib.hid (C5.out.all hb6)
  have W6 := Lib.hid (W5.out.trans (hb6.mono W5.out.size))
  have L19 := Lib.hid (blk_load (P := Try.prog) Z6.out Try.underlying90 rfl (by rw [List.size_toArray, stV_len gc HN.out]; exact size90))
  have HOB := Lib.hid W5.out.size
  clear hb6 ho6 L16 Z5 C5 W5
  generalize turnL K nonce text = T at *
  go_wp2_with ((with_reducible (show wpList _ _ _ (⟨some 19, .load _ _, _, _, _, _⟩ :: _) _ _)); refine wpList_loadV (o := ⟨some 19, .load _ _, _, _, _, _⟩) rfl _ rfl rfl (L19.out) ?_)
  refine Calls.mono (stag_any gc n1 c1 n6 c6 A1 A6 K nonce aad T _ HK.out HN.out HNB.out C6.out HL1.out HTL.out HB1.out HTB.out hl1 hl2 ((HR1.out.below W6.out (Nat.le_refl _)).mono W6.out.size) O6.out.rd) ?_
  rintro e w7 ⟨rfl, hb7⟩
  have O7 := Lib.hid (O6.out.below hb7)
  have W7 := Lib.hid (W6.out.trans (hb7.mono W6.out.size))
  have hob : w.heap.size ≤ w7.heap.size := W7.out.size
  clear hb7 L19 O6 C6 Z6
  generalize tagL K nonce aad T = G at *
  go_wp2_with (first
    | ((with_reducible (show wpList _ _ _ (⟨none, .store 32 _ _, _, _, _, _⟩ :: _) _ _)); refine wpList_storeArr (o := ⟨none, .store 32 _ _, _, _, _, _⟩) (g := w7.heap.size) (t := 32) (k := .u8) (xs := G) (n := 16) rfl _ _ rfl rfl rfl (Blk.new _ _ _) sizeE16 HGL.out.symm rfl ?_; intro w8 ha8 hg8; have A8 := Lib.hid ha8; have B8 := Lib.hid (((Below.refl w7.heap.size w7).alloc (Nat.le_refl _) _).trans (below_of_only hg8 (Nat.le_refl _) (by simp))); have O8 := Lib.hid (O7.out.below B8.out); have W8 := Lib.hid (W7.out.trans (B8.out.mono W7.out.size)); clear ha8 hg8)
    | (at_builtin; refine wpList_app (o := ⟨some 25, _, _, _, _, _⟩) elB8 rfl _ _ rfl rfl rfl (O8.out.mono HOB.out) A8.out.rd HGL.out.symm ?_ ?_ ?_; (rw [HTL.out, HGL.out]; omega); (exact W8.out.size); intro A9 n9 c9 w9 q9; have O9 : Hid (Own w.heap.size 5 .u8 w9 A9 n9 c9 (gsealL K nonce aad text)) := Lib.hid (by rw [HGE.out]; exact q9.1); have W9 := Lib.hid (W8.out.trans q9.2.2.1); clear q9))
  go_ret
  exact ⟨A9, n9, c9, rfl, O9.out, W9.out⟩
end Go.Proofs.Ytepkbllcaeceeaa
