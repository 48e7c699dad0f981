/- Layer 21: calls that are refused; Secrets. Conditions: as each theorem states them. -/
import Derived.Test.YthknncdhjicklaaH17
namespace Go.Proofs.Ythknncdhjicklaa
open Go.RowKit
theorem feed_nil (sp : Int) (v : Value) (w : World) : Calls Try.prog 7 #[.pointer none, .int .u8 sp, v] w fun e w' => e = .returned (.tuple #[.slice none 0 0, .int .i64 1]) ∧ w = w' := by
  go_enter Try.func7, Try.ntmps7
  go_wp2_with fail
  exact bodyPost_ret (results_tmp2 rfl _ _ _) rfl ⟨rfl, rfl⟩
set_option maxRecDepth 100000 in
set_option maxHeartbeats 4000000 in
theorem feed_not (g : Nat) (p : PS) (vp vq v0 v1 vt : Value) (sp : Int) (v : Value) (w : World) (h : ShB g w p vp vq v0 v1 vt) (hc : p.sv = false → p.st ≠ 1 ∧ p.st ≠ 2) (ho : p.sv = true → p.st ≠ 0 ∧ p.st ≠ 3) :
    Calls Try.prog 7 #[.pointer (some ⟨g, 0, none⟩), .int .u8 sp, v] w fun e w' => e = .returned (.tuple #[.slice none 0 0, .int .i64 6]) ∧ Below w.heap.size w w' := by
  have H0 := Lib.hid h
  have WN := Lib.hid (wants_no g p vp vq v0 v1 vt w h hc ho)
  clear h hc ho
  go_enter Try.func7, Try.ntmps7
  go_wp2_with fail
  refine Calls.mono WN.out ?_
  rintro e w3 ⟨rfl, b3⟩
  have B3 := Lib.hid b3
  clear b3
  have F8 : Hid (Blk (w3.alloc (.cells #[.int .u8 0, .int .u8 0, .nilFunc] 50)) w3.heap.size 50 #[.int .u8 0, .int .u8 0, .nilFunc]) := Lib.hid (Blk.new _ _ _)
  go_wp2_with ((with_reducible (show wpList _ _ _ (⟨none, .store 50 _ _, _, _, _, _⟩ :: _) _ _)); go_loud (refine wpList_storeBlk (o := ⟨none, .store 50 _ _, _, _, _, _⟩) (g := w3.heap.size) (t := 50) (vs := wtZ) rfl _ _ rfl rfl rfl F8.out rfl (by intro v hv; unfold wtZ at hv; simp only [List.mem_cons, List.not_mem_nil, or_false] at hv; rcases hv with rfl | rfl | rfl <;> rfl) sizeW ?_); intro w4 z4 g4; have B4 := Lib.hid (B3.out.trans ((((Below.refl w3.heap.size w3).alloc (Nat.le_refl _) _).trans (below_of_only g4 (Nat.le_refl _) (by simp))).mono B3.out.size)))
  exact bodyPost_ret (results_tmp2 rfl _ _ _) rfl ⟨rfl, B4.out⟩
theorem results_sec {w : World} {g1 g2 : Nat} {xs ys : List Int} {fn : Func} {x y u : Tmp} {tmps : Array Value} (hr : fn.results = #[.cell x 22, .cell y 22, .tmp u]) (hx : tmps.getD x undef = .pointer (some ⟨g1, 0, none⟩)) (hy : tmps.getD y undef = .pointer (some ⟨g2, 0, none⟩)) (h1 : Arr w g1 22 .u8 xs) (h2 : Arr w g2 22 .u8 ys) (l1 : xs.length = 32) (l2 : ys.length = 32) :
    (results fn tmps).run Try.prog w = .ok (.tuple #[.agg (cellsL .u8 xs), .agg (cellsL .u8 ys), tmps.getD u undef]) w := by
  have hx' : tmps[x]?.getD undef = .pointer (some ⟨g1, 0, none⟩) := by simpa using hx
  have hy' : tmps[y]?.getD undef = .pointer (some ⟨g2, 0, none⟩) := by simpa using hy
  have e1 := arr_load (P := Try.prog) h1 Try.underlying22 size32 l1.symm
  have e2 := arr_load (P := Try.prog) h2 Try.underlying22 size32 l2.symm
  simp [Instr.loadAt, Instr.sureAddr] at e1 e2
  simp [results, hr, hx', hy', e1, e2, asAddr]
set_option maxRecDepth 100000 in
set_option maxHeartbeats 4000000 in
theorem secrets_nil (w : World) : Calls Try.prog 10 #[.pointer none, .int .u8 1] w fun e w' => e = .returned (.tuple #[.agg (cellsL .u8 (zer 32)), .agg (cellsL .u8 (zer 32)), .bool false]) ∧ Below w.heap.size w w' := by
  go_enter Try.func10, Try.ntmps10
  go_upto_region 4 with fail
  show Code.wp _ _ _ _ ((w.alloc (.cells (cellsL .u8 (zer 32)) 22)).alloc (.cells (cellsL .u8 (zer 32)) 22))
  have E2 := Lib.hid (((Below.refl w.heap.size w).alloc (Nat.le_refl _) (.cells (cellsL .u8 (zer 32)) 22)).alloc (by simp) (.cells (cellsL .u8 (zer 32)) 22))
  have A1 : Hid (Arr ((w.alloc (.cells (cellsL .u8 (zer 32)) 22)).alloc (.cells (cellsL .u8 (zer 32)) 22)) w.heap.size 22 .u8 (zer 32)) := Lib.hid ((Arr.newAt rfl rfl).alloc _)
  have A2 : Hid (Arr ((w.alloc (.cells (cellsL .u8 (zer 32)) 22)).alloc (.cells (cellsL .u8 (zer 32)) 22)) (w.heap.size + 1) 22 .u8 (zer 32)) := Lib.hid (Arr.newAt (by simp) rfl)
  generalize (w.alloc (.cells (cellsL .u8 (zer 32)) 22)).alloc (.cells (cellsL .u8 (zer 32)) 22) = w2 at *
  have hne : Nonempty (CW (fun v : World => Arr v w.heap.size 22 .u8 (zer 32) ∧ Arr v (w.heap.size + 1) 22 .u8 (zer 32))) := CW.inh ⟨A1.out, A2.out⟩
  have hz32 : Hid ((zer 32).length = 32) := Lib.hid (zer_len 32)
  refine wp_region_mix_class (fun v : World => Arr v w.heap.size 22 .u8 (zer 32) ∧ Arr v (w.heap.size + 1) 22 .u8 (zer 32)) [([0, 1], 2), ([], 3)] [4] (by kernel_rfl) (by kernel_rfl) (by kernel_rfl) (by kernel_rfl) ⟨A1.out.drew, A2.out.drew⟩ ?_
  simp only [pickL, List.map_cons, List.map_nil, List.filterMap_cons, List.filterMap_nil, List.getElem?_cons_succ, List.getElem?_cons_zero]
  refine mixS_cons ?_
  show wpQuiet _ _ _ _ (_ :: _) _
  refine wpQuiet_loadV (o := ⟨some 69, _, _, _, _, _⟩) rfl _ rfl rfl (fun w' hw' => by obtain ⟨r, rfl⟩ := hw'; exact arr_load r.holds.1 Try.underlying22 size32 hz32.out.symm) ?_
  simp only [Act.put, List.setIfInBounds_toArray, List.set_cons_zero, List.set_cons_succ]
  show wpQuiet _ _ _ _ (_ :: _) _
  refine wpQuiet_loadV (o := ⟨some 70, _, _, _, _, _⟩) rfl _ rfl rfl (fun w' hw' => by obtain ⟨r, rfl⟩ := hw'; exact arr_load r.holds.2 Try.underlying22 size32 hz32.out.symm) ?_
  simp only [Act.put, List.setIfInBounds_toArray, List.set_cons_zero, List.set_cons_succ]
  refine wpQuiet_nil ?_
  show wpList _ _ _ [_] _ _
  go_wp2_with ((with_reducible (show wpList _ _ _ (⟨none, .store 22 _ _, _, _, _, _⟩ :: _) _ _)); go_loud (refine wpList_storeArr (o := ⟨none, .store 22 _ _, _, _, _, _⟩) (g := w.heap.size) (t := 22) (k := .u8) (xs := zer 32) (n := 32) rfl _ _ rfl rfl rfl A1.out.drew size32 hz32.out.symm (by simp [hz32.out]) ?_); intro w5 ha5 hg5)
  have a2 := A2.out.drew.grown hg5 (by intro q; injection q with q; omega)
  refine MixQ.class ⟨ha5, a2⟩ ?_
  refine mixS_cons ?_
  refine wpQuiet_nil ?_
  show wpList _ _ _ [_] _ _
  go_wp2_with ((with_reducible (show wpList _ _ _ (⟨none, .store 22 _ _, _, _, _, _⟩ :: _) _ _)); go_loud (refine wpList_storeArr (o := ⟨none, .store 22 _ _, _, _, _, _⟩) (g := w.heap.size + 1) (t := 22) (k := .u8) (xs := zer 32) (n := 32) rfl _ _ rfl rfl rfl a2 size32 hz32.out.symm (by simp [hz32.out]) ?_); intro w6 ha6 hg6)
  have a1 := ha5.grown hg6 (by intro q; injection q with q; omega)
  refine MixQ.class ⟨a1, ha6⟩ ?_
  refine mixS_nil ?_
  repeat (show wpQuiet _ _ _ _ (_ :: _) _; go_big_quiet_step (fail))
  refine wpQuiet_nil ?_
  refine NoPanic.normal ?_
  have B6 := (E2.out.drew.trans (below_of_only hg5 (Nat.le_refl _) E2.out.size)).trans (below_of_only hg6 (Nat.le_succ _) (Nat.le_trans E2.out.size hg5.size))
  go_wp2_with fail
  exact bodyPost_ret (results_sec rfl rfl rfl a1 ha6 hz32.out hz32.out) rfl ⟨rfl, B6⟩
set_option maxRecDepth 100000 in
set_option maxHeartbeats 4000000 in
theorem secrets_1 (g : Nat) (p : PS) (vp vq v0 v1 vt : Value) (w : World) (h : ShB g w p vp vq v0 v1 vt) (hs : p.st = 100) : Calls Try.prog 10 #[.pointer (some ⟨g, 0, none⟩), .int .u8 1] w fun e w' => e = .returned (.tuple #[.agg (cellsL .u8 p.c0), .agg (cellsL .u8 p.a0), .bool true]) ∧ Below w.heap.size w w' := by
  have E2 := Lib.hid (((Below.refl w.heap.size w).alloc (Nat.le_refl _) (.cells (cellsL .u8 (zer 32)) 22)).alloc (by simp) (.cells (cellsL .u8 (zer 32)) 22))
  have H2 := Lib.hid (h.below E2.out)
  have A1 : Hid (Arr ((w.alloc (.cells (cellsL .u8 (zer 32)) 22)).alloc (.cells (cellsL .u8 (zer 32)) 22)) w.heap.size 22 .u8 (zer 32)) := Lib.hid ((Arr.newAt rfl rfl).alloc _)
  have A2 : Hid (Arr ((w.alloc (.cells (cellsL .u8 (zer 32)) 22)).alloc (.cells (cellsL .u8 (zer 32)) 22)) (w.heap.size + 1) 22 .u8 (zer 32)) := Lib.hid (Arr.newAt (by simp) rfl)
  have q1 : ((w.alloc (.cells #[.int .u8 0, .int .u8 0, .int .u8 0, .int .u8 0, .int .u8 0, .int .u8 0, .int .u8 0, .int .u8 0, .int .u8 0, .int .u8 0, .int .u8 0, .int .u8 0, .int .u8 0, .int .u8 0, .int .u8 0, .int .u8 0, .int .u8 0, .int .u8 0, .int .u8 0, .int .u8 0, .int .u8 0, .int .u8 0, .int .u8 0, .int .u8 0, .int .u8 0, .int .u8 0, .int .u8 0, .int .u8 0, .int .u8 0, .int .u8 0, .int .u8 0, .int .u8 0] 22)).alloc (.cells #[.int .u8 0, .int .u8 0, .int .u8 0, .int .u8 0, .int .u8 0, .int .u8 0, .int .u8 0, .int .u8 0, .int .u8 0, .int .u8 0, .int .u8 0, .int .u8 0, .int .u8 0, .int .u8 0, .int .u8 0, .int .u8 0, .int .u8 0, .int .u8 0, .int .u8 0, .int .u8 0, .int .u8 0, .int .u8 0, .int .u8 0, .int .u8 0, .int .u8 0, .int .u8 0, .int .u8 0, .int .u8 0, .int .u8 0, .int .u8 0, .int .u8 0, .int .u8 0] 22)).cell? ⟨g, 1, none⟩ = some (.int .u8 100) := by
    have := H2.out.c1
    rw [hs] at this
    exact this
  have HOK : Hid (p.c0.length = 32 ∧ p.a0.length = 32) := Lib.hid ⟨h.ok.c0, h.ok.a0⟩
  have hgl := h.lt
  clear h hs
  go_enter Try.func10, Try.ntmps10
  go_upto_region 3 with fail
  show Code.wp _ _ _ _ ((w.alloc (.cells (cellsL .u8 (zer 32)) 22)).alloc (.cells (cellsL .u8 (zer 32)) 22))
  clear q1
  generalize (w.alloc (.cells (cellsL .u8 (zer 32)) 22)).alloc (.cells (cellsL .u8 (zer 32)) 22) = w2 at *
  have hne : Nonempty (CW (fun v : World => ShB g v p vp vq v0 v1 vt)) := CW.inh H2.out
  have hz32 : Hid ((zer 32).length = 32) := Lib.hid (zer_len 32)
  refine wp_region_mix_class (fun v : World => ShB g v p vp vq v0 v1 vt) [([0, 1, 2, 3, 4, 5, 6, 7, 8, 9, 10, 11, 12, 13, 14, 15], 16), ([], 17)] [18] (by kernel_rfl) (by kernel_rfl) (by kernel_rfl) (by kernel_rfl) (H2.out.below (Below.refl _ _).drew) ?_
  simp only [pickL, List.map_cons, List.map_nil, List.filterMap_cons, List.filterMap_nil, List.getElem?_cons_succ, List.getElem?_cons_zero]
  refine mixS_cons ?_
  show wpQuiet _ _ _ _ (_ :: _) _
  go_big_quiet_step (fail)
  show wpQuiet _ _ _ _ (_ :: _) _
  go_big_quiet_step (fail)
  show wpQuiet _ _ _ _ (_ :: _) _
  go_big_quiet_step (fail)
  show wpQuiet _ _ _ _ (_ :: _) _
  go_big_quiet_step (fail)
  show wpQuiet _ _ _ _ (_ :: _) _
  go_big_quiet_step (fail)
  show wpQuiet _ _ _ _ (_ :: _) _
  go_big_quiet_step (fail)
  show wpQuiet _ _ _ _ (_ :: _) _
  go_big_quiet_step (fail)
  show wpQuiet _ _ _ _ (_ :: _) _
  refine wpQuiet_loadV (o := ⟨some 60, _, _, _, _, _⟩) rfl _ rfl rfl (fun w' hw' => by obtain ⟨r, rfl⟩ := hw'; exact r.holds.ld_c0) ?_
  simp only [Act.put, List.setIfInBounds_toArray, List.set_cons_zero, List.set_cons_succ]
  show wpQuiet _ _ _ _ (_ :: _) _
  go_big_quiet_step (fail)
  show wpQuiet _ _ _ _ (_ :: _) _
  go_big_quiet_step (fail)
  show wpQuiet _ _ _ _ (_ :: _) _
  go_big_quiet_step (fail)
  show wpQuiet _ _ _ _ (_ :: _) _
  go_big_quiet_step (fail)
  show wpQuiet _ _ _ _ (_ :: _) _
  go_big_quiet_step (fail)
  show wpQuiet _ _ _ _ (_ :: _) _
  go_big_quiet_step (fail)
  show wpQuiet _ _ _ _ (_ :: _) _
  go_big_quiet_step (fail)
  show wpQuiet _ _ _ _ (_ :: _) _
  refine wpQuiet_loadV (o := ⟨some 68, _, _, _, _, _⟩) rfl _ rfl rfl (fun w' hw' => by obtain ⟨r, rfl⟩ := hw'; exact r.holds.ld_a0) ?_
  simp only [Act.put, List.setIfInBounds_toArray, List.set_cons_zero, List.set_cons_succ]
  refine wpQuiet_nil ?_
  show wpList _ _ _ [_] _ _
  go_wp2_with ((with_reducible (show wpList _ _ _ (⟨none, .store 22 _ _, _, _, _, _⟩ :: _) _ _)); go_loud (refine wpList_storeArr (o := ⟨none, .store 22 _ _, _, _, _, _⟩) (g := w.heap.size) (t := 22) (k := .u8) (xs := p.c0) (n := 32) rfl _ _ rfl rfl rfl A1.out.drew size32 HOK.out.1.symm (by simp [hz32.out]) ?_); intro w5 ha5 hg5)
  have a2 := A2.out.drew.grown hg5 (by intro q; injection q with q; omega)
  have h5 := (H2.out.below (Below.refl w2.heap.size w2).drew).grown hg5 A1.out.drew (by omega) (by decide)
  refine MixQ.class h5 ?_
  refine mixS_cons ?_
  refine wpQuiet_nil ?_
  show wpList _ _ _ [_] _ _
  go_wp2_with ((with_reducible (show wpList _ _ _ (⟨none, .store 22 _ _, _, _, _, _⟩ :: _) _ _)); go_loud (refine wpList_storeArr (o := ⟨none, .store 22 _ _, _, _, _, _⟩) (g := w.heap.size + 1) (t := 22) (k := .u8) (xs := p.a0) (n := 32) rfl _ _ rfl rfl rfl a2 size32 HOK.out.2.symm (by simp [hz32.out]) ?_); intro w6 ha6 hg6)
  have a1 := ha5.grown hg6 (by intro q; injection q with q; omega)
  have h6 := h5.grown hg6 a2 (by omega) (by decide)
  refine MixQ.class h6 ?_
  refine mixS_nil ?_
  repeat (show wpQuiet _ _ _ _ (_ :: _) _; go_big_quiet_step (fail))
  refine wpQuiet_nil ?_
  refine NoPanic.normal ?_
  have B6 := (E2.out.drew.trans (below_of_only hg5 (Nat.le_refl _) E2.out.size)).trans (below_of_only hg6 (Nat.le_succ _) (Nat.le_trans E2.out.size hg5.size))
  go_wp2_with fail
  exact bodyPost_ret (results_sec rfl rfl rfl a1 ha6 HOK.out.1 HOK.out.2) rfl ⟨rfl, B6⟩
set_option maxRecDepth 100000 in
set_option maxHeartbeats 4000000 in
theorem secrets_2 (g : Nat) (p : PS) (vp vq v0 v1 vt : Value) (w : World) (h : ShB g w p vp vq v0 v1 vt) (hs : p.st = 100) : Calls Try.prog 10 #[.pointer (some ⟨g, 0, none⟩), .int .u8 2] w fun e w' => e = .returned (.tuple #[.agg (cellsL .u8 p.c1), .agg (cellsL .u8 p.a1), .bool true]) ∧ Below w.heap.size w w' := by
  have E2 := Lib.hid (((Below.refl w.heap.size w).alloc (Nat.le_refl _) (.cells (cellsL .u8 (zer 32)) 22)).alloc (by simp) (.cells (cellsL .u8 (zer 32)) 22))
  have H2 := Lib.hid (h.below E2.out)
  have A1 : Hid (Arr ((w.alloc (.cells (cellsL .u8 (zer 32)) 22)).alloc (.cells (cellsL .u8 (zer 32)) 22)) w.heap.size 22 .u8 (zer 32)) := Lib.hid ((Arr.newAt rfl rfl).alloc _)
  have A2 : Hid (Arr ((w.alloc (.cells (cellsL .u8 (zer 32)) 22)).alloc (.cells (cellsL .u8 (zer 32)) 22)) (w.heap.size + 1) 22 .u8 (zer 32)) := Lib.hid (Arr.newAt (by simp) rfl)
  have q1 : ((w.alloc (.cells #[.int .u8 0, .int .u8 0, .int .u8 0, .int .u8 0, .int .u8 0, .int .u8 0, .int .u8 0, .int .u8 0, .int .u8 0, .int .u8 0, .int .u8 0, .int .u8 0, .int .u8 0, .int .u8 0, .int .u8 0, .int .u8 0, .int .u8 0, .int .u8 0, .int .u8 0, .int .u8 0, .int .u8 0, .int .u8 0, .int .u8 0, .int .u8 0, .int .u8 0, .int .u8 0, .int .u8 0, .int .u8 0, .int .u8 0, .int .u8 0, .int .u8 0, .int .u8 0] 22)).alloc (.cells #[.int .u8 0, .int .u8 0, .int .u8 0, .int .u8 0, .int .u8 0, .int .u8 0, .int .u8 0, .int .u8 0, .int .u8 0, .int .u8 0, .int .u8 0, .int .u8 0, .int .u8 0, .int .u8 0, .int .u8 0, .int .u8 0, .int .u8 0, .int .u8 0, .int .u8 0, .int .u8 0, .int .u8 0, .int .u8 0, .int .u8 0, .int .u8 0, .int .u8 0, .int .u8 0, .int .u8 0, .int .u8 0, .int .u8 0, .int .u8 0, .int .u8 0, .int .u8 0] 22)).cell? ⟨g, 1, none⟩ = some (.int .u8 100) := by
    have := H2.out.c1
    rw [hs] at this
    exact this
  have HOK : Hid (p.c1.length = 32 ∧ p.a1.length = 32) := Lib.hid ⟨h.ok.c1, h.ok.a1⟩
  have hgl := h.lt
  clear h hs
  go_enter Try.func10, Try.ntmps10
  go_upto_region 3 with fail
  show Code.wp _ _ _ _ ((w.alloc (.cells (cellsL .u8 (zer 32)) 22)).alloc (.cells (cellsL .u8 (zer 32)) 22))
  clear q1
  generalize (w.alloc (.cells (cellsL .u8 (zer 32)) 22)).alloc (.cells (cellsL .u8 (zer 32)) 22) = w2 at *
  have hne : Nonempty (CW (fun v : World => ShB g v p vp vq v0 v1 vt)) := CW.inh H2.out
  have hz32 : Hid ((zer 32).length = 32) := Lib.hid (zer_len 32)
  refine wp_region_mix_class (fun v : World => ShB g v p vp vq v0 v1 vt) [([0, 1, 2, 3, 4, 5, 6, 7, 8, 9, 10, 11, 12, 13, 14, 15], 16), ([], 17)] [18] (by kernel_rfl) (by kernel_rfl) (by kernel_rfl) (by kernel_rfl) (H2.out.below (Below.refl _ _).drew) ?_
  simp only [pickL, List.map_cons, List.map_nil, List.filterMap_cons, List.filterMap_nil, List.getElem?_cons_succ, List.getElem?_cons_zero]
  refine mixS_cons ?_
  show wpQuiet _ _ _ _ (_ :: _) _
  go_big_quiet_step (fail)
  show wpQuiet _ _ _ _ (_ :: _) _
  go_big_quiet_step (fail)
  show wpQuiet _ _ _ _ (_ :: _) _
  go_big_quiet_step (fail)
  show wpQuiet _ _ _ _ (_ :: _) _
  go_big_quiet_step (fail)
  show wpQuiet _ _ _ _ (_ :: _) _
  go_big_quiet_step (fail)
  show wpQuiet _ _ _ _ (_ :: _) _
  go_big_quiet_step (fail)
  show wpQuiet _ _ _ _ (_ :: _) _
  go_big_quiet_step (fail)
  show wpQuiet _ _ _ _ (_ :: _) _
  refine wpQuiet_loadV (o := ⟨some 60, _, _, _, _, _⟩) rfl _ rfl rfl (fun w' hw' => by obtain ⟨r, rfl⟩ := hw'; exact r.holds.ld_c1) ?_
  simp only [Act.put, List.setIfInBounds_toArray, List.set_cons_zero, List.set_cons_succ]
  show wpQuiet _ _ _ _ (_ :: _) _
  go_big_quiet_step (fail)
  show wpQuiet _ _ _ _ (_ :: _) _
  go_big_quiet_step (fail)
  show wpQuiet _ _ _ _ (_ :: _) _
  go_big_quiet_step (fail)
  show wpQuiet _ _ _ _ (_ :: _) _
  go_big_quiet_step (fail)
  show wpQuiet _ _ _ _ (_ :: _) _
  go_big_quiet_step (fail)
  show wpQuiet _ _ _ _ (_ :: _) _
  go_big_quiet_step (fail)
  show wpQuiet _ _ _ _ (_ :: _) _
  go_big_quiet_step (fail)
  show wpQuiet _ _ _ _ (_ :: _) _
  refine wpQuiet_loadV (o := ⟨some 68, _, _, _, _, _⟩) rfl _ rfl rfl (fun w' hw' => by obtain ⟨r, rfl⟩ := hw'; exact r.holds.ld_a1) ?_
  simp only [Act.put, List.setIfInBounds_toArray, List.set_cons_zero, List.set_cons_succ]
  refine wpQuiet_nil ?_
  show wpList _ _ _ [_] _ _
  go_wp2_with ((with_reducible (show wpList _ _ _ (⟨none, .store 22 _ _, _, _, _, _⟩ :: _) _ _)); go_loud (refine wpList_storeArr (o := ⟨none, .store 22 _ _, _, _, _, _⟩) (g := w.heap.size) (t := 22) (k := .u8) (xs := p.c1) (n := 32) rfl _ _ rfl rfl rfl A1.out.drew size32 HOK.out.1.symm (by simp [hz32.out]) ?_); intro w5 ha5 hg5)
  have a2 := A2.out.drew.grown hg5 (by intro q; injection q with q; omega)
  have h5 := (H2.out.below (Below.refl w2.heap.size w2).drew).grown hg5 A1.out.drew (by omega) (by decide)
  refine MixQ.class h5 ?_
  refine mixS_cons ?_
  refine wpQuiet_nil ?_
  show wpList _ _ _ [_] _ _
  go_wp2_with ((with_reducible (show wpList _ _ _ (⟨none, .store 22 _ _, _, _, _, _⟩ :: _) _ _)); go_loud (refine wpList_storeArr (o := ⟨none, .store 22 _ _, _, _, _, _⟩) (g := w.heap.size + 1) (t := 22) (k := .u8) (xs := p.a1) (n := 32) rfl _ _ rfl rfl rfl a2 size32 HOK.out.2.symm (by simp [hz32.out]) ?_); intro w6 ha6 hg6)
  have a1 := ha5.grown hg6 (by intro q; injection q with q; omega)
  have h6 := h5.grown hg6 a2 (by omega) (by decide)
  refine MixQ.class h6 ?_
  refine mixS_nil ?_
  repeat (show wpQuiet _ _ _ _ (_ :: _) _; go_big_quiet_step (fail))
  refine wpQuiet_nil ?_
  refine NoPanic.normal ?_
  have B6 := (E2.out.drew.trans (below_of_only hg5 (Nat.le_refl _) E2.out.size)).trans (below_of_only hg6 (Nat.le_succ _) (Nat.le_trans E2.out.size hg5.size))
  go_wp2_with fail
  exact bodyPost_ret (results_sec rfl rfl rfl a1 ha6 HOK.out.1 HOK.out.2) rfl ⟨rfl, B6⟩
end Go.Proofs.Ythknncdhjicklaa
