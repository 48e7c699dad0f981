/- Layer 21: contract of goes, where a message is not whole yet. Conditions: as each theorem states them. -/
import Derived.Test.YthknncdhjicklaaH13
namespace Go.Proofs.Ythknncdhjicklaa
open Go.RowKit
theorem size_b (A : Option Addr) (c n : Nat) (b : List Int) (w : World) (hr : Rd w.heap.size .u8 w A b) (hb : Byt b) (hn : b.length = n) (hl : n ≤ 1000000) (s : Int) (hs : sizL b = s) :
    Calls Try.prog 19 #[.slice A n c] w fun e w' => e = .returned (.int .i64 s) ∧ Below w.heap.size w w' := by
  subst hs
  refine (size_any A c n b w hr hb hn hl).mono ?_
  rintro e w' ⟨rfl, k, rfl⟩
  exact ⟨rfl, below_drewN (Below.refl _ _) k⟩
theorem sizL_nil : sizL [] = 0 := by unfold sizL; rfl
theorem index_in0 (a b : Value) (w : World) : (Instr.index 38 (.agg #[a, b]) (.int .i64 0)).run Try.prog w = .ok a w := by
  simp [Instr.index, run_underlying Try.underlying38, asIntOf, part, isAgg, run_underlying Try.underlying23]
theorem index_in1 (a b : Value) (w : World) : (Instr.index 38 (.agg #[a, b]) (.int .i64 1)).run Try.prog w = .ok b w := by
  simp [Instr.index, run_underlying Try.underlying38, asIntOf, part, isAgg, run_underlying Try.underlying23]
theorem wt_one (a b : Int) (f : FuncId) : ∀ v ∈ wtV a b f, v.oneCell' = true := by
  intro v hv
  unfold wtV at hv
  simp only [List.mem_cons, List.not_mem_nil, or_false] at hv
  rcases hv with rfl | rfl | rfl <;> rfl
theorem wt_cells {g : Nat} {w : World} {a b : Int} {f : FuncId} (h : Blk w g 50 (wtV a b f).toArray) : w.cell? ⟨g, 0, none⟩ = some (.int .u8 a) ∧ w.cell? ⟨g, 1, none⟩ = some (.int .u8 b) ∧ w.cell? ⟨g, 2, none⟩ = some (.func (Fn.func f) #[] #[]) := ⟨Blk.cell h 0, Blk.cell h 1, Blk.cell h 2⟩
set_option maxRecDepth 100000 in
set_option maxHeartbeats 4000000 in
theorem waits_h (g : Nat) (p : PS) (vp vq vt : Value) (A B : Option Addr) (n c d : Nat) (s : Int) (w : World) (h : ShB g w p vp vq (.slice A n c) (.slice B 0 d) vt) (hs : p.sv = true) (h0 : p.st = 0) (hs2 : sizL p.i0 = s) (hn : n ≤ 2004) (hw : (s = 0 ∧ n < 4) ∨ ((n : Int) < s ∧ s ≤ 2004)) :
    Calls Try.prog 13 #[.pointer (some ⟨g, 0, none⟩)] w fun e w' => e = .returned (.tuple #[.slice none 0 0, .int .i64 0]) ∧ Below w.heap.size w w' := by
  have H0 := Lib.hid h
  have HSV := Lib.hid hs
  have HST := Lib.hid h0
  have HSZ := Lib.hid hs2
  have HNL : Hid (p.i0.length = n ∧ p.i1 = []) := Lib.hid ⟨h.i0.mk.1.symm, List.length_eq_zero_iff.1 h.i1.mk.1.symm⟩
  clear h hs h0 hs2
  have SA : Hid (∀ w', Below w.heap.size w w' → Calls Try.prog 19 #[.slice A n c] w' fun e w2 => e = .returned (.int .i64 s) ∧ Below w'.heap.size w' w2) := Lib.hid (fun w' hb => size_b A c n p.i0 w' (H0.out.below hb).i0.mk.2.2 H0.out.ok.bi0 HNL.out.1 (by omega) s HSZ.out)
  have SB : Hid (∀ w', Below w.heap.size w w' → Calls Try.prog 19 #[.slice B 0 d] w' fun e w2 => e = .returned (.int .i64 0) ∧ Below w'.heap.size w' w2) := Lib.hid (fun w' hb => size_b B d 0 [] w' Rd.nil Byt.nil rfl (by omega) 0 sizL_nil)
  have L0 := Lib.hid H0.out.ld_in
  have hw1 : s ≤ 2004 := by omega
  have ix0 := index_in0 (.slice A n c) (.slice B 0 d)
  have ix1 := index_in1 (.slice A n c) (.slice B 0 d)
  rcases hw with ⟨hs0, hlt⟩ | ⟨hlt, _⟩
  all_goals
    first | subst hs0 | (have hne : (s == 0) = false := by rw [beq_eq_false_iff_ne]; omega)
    go_enter Try.func13, Try.ntmps13
    go_wp2_with fail
    refine wp_loop_rounds 2 ?_
    rw [rounds_succ]
    go_wp2_with ((with_reducible (show wpList _ _ _ (⟨some 17, .load _ _, _, _, _, _⟩ :: _) _ _)); refine wpList_loadV (o := ⟨some 17, .load _ _, _, _, _, _⟩) rfl _ rfl rfl (L0.out) ?_)
    refine wp_loop_rounds 3 ?_
    rw [rounds_succ]
    go_wp2_with fail
    refine Calls.mono (SA.out w (Below.refl _ _)) ?_
    rintro e w1 ⟨rfl, b1⟩
    have B1 := Lib.hid b1
    clear b1
    go_wp2_with fail
    rw [rounds_succ]
    go_wp2_with fail
    refine Calls.mono (SB.out w1 B1.out) ?_
    rintro e w2 ⟨rfl, b2⟩
    have B2 := Lib.hid (B1.out.trans (b2.mono B1.out.size))
    clear b2 B1 L0
    go_wp2_with fail
    rw [rounds_succ]
    go_wp2_with fail
    refine Calls.mono (wants_h g p vp vq _ _ vt w2 (H0.out.below B2.out) HSV.out HST.out) ?_
    rintro e w3 ⟨rfl, b3⟩
    have B3 := Lib.hid (B2.out.trans (b3.mono B2.out.size))
    clear b3 B2
    have F8 : Hid (Blk (w3.alloc (.cells #[.int .u8 0, .int .u8 0, .nilFunc] 50)) w3.heap.size 50 #[.int .u8 0, .int .u8 0, .nilFunc]) := Lib.hid (Blk.new _ _ _)
    go_wp2_with ((with_reducible (show wpList _ _ _ (⟨none, .store 50 _ _, _, _, _, _⟩ :: _) _ _)); go_loud (refine wpList_storeBlk (o := ⟨none, .store 50 _ _, _, _, _, _⟩) (g := w3.heap.size) (t := 50) (vs := wtV 0 1 15) rfl _ _ rfl rfl rfl F8.out rfl (wt_one _ _ _) sizeW ?_); intro w4 z4 g4; obtain ⟨c0, c1, c2⟩ := wt_cells z4; have B4 := Lib.hid (B3.out.trans ((((Below.refl w3.heap.size w3).alloc (Nat.le_refl _) _).trans (below_of_only g4 (Nat.le_refl _) (by simp))).mono B3.out.size)); have H4 := Lib.hid (H0.out.below B4.out); have q4 := H4.out.c5.2.2.1)
    go_region
    go_wp2_with fail
    refine Calls.mono (SA.out _ B4.out.drew) ?_
    rintro e w5 ⟨rfl, b5⟩
    have B5 := Lib.hid (B4.out.drew.trans (b5.mono B4.out.size))
    clear b5 c0 c1 c2 q4 SA SB ix0 ix1
    go_wp2_with fail
    exact bodyPost_ret (results_tmp2 rfl _ _ _) rfl ⟨rfl, B5.out⟩
set_option maxRecDepth 100000 in
set_option maxHeartbeats 4000000 in
theorem waits_c (g : Nat) (p : PS) (vp vq vt : Value) (A B : Option Addr) (n c d : Nat) (s : Int) (w : World) (h : ShB g w p vp vq (.slice B 0 d) (.slice A n c) vt) (hs : p.sv = true) (h0 : p.st = 3) (hs2 : sizL p.i1 = s) (hn : n ≤ 2004) (hw : (s = 0 ∧ n < 4) ∨ ((n : Int) < s ∧ s ≤ 2004)) :
    Calls Try.prog 13 #[.pointer (some ⟨g, 0, none⟩)] w fun e w' => e = .returned (.tuple #[.slice none 0 0, .int .i64 0]) ∧ Below w.heap.size w w' := by
  have H0 := Lib.hid h
  have HSV := Lib.hid hs
  have HST := Lib.hid h0
  have HSZ := Lib.hid hs2
  have HNL : Hid (p.i1.length = n ∧ p.i0 = []) := Lib.hid ⟨h.i1.mk.1.symm, List.length_eq_zero_iff.1 h.i0.mk.1.symm⟩
  clear h hs h0 hs2
  have SA : Hid (∀ w', Below w.heap.size w w' → Calls Try.prog 19 #[.slice A n c] w' fun e w2 => e = .returned (.int .i64 s) ∧ Below w'.heap.size w' w2) := Lib.hid (fun w' hb => size_b A c n p.i1 w' (H0.out.below hb).i1.mk.2.2 H0.out.ok.bi1 HNL.out.1 (by omega) s HSZ.out)
  have SB : Hid (∀ w', Below w.heap.size w w' → Calls Try.prog 19 #[.slice B 0 d] w' fun e w2 => e = .returned (.int .i64 0) ∧ Below w'.heap.size w' w2) := Lib.hid (fun w' hb => size_b B d 0 [] w' Rd.nil Byt.nil rfl (by omega) 0 sizL_nil)
  have L0 := Lib.hid H0.out.ld_in
  have hw1 : s ≤ 2004 := by omega
  have ix0 := index_in0 (.slice B 0 d) (.slice A n c)
  have ix1 := index_in1 (.slice B 0 d) (.slice A n c)
  rcases hw with ⟨hs0, hlt⟩ | ⟨hlt, _⟩
  all_goals
    first | subst hs0 | (have hne : (s == 0) = false := by rw [beq_eq_false_iff_ne]; omega)
    go_enter Try.func13, Try.ntmps13
    go_wp2_with fail
    refine wp_loop_rounds 2 ?_
    rw [rounds_succ]
    go_wp2_with ((with_reducible (show wpList _ _ _ (⟨some 17, .load _ _, _, _, _, _⟩ :: _) _ _)); refine wpList_loadV (o := ⟨some 17, .load _ _, _, _, _, _⟩) rfl _ rfl rfl (L0.out) ?_)
    refine wp_loop_rounds 3 ?_
    rw [rounds_succ]
    go_wp2_with fail
    refine Calls.mono (SB.out w (Below.refl _ _)) ?_
    rintro e w1 ⟨rfl, b1⟩
    have B1 := Lib.hid b1
    clear b1
    go_wp2_with fail
    rw [rounds_succ]
    go_wp2_with fail
    refine Calls.mono (SA.out w1 B1.out) ?_
    rintro e w2 ⟨rfl, b2⟩
    have B2 := Lib.hid (B1.out.trans (b2.mono B1.out.size))
    clear b2 B1 L0
    go_wp2_with fail
    rw [rounds_succ]
    go_wp2_with fail
    refine Calls.mono (wants_c g p vp vq _ _ vt w2 (H0.out.below B2.out) HSV.out HST.out) ?_
    rintro e w3 ⟨rfl, b3⟩
    have B3 := Lib.hid (B2.out.trans (b3.mono B2.out.size))
    clear b3 B2
    have F8 : Hid (Blk (w3.alloc (.cells #[.int .u8 0, .int .u8 0, .nilFunc] 50)) w3.heap.size 50 #[.int .u8 0, .int .u8 0, .nilFunc]) := Lib.hid (Blk.new _ _ _)
    go_wp2_with ((with_reducible (show wpList _ _ _ (⟨none, .store 50 _ _, _, _, _, _⟩ :: _) _ _)); go_loud (refine wpList_storeBlk (o := ⟨none, .store 50 _ _, _, _, _, _⟩) (g := w3.heap.size) (t := 50) (vs := wtV 1 20 16) rfl _ _ rfl rfl rfl F8.out rfl (wt_one _ _ _) sizeW ?_); intro w4 z4 g4; obtain ⟨c0, c1, c2⟩ := wt_cells z4; have B4 := Lib.hid (B3.out.trans ((((Below.refl w3.heap.size w3).alloc (Nat.le_refl _) _).trans (below_of_only g4 (Nat.le_refl _) (by simp))).mono B3.out.size)); have H4 := Lib.hid (H0.out.below B4.out); have q4 := H4.out.c5.2.2.2.1)
    go_region
    go_wp2_with fail
    refine Calls.mono (SA.out _ B4.out.drew) ?_
    rintro e w5 ⟨rfl, b5⟩
    have B5 := Lib.hid (B4.out.drew.trans (b5.mono B4.out.size))
    clear b5 c0 c1 c2 q4 SA SB ix0 ix1
    go_wp2_with fail
    exact bodyPost_ret (results_tmp2 rfl _ _ _) rfl ⟨rfl, B5.out⟩
set_option maxRecDepth 100000 in
set_option maxHeartbeats 4000000 in
theorem waits_a (g : Nat) (p : PS) (vp vq vt : Value) (A B : Option Addr) (n c d : Nat) (s : Int) (w : World) (h : ShB g w p vp vq (.slice A n c) (.slice B 0 d) vt) (hs : p.sv = false) (h0 : p.st = 1) (hs2 : sizL p.i0 = s) (hn : n ≤ 2004) (hw : (s = 0 ∧ n < 4) ∨ ((n : Int) < s ∧ s ≤ 2004)) :
    Calls Try.prog 13 #[.pointer (some ⟨g, 0, none⟩)] w fun e w' => e = .returned (.tuple #[.slice none 0 0, .int .i64 0]) ∧ Below w.heap.size w w' := by
  have H0 := Lib.hid h
  have HSV := Lib.hid hs
  have HST := Lib.hid h0
  have HSZ := Lib.hid hs2
  have HNL : Hid (p.i0.length = n ∧ p.i1 = []) := Lib.hid ⟨h.i0.mk.1.symm, List.length_eq_zero_iff.1 h.i1.mk.1.symm⟩
  clear h hs h0 hs2
  have SA : Hid (∀ w', Below w.heap.size w w' → Calls Try.prog 19 #[.slice A n c] w' fun e w2 => e = .returned (.int .i64 s) ∧ Below w'.heap.size w' w2) := Lib.hid (fun w' hb => size_b A c n p.i0 w' (H0.out.below hb).i0.mk.2.2 H0.out.ok.bi0 HNL.out.1 (by omega) s HSZ.out)
  have SB : Hid (∀ w', Below w.heap.size w w' → Calls Try.prog 19 #[.slice B 0 d] w' fun e w2 => e = .returned (.int .i64 0) ∧ Below w'.heap.size w' w2) := Lib.hid (fun w' hb => size_b B d 0 [] w' Rd.nil Byt.nil rfl (by omega) 0 sizL_nil)
  have L0 := Lib.hid H0.out.ld_in
  have hw1 : s ≤ 2004 := by omega
  have ix0 := index_in0 (.slice A n c) (.slice B 0 d)
  have ix1 := index_in1 (.slice A n c) (.slice B 0 d)
  rcases hw with ⟨hs0, hlt⟩ | ⟨hlt, _⟩
  all_goals
    first | subst hs0 | (have hne : (s == 0) = false := by rw [beq_eq_false_iff_ne]; omega)
    go_enter Try.func13, Try.ntmps13
    go_wp2_with fail
    refine wp_loop_rounds 2 ?_
    rw [rounds_succ]
    go_wp2_with ((with_reducible (show wpList _ _ _ (⟨some 17, .load _ _, _, _, _, _⟩ :: _) _ _)); refine wpList_loadV (o := ⟨some 17, .load _ _, _, _, _, _⟩) rfl _ rfl rfl (L0.out) ?_)
    refine wp_loop_rounds 3 ?_
    rw [rounds_succ]
    go_wp2_with fail
    refine Calls.mono (SA.out w (Below.refl _ _)) ?_
    rintro e w1 ⟨rfl, b1⟩
    have B1 := Lib.hid b1
    clear b1
    go_wp2_with fail
    rw [rounds_succ]
    go_wp2_with fail
    refine Calls.mono (SB.out w1 B1.out) ?_
    rintro e w2 ⟨rfl, b2⟩
    have B2 := Lib.hid (B1.out.trans (b2.mono B1.out.size))
    clear b2 B1 L0
    go_wp2_with fail
    rw [rounds_succ]
    go_wp2_with fail
    refine Calls.mono (wants_a g p vp vq _ _ vt w2 (H0.out.below B2.out) HSV.out HST.out) ?_
    rintro e w3 ⟨rfl, b3⟩
    have B3 := Lib.hid (B2.out.trans (b3.mono B2.out.size))
    clear b3 B2
    have F8 : Hid (Blk (w3.alloc (.cells #[.int .u8 0, .int .u8 0, .nilFunc] 50)) w3.heap.size 50 #[.int .u8 0, .int .u8 0, .nilFunc]) := Lib.hid (Blk.new _ _ _)
    go_wp2_with ((with_reducible (show wpList _ _ _ (⟨none, .store 50 _ _, _, _, _, _⟩ :: _) _ _)); go_loud (refine wpList_storeBlk (o := ⟨none, .store 50 _ _, _, _, _, _⟩) (g := w3.heap.size) (t := 50) (vs := wtV 0 2 17) rfl _ _ rfl rfl rfl F8.out rfl (wt_one _ _ _) sizeW ?_); intro w4 z4 g4; obtain ⟨c0, c1, c2⟩ := wt_cells z4; have B4 := Lib.hid (B3.out.trans ((((Below.refl w3.heap.size w3).alloc (Nat.le_refl _) _).trans (below_of_only g4 (Nat.le_refl _) (by simp))).mono B3.out.size)); have H4 := Lib.hid (H0.out.below B4.out); have q4 := H4.out.c5.2.2.1)
    go_region
    go_wp2_with fail
    refine Calls.mono (SA.out _ B4.out.drew) ?_
    rintro e w5 ⟨rfl, b5⟩
    have B5 := Lib.hid (B4.out.drew.trans (b5.mono B4.out.size))
    clear b5 c0 c1 c2 q4 SA SB ix0 ix1
    go_wp2_with fail
    exact bodyPost_ret (results_tmp2 rfl _ _ _) rfl ⟨rfl, B5.out⟩
set_option maxRecDepth 100000 in
set_option maxHeartbeats 4000000 in
theorem waits_f (g : Nat) (p : PS) (vp vq vt : Value) (A B : Option Addr) (n c d : Nat) (s : Int) (w : World) (h : ShB g w p vp vq (.slice B 0 d) (.slice A n c) vt) (hs : p.sv = false) (h0 : p.st = 2) (hs2 : sizL p.i1 = s) (hn : n ≤ 2004) (hw : (s = 0 ∧ n < 4) ∨ ((n : Int) < s ∧ s ≤ 2004)) :
    Calls Try.prog 13 #[.pointer (some ⟨g, 0, none⟩)] w fun e w' => e = .returned (.tuple #[.slice none 0 0, .int .i64 0]) ∧ Below w.heap.size w w' := by
  have H0 := Lib.hid h
  have HSV := Lib.hid hs
  have HST := Lib.hid h0
  have HSZ := Lib.hid hs2
  have HNL : Hid (p.i1.length = n ∧ p.i0 = []) := Lib.hid ⟨h.i1.mk.1.symm, List.length_eq_zero_iff.1 h.i0.mk.1.symm⟩
  clear h hs h0 hs2
  have SA : Hid (∀ w', Below w.heap.size w w' → Calls Try.prog 19 #[.slice A n c] w' fun e w2 => e = .returned (.int .i64 s) ∧ Below w'.heap.size w' w2) := Lib.hid (fun w' hb => size_b A c n p.i1 w' (H0.out.below hb).i1.mk.2.2 H0.out.ok.bi1 HNL.out.1 (by omega) s HSZ.out)
  have SB : Hid (∀ w', Below w.heap.size w w' → Calls Try.prog 19 #[.slice B 0 d] w' fun e w2 => e = .returned (.int .i64 0) ∧ Below w'.heap.size w' w2) := Lib.hid (fun w' hb => size_b B d 0 [] w' Rd.nil Byt.nil rfl (by omega) 0 sizL_nil)
  have L0 := Lib.hid H0.out.ld_in
  have hw1 : s ≤ 2004 := by omega
  have ix0 := index_in0 (.slice B 0 d) (.slice A n c)
  have ix1 := index_in1 (.slice B 0 d) (.slice A n c)
  rcases hw with ⟨hs0, hlt⟩ | ⟨hlt, _⟩
  all_goals
    first | subst hs0 | (have hne : (s == 0) = false := by rw [beq_eq_false_iff_ne]; omega)
    go_enter Try.func13, Try.ntmps13
    go_wp2_with fail
    refine wp_loop_rounds 2 ?_
    rw [rounds_succ]
    go_wp2_with ((with_reducible (show wpList _ _ _ (⟨some 17, .load _ _, _, _, _, _⟩ :: _) _ _)); refine wpList_loadV (o := ⟨some 17, .load _ _, _, _, _, _⟩) rfl _ rfl rfl (L0.out) ?_)
    refine wp_loop_rounds 3 ?_
    rw [rounds_succ]
    go_wp2_with fail
    refine Calls.mono (SB.out w (Below.refl _ _)) ?_
    rintro e w1 ⟨rfl, b1⟩
    have B1 := Lib.hid b1
    clear b1
    go_wp2_with fail
    rw [rounds_succ]
    go_wp2_with fail
    refine Calls.mono (SA.out w1 B1.out) ?_
    rintro e w2 ⟨rfl, b2⟩
    have B2 := Lib.hid (B1.out.trans (b2.mono B1.out.size))
    clear b2 B1 L0
    go_wp2_with fail
    rw [rounds_succ]
    go_wp2_with fail
    refine Calls.mono (wants_f g p vp vq _ _ vt w2 (H0.out.below B2.out) HSV.out HST.out) ?_
    rintro e w3 ⟨rfl, b3⟩
    have B3 := Lib.hid (B2.out.trans (b3.mono B2.out.size))
    clear b3 B2
    have F8 : Hid (Blk (w3.alloc (.cells #[.int .u8 0, .int .u8 0, .nilFunc] 50)) w3.heap.size 50 #[.int .u8 0, .int .u8 0, .nilFunc]) := Lib.hid (Blk.new _ _ _)
    go_wp2_with ((with_reducible (show wpList _ _ _ (⟨none, .store 50 _ _, _, _, _, _⟩ :: _) _ _)); go_loud (refine wpList_storeBlk (o := ⟨none, .store 50 _ _, _, _, _, _⟩) (g := w3.heap.size) (t := 50) (vs := wtV 1 20 18) rfl _ _ rfl rfl rfl F8.out rfl (wt_one _ _ _) sizeW ?_); intro w4 z4 g4; obtain ⟨c0, c1, c2⟩ := wt_cells z4; have B4 := Lib.hid (B3.out.trans ((((Below.refl w3.heap.size w3).alloc (Nat.le_refl _) _).trans (below_of_only g4 (Nat.le_refl _) (by simp))).mono B3.out.size)); have H4 := Lib.hid (H0.out.below B4.out); have q4 := H4.out.c5.2.2.2.1)
    go_region
    go_wp2_with fail
    refine Calls.mono (SA.out _ B4.out.drew) ?_
    rintro e w5 ⟨rfl, b5⟩
    have B5 := Lib.hid (B4.out.drew.trans (b5.mono B4.out.size))
    clear b5 c0 c1 c2 q4 SA SB ix0 ix1
    go_wp2_with fail
    exact bodyPost_ret (results_tmp2 rfl _ _ _) rfl ⟨rfl, B5.out⟩
end Go.Proofs.Ythknncdhjicklaa
