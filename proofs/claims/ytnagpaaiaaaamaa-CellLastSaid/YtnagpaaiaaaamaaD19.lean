/- Layer 26: walk of the law CellPuts. Conditions: as each theorem states them. -/
import Derived.Test.YtnagpaaiaaaamaaD18
import Derived.Test.YtnagpaaiaaaamaaD10
import Derived.Test.YtnagpaaiaaaamaaD11
import Derived.Test.YtnagpaaiaaaamaaD5
namespace Go.Proofs.Ytnagpaaiaaaamaa
open Go.RowKit
theorem cxs_one {W : World} {g : Nat} {t : TypeId} (x : CX) (h : Blk W g t x.vs.toArray) (hc : CIn W.heap.size W x.A x.ts.length x.cap x.ts) : CXs W.heap.size W (some ⟨g, 0, none⟩) [x] := by
  intro i hi
  obtain rfl : i = 0 := by simp at hi; omega
  refine ⟨_, rfl, h.lt, fun j v hv => ?_, hc⟩
  have e : (⟨g, 0, none⟩ : Addr).add (0 * 5 + j) = ⟨g, j, none⟩ := by rw [Nat.zero_mul, Nat.zero_add]; exact add_zero_addr2 g j
  rw [e, Blk.cell h j]
  simpa using hv
theorem greatN_one (x : CX) : greatN [x] = 1 + rowsN (bsT x.ts) := by
  unfold greatN rowsX; simp
attribute [local irreducible] CL.rcd CL.size greatN
set_option maxRecDepth 100000 in
set_option maxHeartbeats 8000000 in
theorem puts26_walk (ep ow nx sn : Int) (A : Option Addr) (n cap : Nat) (ts : List Tx) (k : Int) (w : World) (hc : CIn w.heap.size w A n cap ts) (hf : (cl_ ep ow nx sn ts).Fit) (hn : n ≤ 140737488355328) (hb : ∀ t ∈ ts, t.xs.length ≤ 140737488355328) (k0 : 0 ≤ k) (k1 : k < 18446744073709551616) :
    Calls Try.prog 3 #[.agg #[.int .u64 ep, .int .u8 ow, .int .u64 nx, .int .u64 sn, .slice A n cap], .int .u64 k] w fun e w' => e = .returned (.bool true) ∧ Below w.heap.size w w' := by
  obtain ⟨hl, hcp, htx, hby⟩ := hc
  subst hl
  have HC : Hid (CIn w.heap.size w A ts.length cap ts) := Lib.hid ⟨rfl, hcp, htx, hby⟩
  have HX : Hid (∀ x ∈ [(⟨ep, ow, nx, sn, A, cap, ts⟩ : CX)], x.ts.length ≤ 140737488355328 ∧ ∀ t ∈ x.ts, t.xs.length ≤ 140737488355328) := Lib.hid (fun x hx => by
    rw [List.mem_singleton] at hx
    subst hx
    exact ⟨hn, hb⟩)
  have HGN := greatN_one ⟨ep, ow, nx, sn, A, cap, ts⟩
  have HF := Lib.hid hf
  have HSZ : Hid ((cl_ ep ow nx sn ts).size = 29 + rowsN (bsT ts)) := Lib.hid (by unfold CL.size; rfl)
  simp only at HGN
  replace HGN := Lib.hid HGN
  clear hb hf htx hby hcp
  obtain ⟨nt, hnt⟩ : ∃ z, ts.length = z := ⟨_, rfl⟩
  rw [hnt] at HC hn ⊢
  have HNT := Lib.hid hnt
  clear hnt
  have Z0 : Hid (Blk (w.alloc (.cells #[.int .u64 ep, .int .u8 ow, .int .u64 nx, .int .u64 sn, .slice A nt cap] 25)) w.heap.size 25 #[.int .u64 ep, .int .u8 ow, .int .u64 nx, .int .u64 sn, .slice A nt cap]) := Lib.hid (Blk.new _ _ _)
  have B0 := Lib.hid ((Below.refl w.heap.size w).alloc (Nat.le_refl _) (.cells #[.int .u64 ep, .int .u8 ow, .int .u64 nx, .int .u64 sn, .slice A nt cap] 25))
  go_enter Try.func3, Try.ntmps3
  go_wp2_with fail
  generalize w.alloc (.cells #[.int .u64 ep, .int .u8 ow, .int .u64 nx, .int .u64 sn, .slice A nt cap] 25) = w0 at *
  refine Calls.mono (known26 _) ?_
  rintro e w1 ⟨rfl, b1⟩
  have Z1 := Lib.hid (Z0.out.below b1 Z0.out.lt)
  have B1 := Lib.hid (B0.out.trans (b1.mono B0.out.size))
  clear b1 Z0 B0
  have T1 : Hid (Blk (w1.alloc (.cells #[.int .u64 ep, .int .u8 ow, .int .u64 nx, .int .u64 sn, .slice A nt cap] 25)) w1.heap.size 25 #[.int .u64 ep, .int .u8 ow, .int .u64 nx, .int .u64 sn, .slice A nt cap]) := Lib.hid (Blk.new _ _ _)
  have b2 := (Below.refl w1.heap.size w1).alloc (Nat.le_refl _) (.cells #[.int .u64 ep, .int .u8 ow, .int .u64 nx, .int .u64 sn, .slice A nt cap] 25)
  have Z2 := Lib.hid (Z1.out.below b2 Z1.out.lt)
  have B2 := Lib.hid (B1.out.trans (b2.mono B1.out.size))
  clear b2
  go_wp2_with ((with_reducible (show wpList _ _ _ (⟨some 10, .load _ _, _, _, _, _⟩ :: _) _ _)); refine wpList_loadV (o := ⟨some 10, .load _ _, _, _, _, _⟩) rfl _ rfl rfl (cb_load Z1.out) ?_)
  generalize hw2 : w1.alloc (.cells #[.int .u64 ep, .int .u8 ow, .int .u64 nx, .int .u64 sn, .slice A nt cap] 25) = w2 at *
  clear hw2 B1 Z1
  have C2 := Lib.hid ((HC.out.below B2.out (Nat.le_refl _)).mono B2.out.size)
  refine Calls.mono (great_any (some ⟨w1.heap.size, 0, none⟩) 1 1 [⟨ep, ow, nx, sn, A, cap, ts⟩] w2 rfl (cxs_one _ (by have h := T1.out; simp only [CX.vs, HNT.out]; exact h) (by simp only [HNT.out]; exact C2.out)) (by decide) HX.out) ?_
  rw [HGN.out]
  rintro e w3 ⟨rfl, rfl⟩
  clear T1
  by_cases hg : 20000 < 1 + rowsN (bsT ts)
  · have hg2 : decide (20000 < 1 + rowsN (bsT ts)) = true := decide_eq_true hg
    rw [hg2]
    clear hg hg2
    go_wp2_with fail
    go_ret
    exact ⟨rfl, B2.out⟩
  have hg2 : decide (20000 < 1 + rowsN (bsT ts)) = false := decide_eq_false hg
  rw [hg2]
  have HR : Hid (rowsN (bsT ts) ≤ 16000000) := Lib.hid (by omega)
  have HS : Hid ((cl_ ep ow nx sn ts).size ≤ 16777216) := Lib.hid (by rw [HSZ.out]; omega)
  clear hg hg2
  have RM := Lib.hid (fun (W : World) => rcmay_any ep ow nx sn A nt cap ts W HS.out)
  have PM := Lib.hid (fun (W : World) (h : CIn W.heap.size W A nt cap ts) => cmay_any ep ow nx sn A nt cap ts W h (by have := HR.out; omega))
  by_cases hm : (cl_ ep ow nx sn ts).May
  · have PY := Lib.hid (fun (W : World) (h : CIn W.heap.size W A nt cap ts) => cput_yes ep ow nx sn A nt cap ts k W h HF.out hm k0 k1)
    have RP := Lib.hid (fun (W : World) (h : CIn W.heap.size W A nt cap ts) => rput_any ep ow nx sn A nt cap ts k W h HF.out HR.out k0 k1)
    rw [decide_eq_true hm] at RM PM
    clear hm k0 k1
    generalize (cl_ ep ow nx sn ts).rcd k = L at *
    go_wp2_with ((with_reducible (show wpList _ _ _ (⟨some 14, .load _ _, _, _, _, _⟩ :: _) _ _)); refine wpList_loadV (o := ⟨some 14, .load _ _, _, _, _, _⟩) rfl _ rfl rfl (cb_load Z2.out) ?_)
    refine Calls.mono (PY.out _ C2.out) ?_
    rintro e w4 ⟨A4, n4, c4, rfl, o4, b4⟩
    have O4 := Lib.hid o4
    have Z4 := Lib.hid (Z2.out.below b4 Z2.out.lt)
    have B4 := Lib.hid (B2.out.trans (b4.mono B2.out.size))
    clear o4 b4 Z2 B2 C2 PY
    have C4 := Lib.hid ((HC.out.below B4.out (Nat.le_refl _)).mono B4.out.size)
    go_wp2_with ((with_reducible (show wpList _ _ _ (⟨some 19, .load _ _, _, _, _, _⟩ :: _) _ _)); refine wpList_loadV (o := ⟨some 19, .load _ _, _, _, _, _⟩) rfl _ rfl rfl (cb_load Z4.out) ?_)
    refine Calls.mono (RM.out _) ?_
    rintro e w5 ⟨rfl, b5⟩
    have O5 := Lib.hid (O4.out.below b5)
    have Z5 := Lib.hid (Z4.out.below b5 Z4.out.lt)
    have B5 := Lib.hid (B4.out.trans (b5.mono B4.out.size))
    clear b5 Z4 B4 C4 RM O4
    have C5 := Lib.hid ((HC.out.below B5.out (Nat.le_refl _)).mono B5.out.size)
    go_wp2_with ((with_reducible (show wpList _ _ _ (⟨some 21, .load _ _, _, _, _, _⟩ :: _) _ _)); refine wpList_loadV (o := ⟨some 21, .load _ _, _, _, _, _⟩) rfl _ rfl rfl (cb_load Z5.out) ?_)
    refine Calls.mono (PM.out _ C5.out) ?_
    rintro e w6 ⟨rfl, b6⟩
    have O6 := Lib.hid (O5.out.below b6)
    have Z6 := Lib.hid (Z5.out.below b6 Z5.out.lt)
    have B6 := Lib.hid (B5.out.trans (b6.mono B5.out.size))
    clear b6 Z5 B5 PM O5 C5
    go_wp2_with fail
    have hcv5 : ∀ r : BW w6.heap.size w6, (convert 29 9 (.slice A4 n4 c4)).run Try.prog r.world = .ok (.string (strOfNums L)) r.world := fun r => conv_own elC Try.underlying9 (O6.out.below r.below)
    have HLD : ∀ r : BW w6.heap.size w6, (Instr.loadAt 25 (.pointer (some ⟨w.heap.size, 0, none⟩))).run Try.prog r.world = .ok (.agg #[.int .u64 ep, .int .u8 ow, .int .u64 nx, .int .u64 sn, .slice A nt cap]) r.world := fun r => cb_load (Blk.below Z6.out r.below Z6.out.lt)
    have hz6 := B6.out.size
    refine wp_region_mixN w6.heap.size [([0, 1, 2, 3], 4)] [5, 6, 7, 8, 9, 10, 11] (by kernel_rfl) (by kernel_rfl) (by kernel_rfl) (by kernel_rfl) ?_
    try (rw [put_none])
    simp only [pickL, List.map_cons, List.map_nil, List.filterMap_cons, List.filterMap_nil, List.getElem?_cons_succ, List.getElem?_cons_zero]
    refine mixN_cons ?_
    show wpQuiet _ _ _ _ (_ :: _) _
    go_big_quiet_step (fail)
    show wpQuiet _ _ _ _ (_ :: _) _
    go_big_quiet_step (fail)
    show wpQuiet _ _ _ _ (_ :: _) _
    refine wpQuiet_loadV (o := ⟨some 36, _, _, _, _, _⟩) rfl _ rfl rfl (fun w' hw' => by obtain ⟨r, rfl⟩ := hw'; exact HLD r) ?_
    simp only [Act.put, List.setIfInBounds_toArray, List.set_cons_zero, List.set_cons_succ]
    repeat (show wpQuiet _ _ _ _ (_ :: _) _; go_big_quiet_step (fail))
    refine wpQuiet_nil ?_
    show wpList _ _ _ [_] _ _
    go_wp2_with fail
    have BD := Lib.hid (B6.out.trans (Below.drew (Below.refl w.heap.size w6)))
    refine Calls.mono (RP.out _ ((HC.out.below BD.out (Nat.le_refl _)).mono BD.out.size)) ?_
    rintro e w7 ⟨A7, n7, c7, rfl, o7, b7⟩
    have B67 : Hid (Below w6.heap.size w6 w7) := Lib.hid ((Below.refl w6.heap.size w6).drew.trans b7)
    have hcv6 : ∀ r : BW w7.heap.size w7, (convert 29 9 (.slice A7 n7 c7)).run Try.prog r.world = .ok (.string (strOfNums L)) r.world := fun r => conv_own elC Try.underlying9 (o7.below r.below)
    have B7 := Lib.hid (B6.out.trans (B67.out.mono hz6))
    clear b7 hcv5 HLD
    generalize strOfNums L = sa at *
    go_wp2_with fail
    refine MixN.narrow B67.out B67.out.size ?_
    refine mixN_nil ?_
    repeat (show wpQuiet _ _ _ _ (_ :: _) _; go_big_quiet_step (fail))
    refine wpQuiet_nil ?_
    refine NoPanic.normal ?_
    clear hcv6 o7
    go_wp2_with fail
    go_ret
    exact ⟨rfl, B7.out⟩
  · have PN := Lib.hid (fun (W : World) (h : CIn W.heap.size W A nt cap ts) => cput_no ep ow nx sn A nt cap ts k W h (by have := HR.out; omega) hm)
    rw [decide_eq_false hm] at RM PM
    clear hm k0 k1
    go_wp2_with ((with_reducible (show wpList _ _ _ (⟨some 14, .load _ _, _, _, _, _⟩ :: _) _ _)); refine wpList_loadV (o := ⟨some 14, .load _ _, _, _, _, _⟩) rfl _ rfl rfl (cb_load Z2.out) ?_)
    refine Calls.mono (PN.out _ C2.out) ?_
    rintro e w4 ⟨rfl, b4⟩
    have Z4 := Lib.hid (Z2.out.below b4 Z2.out.lt)
    have B4 := Lib.hid (B2.out.trans (b4.mono B2.out.size))
    clear b4 Z2 B2 C2 PN
    have C4 := Lib.hid ((HC.out.below B4.out (Nat.le_refl _)).mono B4.out.size)
    go_wp2_with ((with_reducible (show wpList _ _ _ (⟨some 19, .load _ _, _, _, _, _⟩ :: _) _ _)); refine wpList_loadV (o := ⟨some 19, .load _ _, _, _, _, _⟩) rfl _ rfl rfl (cb_load Z4.out) ?_)
    refine Calls.mono (RM.out _) ?_
    rintro e w5 ⟨rfl, b5⟩
    have Z5 := Lib.hid (Z4.out.below b5 Z4.out.lt)
    have B5 := Lib.hid (B4.out.trans (b5.mono B4.out.size))
    clear b5 Z4 B4 C4 RM
    have C5 := Lib.hid ((HC.out.below B5.out (Nat.le_refl _)).mono B5.out.size)
    go_wp2_with ((with_reducible (show wpList _ _ _ (⟨some 21, .load _ _, _, _, _, _⟩ :: _) _ _)); refine wpList_loadV (o := ⟨some 21, .load _ _, _, _, _, _⟩) rfl _ rfl rfl (cb_load Z5.out) ?_)
    refine Calls.mono (PM.out _ C5.out) ?_
    rintro e w6 ⟨rfl, b6⟩
    have B6 := Lib.hid (B5.out.trans (b6.mono B5.out.size))
    clear b6 Z5 B5 PM C5
    go_wp2_with fail
    go_ret
    exact ⟨rfl, B6.out⟩
end Go.Proofs.Ytnagpaaiaaaamaa
