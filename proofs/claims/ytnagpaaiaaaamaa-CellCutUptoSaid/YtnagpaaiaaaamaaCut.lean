/-
  For every input of bulk at most 1048576 the law 'CellCut' (hostler/hostlerlaw26) returns true, and each argument reads afterwards as it read before. Conditions: none beyond the row's own.
-/
import Derived.Test.YtnagpaaiaaaamaaD21
import Derived.WalkKit
import Derived.ProofKit
import Derived.OpenShut
import Derived.ShutString
import Derived.ChangeOld
import Derived.Below
import Derived.SizedLaws
import Derived.JoinedCond
import Derived.Deep.CondSized
import Derived.Test.YtnagpaaiaaaamaaBO
namespace Go.Proofs.Ytnagpaaiaaaamaa.cellCut
open Go.ChangeShapes Go.WideShapes Go.ChangeAt Go.RowKit
open Go.ChangeMaps (open_string shut_string)
set_option linter.unusedVariables false
theorem own : ownKnob Try.prog.godebug = none := by kernel_rfl
theorem laidOut : laidOutB Try.prog = true := by kernel_rfl

theorem contract (H : Type) (enc : TypeId × Value → H) (W : World) (base : Nat) (args : Array Value) (ds gs : List (DataW H)) (before : List MemPlace)
    (hval0 : ∀ (j : Nat) t v, Try.f5.params[j]? = some t → args[j]? = some v → Value.okWide Try.prog W .any base t v)
    (hW : DataW.Whole enc Try.prog Try.f5.params.toList Rows.cellCutSpec.vars false W args.toList ds gs before) (hk : Rows.uptoSmall H (ds ++ gs) = true)
    (hsz : (DataW.weightsEach Try.prog (Try.f5.params.toList ++ (Rows.OpenSpec.upto Rows.cellCutSpec).bare.plain.varTypes Try.prog) (ds ++ gs)).all (· ≤ reachBytes) = true) :
    Calls Try.prog 5 args W fun e W' => ∃ v, e = .returned v ∧ Rows.cellCutSpec.post enc Try.prog Try.f5 false true false false W args v W' := by
  have hval : ∀ (j : Nat) t v, Try.f5.params[j]? = some t → args[j]? = some v → Value.okWide Try.prog W .any base t v := hval0
  have hW' := hW
  obtain ⟨p, q, hA0, hV, rfl, hfz, hnd⟩ := hW
  have hA : DataW.TrodAll enc Try.prog W 0 (fun _ => true) true Try.f5.params.toList args.toList ds p := hA0
  rw [Try.params5] at hA hval hsz
  obtain ⟨v0, vs0, d0, ds0, p0, q0, hargs, rfl, rfl, h0, r0⟩ := trodAll_cons hA
  obtain ⟨v1, vs1, d1, ds1, p1, q1, rfl, rfl, rfl, h1, r1⟩ := trodAll_cons r0
  obtain ⟨v2, vs2, d2, ds2, p2, q2, rfl, rfl, rfl, h2, r2⟩ := trodAll_cons r1
  obtain ⟨v3, vs3, d3, ds3, p3, q3, rfl, rfl, rfl, h3, r3⟩ := trodAll_cons r2
  obtain ⟨rfl, rfl, rfl⟩ := trodAll_nil r3
  obtain rfl : args = #[v0, v1, v2, v3] := by cases args; simp_all
  obtain ⟨rfl, rfl⟩ := trodVars_none hV
  have k0 := h0
  have lt0 : ∀ x ∈ p0, x.block < W.heap.size := by obtain ⟨m, hm⟩ := k0; exact DataW.trod_lt m _ _ _ hm
  obtain ⟨u0, u1, u2, u3, u4, yy0, yy1, yy2, yy3, yy4, nn, rfl, rfl, rfl, t0, t1, t2, t3, t4⟩ := open_agg5 Try.underlying25 (by kernel_rfl) (by kernel_rfl) (hval 0 25 v0 rfl rfl) h0
  have lgc : Light Try.prog 25 (.agg [yy0.1, yy1.1, yy2.1, yy3.1, yy4.1]) := light_of hsz (j := 0) rfl rfl
  obtain ⟨ep, xx0, _, ww0⟩ := DataW.trod_int Try.underlying22 t0
  obtain ⟨ow, xx1, _, ww1⟩ := DataW.trod_int Try.underlying5 t1
  obtain ⟨nx, xx2, _, ww2⟩ := DataW.trod_int Try.underlying22 t2
  obtain ⟨sn, xx3, _, ww3⟩ := DataW.trod_int Try.underlying22 t3
  simp at xx0 xx1 xx2 xx3
  subst xx0 xx1 xx2 xx3
  have bb0 := bounds_u64 ww0
  have bb1 := bounds_u8 ww1
  have bb2 := bounds_u64 ww2
  have bb3 := bounds_u64 ww3
  have hkb : Rows.uptoBulkAll [DataW.agg (H := H) [yy0.1, yy1.1, yy2.1, yy3.1, yy4.1]] ≤ 1048576 := by
    have hk' := of_decide_eq_true hk
    exact Nat.le_trans (by simp only [Rows.uptoBulkAll, List.cons_append]; omega) hk'
  have hkc : Rows.uptoBulk yy4.1 ≤ 1048576 := by
    simp only [Rows.uptoBulkAll, Rows.uptoBulk] at hkb
    omega
  obtain ⟨Aq, cq, ts, rfl, sq, fq, gq, mq, xq⟩ := txs_open Try.underlying23 Try.underlying29 Try.underlying5 (by kernel_rfl) (by kernel_rfl) (of_decide_eq_true (by kernel_rfl)) (of_decide_eq_true (by kernel_rfl)) t4 (lgc.field (j := 4) Try.underlying25 rfl rfl)
  obtain ⟨a1, rfl, rfl, rfl, w1⟩ := open_int Try.underlying22 (hval 1 22 v1 rfl rfl) h1
  have b1 := bounds_u64 w1
  obtain ⟨a2, rfl, rfl, rfl, w2⟩ := open_int Try.underlying3 (hval 2 3 v2 rfl rfl) h2
  have b2 := bounds_i64 w2
  obtain ⟨A3, l3, c3, rfl⟩ := okWide_slice Try.underlying29 (hval 3 29 v3 rfl rfl)
  have k3 := h3
  have lt3 : ∀ x ∈ p3, x.block < W.heap.size := by obtain ⟨m, hm⟩ := k3; exact DataW.trod_lt m _ _ _ hm
  obtain ⟨z3, w3⟩ : ∃ zs, IsRow .u8 W A3 l3 c3 zs := by
    obtain ⟨fuel, hf⟩ := h3
    exact isRow_of_trod Try.underlying29 Try.underlying5 (by kernel_rfl) hf
  have g3 : l3 ≤ 140737488351232 := by
    obtain ⟨fuel, hf⟩ := k3
    exact isRow_light Try.underlying29 Try.underlying5 (by kernel_rfl) (of_decide_eq_true (by kernel_rfl)) hf (light_of hsz (j := 3) rfl rfl)
  obtain ⟨x3, rfl, s3, m3, f3⟩ := rd_open w3
  replace f3 := byt_wf f3
  have HRW : rowsN (bsT ts) ≤ 1000000000000 := by
    have h := txs_bulk Try.underlying23 Try.underlying29 Try.underlying5 (by kernel_rfl) (by kernel_rfl) t4 rfl sq
    omega
  clear hA0 hval0
  refine (cut26_walk ep ow nx sn Aq ts.length cq ts a1 a2 A3 c3 x3 W ⟨rfl, mq, sq, fq⟩ ⟨bb0.1, by show ep < _; omega, bb1.1, by show ow < _; omega, bb2.1, by show nx < _; omega, bb3.1, by show sn < _; omega, bsT_byt fq⟩ (by omega) (fun t ht => by have := xq t ht; omega) HRW b1.1 (by omega) s3 f3 (by omega)).mono fun e W' ⟨he, bel⟩ => ?_
  subst he
  exact ⟨_, rfl, _, _, _, [], _, [], hW', trodAll_mk1 (shut_bool Try.underlying4 _), (trodAll_cons_mk (Below.trod laidOut (by kernel_rfl) (of_decide_eq_true (by kernel_rfl)) k0 bel lt0) (trodAll_cons_mk (shut_int Try.underlying22 w1) (trodAll_cons_mk (shut_int Try.underlying3 w2) (trodAll_cons_mk (Below.trod laidOut (by kernel_rfl) (of_decide_eq_true (by kernel_rfl)) k3 bel lt3) trodAll_mk0)))), rfl, bel.frame _, fun h => by cases h⟩

set_option maxRecDepth 100000 in
theorem lifted (os : Os) (started : os.Started) (H : Type) (enc : TypeId × Value → H) (F : Stop.Interp) :
    ReturnsInHanded {} Try.checked os 5 .any ((Rows.OpenSpec.upto Rows.cellCutSpec).pre6 enc Try.prog Try.f5 Rows.cellCutUptoRow.domain false) (((Rows.OpenSpec.upto Rows.cellCutSpec).at F).post enc Try.prog Try.f5 false true false false) := by
  refine returnsInHanded_of_cond_sized (C := Try.checked) (s := Rows.OpenSpec.upto Rows.cellCutSpec) (k := Rows.uptoSmall) rfl own started (by kernel_rfl) Try.func5
    (OpenSpec.witness (enc := enc) (C := Try.checked) (s := Rows.OpenSpec.upto Rows.cellCutSpec) (k := Rows.uptoSmall) rfl false ⟨#[], #[.agg #[.int .u64 0, .int .u8 0, .int .u64 0, .int .u64 0, .slice none 0 0], .int .u64 0, .int .i64 0, .slice none 0 0], []⟩ 8 (by kernel_rfl) (by kernel_rfl) (by kernel_rfl)
      (x := ([.agg [.lit (.int .u64 0), .lit (.int .u8 0), .lit (.int .u64 0), .lit (.int .u64 0), .nil], .lit (.int .u64 0), .lit (.int .i64 0), .nil], [], [])) (by kernel_rfl) rfl (by kernel_rfl)) ?_
  intro W base args ds gs before hval hW _ hk hsz _
  exact contract H enc W base args ds gs before hval hW hk hsz

theorem over : Rows.cellCutUptoRow.holds Try.pinned (Rows.OpenSpec.upto Rows.cellCutSpec) :=
  OpenClaim.holds_of_cond 5 Try.f5 rfl rfl rfl rfl rfl rfl rfl ⟨rfl, rfl, rfl, rfl, rfl⟩ rfl rfl rfl rfl rfl (by kernel_rfl) Try.func5 (by kernel_rfl)
    (of_decide_eq_true (by kernel_rfl)) (by unfold Func.isWrapper; first | (rw [if_pos (by decide +kernel)]; kernel_rfl) | (rw [if_neg (by decide +kernel)]; exact ⟨rfl, rfl⟩))
    (fun os started H enc _ F => lifted os started H enc F)

theorem proved : Rows.CellCutUptoSaid := over
#print axioms proved
end Go.Proofs.Ytnagpaaiaaaamaa.cellCut
