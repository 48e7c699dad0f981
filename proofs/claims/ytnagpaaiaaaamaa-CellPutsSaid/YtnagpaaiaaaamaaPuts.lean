/-
  For every input the law 'CellPuts' (hostler/hostlerlaw26) returns true, and each argument reads afterwards as it read before. Conditions: none beyond the row's own.
-/
import Derived.Test.YtnagpaaiaaaamaaD19
import Derived.WalkKit
import Derived.ProofKit
import Derived.OpenShut
import Derived.ShutString
import Derived.ChangeOld
import Derived.Below
import Derived.SizedLaws
import Derived.Test.YtnagpaaiaaaamaaBO
import Derived.Test.YtnagpaaiaaaamaaS9
namespace Go.Proofs.Ytnagpaaiaaaamaa.cellPuts
open Go.ChangeShapes Go.WideShapes Go.ChangeAt Go.RowKit
open Go.ChangeMaps (open_string shut_string)
set_option linter.unusedVariables false
theorem own : ownKnob Try.prog.godebug = none := by kernel_rfl
theorem laidOut : laidOutB Try.prog = true := by kernel_rfl

set_option maxRecDepth 100000 in
theorem lifted (os : Os) (started : os.Started) (H : Type) (enc : TypeId × Value → H) :
    ReturnsInHanded {} Try.checked os 3 .any (Rows.cellPutsSpec.pre6 enc Try.prog Try.f3 Rows.cellPutsRow.domain false) (Rows.cellPutsSpec.post enc Try.prog Try.f3 false true false false) := by
  refine returnsInHanded_of_change_sized (C := Try.checked) own started (by kernel_rfl) Try.func3
    (ChangeSpec.witness6 (enc := enc) (C := Try.checked) false ⟨#[], #[.agg #[.int .u64 0, .int .u8 0, .int .u64 0, .int .u64 0, .slice none 0 0], .int .u64 0], []⟩ 8 (by kernel_rfl) (by kernel_rfl) (by kernel_rfl) (by kernel_rfl)) ?_
  intro W base args ds gs before hval0 hW hcnd hsz _
  have hval : ∀ (j : Nat) t v, Try.f3.params[j]? = some t → args[j]? = some v → Value.okWide Try.prog W .any base t v := hval0
  have hW' := hW
  obtain ⟨p, q, hA0, hV, rfl, hfz, hnd⟩ := hW
  have hA : DataW.TrodAll enc Try.prog W 0 (fun _ => true) true Try.f3.params.toList args.toList ds p := hA0
  rw [Try.params3] at hA hval hsz
  obtain ⟨v0, vs0, d0, ds0, p0, q0, hargs, rfl, rfl, h0, r0⟩ := trodAll_cons hA
  obtain ⟨v1, vs1, d1, ds1, p1, q1, rfl, rfl, rfl, h1, r1⟩ := trodAll_cons r0
  obtain ⟨rfl, rfl, rfl⟩ := trodAll_nil r1
  obtain rfl : args = #[v0, v1] := by cases args; simp_all
  obtain ⟨rfl, rfl⟩ := trodVars_none hV
  have k0 := h0
  have lt0 : ∀ x ∈ p0, x.block < W.heap.size := by obtain ⟨m, hm⟩ := k0; exact DataW.trod_lt m _ _ _ hm
  obtain ⟨u0, u1, u2, u3, u4, yy0, yy1, yy2, yy3, yy4, nn, rfl, rfl, rfl, t0, t1, t2, t3, t4⟩ := open_agg5 Try.underlying25 (by kernel_rfl) (by kernel_rfl) (hval 0 25 v0 rfl rfl) h0
  have lgc : Light Try.prog 25 (.agg [yy0.1, yy1.1, yy2.1, yy3.1, yy4.1]) := light_of hsz (j := 0) rfl rfl
  obtain ⟨ep, xx0, _, ww0⟩ := DataW.trod_int Try.underlying22 t0
  obtain ⟨ow, xx1, _, ww1⟩ := DataW.trod_int Try.underlying5 t1
  obtain ⟨nx, xx2, _, ww2⟩ := DataW.trod_int Try.underlying22 t2
  obtain ⟨sn, xx3, _, ww3⟩ := DataW.trod_int Try.underlying22 t3
  simp at xx0 xx1 xx2 xx3
  subst xx0 xx1 xx2 xx3
  have bb0 := bounds_u64 ww0
  have bb1 := bounds_u8 ww1
  have bb2 := bounds_u64 ww2
  have bb3 := bounds_u64 ww3
  obtain ⟨Aq, cq, ts, rfl, sq, fq, gq, mq, xq⟩ := txs_open Try.underlying23 Try.underlying29 Try.underlying5 (by kernel_rfl) (by kernel_rfl) (of_decide_eq_true (by kernel_rfl)) (of_decide_eq_true (by kernel_rfl)) t4 (lgc.field (j := 4) Try.underlying25 rfl rfl)
  obtain ⟨a1, rfl, rfl, rfl, w1⟩ := open_int Try.underlying22 (hval 1 22 v1 rfl rfl) h1
  have b1 := bounds_u64 w1
  clear hA0 hval0
  refine (puts26_walk ep ow nx sn Aq ts.length cq ts a1 W ⟨rfl, mq, sq, fq⟩ ⟨bb0.1, by show ep < _; omega, bb1.1, by show ow < _; omega, bb2.1, by show nx < _; omega, bb3.1, by show sn < _; omega, bsT_byt fq⟩ (by omega) (fun t ht => by have := xq t ht; omega) b1.1 (by omega)).mono fun e W' ⟨he, bel⟩ => ?_
  subst he
  exact ⟨_, rfl, _, _, _, [], _, [], hW', trodAll_mk1 (shut_bool Try.underlying4 _), (trodAll_cons_mk (Below.trod laidOut (by kernel_rfl) (of_decide_eq_true (by kernel_rfl)) k0 bel lt0) (trodAll_cons_mk (shut_int Try.underlying22 w1) trodAll_mk0)), rfl, bel.frame _, fun h => by cases h⟩

theorem over : Rows.cellPutsRow.holds Try.pinned (OpenSpec.ofChange Rows.cellPutsSpec) :=
  OpenClaim.holds_of_wide 3 Try.f3 rfl rfl rfl rfl rfl rfl rfl ⟨rfl, rfl, rfl, rfl, rfl⟩ rfl rfl rfl rfl rfl (by kernel_rfl) Try.func3 (by kernel_rfl)
    (of_decide_eq_true (by kernel_rfl)) (by unfold Func.isWrapper; first | (rw [if_pos (by decide +kernel)]; kernel_rfl) | (rw [if_neg (by decide +kernel)]; exact ⟨rfl, rfl⟩))
    (fun os started H enc _ => lifted os started H enc)

theorem proved : Rows.CellPutsSaid := over
#print axioms proved
end Go.Proofs.Ytnagpaaiaaaamaa.cellPuts
