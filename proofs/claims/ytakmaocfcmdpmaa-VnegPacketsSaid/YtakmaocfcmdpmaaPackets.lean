/-
  For every input the law 'VnegPackets' (hostler/hostlerlaw34) returns true, and each argument reads afterwards as it read before. Conditions: none beyond the row's own.
-/
import Derived.Test.YtakmaocfcmdpmaaV22
import Derived.WalkKit
import Derived.ProofKit
import Derived.OpenShut
import Derived.ShutString
import Derived.ChangeOld
import Derived.Below
import Derived.SizedLaws
import Derived.Test.YtakmaocfcmdpmaaBO
namespace Go.Proofs.Ytakmaocfcmdpmaa.vnegPackets
open Go.ChangeShapes Go.WideShapes Go.ChangeAt Go.RowKit
open Go.ChangeMaps (open_string shut_string)
set_option linter.unusedVariables false
theorem own : ownKnob Try.prog.godebug = none := by kernel_rfl
theorem laidOut : laidOutB Try.prog = true := by kernel_rfl

set_option maxRecDepth 100000 in
theorem lifted (os : Os) (started : os.Started) (H : Type) (enc : TypeId × Value → H) :
    ReturnsInHanded {} Try.checked os 5 .any (Rows.vnegPacketsSpec.pre6 enc Try.prog Try.f5 Rows.vnegPacketsRow.domain false) (Rows.vnegPacketsSpec.post enc Try.prog Try.f5 false true false false) := by
  refine returnsInHanded_of_change_sized (C := Try.checked) own started (by kernel_rfl) Try.func5
    (ChangeSpec.witness6 (enc := enc) (C := Try.checked) false ⟨#[], #[.agg #[.slice none 0 0, .slice none 0 0, .slice none 0 0], .slice none 0 0], []⟩ 8 (by kernel_rfl) (by kernel_rfl) (by kernel_rfl) (by kernel_rfl)) ?_
  intro W base args ds gs before hval0 hW hcnd hsz _
  have hval : ∀ (j : Nat) t v, Try.f5.params[j]? = some t → args[j]? = some v → Value.okWide Try.prog W .any base t v := hval0
  have hW' := hW
  obtain ⟨p, q, hA0, hV, rfl, hfz, hnd⟩ := hW
  have hA : DataW.TrodAll enc Try.prog W 0 (fun _ => true) true Try.f5.params.toList args.toList ds p := hA0
  rw [Try.params5] at hA hval hsz
  obtain ⟨v0, vs0, d0, ds0, p0, q0, hargs, rfl, rfl, h0, r0⟩ := trodAll_cons hA
  obtain ⟨v1, vs1, d1, ds1, p1, q1, rfl, rfl, rfl, h1, r1⟩ := trodAll_cons r0
  obtain ⟨rfl, rfl, rfl⟩ := trodAll_nil r1
  obtain rfl : args = #[v0, v1] := by cases args; simp_all
  obtain ⟨rfl, rfl⟩ := trodVars_none hV
  have k0 := h0
  have lt0 : ∀ x ∈ p0, x.block < W.heap.size := by obtain ⟨m, hm⟩ := k0; exact DataW.trod_lt m _ _ _ hm
  obtain ⟨u0, u1, u2, yy0, yy1, yy2, nn, rfl, rfl, rfl, t0, t1, t2⟩ := Go.Joins.open_agg3 Try.underlying32 (by kernel_rfl) (by kernel_rfl) (hval 0 32 v0 rfl rfl) h0
  have lgp : Light Try.prog 32 (.agg [yy0.1, yy1.1, yy2.1]) := light_of hsz (j := 0) rfl rfl
  obtain ⟨Ap, cp, pd, rfl, rp, mp, fp, gp⟩ := rd_of_trod Try.underlying30 Try.underlying5 (by kernel_rfl) (of_decide_eq_true (by kernel_rfl)) t0 (lgp.field (j := 0) Try.underlying32 rfl rfl)
  obtain ⟨As, cs, ps, rfl, rs, ms, fs, gs'⟩ := rd_of_trod Try.underlying30 Try.underlying5 (by kernel_rfl) (of_decide_eq_true (by kernel_rfl)) t1 (lgp.field (j := 1) Try.underlying32 rfl rfl)
  obtain ⟨Av, cv, vs, rfl, rv, mv, fv, gv⟩ := rd_of_trod Try.underlying22 Try.underlying23 (by kernel_rfl) (of_decide_eq_true (by kernel_rfl)) t2 (lgp.field (j := 2) Try.underlying32 rfl rfl)
  obtain ⟨A1, l1, c1, rfl⟩ := okWide_slice Try.underlying30 (hval 1 30 v1 rfl rfl)
  have k1 := h1
  have lt1 : ∀ x ∈ p1, x.block < W.heap.size := by obtain ⟨m, hm⟩ := k1; exact DataW.trod_lt m _ _ _ hm
  obtain ⟨z1, w1⟩ : ∃ zs, IsRow .u8 W A1 l1 c1 zs := by
    obtain ⟨fuel, hf⟩ := h1
    exact isRow_of_trod Try.underlying30 Try.underlying5 (by kernel_rfl) hf
  have g1 : l1 ≤ 140737488351232 := by
    obtain ⟨fuel, hf⟩ := k1
    exact isRow_light Try.underlying30 Try.underlying5 (by kernel_rfl) (of_decide_eq_true (by kernel_rfl)) hf (light_of hsz (j := 1) rfl rfl)
  obtain ⟨x1, rfl, s1, m1, f1⟩ := rd_open w1
  replace f1 := byt_wf f1
  clear hA0 hval0
  refine (packets_walk Ap As Av A1 cp cs cv c1 pd ps vs x1 W rp rs rv s1 f1 (wrd_wf fv) m1 gp gs' gv g1).mono fun e W' ⟨he, bel⟩ => ?_
  subst he
  exact ⟨_, rfl, _, _, _, [], _, [], hW', trodAll_mk1 (shut_bool Try.underlying4 _), (trodAll_cons_mk (Below.trod laidOut (by kernel_rfl) (of_decide_eq_true (by kernel_rfl)) k0 bel lt0) (trodAll_cons_mk (Below.trod laidOut (by kernel_rfl) (of_decide_eq_true (by kernel_rfl)) k1 bel lt1) trodAll_mk0)), rfl, bel.frame _, fun h => by cases h⟩

theorem over : Rows.vnegPacketsRow.holds Try.pinned (OpenSpec.ofChange Rows.vnegPacketsSpec) :=
  OpenClaim.holds_of_wide 5 Try.f5 rfl rfl rfl rfl rfl rfl rfl ⟨rfl, rfl, rfl, rfl, rfl⟩ rfl rfl rfl rfl rfl (by kernel_rfl) Try.func5 (by kernel_rfl)
    (of_decide_eq_true (by kernel_rfl)) (by unfold Func.isWrapper; first | (rw [if_pos (by decide +kernel)]; kernel_rfl) | (rw [if_neg (by decide +kernel)]; exact ⟨rfl, rfl⟩))
    (fun os started H enc _ => lifted os started H enc)

theorem proved : Rows.VnegPacketsSaid := over
#print axioms proved
end Go.Proofs.Ytakmaocfcmdpmaa.vnegPackets
