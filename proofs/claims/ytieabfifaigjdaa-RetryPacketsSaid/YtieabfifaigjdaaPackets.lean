/-
  For every input the law 'RetryPackets' (hostler/hostlerlaw33) returns true, and each argument reads afterwards as it read before. Conditions: none beyond the row's own.
-/
import Derived.Test.YtieabfifaigjdaaF30
import Derived.Test.YtieabfifaigjdaaF31
import Derived.WalkKit
import Derived.ProofKit
import Derived.OpenShut
import Derived.ShutString
import Derived.ChangeOld
import Derived.Below
import Derived.SizedLaws
import Derived.Test.YtieabfifaigjdaaBO
namespace Go.Proofs.Ytieabfifaigjdaa.retryPackets
open Go.ChangeShapes Go.WideShapes Go.ChangeAt Go.RowKit
open Go.ChangeMaps (open_string shut_string)
set_option linter.unusedVariables false
theorem own : ownKnob Try.prog.godebug = none := by kernel_rfl
theorem laidOut : laidOutB Try.prog = true := by kernel_rfl

set_option maxRecDepth 100000 in
theorem lifted (os : Os) (started : os.Started) (H : Type) (enc : TypeId × Value → H) :
    ReturnsInHanded {} Try.checked os 3 .any (Rows.retryPacketsSpec.pre6 enc Try.prog Try.f3 Rows.retryPacketsRow.domain false) (Rows.retryPacketsSpec.post enc Try.prog Try.f3 false true false false) := by
  refine returnsInHanded_of_change_sized (C := Try.checked) own started (by kernel_rfl) Try.func3
    (ChangeSpec.witness6 (enc := enc) (C := Try.checked) false ⟨#[], #[.agg #[.slice none 0 0, .slice none 0 0, .slice none 0 0], .slice none 0 0, .slice none 0 0], []⟩ 8 (by kernel_rfl) (by kernel_rfl) (by kernel_rfl) (by kernel_rfl)) ?_
  intro W base args ds gs before hval0 hW hcnd hsz _
  have hval : ∀ (j : Nat) t v, Try.f3.params[j]? = some t → args[j]? = some v → Value.okWide Try.prog W .any base t v := hval0
  have hW' := hW
  obtain ⟨p, q, hA0, hV, rfl, hfz, hnd⟩ := hW
  have hA : DataW.TrodAll enc Try.prog W 0 (fun _ => true) true Try.f3.params.toList args.toList ds p := hA0
  rw [Try.params3] at hA hval hsz
  obtain ⟨v0, vs0, d0, ds0, p0, q0, hargs, rfl, rfl, h0, r0⟩ := trodAll_cons hA
  obtain ⟨v1, vs1, d1, ds1, p1, q1, rfl, rfl, rfl, h1, r1⟩ := trodAll_cons r0
  obtain ⟨v2, vs2, d2, ds2, p2, q2, rfl, rfl, rfl, h2, r2⟩ := trodAll_cons r1
  obtain ⟨rfl, rfl, rfl⟩ := trodAll_nil r2
  obtain rfl : args = #[v0, v1, v2] := by cases args; simp_all
  obtain ⟨rfl, rfl⟩ := trodVars_none hV
  have k0 := h0
  have lt0 : ∀ x ∈ p0, x.block < W.heap.size := by obtain ⟨m, hm⟩ := k0; exact DataW.trod_lt m _ _ _ hm
  obtain ⟨u0, u1, u2, yy0, yy1, yy2, nn, rfl, rfl, rfl, t0, t1, t2⟩ := open_agg3 Try.underlying24 (by kernel_rfl) (by kernel_rfl) (hval 0 24 v0 rfl rfl) h0
  have lgc : Light Try.prog 24 (.agg [yy0.1, yy1.1, yy2.1]) := light_of hsz (j := 0) rfl rfl
  obtain ⟨D0, e0, X0, rfl, r0_, y0_, m0_, g0_⟩ := u8s_of_trod t0 (lgc.field (j := 0) Try.underlying24 rfl rfl)
  obtain ⟨D1, e1, X1, rfl, r1_, y1_, m1_, g1_⟩ := u8s_of_trod t1 (lgc.field (j := 1) Try.underlying24 rfl rfl)
  obtain ⟨D2, e2, X2, rfl, r2_, y2_, m2_, g2_⟩ := u8s_of_trod t2 (lgc.field (j := 2) Try.underlying24 rfl rfl)
  obtain ⟨A1, l1, c1, rfl⟩ := okWide_slice Try.underlying22 (hval 1 22 v1 rfl rfl)
  have k1 := h1
  have lt1 : ∀ x ∈ p1, x.block < W.heap.size := by obtain ⟨m, hm⟩ := k1; exact DataW.trod_lt m _ _ _ hm
  obtain ⟨z1, w1⟩ : ∃ zs, IsRow .u8 W A1 l1 c1 zs := by
    obtain ⟨fuel, hf⟩ := h1
    exact isRow_of_trod Try.underlying22 Try.underlying5 (by kernel_rfl) hf
  have g1 : l1 ≤ 140737488351232 := by
    obtain ⟨fuel, hf⟩ := k1
    exact isRow_light Try.underlying22 Try.underlying5 (by kernel_rfl) (of_decide_eq_true (by kernel_rfl)) hf (light_of hsz (j := 1) rfl rfl)
  obtain ⟨x1, rfl, s1, m1, f1⟩ := rd_open w1
  replace f1 := byt_wf f1
  obtain ⟨A2, l2, c2, rfl⟩ := okWide_slice Try.underlying22 (hval 2 22 v2 rfl rfl)
  have k2 := h2
  have lt2 : ∀ x ∈ p2, x.block < W.heap.size := by obtain ⟨m, hm⟩ := k2; exact DataW.trod_lt m _ _ _ hm
  obtain ⟨z2, w2⟩ : ∃ zs, IsRow .u8 W A2 l2 c2 zs := by
    obtain ⟨fuel, hf⟩ := h2
    exact isRow_of_trod Try.underlying22 Try.underlying5 (by kernel_rfl) hf
  have g2 : l2 ≤ 140737488351232 := by
    obtain ⟨fuel, hf⟩ := k2
    exact isRow_light Try.underlying22 Try.underlying5 (by kernel_rfl) (of_decide_eq_true (by kernel_rfl)) hf (light_of hsz (j := 2) rfl rfl)
  obtain ⟨x2, rfl, s2, m2, f2⟩ := rd_open w2
  replace f2 := byt_wf f2
  clear hA0 hval0
  refine (packets_walk D0 D1 D2 A1 A2 e0 e1 e2 c1 c2 X0 X1 X2 x1 x2 W r0_ y0_ m0_ r1_ y1_ m1_ r2_ y2_ m2_ s1 f1 m1 s2 f2 m2 (by omega) (by omega) (by omega) (by omega) (by omega)).mono fun e W' ⟨he, bel⟩ => ?_
  subst he
  exact ⟨_, rfl, _, _, _, [], _, [], hW', trodAll_mk1 (shut_bool Try.underlying4 _), (trodAll_cons_mk (Below.trod laidOut (by kernel_rfl) (of_decide_eq_true (by kernel_rfl)) k0 bel lt0) (trodAll_cons_mk (Below.trod laidOut (by kernel_rfl) (of_decide_eq_true (by kernel_rfl)) k1 bel lt1) (trodAll_cons_mk (Below.trod laidOut (by kernel_rfl) (of_decide_eq_true (by kernel_rfl)) k2 bel lt2) trodAll_mk0))), rfl, bel.frame _, fun h => by cases h⟩

theorem over : Rows.retryPacketsRow.holds Try.pinned (OpenSpec.ofChange Rows.retryPacketsSpec) :=
  OpenClaim.holds_of_wide 3 Try.f3 rfl rfl rfl rfl rfl rfl rfl ⟨rfl, rfl, rfl, rfl, rfl⟩ rfl rfl rfl rfl rfl (by kernel_rfl) Try.func3 (by kernel_rfl)
    (of_decide_eq_true (by kernel_rfl)) (by unfold Func.isWrapper; first | (rw [if_pos (by decide +kernel)]; kernel_rfl) | (rw [if_neg (by decide +kernel)]; exact ⟨rfl, rfl⟩))
    (fun os started H enc _ => lifted os started H enc)

theorem proved : Rows.RetryPacketsSaid := over
#print axioms proved
end Go.Proofs.Ytieabfifaigjdaa.retryPackets
