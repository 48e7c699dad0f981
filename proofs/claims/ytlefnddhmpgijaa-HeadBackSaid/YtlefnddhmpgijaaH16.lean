/- Contracts of the references (layer 3): May, Put. Conditions: as each theorem states them. -/
import Derived.Test.YtlefnddhmpgijaaH15
namespace Go.Proofs.Ytlefnddhmpgijaa
open Go.RowKit
set_option maxRecDepth 100000 in
set_option maxHeartbeats 4000000 in
theorem rmay_any (h : HD) (A1 : Option Addr) (c1 : Nat) (A2 : Option Addr) (c2 : Nat) (A3 : Option Addr) (c3 : Nat) (w : World) (hf : h.Fit) :
    Calls Try.prog 24 #[.agg (HV h A1 c1 A2 c2 A3 c3)] w fun e w' => e = .returned (.bool (decide h.May)) ∧ Below w.heap.size w w' := by
  rw [may_eq]
  unfold HV
  obtain ⟨f1, f2, _, _, _, f6, f7⟩ := hf
  obtain ⟨sp, d, s, t, ph, pn, pb⟩ := h
  simp only at *
  generalize d.length = dl at *
  generalize s.length = sl at *
  generalize t.length = tl at *
  obtain ⟨R, hR⟩ : ∃ R, (decide (sp ≤ 2) && decide (dl ≤ 20) && decide (sl ≤ 20) && decide (1 ≤ pb) && decide (pb ≤ 4) && decide (pn ≤ 4611686018427387903) && (decide (sp = 0) || decide (tl = 0)) && (if sp = 2 then decide (sl = 0) else !ph)) = R := ⟨_, rfl⟩
  rw [hR]
  have HR := Lib.hid hR
  clear hR
  have fin : ∀ (b : Bool) (w' : World), b = R → Below w.heap.size w w' → Ending.returned (.bool b) = .returned (.bool R) ∧ Below w.heap.size w w' := fun b w' h1 h2 => ⟨by rw [h1], h2⟩
  have FIN := Lib.hid fin
  clear fin
  by_cases g0 : sp ≤ 2
  case neg =>
    have HE : Hid (R = false) := Lib.hid (by rw [← HR.out, show decide (sp ≤ 2) = false by simp; omega]; simp)
    have g0' : decide (sp ≤ 2) = false := by simp; omega
    go_enter Try.func24, Try.ntmps24
    go_wp2_with fail
    all_goals
      go_ret
      exact FIN.out _ _ (HE.out.symm) ((Below.refl _ _).alloc (Nat.le_refl _) _)
  by_cases g1 : (dl : Int) ≤ 20
  case neg =>
    have HE : Hid (R = false) := Lib.hid (by rw [← HR.out, show decide (dl ≤ 20) = false by simp; omega]; simp)
    have g1' : decide ((dl : Int) ≤ 20) = false := by simp; omega
    go_enter Try.func24, Try.ntmps24
    go_wp2_with fail
    all_goals
      go_ret
      exact FIN.out _ _ (HE.out.symm) ((Below.refl _ _).alloc (Nat.le_refl _) _)
  by_cases g2 : (sl : Int) ≤ 20
  case neg =>
    have HE : Hid (R = false) := Lib.hid (by rw [← HR.out, show decide (sl ≤ 20) = false by simp; omega]; simp)
    have g2' : decide ((sl : Int) ≤ 20) = false := by simp; omega
    go_enter Try.func24, Try.ntmps24
    go_wp2_with fail
    all_goals
      go_ret
      exact FIN.out _ _ (HE.out.symm) ((Below.refl _ _).alloc (Nat.le_refl _) _)
  by_cases g3 : 1 ≤ pb
  case neg =>
    have HE : Hid (R = false) := Lib.hid (by rw [← HR.out, show decide (1 ≤ pb) = false by simp; omega]; simp)
    have g3' : decide (1 ≤ pb) = false := by simp; omega
    go_enter Try.func24, Try.ntmps24
    go_wp2_with fail
    all_goals
      go_ret
      exact FIN.out _ _ (HE.out.symm) ((Below.refl _ _).alloc (Nat.le_refl _) _)
  by_cases g4 : pb ≤ 4
  case neg =>
    have HE : Hid (R = false) := Lib.hid (by rw [← HR.out, show decide (pb ≤ 4) = false by simp; omega]; simp)
    have g4' : decide (pb ≤ 4) = false := by simp; omega
    go_enter Try.func24, Try.ntmps24
    go_wp2_with fail
    all_goals
      go_ret
      exact FIN.out _ _ (HE.out.symm) ((Below.refl _ _).alloc (Nat.le_refl _) _)
  by_cases g5 : pn ≤ 4611686018427387903
  case neg =>
    have HE : Hid (R = false) := Lib.hid (by rw [← HR.out, show decide (pn ≤ 4611686018427387903) = false by simp; omega]; simp)
    have g5' : decide (pn ≤ 4611686018427387903) = false := by simp; omega
    go_enter Try.func24, Try.ntmps24
    go_wp2_with fail
    all_goals
      go_ret
      exact FIN.out _ _ (HE.out.symm) ((Below.refl _ _).alloc (Nat.le_refl _) _)
  by_cases g7 : sp = 2
  · have HE : Hid (R = (decide (tl = 0) && decide (sl = 0))) := Lib.hid (by rw [← HR.out, if_pos g7, show decide (sp = 0) = false by simp; omega, Bool.eq_iff_iff]; simp; omega)
    subst g7
    by_cases g8 : sl = 0
    · subst g8
      by_cases g9 : tl = 0
      · subst g9
        go_enter Try.func24, Try.ntmps24
        go_wp2_with fail
        all_goals
          go_ret
          exact FIN.out _ _ (by rw [HE.out]; rfl) ((Below.refl _ _).alloc (Nat.le_refl _) _)
      · have g9' : decide ((tl : Int) = 0) = false := by simp; omega
        go_enter Try.func24, Try.ntmps24
        go_wp2_with fail
        all_goals
          go_ret
          exact FIN.out _ _ (by rw [HE.out, show decide (tl = 0) = false by simp [g9]]; first | rfl | (rw [beq_eq_false_iff_ne]; omega) | (simp; omega)) ((Below.refl _ _).alloc (Nat.le_refl _) _)
    · have g8' : decide ((sl : Int) = 0) = false := by simp; omega
      go_enter Try.func24, Try.ntmps24
      go_wp2_with fail
      all_goals
        go_ret
        exact FIN.out _ _ (by rw [HE.out, show decide (sl = 0) = false by simp [g8]]; simp; done) ((Below.refl _ _).alloc (Nat.le_refl _) _)
  · have g7' : decide (sp = 2) = false := by simp [g7]
    have HE : Hid (R = (!ph && (decide (sp = 0) || decide (tl = 0)))) := Lib.hid (by rw [← HR.out, if_neg g7, Bool.eq_iff_iff]; cases ph <;> simp <;> omega)
    cases ph with
    | true =>
      go_enter Try.func24, Try.ntmps24
      go_wp2_with fail
      all_goals
        go_ret
        exact FIN.out _ _ (by rw [HE.out]; rfl) ((Below.refl _ _).alloc (Nat.le_refl _) _)
    | false =>
      by_cases g8 : sp = 0
      · subst g8
        go_enter Try.func24, Try.ntmps24
        go_wp2_with fail
        all_goals
          go_ret
          exact FIN.out _ _ (by rw [HE.out]; rfl) ((Below.refl _ _).alloc (Nat.le_refl _) _)
      · have g8' : decide (sp = 0) = false := by simp [g8]
        by_cases g9 : tl = 0
        · subst g9
          go_enter Try.func24, Try.ntmps24
          go_wp2_with fail
          all_goals
            go_ret
            exact FIN.out _ _ (by rw [HE.out]; simp) ((Below.refl _ _).alloc (Nat.le_refl _) _)
        · have g9' : decide ((tl : Int) = 0) = false := by simp; omega
          go_enter Try.func24, Try.ntmps24
          go_wp2_with fail
          all_goals
            go_ret
            exact FIN.out _ _ (by rw [HE.out, show decide (tl = 0) = false by simp [g9], show decide (sp = 0) = false by simp [g8]]; first | rfl | (simp; done) | (simp; omega)) ((Below.refl _ _).alloc (Nat.le_refl _) _)
end Go.Proofs.Ytlefnddhmpgijaa
