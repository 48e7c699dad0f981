/- Contracts (layer 3): May, Put. Conditions: as each theorem states them. -/
import Derived.Test.YtlefnddhmpgijaaH9
namespace Go.Proofs.Ytlefnddhmpgijaa
open Go.RowKit
/-- a head as a value -/
def HV (h : HD) (A1 : Option Addr) (c1 : Nat) (A2 : Option Addr) (c2 : Nat) (A3 : Option Addr) (c3 : Nat) : Array Value :=
  #[.int .u8 h.space, .slice A1 h.dst.length c1, .slice A2 h.src.length c2, .slice A3 h.tok.length c3, .bool h.phase, .int .u64 h.pn, .int .i64 h.pb]
instance (h : HD) : Decidable h.May := by unfold HD.May; infer_instance
theorem may_eq (h : HD) : decide h.May = (decide (h.space ≤ 2) && decide (h.dst.length ≤ 20) && decide (h.src.length ≤ 20) && decide (1 ≤ h.pb) && decide (h.pb ≤ 4) && decide (h.pn ≤ 4611686018427387903) && (decide (h.space = 0) || decide (h.tok.length = 0)) && (if h.space = 2 then decide (h.src.length = 0) else !h.phase)) := by
  rw [Bool.eq_iff_iff]
  simp only [decide_eq_true_eq, Bool.and_eq_true, Bool.or_eq_true]
  unfold HD.May
  by_cases h2 : h.space = 2
  · simp only [h2, if_true, decide_eq_true_eq]
    constructor
    · rintro ⟨a1, a2, a3, a4, a5, a6, a7, a8, a9⟩
      exact ⟨⟨⟨⟨⟨⟨⟨a1, a2⟩, a3⟩, a4⟩, a5⟩, a6⟩, .inr (a7 (by decide))⟩, a8 trivial⟩
    · rintro ⟨⟨⟨⟨⟨⟨⟨a1, a2⟩, a3⟩, a4⟩, a5⟩, a6⟩, a7⟩, a8⟩
      exact ⟨a1, a2, a3, a4, a5, a6, fun _ => a7.resolve_left (by decide), fun _ => a8, fun h => absurd rfl h⟩
  · rw [if_neg h2]
    constructor
    · rintro ⟨a1, a2, a3, a4, a5, a6, a7, a8, a9⟩
      refine ⟨⟨⟨⟨⟨⟨⟨a1, a2⟩, a3⟩, a4⟩, a5⟩, a6⟩, ?_⟩, by rw [a9 h2]; rfl⟩
      by_cases h0 : h.space = 0
      · exact .inl h0
      · exact .inr (a7 h0)
    · rintro ⟨⟨⟨⟨⟨⟨⟨a1, a2⟩, a3⟩, a4⟩, a5⟩, a6⟩, a7⟩, a8⟩
      exact ⟨a1, a2, a3, a4, a5, a6, fun h0 => a7.resolve_left h0, fun h => absurd h h2, fun _ => by simpa using a8⟩
set_option maxRecDepth 100000 in
set_option maxHeartbeats 4000000 in
theorem may_any (h : HD) (A1 : Option Addr) (c1 : Nat) (A2 : Option Addr) (c2 : Nat) (A3 : Option Addr) (c3 : Nat) (w : World) (hf : h.Fit) :
    Calls Try.prog 25 #[.agg (HV h A1 c1 A2 c2 A3 c3)] w fun e w' => e = .returned (.bool (decide h.May)) ∧ Below w.heap.size w w' := by
  rw [may_eq]
  unfold HV
  obtain ⟨f1, f2, _, _, _, f6, f7⟩ := hf
  obtain ⟨sp, d, s, t, ph, pn, pb⟩ := h
  simp only at *
  generalize d.length = dl at *
  generalize s.length = sl at *
  generalize t.length = tl at *
  obtain ⟨R, hR⟩ : ∃ R, (decide (sp ≤ 2) && decide (dl ≤ 20) && decide (sl ≤ 20) && decide (1 ≤ pb) && decide (pb ≤ 4) && decide (pn ≤ 4611686018427387903) && (decide (sp = 0) || decide (tl = 0)) && (if sp = 2 then decide (sl = 0) else !ph)) = R := ⟨_, rfl⟩
  rw [hR]
  have HR := Lib.hid hR
  clear hR
  have fin : ∀ (b : Bool) (w' : World), b = R → Below w.heap.size w w' → Ending.returned (.bool b) = .returned (.bool R) ∧ Below w.heap.size w w' := fun b w' h1 h2 => ⟨by rw [h1], h2⟩
  have FIN := Lib.hid fin
  clear fin
  by_cases g1 : 2 < sp
  · go_enter Try.func25, Try.ntmps25
    go_wp2_with fail
    all_goals
      go_ret
      exact FIN.out _ _ (by rw [← HR.out]; simp; omega) ((Below.refl _ _).alloc (Nat.le_refl _) _)
  have g1' : decide (2 < sp) = false := by simp; omega
  by_cases g2 : (20 : Int) < (dl : Int)
  · go_enter Try.func25, Try.ntmps25
    go_wp2_with fail
    all_goals
      go_ret
      exact FIN.out _ _ (by rw [← HR.out]; simp; omega) ((Below.refl _ _).alloc (Nat.le_refl _) _)
  have g2' : decide ((20 : Int) < (dl : Int)) = false := by simp; omega
  by_cases g3 : (20 : Int) < (sl : Int)
  · go_enter Try.func25, Try.ntmps25
    go_wp2_with fail
    all_goals
      go_ret
      exact FIN.out _ _ (by rw [← HR.out]; simp; omega) ((Below.refl _ _).alloc (Nat.le_refl _) _)
  have g3' : decide ((20 : Int) < (sl : Int)) = false := by simp; omega
  by_cases g4 : pb < 1
  · go_enter Try.func25, Try.ntmps25
    go_wp2_with fail
    all_goals
      go_ret
      exact FIN.out _ _ (by rw [← HR.out]; simp; omega) ((Below.refl _ _).alloc (Nat.le_refl _) _)
  have g4' : decide (pb < 1) = false := by simp; omega
  by_cases g5 : 4 < pb
  · go_enter Try.func25, Try.ntmps25
    go_wp2_with fail
    all_goals
      go_ret
      exact FIN.out _ _ (by rw [← HR.out]; simp; omega) ((Below.refl _ _).alloc (Nat.le_refl _) _)
  have g5' : decide (4 < pb) = false := by simp; omega
  by_cases g6 : 4611686018427387903 < pn
  · go_enter Try.func25, Try.ntmps25
    go_wp2_with fail
    all_goals
      go_ret
      exact FIN.out _ _ (by rw [← HR.out]; simp; omega) ((Below.refl _ _).alloc (Nat.le_refl _) _)
  have g6' : decide (4611686018427387903 < pn) = false := by simp; omega
  by_cases g7 : sp = 0
  · have HE : Hid (R = !ph) := Lib.hid (by rw [← HR.out, if_neg (by omega)]; simp; omega)
    subst g7
    go_enter Try.func25, Try.ntmps25
    go_wp2_with fail
    all_goals
      go_ret
      exact FIN.out _ _ (HE.out.symm) ((Below.refl _ _).alloc (Nat.le_refl _) _)
  have g7' : decide (sp = 0) = false := by simp [g7]
  by_cases g8 : (0 : Int) < (tl : Int)
  · have HE : Hid (R = false) := Lib.hid (by rw [← HR.out, show decide (sp = 0) = false by simp [g7], show decide (tl = 0) = false by simp; omega]; simp)
    go_enter Try.func25, Try.ntmps25
    go_wp2_with fail
    all_goals
      go_ret
      exact FIN.out _ _ (by first | exact HE.out.symm | (exfalso; simp_all; done) | (exfalso; omega)) ((Below.refl _ _).alloc (Nat.le_refl _) _)
  have g8' : decide ((0 : Int) < (tl : Int)) = false := by simp; omega
  by_cases g9 : sp = 2
  · have HE : Hid (R = decide (sl = 0)) := Lib.hid (by rw [← HR.out, if_pos g9]; simp; omega)
    subst g9
    by_cases g10 : sl = 0
    · subst g10
      go_enter Try.func25, Try.ntmps25
      go_wp2_with fail
      all_goals
        go_ret
        exact FIN.out _ _ (by rw [HE.out]; rfl) ((Below.refl _ _).alloc (Nat.le_refl _) _)
    · go_enter Try.func25, Try.ntmps25
      go_wp2_with fail
      all_goals
        go_ret
        exact FIN.out _ _ (by rw [HE.out]; first | rfl | (rw [Bool.eq_iff_iff, beq_iff_eq, decide_eq_true_eq]; omega) | (simp; omega)) ((Below.refl _ _).alloc (Nat.le_refl _) _)
  · have g9' : decide (sp = 2) = false := by simp [g9]
    have HE : Hid (R = !ph) := Lib.hid (by rw [← HR.out, if_neg g9]; simp; omega)
    go_enter Try.func25, Try.ntmps25
    go_wp2_with fail
    all_goals
      go_ret
      exact FIN.out _ _ (HE.out.symm) ((Below.refl _ _).alloc (Nat.le_refl _) _)
end Go.Proofs.Ytlefnddhmpgijaa
