/- The law PacerWaits (layer 35): plain lemmas, and the law's walk. Conditions: as each theorem states them. -/
import Derived.Test.YtfmbbjinlicbgaaP7
namespace Go.Proofs.Ytfmbbjinlicbgaa
open Go.RowKit

theorem mul_add_split (a b c r : Int) : (c - a) * r = (c - b) * r + (b - a) * r := by
  rw [← Int.add_mul]; congr 1; omega
theorem after_comp {p : PS} (ho : p.Ok) (now T : Int) (h : (p.afterS now).at_ ≤ T) : (p.afterS now).afterS T = p.afterS T := by
  by_cases g : now ≤ p.at_
  · have e : p.afterS now = p := by unfold PS.afterS; rw [if_pos g]
    rw [e]
  · obtain ⟨q, hq⟩ : ∃ q, q = p.afterS now := ⟨_, rfl⟩
    have e : q = { p with at_ := now, level := if p.burst * 1000000 ≤ p.level + (now - p.at_) * p.rate then p.burst * 1000000 else p.level + (now - p.at_) * p.rate } := by rw [hq]; unfold PS.afterS; rw [if_neg g]
    rw [← hq] at h ⊢
    have hat : q.at_ = now := by rw [e]
    rw [hat] at h
    by_cases gT : T = now
    · have e2 : q.afterS T = q := by unfold PS.afterS; rw [if_pos (by omega)]
      rw [e2, gT, hq]
    · have hxy := mul_add_split p.at_ now T p.rate
      have hx : 0 ≤ (now - p.at_) * p.rate := Int.mul_nonneg (by omega) (by unfold PS.Ok at ho; omega)
      have hy : 0 ≤ (T - now) * p.rate := Int.mul_nonneg (by omega) (by unfold PS.Ok at ho; omega)
      unfold PS.Ok at ho
      have e3 : p.afterS T = { p with at_ := T, level := if p.burst * 1000000 ≤ p.level + (T - p.at_) * p.rate then p.burst * 1000000 else p.level + (T - p.at_) * p.rate } := by unfold PS.afterS; rw [if_neg (by omega)]
      have e4 : q.afterS T = { q with at_ := T, level := if q.burst * 1000000 ≤ q.level + (T - q.at_) * q.rate then q.burst * 1000000 else q.level + (T - q.at_) * q.rate } := by unfold PS.afterS; rw [if_neg (by omega)]
      rw [e3, e4, hat, e, hxy]
      generalize (now - p.at_) * p.rate = x at *
      generalize (T - now) * p.rate = y at *
      simp only [PS.mk.injEq, true_and]
      split <;> split <;> split <;> omega
theorem after_old {p : PS} {t : Int} (h : t ≤ p.at_) : p.afterS t = p := by unfold PS.afterS; rw [if_pos h]
theorem wait_bounds (D r : Int) (hD : 0 < D) (hr : 1 ≤ r) : 1 ≤ (D + r - 1) / r ∧ D ≤ (D + r - 1) / r * r ∧ ((D + r - 1) / r - 1) * r < D := by
  have h1 := Int.mul_ediv_add_emod (D + r - 1) r
  have h2 := Int.emod_nonneg (D + r - 1) (b := r) (by omega)
  have h3 := Int.emod_lt_of_pos (D + r - 1) (b := r) (by omega)
  have h4 : 1 ≤ (D + r - 1) / r := (Int.le_ediv_iff_mul_le (by omega)).2 (by omega)
  rw [Int.mul_comm] at h1
  refine ⟨h4, by omega, ?_⟩
  rw [Int.sub_mul]
  omega
theorem may_iff (p : PS) (t n : Int) : p.mayS t n = decide (n * 1000000 ≤ (p.afterS t).level) := by
  unfold PS.mayS PS.levelS
  rw [decide_eq_decide]
  omega
theorem after_at (p : PS) (now : Int) : (p.afterS now).at_ = if now ≤ p.at_ then p.at_ else now := by
  unfold PS.afterS; split <;> rfl
theorem after_rate (p : PS) (now : Int) : (p.afterS now).rate = p.rate ∧ (p.afterS now).burst = p.burst := by
  unfold PS.afterS; split <;> exact ⟨rfl, rfl⟩

def Waits (p : PS) (now n T : Int) : Prop :=
  now ≤ T ∧ T < 18446744073709551616 ∧ 0 ≤ T ∧ p.mayS T n = true ∧ (now < T → p.mayS (T - 1) n = true → p.levelS (T - 1) = p.levelS 0) ∧ ∃ m, goL (p.afterS T).level [n] = some m
theorem waits_plain {p : PS} (ho : p.Ok) (now n : Int) (h0 : 0 ≤ now) (h1 : now ≤ 1152921504606846976) (h2 : p.at_ ≤ 1152921504606846976) (hn : n ≤ p.burst) : Waits p now n ((p.afterS now).nextS n) := by
  have hq := ho.after now (by omega)
  have hat := after_at p now
  obtain ⟨hqr, hqb⟩ := after_rate p now
  have hcomp := fun T => after_comp ho now T
  have hqp : now < p.at_ → p.afterS now = p := fun h => after_old (by omega)
  generalize p.afterS now = q at *
  have hgo : ∀ T, n * 1000000 ≤ (p.afterS T).level → ∃ m, goL (p.afterS T).level [n] = some m := by
    intro T hT
    refine ⟨(p.afterS T).level - n * 1000000, ?_⟩
    simp only [goL]
    rw [if_pos (by omega)]
  have hp0 : 0 ≤ p.at_ := by unfold PS.Ok at ho; omega
  have hatn : now ≤ q.at_ ∧ q.at_ ≤ 1152921504606846976 := by rw [hat]; split <;> omega
  by_cases g : n * 1000000 ≤ q.level
  · have e : q.nextS n = q.at_ := by unfold PS.nextS; rw [if_pos g]
    rw [e]
    have ha : p.afterS q.at_ = q := by rw [← hcomp q.at_ (by omega)]; exact after_old (by omega)
    refine ⟨by omega, by omega, by omega, ?_, fun hlt _ => ?_, hgo _ (by rw [ha]; exact g)⟩
    · rw [may_iff, ha]; simpa using g
    · have hpn : now < p.at_ := by rw [hat] at hlt; split at hlt <;> omega
      have hqe := hqp hpn
      subst hqe
      unfold PS.levelS
      rw [after_old (by omega), after_old (by omega)]
  · unfold PS.Ok at hq
    obtain ⟨w1, w2, w3⟩ := wait_bounds (n * 1000000 - q.level) q.rate (by omega) (by omega)
    have hw5 := (div_le_of (n * 1000000 - q.level + q.rate - 1) q.rate (by omega) (by omega)).2
    have hwe : q.waitS n = (n * 1000000 - q.level + q.rate - 1) / q.rate := rfl
    generalize hwt : (n * 1000000 - q.level + q.rate - 1) / q.rate = wt at *
    have e : q.nextS n = q.at_ + wt := by unfold PS.nextS; rw [if_neg g, hwe, if_pos (by omega)]
    rw [e]
    have hlv : ∀ x, 0 < x → (q.afterS (q.at_ + x)).level = if q.burst * 1000000 ≤ q.level + x * q.rate then q.burst * 1000000 else q.level + x * q.rate := by
      intro x hx
      unfold PS.afterS
      rw [if_neg (by omega), show q.at_ + x - q.at_ = x by omega]
    have hT : n * 1000000 ≤ (p.afterS (q.at_ + wt)).level := by
      rw [← hcomp _ (by omega), hlv wt (by omega)]
      split <;> omega
    refine ⟨by omega, by omega, by omega, ?_, fun _ hm => ?_, hgo _ hT⟩
    · rw [may_iff]; simpa using hT
    · exfalso
      rw [may_iff, ← hcomp _ (by omega)] at hm
      simp only [decide_eq_true_eq] at hm
      by_cases gw : wt = 1
      · rw [after_old (by omega)] at hm
        omega
      · rw [show q.at_ + wt - 1 = q.at_ + (wt - 1) by omega, hlv (wt - 1) (by omega)] at hm
        split at hm <;> omega
end Go.Proofs.Ytfmbbjinlicbgaa
