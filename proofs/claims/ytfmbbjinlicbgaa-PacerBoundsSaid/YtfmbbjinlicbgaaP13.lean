/- The law PacerBounds (layer 35): plain lemmas. Conditions: as each theorem states them. -/
import Derived.Test.YtfmbbjinlicbgaaP8
namespace Go.Proofs.Ytfmbbjinlicbgaa
open Go.RowKit

/-- the sum of the first ones -/
def sumTo (xs : List Int) (j : Nat) : Int := (xs.take j).sum
theorem sumTo_snoc (xs : List Int) (n : Int) (j : Nat) (h : j ≤ xs.length) : sumTo (xs ++ [n]) j = sumTo xs j := by
  unfold sumTo; rw [List.take_append_of_le_length h]
theorem sumTo_snoc_all (xs : List Int) (n : Int) : sumTo (xs ++ [n]) (xs.length + 1) = sumTo xs xs.length + n := by
  unfold sumTo
  rw [List.take_of_length_le (by simp), List.take_of_length_le (Nat.le_refl _), List.sum_append]
  simp
theorem sumTo_succ (xs : List Int) (k : Nat) (h : k < xs.length) : sumTo xs (k + 1) = sumTo xs k + xs.getD k 0 := by
  unfold sumTo
  rw [List.take_succ_eq_append_getElem h, List.sum_append, List.getD_eq_getElem?_getD, List.getElem?_eq_getElem h]
  simp
theorem getD_snoc_lt (xs : List Int) (n : Int) (i : Nat) (h : i < xs.length) : (xs ++ [n]).getD i 0 = xs.getD i 0 := by
  rw [List.getD_eq_getElem?_getD, List.getD_eq_getElem?_getD, List.getElem?_append_left h]
theorem getD_snoc_eq (xs : List Int) (n : Int) : (xs ++ [n]).getD xs.length 0 = n := by
  rw [List.getD_eq_getElem?_getD, List.getElem?_append_right (Nat.le_refl _)]; simp
theorem getD_mem_of {xs : List Int} {i : Nat} (h : i < xs.length) : xs.getD i 0 ∈ xs := by
  rw [List.getD_eq_getElem?_getD, List.getElem?_eq_getElem h]; simp

/-- what went, and when: within bounds -/
structure PBd (r b : Int) (ats wents : List Int) (p : PS) (now : Int) : Prop where
  ok : p.Ok
  hr : p.rate = r
  hb : p.burst = b
  hat : p.at_ ≤ now
  len : ats.length = wents.length
  low : ∀ x ∈ wents, 0 ≤ x ∧ x ≤ 1073741824
  lat : ∀ x ∈ ats, 0 ≤ x ∧ x ≤ p.at_
  mono : ∀ i k, i ≤ k → k < ats.length → ats.getD i 0 ≤ ats.getD k 0
  live : ∀ i, i < ats.length → (sumTo wents wents.length - sumTo wents i) * 1000000 + p.level ≤ b * 1000000 + (p.at_ - ats.getD i 0) * r
  good : ∀ i k, i ≤ k → k < ats.length → (sumTo wents (k + 1) - sumTo wents i) * 1000000 ≤ b * 1000000 + (ats.getD k 0 - ats.getD i 0) * r
theorem PBd.start {r b : Int} {p : PS} (h1 : p.Ok) (h2 : p.rate = r) (h3 : p.burst = b) (h4 : p.at_ ≤ 0) : PBd r b [] [] p 0 :=
  ⟨h1, h2, h3, h4, rfl, by simp, by simp, by simp, by simp, by simp⟩
theorem PBd.later {r b : Int} {ats wents : List Int} {p : PS} {now now' : Int} (h : PBd r b ats wents p now) (hn : now ≤ now') : PBd r b ats wents p now' :=
  ⟨h.ok, h.hr, h.hb, by have := h.hat; omega, h.len, h.low, h.lat, h.mono, h.live, h.good⟩
theorem PBd.step {r b : Int} {ats wents : List Int} {p : PS} {now n m : Int} (h : PBd r b ats wents p now) (h1 : now < 18446744073709551616) (hn : 0 ≤ n) (hg : goL (p.afterS now).level [n] = some m) :
    PBd r b (ats ++ [now]) (wents ++ [n]) { p.afterS now with level := m } now := by
  have hq := h.ok.after now h1
  have hat : (p.afterS now).at_ = now := by
    have := h.hat
    rw [after_at]; split <;> omega
  obtain ⟨hr', hb'⟩ := after_rate p now
  have hlv : (p.afterS now).level ≤ p.level + (now - p.at_) * r := by
    have h0 := h.hat
    unfold PS.afterS
    split
    · have : now - p.at_ = 0 := by omega
      rw [this]; simp
    · simp only
      rw [h.hr]
      split <;> omega
  have hr1 := h.hr
  have hb1 := h.hb
  have hat0 := h.hat
  generalize p.afterS now = q at *
  unfold PS.Ok at hq
  obtain ⟨q1, q2, q3, q4, q5, q6, q7, q8⟩ := hq
  simp only [goL] at hg
  split at hg
  case isFalse => cases hg
  case isTrue hle =>
    injection hg with hg
    have hl := h.len
    refine ⟨?_, by simp only; omega, by simp only; omega, by simp only; omega, by simp; omega, ?_, ?_, ?_, ?_, ?_⟩
    · unfold PS.Ok; simp only; omega
    · intro x hx
      rcases List.mem_append.1 hx with hx | hx
      · exact h.low x hx
      · simp at hx; omega
    · intro x hx
      simp only
      rcases List.mem_append.1 hx with hx | hx
      · have := h.lat x hx; omega
      · simp at hx; omega
    · intro i k hik hk
      simp at hk
      by_cases g : k = ats.length
      · subst g
        rw [getD_snoc_eq]
        by_cases gi : i = ats.length
        · subst gi; rw [getD_snoc_eq]; omega
        · rw [getD_snoc_lt _ _ _ (by omega)]
          have := h.lat _ (getD_mem_of (xs := ats) (i := i) (by omega)); omega
      · rw [getD_snoc_lt _ _ _ (by omega), getD_snoc_lt _ _ _ (by omega)]
        exact h.mono i k hik (by omega)
    · intro i hi
      simp only [List.length_append, List.length_cons, List.length_nil] at hi ⊢
      rw [sumTo_snoc_all, sumTo_snoc _ _ _ (by omega)]
      by_cases g : i = ats.length
      · subst g
        rw [getD_snoc_eq, hl, hat]
        simp only [Int.sub_self, Int.zero_mul]
        omega
      · rw [getD_snoc_lt _ _ _ (by omega), hat]
        have := h.live i (by omega)
        have e := mul_add_split (ats.getD i 0) p.at_ now r
        generalize (now - ats.getD i 0) * r = x1 at *
        generalize (now - p.at_) * r = x2 at *
        generalize (p.at_ - ats.getD i 0) * r = x3 at *
        omega
    · intro i k hik hk
      simp at hk
      by_cases g : k = ats.length
      · subst g
        rw [hl, sumTo_snoc_all, sumTo_snoc _ _ _ (by omega), ← hl, getD_snoc_eq]
        by_cases gi : i = ats.length
        · subst gi
          rw [getD_snoc_eq, hl]
          simp only [Int.sub_self, Int.zero_mul]
          omega
        · rw [getD_snoc_lt _ _ _ (by omega)]
          have := h.live i (by omega)
          rw [← hl] at this
          have e := mul_add_split (ats.getD i 0) p.at_ now r
          generalize (now - ats.getD i 0) * r = x1 at *
          generalize (now - p.at_) * r = x2 at *
          generalize (p.at_ - ats.getD i 0) * r = x3 at *
          omega
      · rw [getD_snoc_lt _ _ _ (by omega), getD_snoc_lt _ _ _ (by omega), sumTo_snoc _ _ _ (by omega), sumTo_snoc _ _ _ (by omega)]
        exact h.good i k hik (by omega)
theorem sumTo_mono {xs : List Int} {M : Int} (h : ∀ x ∈ xs, 0 ≤ x ∧ x ≤ M) (i j : Nat) (hk : i + j ≤ xs.length) : 0 ≤ sumTo xs (i + j) - sumTo xs i ∧ sumTo xs (i + j) - sumTo xs i ≤ j * M := by
  induction j with
  | zero => simp
  | succ j ih =>
    have h1 := ih (by omega)
    have h2 := h _ (getD_mem_of (xs := xs) (i := i + j) (by omega))
    rw [← Nat.add_assoc, sumTo_succ xs (i + j) (by omega)]
    have e : ((j + 1 : Nat) : Int) * M = j * M + M := by
      rw [show ((j + 1 : Nat) : Int) = (j : Int) + 1 by omega, Int.add_mul, Int.one_mul]
    rw [e]
    omega
/-- what the law asks at i and k -/
theorem PBd.fin {r b : Int} {ats wents : List Int} {p : PS} {now : Int} (h : PBd r b ats wents p now) {i k : Nat} (hik : i ≤ k) (hk : k < ats.length) :
    ((sumTo wents (k + 1) - sumTo wents i - b) * 1000000 + r - 1) / r ≤ ats.getD k 0 - ats.getD i 0 := by
  have hg := h.good i k hik hk
  have hr := h.ok
  unfold PS.Ok at hr
  have hr1 := h.hr
  have h0 : 0 < r := by omega
  have : ((sumTo wents (k + 1) - sumTo wents i - b) * 1000000 + r - 1) < (ats.getD k 0 - ats.getD i 0 + 1) * r := by
    rw [Int.add_mul]; omega
  have := Int.ediv_lt_of_lt_mul h0 this
  omega
end Go.Proofs.Ytfmbbjinlicbgaa
