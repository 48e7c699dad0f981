/- Contract: the reference's Split of a long packet's bytes, and of any (8 bytes an id). Conditions: as each theorem states them. -/
import Derived.Test.YtlefnddhmpgijaaR12
namespace Go.Proofs.Ytlefnddhmpgijaa
open Go.RowKit
/-- where a long packet's parts stand, one behind the other -/
def p1 (b : List Int) : Option Nat := idO b (some 5)
def p2 (b : List Int) : Option Nat := idO b (p1 b)
def p3 (b : List Int) (kind : Int) : Option Nat := if kind = 0 then szO b (p2 b) else p2 b
def endR (b : List Int) (kind : Int) : Bool := match tkO b (p3 b kind) with | none => false | some q => decide (20 ≤ tkV b (p3 b kind)) && decide (tkV b (p3 b kind) ≤ (b.length : Int) - q)
theorem idO_le {b : List Int} {p : Option Nat} (hb : Byt b) (hp : ∀ q, p = some q → q ≤ b.length) : ∀ q, idO b p = some q → q ≤ b.length := by
  intro q h
  unfold idO at h
  rcases p with _ | q0
  · cases h
  · rcases idR_cid (q := q0) hb with ⟨h1, _⟩ | ⟨d, q', h1, _, h3⟩
    · rw [h1] at h; cases h
    · rw [h1] at h; injection h with h; subst h; exact h3
theorem szO_le {b : List Int} {p : Option Nat} (hb : Byt b) (hp : ∀ q, p = some q → q ≤ b.length) : ∀ q, szO b p = some q → q ≤ b.length := by
  intro q h
  unfold szO szR at h
  rcases ht : tkR b p with _ | ⟨v, q0⟩
  · rw [ht] at h; cases h
  · rw [ht] at h
    obtain ⟨h1, h2, h3⟩ := tkR_le hb hp ht
    simp only [Option.bind_some] at h
    split at h
    · cases h
    · rename_i hs
      injection h with h
      subst h
      simp only
      omega
theorem p3_le {b : List Int} {kind : Int} (hb : Byt b) : ∀ q, p3 b kind = some q → q ≤ b.length := by
  have h1 := idO_le (p := some 5) hb
  by_cases h5 : 5 ≤ b.length
  · have h2 : ∀ q, p2 b = some q → q ≤ b.length := idO_le hb (idO_le hb (fun q h => by injection h with h; omega))
    unfold p3
    split
    · exact szO_le hb h2
    · exact h2
  · have e1 : p1 b = none := by
      unfold p1 idO idR
      simp only [Option.bind_some]
      rw [List.drop_of_length_le (by omega)]
      rfl
    have e2 : p2 b = none := by unfold p2; rw [e1]; rfl
    have e3 : p3 b kind = none := by
      unfold p3
      rw [e2]
      split <;> rfl
    intro q h
    rw [e3] at h
    cases h
/-- what the reference's end says is what the document's split says -/
theorem longP_some (b : List Int) (kind : Int) : (longP b kind).isSome = endR b kind ∧ ∀ p, longP b kind = some p → p.dst = idL b (some 5) := by
  unfold longP endR p3 p2 p1 tkO szO idO idL
  rcases h1 : idR b (some 5) with _ | ⟨d, q1⟩
  · simp only [Option.map_none, Option.bind_none]
    have e1 : idR b none = none := rfl
    rw [e1]
    by_cases hk : kind = 0
    · rw [if_pos hk]; exact ⟨rfl, fun p h => by cases h⟩
    · rw [if_neg hk]; exact ⟨rfl, fun p h => by cases h⟩
  simp only [Option.map_some, Option.bind_some]
  rcases h2 : idR b (some q1) with _ | ⟨s, q2⟩
  · simp only [Option.map_none, Option.bind_none]
    by_cases hk : kind = 0
    · rw [if_pos hk]; exact ⟨rfl, fun p h => by cases h⟩
    · rw [if_neg hk]; exact ⟨rfl, fun p h => by cases h⟩
  simp only [Option.map_some, Option.bind_some]
  have key : ∀ (t : List Int) (q3 : Nat), ((tkR b (some q3)).bind fun v => if v.1 < 20 ∨ (b.length : Int) - v.2 < v.1 then none else some (⟨kind / 2, d, s, t, v.2, v.2 + v.1.toNat⟩ : PartL)).isSome =
      (match (tkR b (some q3)).map (·.2) with | none => false | some q => decide (20 ≤ tkV b (some q3)) && decide (tkV b (some q3) ≤ (b.length : Int) - q)) := by
    intro t q3
    have hv : tkV b (some q3) = match tkR b (some q3) with | none => 0 | some d => d.1 := rfl
    rw [hv]
    rcases h3 : tkR b (some q3) with _ | ⟨v, q⟩
    · rfl
    · simp only [Option.bind_some, Option.map_some]
      by_cases hh : v < 20 ∨ (b.length : Int) - q < v
      · rw [if_pos hh]
        symm
        rw [Option.isSome_none, Bool.and_eq_false_iff, decide_eq_false_iff_not, decide_eq_false_iff_not]
        omega
      · rw [if_neg hh]
        symm
        rw [Option.isSome_some, Bool.and_eq_true, decide_eq_true_eq, decide_eq_true_eq]
        omega
  by_cases hk : kind = 0
  · rw [if_pos hk, if_pos hk]
    rcases h3 : szR b (some q2) with _ | ⟨t, q3⟩
    · exact ⟨rfl, fun p h => by cases h⟩
    · simp only [Option.map_some, Option.bind_some]
      refine ⟨key t q3, fun p h => ?_⟩
      rcases h4 : tkR b (some q3) with _ | ⟨v, q⟩
      · rw [h4] at h; cases h
      · rw [h4] at h
        simp only [Option.bind_some] at h
        split at h
        · cases h
        · injection h with h; rw [← h]
  · rw [if_neg hk, if_neg hk]
    simp only [Option.bind_some]
    refine ⟨key [] q2, fun p h => ?_⟩
    rcases h4 : tkR b (some q2) with _ | ⟨v, q⟩
    · rw [h4] at h; cases h
    · rw [h4] at h
      simp only [Option.bind_some] at h
      split at h
      · cases h
      · injection h with h; rw [← h]
end Go.Proofs.Ytlefnddhmpgijaa
