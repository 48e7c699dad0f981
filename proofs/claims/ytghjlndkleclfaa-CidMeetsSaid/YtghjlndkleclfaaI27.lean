/- Layer 20: lists of entries by consecutive numbers; plain. Conditions: as each theorem states them. -/
import Derived.Test.YtghjlndkleclfaaI26
namespace Go.Proofs.Ytghjlndkleclfaa
open Go.RowKit
/-- entries of the numbers a, a + 1, .. -/
def SeqL (a : Int) (l : List CX) : Prop := ∀ i, i < l.length → (l.getD i CX.zero).seq = a + i
theorem SeqL.snoc {a : Int} {l : List CX} {y : CX} (h : SeqL a l) (hy : y.seq = a + l.length) : SeqL a (l ++ [y]) := by
  intro i hi
  rw [List.length_append] at hi
  rcases Nat.lt_or_ge i l.length with hc | hc
  · rw [List.getD_eq_getElem?_getD, List.getElem?_append_left hc, ← List.getD_eq_getElem?_getD]; exact h i hc
  · have : i = l.length := by simp at hi; omega
    subst this
    rw [List.getD_eq_getElem?_getD, List.getElem?_append_right (Nat.le_refl _)]
    simp [hy]
theorem SeqL.tail {a : Int} {x : CX} {l : List CX} (h : SeqL a (x :: l)) : SeqL (a + 1) l := by
  intro i hi
  have := h (i + 1) (by simp; omega)
  simp only [List.getD_cons_succ] at this
  rw [this]; push_cast; omega
theorem SeqL.head {a : Int} {x : CX} {l : List CX} (h : SeqL a (x :: l)) : x.seq = a := by
  have := h 0 (by simp)
  simpa using this
theorem SeqL.mem {a : Int} : ∀ {l : List CX}, SeqL a l → ∀ x ∈ l, a ≤ x.seq ∧ x.seq < a + l.length := by
  intro l
  induction l generalizing a with
  | nil => intro _ x hx; cases hx
  | cons y t ih =>
    intro h x hx
    rcases List.mem_cons.1 hx with rfl | hx
    · have := h.head; simp; omega
    · have := ih h.tail x hx; simp; omega
theorem SeqL.has {a : Int} {l : List CX} (h : SeqL a l) (i : Nat) (hi : i < l.length) : ∃ x ∈ l, x.seq = a + i := ⟨_, memD hi, h i hi⟩
/-- the place of what is nowhere -/
theorem idx_no {p : CX → Bool} {l : List CX} (h : ∀ x ∈ l, p x = false) : idx p l = -1 := by
  rcases idxN_spec p l 0 with h1 | ⟨i, hi, _, hp, _⟩
  · exact h1.1
  · rw [h _ (memD hi)] at hp; cases hp
/-- the place of what is somewhere -/
theorem idx_yes {p : CX → Bool} {l : List CX} {x : CX} (h : x ∈ l) (hp : p x = true) : ∃ i : Nat, i < l.length ∧ idx p l = i ∧ p (l.getD i CX.zero) = true := by
  rcases idxN_spec p l 0 with h1 | ⟨i, hi, he, hp, _⟩
  · rw [h1.2 x h] at hp; cases hp
  · exact ⟨i, hi, by unfold idx; rw [he]; simp, hp⟩
theorem idx_bsno {l : List CX} {q : Int} (h : ∀ x ∈ l, EOk x) (hq : ∀ x ∈ l, x.seq ≠ q) : idx (fun x => decide (x.bs = [q])) l = -1 := by
  rw [idx_bs h]
  exact idx_no (fun x hx => by have := hq x hx; simp [this])
/-- what the learner holds: rising, of numbers 0 .. n, each as it was issued; nought first -/
structure PeerL (n : Nat) (l : List CX) : Prop where
  ris : Ris l
  ok : ∀ x ∈ l, EOk x
  lo : ∀ x ∈ l, 0 ≤ x.seq
  hi : ∀ x ∈ l, x.seq ≤ n
  z : ∃ x ∈ l, x.seq = 0
theorem PeerL.len {n : Nat} {l : List CX} (h : PeerL n l) : l.length ≤ n + 1 := by
  have := h.ris.len (m := 0) (n := n) h.lo (fun x hx => by have := h.hi x hx; omega) (by omega)
  omega
theorem PeerL.pos {n : Nat} {l : List CX} (h : PeerL n l) : 0 < l.length := by
  obtain ⟨x, hx, _⟩ := h.z
  exact List.length_pos_of_mem hx
theorem PeerL.ins {n : Nat} {l : List CX} {y : CX} (h : PeerL n l) (hy : EOk y) (h1 : 0 ≤ y.seq) (h2 : y.seq ≤ n) (hn : ∀ x ∈ l, x.seq ≠ y.seq) : PeerL n (insL y l) := by
  refine ⟨h.ris.ins hn, fun x hx => ?_, fun x hx => ?_, fun x hx => ?_, ?_⟩
  · rcases mem_insL.1 hx with rfl | hx
    · exact hy
    · exact h.ok x hx
  · rcases mem_insL.1 hx with rfl | hx
    · exact h1
    · exact h.lo x hx
  · rcases mem_insL.1 hx with rfl | hx
    · exact h2
    · exact h.hi x hx
  · obtain ⟨x, hx, e⟩ := h.z
    exact ⟨x, mem_insL.2 (.inr hx), e⟩
theorem PeerL.all {n : Nat} {l : List CX} (h : PeerL n l) (ha : ∀ j : Nat, 1 ≤ j → j ≤ n → ∃ x ∈ l, x.seq = j) : l.length = n + 1 ∧ SeqL 0 l := by
  have := h.ris.all (n := n) (m := 0) h.lo (fun x hx => by have := h.hi x hx; omega) (fun j hj => by
    rcases Nat.eq_zero_or_pos j with rfl | hp
    · obtain ⟨x, hx, e⟩ := h.z; exact ⟨x, hx, by simp [e]⟩
    · obtain ⟨x, hx, e⟩ := ha j hp hj; exact ⟨x, hx, by omega⟩)
  exact ⟨this.1, fun i hi => this.2 i (by omega)⟩
end Go.Proofs.Ytghjlndkleclfaa
