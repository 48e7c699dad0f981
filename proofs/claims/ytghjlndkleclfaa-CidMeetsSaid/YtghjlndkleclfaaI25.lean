/- Layer 20: rising lists of entries; plain. Conditions: as each theorem states them. -/
import Derived.Test.YtghjlndkleclfaaI24
namespace Go.Proofs.Ytghjlndkleclfaa
open Go.RowKit
/-- rising by neighbours' order -/
def Ris (l : List CX) : Prop := l.Pairwise (fun a b => a.seq < b.seq)
theorem Ris.rising {l : List CX} (h : Ris l) : Rising l := by
  intro i j hij hj
  have := List.pairwise_iff_getElem.1 h i j (by omega) hj hij
  rw [List.getD_eq_getElem?_getD, List.getD_eq_getElem?_getD, List.getElem?_eq_getElem (by omega), List.getElem?_eq_getElem hj]
  exact this
theorem posL_cons_lt {q : Int} {a : CX} {t : List CX} (h : a.seq < q) : posL q (a :: t) = posL q t + 1 := by unfold posL; simp [h]
theorem posL_none {q : Int} {t : List CX} (h : ∀ x ∈ t, q ≤ x.seq) : posL q t = 0 := by
  unfold posL
  rw [List.length_eq_zero_iff, List.filter_eq_nil_iff]
  intro x hx
  have := h x hx
  simp; omega
theorem pos_take {q : Int} : ∀ {l : List CX}, Ris l → (∀ x ∈ l.take (posL q l), x.seq < q) ∧ (∀ x ∈ l.drop (posL q l), q ≤ x.seq)
  | [], _ => by simp
  | a :: t, h => by
    have h' := List.pairwise_cons.1 h
    by_cases ha : a.seq < q
    · obtain ⟨h1, h2⟩ := pos_take (q := q) (l := t) h'.2
      rw [posL_cons_lt ha]
      refine ⟨fun x hx => ?_, fun x hx => h2 x (by simpa using hx)⟩
      rw [List.take_succ_cons] at hx
      rcases List.mem_cons.1 hx with rfl | hx
      · exact ha
      · exact h1 x hx
    · have hz : posL q (a :: t) = 0 := posL_none (fun x hx => by
        rcases List.mem_cons.1 hx with rfl | hx
        · omega
        · have := h'.1 x hx; omega)
      rw [hz]
      refine ⟨fun x hx => by simp at hx, fun x hx => ?_⟩
      rw [List.drop_zero] at hx
      rcases List.mem_cons.1 hx with rfl | hx
      · omega
      · have := h'.1 x hx; omega
/-- an entry put in where it belongs -/
def insL (y : CX) (l : List CX) : List CX := l.take (posL y.seq l) ++ y :: l.drop (posL y.seq l)
theorem mem_insL {x y : CX} {l : List CX} : x ∈ insL y l ↔ x = y ∨ x ∈ l := by
  unfold insL
  rw [List.mem_append, List.mem_cons]
  constructor
  · rintro (h | h | h)
    · exact .inr (List.mem_of_mem_take h)
    · exact .inl h
    · exact .inr (List.mem_of_mem_drop h)
  · rintro (h | h)
    · exact .inr (.inl h)
    · rw [← List.take_append_drop (posL y.seq l) l, List.mem_append] at h
      rcases h with h | h
      · exact .inl h
      · exact .inr (.inr h)
theorem insL_len {y : CX} {l : List CX} : (insL y l).length = l.length + 1 := by
  unfold insL
  have : posL y.seq l ≤ l.length := List.length_filter_le _ _
  simp; omega
theorem Ris.ins {y : CX} {l : List CX} (h : Ris l) (hn : ∀ x ∈ l, x.seq ≠ y.seq) : Ris (insL y l) := by
  obtain ⟨h1, h2⟩ := pos_take (q := y.seq) h
  unfold Ris insL
  have hh := h
  unfold Ris at hh
  rw [← List.take_append_drop (posL y.seq l) l, List.pairwise_append] at hh
  rw [List.pairwise_append, List.pairwise_cons]
  refine ⟨hh.1, ⟨fun x hx => ?_, hh.2.1⟩, fun a ha b hb => ?_⟩
  · have := h2 x hx
    have := hn x (List.mem_of_mem_drop hx)
    omega
  · have := h1 a ha
    rcases List.mem_cons.1 hb with rfl | hb
    · exact this
    · have := h2 b hb; omega
/-- a rising list of numbers from m on: the i-th is m + i at least -/
theorem Ris.ge : ∀ {l : List CX} {m : Int}, Ris l → (∀ x ∈ l, m ≤ x.seq) → ∀ i, i < l.length → m + i ≤ (l.getD i CX.zero).seq
  | [], _, _, _, i, hi => by simp at hi
  | a :: t, m, h, hm, 0, _ => by have := hm a (by simp); simpa using this
  | a :: t, m, h, hm, i + 1, hi => by
    have h' := List.pairwise_cons.1 h
    have := Ris.ge (l := t) (m := m + 1) h'.2 (fun x hx => by have := h'.1 x hx; have := hm a (by simp); omega) i (by simpa using hi)
    simp only [List.getD_cons_succ]
    push_cast
    omega
/-- a rising list within m .. m + n has n + 1 entries at most -/
theorem Ris.len {l : List CX} {m n : Int} (h : Ris l) (hm : ∀ x ∈ l, m ≤ x.seq) (hn : ∀ x ∈ l, x.seq ≤ m + n) (h0 : -1 ≤ n) : (l.length : Int) ≤ n + 1 := by
  rcases Nat.eq_zero_or_pos l.length with h1 | h1
  · omega
  · have := h.ge hm (l.length - 1) (by omega)
    have := hn _ (memD (l := l) (i := l.length - 1) (by omega))
    omega
/-- it has all of m .. m + n: the i-th is m + i -/
theorem Ris.all : ∀ {n : Nat} {l : List CX} {m : Int}, Ris l → (∀ x ∈ l, m ≤ x.seq) → (∀ x ∈ l, x.seq ≤ m + n) → (∀ j : Nat, j ≤ n → ∃ x ∈ l, x.seq = m + j) → l.length = n + 1 ∧ ∀ i, i ≤ n → (l.getD i CX.zero).seq = m + i
  | n, [], m, _, _, _, ha => by obtain ⟨x, hx, _⟩ := ha 0 (by omega); cases hx
  | 0, a :: t, m, h, hm, hn, ha => by
    have hl := h.len hm hn (by omega)
    have hz : t.length = 0 := by simp at hl; omega
    have ht : t = [] := List.length_eq_zero_iff.1 hz
    subst ht
    refine ⟨rfl, fun i hi => ?_⟩
    have hi0 : i = 0 := by omega
    subst hi0
    have h1 := hm a (by simp)
    have h2 := hn a (by simp)
    simp; omega
  | n + 1, a :: t, m, h, hm, hn, ha => by
    have h' := List.pairwise_cons.1 h
    have ham : a.seq = m := by
      obtain ⟨x, hx, he⟩ := ha 0 (by omega)
      rcases List.mem_cons.1 hx with rfl | hx
      · simpa using he
      · have := h'.1 x hx; have := hm a (by simp); simp at he; omega
    obtain ⟨h1, h2⟩ := Ris.all (n := n) (l := t) (m := m + 1) h'.2 (fun x hx => by have := h'.1 x hx; omega) (fun x hx => by have := hn x (by simp [hx]); push_cast at this; omega) (fun j hj => by
      obtain ⟨x, hx, he⟩ := ha (j + 1) (by omega)
      rcases List.mem_cons.1 hx with rfl | hx
      · push_cast at he; omega
      · exact ⟨x, hx, by push_cast at he; omega⟩)
    refine ⟨by simp [h1], fun i hi => ?_⟩
    cases i with
    | zero => simp [ham]
    | succ i => have := h2 i (by omega); simp only [List.getD_cons_succ]; push_cast; omega
/-- an entry that the law's two sides hold -/
def EOk (x : CX) : Prop := x.bs = [x.seq] ∧ (x.seq = 0 ∨ x.tok = tk (x.seq - 1))
theorem idx_bs {l : List CX} {q : Int} (h : ∀ x ∈ l, EOk x) : idx (fun x => decide (x.bs = [q])) l = idx (fun x => x.seq == q) l := by
  have e : ∀ (l : List CX) (k : Nat), (∀ x ∈ l, EOk x) → idxN (fun x => decide (x.bs = [q])) l k = idxN (fun x => x.seq == q) l k := by
    intro l
    induction l with
    | nil => intro k _; rfl
    | cons a t ih =>
      intro k h
      have ha := (h a (by simp)).1
      unfold idxN
      rw [ih (k + 1) (fun x hx => h x (by simp [hx]))]
      have : decide (a.bs = [q]) = (a.seq == q) := by rw [ha]; simp [BEq.beq]
      rw [this]
  exact e l 0 h
end Go.Proofs.Ytghjlndkleclfaa
