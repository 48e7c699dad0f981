/- What the bulk of an argument of slices of bytes says of its rows. Conditions: as each theorem states them. -/
import Derived.Test.YtnagpaaiaaaamaaD20
import Derived.Test.YtnagpaaiaaaamaaS9
namespace Go.Proofs.Ytnagpaaiaaaamaa
open Go.Joins Go.ChangeShapes Go.WideShapes Go.RowKit Go.Deep
theorem bulk_pos {H : Type} (d : DataW H) : 1 ≤ Rows.uptoBulk d := by
  cases d with
  | lit l => cases l <;> simp [Rows.uptoBulk]
  | nil => simp [Rows.uptoBulk]
  | ptr d => simp [Rows.uptoBulk]
  | slice elems spare => simp [Rows.uptoBulk]
  | agg parts => simp [Rows.uptoBulk]
  | iface t d => simp [Rows.uptoBulk]
  | map entries => simp [Rows.uptoBulk]
  | held h => simp [Rows.uptoBulk]
theorem bulk_len {H : Type} (l : List (DataW H)) : l.length ≤ Rows.uptoBulkAll l := by
  induction l with
  | nil => simp [Rows.uptoBulkAll]
  | cons x r ih => have := bulk_pos x; simp only [Rows.uptoBulkAll, List.length_cons]; omega
theorem bulk_append {H : Type} (l r : List (DataW H)) : Rows.uptoBulkAll (l ++ r) = Rows.uptoBulkAll l + Rows.uptoBulkAll r := by
  induction l with
  | nil => simp [Rows.uptoBulkAll]
  | cons x l ih => simp only [List.cons_append, Rows.uptoBulkAll, ih]; omega
theorem bulk_part {H : Type} {d : DataW H} {l : List (DataW H)} (h : d ∈ l) : Rows.uptoBulk d ≤ Rows.uptoBulkAll l := by
  induction l with
  | nil => cases h
  | cons x r ih =>
    simp only [Rows.uptoBulkAll]
    cases List.mem_cons.1 h with
    | inl e => subst e; omega
    | inr e => have := ih e; omega
theorem intRow_bulk {H : Type} (A : Option Addr) (L : Nat) (Z : List Int) (h : A = none → L = 0) (hl : L ≤ Z.length) : L + 1 ≤ Rows.uptoBulk (intRow (H := H) .u8 A L Z) := by
  rcases A with _ | ad
  · rw [h rfl]; exact bulk_pos _
  · have h1 := bulk_len (lits (H := H) IntKind.u8 (Z.take L))
    have h2 : (lits (H := H) IntKind.u8 (Z.take L)).length = L := by simp [lits]; omega
    simp only [intRow, Rows.uptoBulk]
    omega
theorem rows_bulk {H : Type} (f : Nat → Tx) (g : Nat → DataW H) (n : Nat) (h : ∀ r, r < n → (f r).xs.length + 1 ≤ Rows.uptoBulk (g r)) : rowsN (bsT ((List.range n).map f)) ≤ 4 * Rows.uptoBulkAll ((List.range n).map g) := by
  induction n with
  | zero =>
    have e : bsT ((List.range 0).map f) = [] := by simp [bsT]
    rw [e, rowsN_nil_]
    omega
  | succ n ih =>
    have ih := ih fun r hr => h r (by omega)
    have e : bsT ((List.range (n + 1)).map f) = bsT ((List.range n).map f) ++ [(f n).xs] := by
      rw [List.range_succ, List.map_append]
      unfold bsT
      rw [List.map_append]
      rfl
    rw [e, rowsN_snoc, List.range_succ, List.map_append, bulk_append]
    have := h n (by omega)
    simp only [List.map_cons, List.map_nil, Rows.uptoBulkAll]
    omega
theorem txs_bulk {H : Type} {enc : TypeId × Value → H} {P : Program} {w : World} {base : Nat} {held : Bool} {t e q : TypeId} {fuel : Nat} {v : Value} {x : DataW H × List MemPlace}
    (ht : P.underlying t = some (.slice e)) (he : P.underlying e = some (.slice q)) (hq : P.underlying q = some (.int .u8)) (ce : P.cellsOf e = 1) (cq : P.cellsOf q = 1)
    (h : DataW.trod enc P w base (fun _ => true) held fuel t [v] = some x) {A : Option Addr} {c : Nat} {ts : List Tx} (hv : v = .slice A ts.length c) (hT : Txs w.heap.size w A ts) : rowsN (bsT ts) ≤ 4 * Rows.uptoBulk x.1 := by
  rcases open_int_rows ht he hq ce cq h with ⟨hcs, hx⟩ | ⟨a, len, cap, A', L, C, Z, hcs, _, hlc, _, hx, hr⟩
  · simp at hcs
    rw [hcs] at hv
    injection hv with _ hl _
    have : ts = [] := List.eq_nil_of_length_eq_zero hl.symm
    subst this
    have e : bsT [] = [] := by simp [bsT]
    rw [e, rowsN_nil_]
    omega
  · simp at hcs
    rw [hcs] at hv
    injection hv with h1 hl _
    subst h1
    have hts : bsT ts = bsT ((List.range len).map fun r => (⟨A' r, C r, (Z r).take (L r)⟩ : Tx)) := by
      unfold bsT
      apply List.ext_getElem
      · simp [hl]
      · intro i h1 h2
        simp only [List.length_map] at h1
        obtain ⟨ad, e1, _, e2, e3, _⟩ := hT i h1
        obtain ⟨g1, g2, g3, g4, g5, g6, g7⟩ := hr i (by omega)
        injection e1 with e1
        subst e1
        rw [g1] at e2
        injection e2 with e2
        injection e2 with e4 e5 e6
        simp only [List.getElem_map, List.getElem_range]
        have hgd : ts.getD i Tx.none = ts[i] := by rw [List.getD_eq_getElem?_getD, List.getElem?_eq_getElem h1]; rfl
        rw [hgd] at e4 e5 e3
        apply List.ext_getElem
        · rw [List.length_take]; omega
        · intro j h3 h4
          obtain ⟨ad2, e7, _, e8⟩ := e3 j h3
          rw [← e4] at e7
          obtain ⟨_, g8⟩ := g7 ad2 e7
          have g9 := g8 j (by omega)
          rw [g9] at e8
          injection e8 with e8
          injection e8 with _ e8
          rw [List.getElem_take]
          have k1 : (Z i).getD j 0 = (Z i)[j]'(by omega) := by rw [List.getD_eq_getElem?_getD, List.getElem?_eq_getElem (by omega)]; rfl
          have k2 : ts[i].xs.getD j 0 = ts[i].xs[j] := by rw [List.getD_eq_getElem?_getD, List.getElem?_eq_getElem h3]; rfl
          rw [k1, k2] at e8
          exact e8.symm
    rw [hts]
    have hb := rows_bulk (fun r => (⟨A' r, C r, (Z r).take (L r)⟩ : Tx)) (fun r => intRow (H := H) .u8 (A' r) (L r) (Z r)) len (fun r hr' => by
      obtain ⟨g1, g2, g3, g4, g5, g6, g7⟩ := hr r (by omega)
      have := intRow_bulk (H := H) (A' r) (L r) (Z r) (fun e => by have := g6 e; omega) (by omega)
      show ((Z r).take (L r)).length + 1 ≤ _
      rw [List.length_take]
      omega)
    rw [hx]
    simp only [Rows.uptoBulk]
    omega
end Go.Proofs.Ytnagpaaiaaaamaa
