/- Arguments that are slices of integers, opened to lists. Conditions: as each theorem states them. -/
import Derived.Test.YthknncdhjicklaaB
import Derived.Test.YthknncdhjicklaaWS
namespace Go.Proofs.Ythknncdhjicklaa
open Go.Joins Go.ChangeShapes Go.WideShapes Go.RowKit Go.Deep
theorem rd_open {k : IntKind} {w : World} {A : Option Addr} {l c : Nat} {zs : List Int} (h : IsRow k w A l c zs) : ∃ xs : List Int, l = xs.length ∧ Rd w.heap.size k w A xs ∧ l ≤ c ∧ ∀ x ∈ xs, (Lit.int k x).wf = true := by
  rcases h with ⟨rfl, rfl, rfl, rfl⟩ | ⟨x, rfl, hlc, _, hz, hc, hwf⟩
  · exact ⟨[], rfl, Rd.nil, Nat.le_refl _, fun x hx => by simp at hx⟩
  · refine ⟨zs.take l, by simp; omega, fun i hi => ?_, hlc, fun y hy => hwf y (List.mem_of_mem_take hy)⟩
    simp at hi
    have hci := hc i (by omega)
    refine ⟨x, rfl, ?_, ?_⟩
    · have := cell_lt hci
      rwa [block_of_add] at this
    · rw [hci, List.getD_eq_getElem?_getD, List.getD_eq_getElem?_getD, List.getElem?_take, if_pos (by omega)]
theorem byt_wf {xs : List Int} (h : ∀ x ∈ xs, (Lit.int .u8 x).wf = true) : Byt xs := fun x hx => by have := bounds_u8 (h x hx); omega
theorem wrd_wf {xs : List Int} (h : ∀ x ∈ xs, (Lit.int .u32 x).wf = true) : Wrd xs := fun x hx => by have := bounds_u32 (h x hx); omega
/-- a cell that reads at a slice of integers -/
theorem rd_of_trod {H : Type} {enc : TypeId × Value → H} {P : Program} {w : World} {base : Nat} {held : Bool} {t e : TypeId} {k : IntKind} {fuel : Nat} {v : Value} {x : DataW H × List MemPlace}
    (ht : P.underlying t = some (.slice e)) (he : P.underlying e = some (.int k)) (hC : P.cellsOf e = 1) (hB : 0 < P.bytesOf e) (h : DataW.trod enc P w base (fun _ => true) held fuel t [v] = some x) (hL : Light P t x.1) :
    ∃ (A : Option Addr) (c : Nat) (xs : List Int), v = .slice A xs.length c ∧ Rd w.heap.size k w A xs ∧ xs.length ≤ c ∧ (∀ y ∈ xs, (Lit.int k y).wf = true) ∧ xs.length ≤ 140737488351232 := by
  obtain ⟨A, l, c, hv⟩ := slice_form ht h
  have hv' : v = .slice A l c := by simpa using hv
  subst hv'
  obtain ⟨zs, hz⟩ := isRow_of_trod ht he hC h
  have hl := isRow_light ht he hC hB h hL
  obtain ⟨xs, rfl, h1, h2, h3⟩ := rd_open hz
  exact ⟨A, c, xs, rfl, h1, h2, h3, hl⟩
end Go.Proofs.Ythknncdhjicklaa
