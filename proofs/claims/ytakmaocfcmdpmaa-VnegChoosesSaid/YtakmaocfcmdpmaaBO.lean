/- Arguments that are slices of integers, opened to lists. Conditions: as each theorem states them. -/
import Derived.Test.YtakmaocfcmdpmaaB
import Derived.Test.YtakmaocfcmdpmaaWS
namespace Go.Proofs.Ytakmaocfcmdpmaa
open Go.Joins Go.ChangeShapes Go.WideShapes Go.RowKit Go.Deep
theorem rd_open {k : IntKind} {w : World} {A : Option Addr} {l c : Nat} {zs : List Int} (h : IsRow k w A l c zs) : ∃ xs : List Int, l = xs.length ∧ Rd w.heap.size k w A xs ∧ l ≤ c ∧ ∀ x ∈ xs, (Lit.int k x).wf = true := by
  rcases h with ⟨rfl, rfl, rfl, rfl⟩ | ⟨x, rfl, hlc, _, hz, hc, hwf⟩
  · exact ⟨[], rfl, Rd.nil, Nat.le_refl _, fun x hx => by simp at hx⟩
  · refine ⟨zs.take l, by simp; omega, fun i hi => ?_, hlc, fun y hy => hwf y (List.mem_of_mem_take hy)⟩
    simp at hi
    have hci := hc i (by omega)
    refine ⟨x, rfl, ?_, ?_⟩
    · have := cell_lt hci
      rwa [block_of_add] at this
    · rw [hci, List.getD_eq_getElem?_getD, List.getD_eq_getElem?_getD, List.getElem?_take, if_pos (by omega)]
theorem byt_wf {xs : List Int} (h : ∀ x ∈ xs, (Lit.int .u8 x).wf = true) : Byt xs := fun x hx => by have := bounds_u8 (h x hx); omega
theorem wrd_wf {xs : List Int} (h : ∀ x ∈ xs, (Lit.int .u32 x).wf = true) : Wrd xs := fun x hx => by have := bounds_u32 (h x hx); omega
end Go.Proofs.Ytakmaocfcmdpmaa
