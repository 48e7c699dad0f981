/- A slice of numbers of kind uint64, opened. Conditions: as each theorem states them. -/
import Derived.Test.YtfmbbjinlicbgaaP5
import Derived.Test.YtfmbbjinlicbgaaWS
namespace Go.Proofs.Ytfmbbjinlicbgaa
open Go.Joins Go.ChangeShapes Go.WideShapes Go.RowKit Go.Deep

theorem rdU_open {w : World} {A : Option Addr} {l c : Nat} {zs : List Int} (h : IsRow .u64 w A l c zs) : ∃ ns, l = ns.length ∧ RdU w A ns ∧ ns.length ≤ 9223372036854775807 := by
  rcases h with ⟨rfl, rfl, rfl, rfl⟩ | ⟨x, rfl, q1, q2, q3, q4, q5⟩
  · exact ⟨[], rfl, rdU_nil, by simp⟩
  · unfold maxLen at q2
    have e : (zs.take l).length = l := by simp; omega
    refine ⟨zs.take l, e.symm, ⟨fun n hn => ?_, fun k hk => ⟨x, rfl, ?_⟩⟩, by omega⟩
    · have := bounds_u64 (q5 n (List.mem_of_mem_take hn)); omega
    · rw [e] at hk
      rw [q4 k (by omega)]
      simp [List.getD_eq_getElem?_getD, hk]
end Go.Proofs.Ytfmbbjinlicbgaa
