/- Arguments that are arrays of bytes by value, opened; how they read behind the call. Conditions: as each theorem states them. -/
import Derived.Test.YthknncdhjicklaaBO
import Derived.Test.YthknncdhjicklaaAV
import Derived.OpenShut
namespace Go.Proofs.Ythknncdhjicklaa
open Go.Joins Go.ChangeShapes Go.WideShapes Go.RowKit Go.Deep
theorem arr_open {H : Type} {enc : TypeId × Value → H} {P : Program} {w : World} {base : Nat} {spare : Nat → Bool} {held : Bool} {r : Reach} {b0 : Nat} {t e : TypeId} {n : Nat} {v : Value} {d : DataW H} {p : List MemPlace}
    (ht : P.underlying t = some (.array n e)) (he : P.underlying e = some (.int .u8)) (cE : P.cellsOf e = 1) (cT : P.cellsOf t = n) (hv : Value.okWide P w r b0 t v) (h : DataW.Trod enc P w base spare held t v d p) :
    ∃ S : List Int, v = .agg (cellsL .u8 S) ∧ S.length = n ∧ Byt S := by
  simp only [Value.okWide, ht] at hv
  obtain ⟨cs, rfl, hsz, _⟩ := hv
  rw [cT] at hsz
  obtain ⟨fuel, hf⟩ := h
  obtain ⟨xs, m, _, _, _, hlen, hg⟩ := DataW.trod_array ht hf
  have each : ∀ y ∈ cs.toList, ∃ z : Int, y = .int .u8 z ∧ (Lit.int .u8 z).wf = true := by
    intro y hy
    obtain ⟨i, hi, rfl⟩ := List.mem_iff_getElem.1 hy
    have hin : i < n := by simpa [hsz] using hi
    have h1 := hg i hin
    rw [cE, Nat.mul_one] at h1
    have hxi : xs[i]? = some (xs[i]'(by omega)) := List.getElem?_eq_getElem _
    rw [hxi] at h1
    obtain ⟨z, hz, _, hw⟩ := DataW.trod_int he h1
    refine ⟨z, ?_, hw⟩
    have h2 := congrArg (fun l => l[0]?) hz
    simp only [List.getElem?_take, List.getElem?_drop, Nat.add_zero, Nat.zero_lt_one, if_true, List.getElem?_cons_zero] at h2
    have h3 : cs.toList[i]? = some (cs.toList[i]) := List.getElem?_eq_getElem hi
    have h4 : (Value.agg cs).cells.toList[i]? = cs.toList[i]? := rfl
    rw [h4, h3] at h2
    exact Option.some.inj h2
  refine ⟨cs.toList.map intOf, ?_, by simpa using hsz, ?_⟩
  · congr 1
    unfold cellsL
    rw [List.map_map]
    apply Array.toList_inj.1
    rw [List.toList_toArray]
    conv => lhs; rw [← List.map_id cs.toList]
    apply List.map_congr_left
    intro y hy
    obtain ⟨z, rfl, _⟩ := each y hy
    rfl
  · intro x hx
    obtain ⟨y, hy, rfl⟩ := List.mem_map.1 hx
    obtain ⟨z, rfl, hw⟩ := each y hy
    have := bounds_u8 hw
    simp only [intOf]
    omega
end Go.Proofs.Ythknncdhjicklaa
