/- A slice of calls (hostlerlaw36.Do), opened to cells. Conditions: as each theorem states them. -/
import Derived.Test.YtfhclafkmaojoaaM11
import Derived.Test.YtfhclafkmaojoaaWS
namespace Go.Proofs.Ytfhclafkmaojoaa
open Go.Joins Go.ChangeShapes Go.WideShapes Go.RowKit Go.Deep

theorem add_one (a : Addr) (n j : Nat) (hj : j ≠ 0) : a.add (n + j) = ⟨(a.add n).block, (a.add n).off + j, none⟩ := by
  rw [← add_of_add]
  generalize a.add n = b
  unfold Addr.add
  rw [if_neg hj]

theorem isDos_of_trod {H : Type} {enc : TypeId × Value → H} {w : World} {base : Nat} {held : Bool} {fuel : Nat} {A : Option Addr} {l c : Nat} {x : DataW H × List MemPlace}
    (h : DataW.trod enc Try.prog w base (fun _ => true) held fuel 35 [.slice A l c] = some x) : IsDos w A l := by
  rcases open_slice_fields Try.underlying35 Try.underlying39 (by kernel_rfl) (by kernel_rfl) h with ⟨hcs, _⟩ | ⟨a, len, cap, m, D, Pl, hcs, _, hl, hm, hmm, _, hi⟩
  · simp at hcs
    obtain ⟨rfl, rfl, rfl⟩ := hcs
    exact ⟨by omega, fun i hi => by omega⟩
  · simp at hcs
    obtain ⟨rfl, rfl, rfl⟩ := hcs
    simp at hmm
    refine ⟨by unfold maxLen at hm; omega, fun i hil => ?_⟩
    obtain ⟨ys, n, _, _, _, hf⟩ := hi i (by omega)
    obtain ⟨v0, y0, c0, _, t0⟩ := hf 0 _ rfl
    obtain ⟨v1, y1, c1, _, t1⟩ := hf 1 _ rfl
    obtain ⟨v2, y2, c2, _, t2⟩ := hf 2 _ rfl
    obtain ⟨n0, e0, _, w0⟩ := DataW.trod_int Try.underlying5 t0
    obtain ⟨n1, e1, _, w1⟩ := DataW.trod_int Try.underlying3 t1
    obtain ⟨a', l', c', e2⟩ := slice_form Try.underlying37 t2
    simp at e0 e1 e2
    subst e0 e1 e2
    obtain ⟨zs, hz⟩ := isRow_of_trod Try.underlying37 Try.underlying3 (by kernel_rfl) t2
    have b1 := bounds_i64 w1
    have hlen : (zs.take l').length = l' ∧ l' ≤ 9223372036854775807 ∧ ∀ k, k < l' → ∃ ad, a' = some ad ∧ w.cell? (ad.add k) = some (.int .i64 ((zs.take l').getD k 0)) := by
      rcases hz with ⟨rfl, rfl, rfl, rfl⟩ | ⟨x, rfl, q1, q2, q3, q4, q5⟩
      · exact ⟨by simp, by omega, by omega⟩
      · unfold maxLen at q2
        refine ⟨by simp; omega, by omega, fun k hk => ⟨x, rfl, ?_⟩⟩
        have := q4 k (by omega)
        rw [this]
        simp [List.getD_eq_getElem?_getD, hk]
    refine ⟨a, ⟨n0, n1, a', c', zs.take l'⟩, rfl, ?_, ?_, ?_, b1.1, b1.2, by rw [hlen.1]; exact hlen.2.1, ?_⟩
    · exact c0
    · rw [← add_one _ _ _ (by decide)]; exact c1
    · rw [← add_one _ _ _ (by decide), hlen.1]; exact c2
    · rw [hlen.1]; exact hlen.2.2
end Go.Proofs.Ytfhclafkmaojoaa
