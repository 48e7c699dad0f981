
/- Arguments that are slices of slices of bytes; contracts of the reference's First, Constants, Join, Great. Conditions: as each theorem states them. -/
import Derived.Test.YtnagpaaiaaaamaaS5
import Derived.Test.YtnagpaaiaaaamaaBO
import Derived.Deep.Matrix
namespace Go.Proofs.Ytnagpaaiaaaamaa
open Go.Joins Go.ChangeShapes Go.WideShapes Go.RowKit Go.Deep

theorem reach_eq : reachBytes = 140737488351232 := by decide
theorem txs_open {H : Type} {enc : TypeId × Value → H} {P : Program} {w : World} {base : Nat} {held : Bool} {t e q : TypeId} {fuel : Nat} {v : Value} {x : DataW H × List MemPlace}
    (ht : P.underlying t = some (.slice e)) (he : P.underlying e = some (.slice q)) (hq : P.underlying q = some (.int .u8)) (ce : P.cellsOf e = 1) (cq : P.cellsOf q = 1) (be : 0 < P.bytesOf e) (bq : 0 < P.bytesOf q)
    (h : DataW.trod enc P w base (fun _ => true) held fuel t [v] = some x) (hL : Light P t x.1) :
    ∃ (A : Option Addr) (c : Nat) (ts : List Tx), v = .slice A ts.length c ∧ Txs w.heap.size w A ts ∧ BytT ts ∧ ts.length ≤ 140737488351232 ∧ ts.length ≤ c ∧ ∀ y ∈ ts, y.xs.length ≤ 140737488351232 := by
  rcases open_int_rows ht he hq ce cq h with ⟨hcs, _⟩ | ⟨a, len, cap, A, L, C, Z, hcs, _, hlc, _, hx, hr⟩
  · simp at hcs
    exact ⟨none, 0, [], by simpa using hcs, Txs.nil, (fun t ht => by cases ht), by simp, by simp, (fun y hy => by cases hy)⟩
  · simp at hcs
    subst hcs
    have hget : ∀ i, i < len → ((List.range len).map fun r => (⟨A r, C r, (Z r).take (L r)⟩ : Tx)).getD i Tx.none = ⟨A i, C i, (Z i).take (L i)⟩ := by
      intro i hi; simp [List.getD_eq_getElem?_getD, hi]
    have hlen : ∀ i, i < len → ((Z i).take (L i)).length = L i := by
      intro i hi; obtain ⟨_, h1, _, h2, _⟩ := hr i (by omega); rw [List.length_take]; omega
    rw [hx] at hL
    refine ⟨some a, cap, (List.range len).map fun r => ⟨A r, C r, (Z r).take (L r)⟩, by simp, ?_, ?_, ?_, by simpa using hlc, ?_⟩
    · intro i hi
      have hi' : i < len := by simpa using hi
      obtain ⟨h1, h2, h3, h4, h5, h6, h7⟩ := hr i (by omega)
      rw [hget i hi']
      have hb := cell_lt h1
      rw [block_of_add] at hb
      refine ⟨a, rfl, hb, by rw [hlen i hi']; exact h1, ?_, by rw [hlen i hi']; exact h2⟩
      intro j hj
      simp only at hj
      rw [hlen i hi'] at hj
      rcases hA : A i with _ | a'
      · have := h6 hA; omega
      · obtain ⟨_, h8⟩ := h7 a' hA
        have hc := h8 j (by omega)
        have hb := cell_lt hc
        rw [block_of_add] at hb
        refine ⟨a', rfl, hb, ?_⟩
        rw [hc, List.getD_eq_getElem?_getD, List.getD_eq_getElem?_getD, List.getElem?_take, if_pos hj]
    · intro y hy
      obtain ⟨i, hi, rfl⟩ := List.mem_map.1 hy
      obtain ⟨h1, h2, h3, h4, h5, h6, h7⟩ := hr i (by have := List.mem_range.1 hi; omega)
      exact byt_wf (fun z hz => h5 z (List.mem_of_mem_take hz))
    · have h1 := hL.len ht
      rw [reach_eq] at h1
      have h4 : len * 1 ≤ (((List.range len).map fun r => intRow (H := H) IntKind.u8 (A r) (L r) (Z r)).length + ((List.range (cap - len)).map fun j => intRow (H := H) IntKind.u8 (A (len + j)) (L (len + j)) (Z (len + j))).length) * P.bytesOf e := Nat.mul_le_mul (by simp) be
      simp only [List.length_map, List.length_range] at h4 ⊢
      simp only [List.length_map, List.length_range] at h1
      omega
    · intro y hy
      obtain ⟨i, hi, rfl⟩ := List.mem_map.1 hy
      have hi' := List.mem_range.1 hi
      obtain ⟨h1, h2, h3, h4, h5, h6, h7⟩ := hr i (by omega)
      have hE : Light P e (intRow (H := H) IntKind.u8 (A i) (L i) (Z i)) := hL.elem ht (List.mem_map.2 ⟨i, hi, rfl⟩)
      show ((Z i).take (L i)).length ≤ _
      rw [hlen i hi']
      rcases hA : A i with _ | a'
      · have := h6 hA; omega
      · rw [hA] at hE
        have h8 := Light.len hE he
        rw [reach_eq] at h8
        have h9 : L i * 1 ≤ ((lits IntKind.u8 ((Z i).take (L i)) : List (DataW H)).length + (lits IntKind.u8 ((Z i).drop (L i)) : List (DataW H)).length) * P.bytesOf q := Nat.mul_le_mul (by simp [lits]; omega) bq
        omega

theorem rfirst_any (w : World) : Calls Try.prog 36 #[] w (RetOwn 70 .u32 hL.l w) := by
  go_enter Try.func36, Try.ntmps36
  go_wp2_with fail
  go_ret
  exact ⟨_, _, _, rfl, Own.litAt (xs := hL.l) rfl rfl rfl (Nat.le_refl _) (by decide), (Below.refl _ _).alloc (Nat.le_refl _) _⟩
set_option maxRecDepth 100000 in
theorem rconstants_any (w : World) : Calls Try.prog 37 #[] w (RetOwn 70 .u32 kL w) := by
  go_enter Try.func37, Try.ntmps37
  go_wp2_with fail
  go_ret
  exact ⟨_, _, _, rfl, Own.litAt (xs := kL) rfl (by unfold kL; rfl) (by rw [kL_len]) (Nat.le_refl _) (by rw [kL_len]; decide), (Below.refl _ _).alloc (Nat.le_refl _) _⟩

theorem txs_at {B : Nat} {w : World} {A : Option Addr} {ts : List Tx} (h : Txs B w A ts) {k : Nat} (hk : k < ts.length) : ∃ pa tx, A = some pa ∧ pa.block < B ∧ Hid (ts.getD k Tx.none = tx) ∧ w.cell? (pa.add k) = some (.slice tx.A tx.xs.length tx.c) ∧ Rd B .u8 w tx.A tx.xs ∧ tx.xs.length ≤ tx.c := by
  obtain ⟨pa, hA, h1, h2, h3, h4⟩ := h k hk
  exact ⟨pa, _, hA, h1, Lib.hid rfl, h2, h3, h4⟩
end Go.Proofs.Ytnagpaaiaaaamaa
