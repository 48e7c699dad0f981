/- The sealing of a block as a plain function on lists of bytes; it is injective. Conditions: as each theorem states them. -/
import Derived.Test.YtepkbllcaeceeaaE4
namespace Go.Proofs.Ytepkbllcaeceeaa
theorem getD_el {l : List Int} {i : Nat} (h : i < l.length) : l.getD i 0 = l[i] := by simp [List.getD_eq_getElem?_getD, h]
/-- a block of sixteen bytes -/
def Blk16 (s : List Int) : Prop := s.length = 16 ∧ Byt s
/-- a round's key, added -/
def addL (s k : List Int) : List Int := s.zipWith xb k
/-- bytes replaced and rows shifted -/
def rowsL (s : List Int) : List Int := (List.range 16).map fun i => sub (s.getD ((i + 4 * (i % 4)) % 16) 0)
theorem byt_getD8 {s : List Int} (h : Byt s) (i : Nat) : B8 (s.getD i 0) := h.getD i
theorem ext16 {s t : List Int} (hs : s.length = 16) (ht : t.length = 16) (h : ∀ i, i < 16 → s.getD i 0 = t.getD i 0) : s = t := by
  apply List.ext_getElem (by omega)
  intro i h1 h2
  have := h i (by omega)
  rwa [getD_el h1, getD_el h2] at this
theorem addL_getD {s k : List Int} (hs : s.length = 16) (hk : k.length = 16) {i : Nat} (hi : i < 16) : (addL s k).getD i 0 = xb (s.getD i 0) (k.getD i 0) := by
  unfold addL
  rw [getD_el (by rw [List.length_zipWith]; omega), List.getElem_zipWith, getD_el (by omega), getD_el (by omega)]
theorem addL_len {s k : List Int} (hs : s.length = 16) (hk : k.length = 16) : (addL s k).length = 16 := by unfold addL; rw [List.length_zipWith]; omega
theorem byt_of16 {s : List Int} (hs : s.length = 16) (h : ∀ i, i < 16 → B8 (s.getD i 0)) : Byt s := by
  intro x hx
  obtain ⟨i, hi, rfl⟩ := List.mem_iff_getElem.1 hx
  have := h i (by omega)
  rwa [getD_el hi] at this
theorem addL_ok {s k : List Int} (hs : Blk16 s) (hk : Blk16 k) : Blk16 (addL s k) := by
  refine ⟨addL_len hs.1 hk.1, byt_of16 (addL_len hs.1 hk.1) fun i hi => ?_⟩
  rw [addL_getD hs.1 hk.1 hi]
  exact xb_u _ _
theorem addL_inj {s t k : List Int} (hs : Blk16 s) (ht : Blk16 t) (hk : Blk16 k) (h : addL s k = addL t k) : s = t := by
  refine ext16 hs.1 ht.1 fun i hi => ?_
  have e := congrArg (fun l => l.getD i 0) h
  simp only [addL_getD hs.1 hk.1 hi, addL_getD ht.1 hk.1 hi] at e
  exact xb_inj (byt_getD8 hs.2 i) (byt_getD8 ht.2 i) (byt_getD8 hk.2 i) e
theorem rowsL_getD (s : List Int) {i : Nat} (hi : i < 16) : (rowsL s).getD i 0 = sub (s.getD ((i + 4 * (i % 4)) % 16) 0) := by
  unfold rowsL
  rw [getD_el (by simpa using hi), List.getElem_map, List.getElem_range]
theorem rowsL_len (s : List Int) : (rowsL s).length = 16 := by simp [rowsL]
theorem rowsL_ok {s : List Int} (hs : Blk16 s) : Blk16 (rowsL s) := by
  refine ⟨rowsL_len s, byt_of16 (rowsL_len s) fun i hi => ?_⟩
  rw [rowsL_getD s hi]
  exact sub_u (byt_getD8 hs.2 _)
theorem rowsL_inj {s t : List Int} (hs : Blk16 s) (ht : Blk16 t) (h : rowsL s = rowsL t) : s = t := by
  refine ext16 hs.1 ht.1 fun j hj => ?_
  have hi : (j + 12 * (j % 4)) % 16 < 16 := Nat.mod_lt _ (by decide)
  have e := congrArg (fun l => l.getD ((j + 12 * (j % 4)) % 16) 0) h
  simp only [rowsL_getD s hi, rowsL_getD t hi] at e
  have hj2 : ((j + 12 * (j % 4)) % 16 + 4 * ((j + 12 * (j % 4)) % 16 % 4)) % 16 = j := by omega
  rw [hj2] at e
  exact sub_inj (byt_getD8 hs.2 j) (byt_getD8 ht.2 j) e
end Go.Proofs.Ytepkbllcaeceeaa
