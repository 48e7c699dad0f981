/- Arrays of integers in blocks of their own. Conditions: as each theorem states them. -/
import Derived.Test.YthknncdhjicklaaB
import Derived.Test.YthknncdhjicklaaQT
namespace Go.Proofs.Ythknncdhjicklaa
open Go.RowKit
/-- block g holds the integers xs, of kind k, and nothing else -/
def Arr (w : World) (g : Nat) (t : TypeId) (k : IntKind) (xs : List Int) : Prop := Blk w g t (xs.map (Value.int k)).toArray
section
variable {w w' : World} {g : Nat} {t : TypeId} {k : IntKind} {xs : List Int}
theorem Arr.lt (h : Arr w g t k xs) : g < w.heap.size := Blk.lt h
theorem Arr.cell (h : Arr w g t k xs) {i : Nat} (hi : i < xs.length) : w.cell? ⟨g, i, none⟩ = some (.int k (xs.getD i 0)) := by
  rw [Blk.cell h i]
  simp [List.getElem?_map, List.getD_eq_getElem?_getD, List.getElem?_eq_getElem hi]
theorem Arr.cellAdd (h : Arr w g t k xs) {i : Nat} (hi : i < xs.length) : w.cell? ((⟨g, 0, none⟩ : Addr).add i) = some (.int k (xs.getD i 0)) := by
  have e1 : (⟨g, 0, none⟩ : Addr).add i = ⟨g, i, none⟩ := by unfold Addr.add; split <;> simp_all
  rw [e1]; exact h.cell hi
theorem Arr.frozen (h : Arr w g t k xs) (i : Nat) : w.frozen? ⟨g, i, none⟩ = false := Blk.frozen h i
theorem Arr.frozenAdd (h : Arr w g t k xs) (i : Nat) : w.frozen? ((⟨g, 0, none⟩ : Addr).add i) = false := by
  have e1 : (⟨g, 0, none⟩ : Addr).add i = ⟨g, i, none⟩ := by unfold Addr.add; split <;> simp_all
  rw [e1]; exact h.frozen i
theorem Arr.drew (h : Arr w g t k xs) : Arr w.drew g t k xs := h
theorem Arr.drewN (h : Arr w g t k xs) (n : Nat) : Arr (w.drewN n) g t k xs := h
theorem Arr.alloc (h : Arr w g t k xs) (o : Obj) : Arr (w.alloc o) g t k xs := Blk.alloc h o
theorem Arr.set (h : Arr w g t k xs) (i : Nat) (v : Int) : Arr (w.setCell ⟨g, i, none⟩ (.int k v)) g t k (xs.set i v) := by
  unfold Arr
  refine Blk.cast (Blk.set_ h i (.int k v)) ?_
  simp
theorem add_zero_addr (g i : Nat) : (⟨g, 0, none⟩ : Addr).add i = ⟨g, i, none⟩ := by unfold Addr.add; split <;> simp_all
theorem Arr.far (h : Arr w g t k xs) {p : Addr} (hp : g ≠ p.block) (u : Value) : Arr (w.setCell p u) g t k xs := Blk.far h hp u
theorem Arr.below {B : Nat} (h : Arr w g t k xs) (hb : Below B w w') (hg : g < B) : Arr w' g t k xs := Blk.below h hb hg
theorem Arr.belowAll (h : Arr w g t k xs) (hb : Below w.heap.size w w') : Arr w' g t k xs := Blk.below h hb (Arr.lt h)
theorem Arr.grown {row : Option Nat} (h : Arr w g t k xs) (hb : w.grownBy w' row) (hg : some g ≠ row) : Arr w' g t k xs := Blk.grown h hb hg
theorem Arr.cast {ys : List Int} (h : Arr w g t k xs) (e : xs = ys) : Arr w g t k ys := e ▸ h
theorem Arr.newAt {cs : Array Value} (hg : w.heap.size = g) (hc : cs = (xs.map (Value.int k)).toArray) : Arr (w.alloc (.cells cs t)) g t k xs := by
  subst hg; subst hc; exact Blk.new _ _ _
/-- the whole array as a slice -/
theorem Arr.rd (h : Arr w g t k xs) : Rd w.heap.size k w (some ⟨g, 0, none⟩) xs := fun i hi => ⟨_, rfl, h.lt, by rw [add_zero_addr]; exact h.cell hi⟩
end
/-- filled up to k -/
def fil (xs : List Int) (k : Nat) : List Int := xs.take k ++ List.replicate (xs.length - k) 0
theorem fil_len (xs : List Int) (k : Nat) : (fil xs k).length = xs.length := by unfold fil; rw [List.length_append, List.length_take, List.length_replicate]; omega
theorem fil_zero (xs : List Int) : fil xs 0 = List.replicate xs.length 0 := by simp [fil]
theorem fil_full (xs : List Int) : fil xs xs.length = xs := by simp [fil]
theorem fil_get {xs : List Int} {k i : Nat} (hi : i < k) (hk : k ≤ xs.length) : (fil xs k).getD i 0 = xs.getD i 0 := by
  unfold fil
  rw [List.getD_eq_getElem?_getD, List.getElem?_append_left (by simp; omega), List.getElem?_take, if_pos hi, List.getD_eq_getElem?_getD]
theorem fil_set {xs : List Int} {k : Nat} (hk : k < xs.length) : (fil xs k).set k (xs.getD k 0) = fil xs (k + 1) := by
  apply List.ext_getElem?
  intro i
  unfold fil
  have ht : (xs.take k).length = k := by simp; omega
  rw [List.getElem?_set]
  by_cases h1 : k = i
  · subst h1
    rw [if_pos rfl, if_pos (by simp; omega), List.getElem?_append_left (by simp; omega), List.getElem?_take, if_pos (by omega)]
    rw [List.getD_eq_getElem?_getD, List.getElem?_eq_getElem hk]
    rfl
  · rw [if_neg h1]
    rcases Nat.lt_or_ge i k with h2 | h2
    · rw [List.getElem?_append_left (by omega), List.getElem?_append_left (by simp; omega), List.getElem?_take, List.getElem?_take, if_pos h2, if_pos (by omega)]
    · rw [List.getElem?_append_right (by omega), List.getElem?_append_right (by simp; omega)]
      simp only [List.getElem?_replicate, List.length_take]
      rw [show min k xs.length = k by omega, show min (k + 1) xs.length = k + 1 by omega]
      by_cases h3 : i < xs.length
      · rw [if_pos (by omega), if_pos (by omega)]
      · rw [if_neg (by omega), if_neg (by omega)]
/-- replaced up to k -/
def mixL (xs ys : List Int) (k : Nat) : List Int := ys.take k ++ xs.drop k
theorem mix_len {xs ys : List Int} {k : Nat} (h : xs.length = ys.length) (hk : k ≤ xs.length) : (mixL xs ys k).length = xs.length := by unfold mixL; simp; omega
theorem mix_zero (xs ys : List Int) : mixL xs ys 0 = xs := by simp [mixL]
theorem mix_full {xs ys : List Int} (h : xs.length = ys.length) : mixL xs ys ys.length = ys := by simp [mixL, h]
theorem mix_get {xs ys : List Int} {k i : Nat} (h : xs.length = ys.length) (hi : k ≤ i) : (mixL xs ys k).getD i 0 = xs.getD i 0 := by
  unfold mixL
  rcases Nat.lt_or_ge k ys.length with g | g
  · rw [List.getD_eq_getElem?_getD, List.getElem?_append_right (by simp; omega), List.getElem?_drop, List.length_take, show k + (i - min k ys.length) = i by omega, List.getD_eq_getElem?_getD]
  · rw [List.getD_eq_getElem?_getD, List.getElem?_eq_none (by simp; omega), List.getD_eq_getElem?_getD, List.getElem?_eq_none (by omega)]
theorem mix_set {xs ys : List Int} {k : Nat} (h : xs.length = ys.length) (hk : k < xs.length) : (mixL xs ys k).set k (ys.getD k 0) = mixL xs ys (k + 1) := by
  apply List.ext_getElem?
  intro i
  unfold mixL
  rw [List.getElem?_set]
  by_cases h1 : k = i
  · subst h1
    rw [if_pos rfl, if_pos (by simp; omega), List.getElem?_append_left (by simp; omega), List.getElem?_take, if_pos (by omega), List.getD_eq_getElem?_getD, List.getElem?_eq_getElem (by omega)]
    rfl
  · rw [if_neg h1]
    rcases Nat.lt_or_ge i k with h2 | h2
    · rw [List.getElem?_append_left (by simp; omega), List.getElem?_append_left (by simp; omega), List.getElem?_take, List.getElem?_take, if_pos h2, if_pos (by omega)]
    · rw [List.getElem?_append_right (by simp; omega), List.getElem?_append_right (by simp; omega), List.getElem?_drop, List.getElem?_drop]
      congr 1
      simp
      omega
attribute [irreducible] fil mixL
end Go.Proofs.Ythknncdhjicklaa
