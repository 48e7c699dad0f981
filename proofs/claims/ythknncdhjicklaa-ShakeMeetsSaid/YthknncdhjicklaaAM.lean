/- Arrays in the middle of a block, and a struct that is built of arrays. Conditions: as each theorem states them. -/
import Derived.Test.YthknncdhjicklaaAV
import Derived.Test.YthknncdhjicklaaB2
import Derived.Deep.MidRow
import Derived.Stop.BytesEq
namespace Go.Proofs.Ythknncdhjicklaa
open Go.RowKit
/-- the cells from o on are laid ovl -/
def ovl (cs : List Value) (o : Nat) (vs : List Value) : List Value := cs.take o ++ (vs ++ cs.drop (o + vs.length))
theorem over_at {A B C vs : List Value} {o : Nat} (ho : o = A.length) (hv : vs.length = B.length) : ovl (A ++ (B ++ C)) o vs = A ++ (vs ++ C) := by
  subst ho
  unfold ovl
  rw [List.take_left, hv, ← List.append_assoc A B C, ← List.length_append, List.drop_left]
theorem over_nil (cs : List Value) (o : Nat) : ovl cs o [] = cs := by simp [ovl]
theorem over_cons {cs : List Value} {o : Nat} (v : Value) (r : List Value) (h : o < cs.length) : ovl (cs.set o v) (o + 1) r = ovl cs o (v :: r) := by
  have h1 : cs.set o v = (cs.take o ++ [v]) ++ cs.drop (o + 1) := by rw [List.set_eq_take_append_cons_drop, if_pos h]; simp
  have hl : (cs.take o ++ [v]).length = o + 1 := by simp; omega
  unfold ovl
  rw [h1, List.take_left' hl, show (cs.take o ++ [v] ++ cs.drop (o + 1)).drop (o + 1 + r.length) = cs.drop (o + (v :: r).length) by
    rw [← List.drop_drop, List.drop_left' hl, List.drop_drop]; congr 1; simp; omega]
  simp
theorem over_len {cs : List Value} {o : Nat} {vs : List Value} (h : o + vs.length ≤ cs.length) : (ovl cs o vs).length = cs.length := by
  unfold ovl
  simp
  omega
theorem fold_over (off : Nat) : ∀ (vs : List Value) (k : Nat) (cells : Array Value), off + k + vs.length ≤ cells.size →
    ((vs.zipIdx k).foldl (fun cs (p : Value × Nat) => cs.setIfInBounds (off + p.2) p.1) cells).toList = ovl cells.toList (off + k) vs
  | [], k, cells, _ => by rw [over_nil]; rfl
  | v :: r, k, cells, h => by
    simp only [List.length_cons] at h
    rw [List.zipIdx_cons, List.foldl_cons, fold_over off r (k + 1) _ (by simp; omega)]
    rw [Array.toList_setIfInBounds, ← Nat.add_assoc, over_cons v r (by simp; omega)]
theorem fill_step {place : Nat → Option (Nat × Nat)} {cs vs : List Value} {i off size : Nat} (rest : List (Nat × Value)) (hp : place i = some (off, size)) (hl : vs.length = size) (hs : off + size ≤ cs.length) :
    Instr.fill place cs.toArray ((i, .agg vs.toArray) :: rest) = Instr.fill place (ovl cs off vs).toArray rest := by
  rw [Instr.fill]
  simp only [hp]
  split
  · rename_i hc
    simp [Value.cells] at hc
    omega
  · congr 1
    apply Array.toList_inj.1
    have h := fold_over off vs 0 cs.toArray (by simp; omega)
    rw [Nat.add_zero] at h
    simpa [Value.cells, ← Array.foldl_toList] using h
theorem blk_setCells {g : Nat} {t : TypeId} : ∀ (vs : List Value) (o : Nat) (w : World) (cs : List Value), Blk w g t cs.toArray → o + vs.length ≤ cs.length → Blk (w.setCells g o vs) g t (ovl cs o vs).toArray
  | [], o, w, cs, h, _ => by rw [over_nil]; exact h
  | v :: r, o, w, cs, h, hl => by
    simp only [List.length_cons] at hl
    rw [← over_cons v r (by omega)]
    exact blk_setCells r (o + 1) (w.setCell ⟨g, o, none⟩ v) (cs.set o v) (Blk.cast (Blk.set_ h o v) (by simp)) (by simp; omega)
theorem only_setCells (g : Nat) : ∀ (l : List Value) (o : Nat) (a w : World), a.grownBy w (some g) → a.grownBy (w.setCells g o l) (some g)
  | [], _, _, _, h => h
  | v :: r, o, a, _, h => only_setCells g r (o + 1) a _ (only_setCell (p := ⟨g, o, none⟩) h (.inl rfl) v)
theorem blk_range {w : World} {g : Nat} {t : TypeId} {A B C : List Value} {o : Nat} (h : Blk w g t (A ++ (B ++ C)).toArray) (ho : o = A.length) : w.rangeAt g o B := fun j v hv => by
  subst ho
  have hj : j < B.length := (List.getElem?_eq_some_iff.1 hv).1
  rw [Blk.cell h]
  rw [List.getElem?_toArray, List.getElem?_append_right (by omega), Nat.add_sub_cancel_left, List.getElem?_append_left hj, hv]
theorem blk_there {w : World} {g : Nat} {t : TypeId} {cs : List Value} {o n : Nat} (h : Blk w g t cs.toArray) (hl : o + n ≤ cs.length) : w.there g o n := fun j hj => by
  refine ⟨?_, Blk.frozen h _⟩
  rw [Blk.cell h, List.getElem?_toArray, List.getElem?_eq_getElem (by omega)]
  rfl
/-- integers as cells -/
def iv (k : IntKind) (xs : List Int) : List Value := xs.map (Value.int k)
theorem iv_len (k : IntKind) (xs : List Int) : (iv k xs).length = xs.length := by simp [iv]
theorem iv_cells (k : IntKind) (xs : List Int) : (iv k xs).toArray = cellsL k xs := rfl
theorem iv_one (k : IntKind) (xs : List Int) : ∀ v ∈ iv k xs, v.oneCell' = true := ints_oneCell k xs
theorem iv_append (k : IntKind) (xs ys : List Int) : iv k xs ++ iv k ys = iv k (xs ++ ys) := by simp [iv]
theorem iv_set (k : IntKind) (xs : List Int) (i : Nat) (x : Int) : (iv k xs).set i (.int k x) = iv k (xs.set i x) := by simp [iv]
/-- integers in the middle of a block, read as a slice -/
theorem blk_rd {w : World} {g : Nat} {t : TypeId} {k : IntKind} {A C : List Value} {xs : List Int} {ad : Addr} (h : Blk w g t (A ++ (iv k xs ++ C)).toArray) (ha : ad = ⟨g, A.length, none⟩) : Rd w.heap.size k w (some ad) xs := fun i hi => by
  subst ha
  refine ⟨_, rfl, Blk.lt h, ?_⟩
  rw [Addr.add_mid]
  refine blk_range h rfl i _ ?_
  simp [iv, List.getElem?_map, List.getD_eq_getElem?_getD, List.getElem?_eq_getElem hi]
/-- an array of bytes is as itself -/
theorem eqIn_self {P : Program} (d : Nat) {t e : TypeId} {n : Nat} {xs : List Int} (w : World) (ht : P.underlying t = some (.array n e)) (he : P.underlying e = some (.int .u8)) (hsz : ∀ w, (sizeOf e).run P w = .ok 1 w) (hx : Byt xs) (hl : xs.length = n) :
    (Op.equalIn (d + 2) t (.agg (cellsL .u8 xs)) (.agg (cellsL .u8 xs))).run P w = .ok true w := by
  have cv : cellsL .u8 xs = ((xs.map fun z => UInt8.ofNat z.toNat).map Extern.Stop.cell).toArray := by
    unfold cellsL
    rw [List.map_map]
    congr 1
    apply List.map_congr_left
    intro z hm
    have := hx z hm
    simp only [Function.comp, Extern.Stop.cell]
    congr 1
    simp
    omega
  rw [cv, run_equalIn_bytes w d t e n ht he hsz _ _ (by simp [hl]) (by simp [hl])]
  simp
/-- a field that is an array of bytes, of a struct's cells -/
theorem part_mid {P : Program} {t e : TypeId} {n o : Nat} {A C : List Value} {xs : List Int} (w : World) (ht : P.underlying t = some (.array n e)) (hi : ∀ w, (sizeOf t).run P w = .ok n w) (ho : o = A.length) (hl : xs.length = n) :
    (part t (A ++ (iv .u8 xs ++ C)).toArray o).run P w = .ok (.agg (cellsL .u8 xs)) w := by
  subst ho; subst hl
  simp [part, isAgg, run_underlying ht, hi]
  rw [List.take_left' (iv_len _ _)]
  rfl
end Go.Proofs.Ythknncdhjicklaa
