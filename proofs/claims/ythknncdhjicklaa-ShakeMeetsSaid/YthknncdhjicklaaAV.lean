/- Arrays of integers as values: loaded, stored, compared, handed back whole. Conditions: as each theorem states them. -/
import Derived.Test.YthknncdhjicklaaA
import Derived.Laws.Tables
import Derived.Stop.BytesEq
import Derived.Deep.MidRow
namespace Go.Proofs.Ythknncdhjicklaa
open Go.RowKit
def cellsL (k : IntKind) (xs : List Int) : Array Value := (xs.map (Value.int k)).toArray
theorem cellsL_size (k : IntKind) (xs : List Int) : (cellsL k xs).size = xs.length := by simp [cellsL]
theorem cellsL_one (k : IntKind) (xs : List Int) : (cellsL k xs).all (·.oneCell') = true := all_oneCell_toArray (ints_oneCell k xs)
theorem arr_setRow {w : World} {g : Nat} {t : TypeId} {old : Array Value} (h : Blk w g t old) (k : IntKind) (xs : List Int) : Arr (w.setRow g (cellsL k xs)) g t k xs := by
  unfold Arr Blk at *
  unfold World.setRow
  rw [Array.getElem?_modify, if_pos rfl, h]
  rfl
theorem only_setRow (w : World) (g : Nat) (cs : Array Value) : w.grownBy (w.setRow g cs) (some g) :=
  ⟨rfl, rfl, rfl, by simp, fun i _ hne => by
    unfold World.setRow
    rw [Array.getElem?_modify]
    exact if_neg (fun e => hne (by rw [e]))⟩

section
variable {P : Program} {ops : Array Oper} {rest : List Oper} {o : Oper} {a : Act} {w : World} {Q : Exit → Act → World → Prop} {ty t e : TypeId} {g n : Nat} {k : IntKind} {xs : List Int}
theorem wpList_loadArr (hgd : o.guard = none) (x : Operand) (ho : o.op = .load ty x) (hx : a.eval x = .pointer (some ⟨g, 0, none⟩)) (h : Arr w g t k xs) (hu : P.underlying ty = some (.array n e)) (hi : (P.info? ty).map (·.size) = some n) (hn : n = xs.length)
    (hK : wpList P ops Q rest (a.put o.dst (.agg (cellsL k xs))) w) : wpList P ops Q (o :: rest) a w :=
  wpList_load_row hgd ty x ho g hx t (cellsL k xs) (0, 0) (.array n e) h hu rfl (by rw [cellsL_size, ← hn]; exact hi) hK
theorem wpList_storeArr {old : Array Value} (hgd : o.guard = none) (x y : Operand) (ho : o.op = .store ty x y) (hx : a.eval x = .pointer (some ⟨g, 0, none⟩)) (hy : a.eval y = .agg (cellsL k xs)) (h : Blk w g t old) (hi : (P.info? ty).map (·.size) = some n) (hn : n = xs.length) (hold : old.size = n)
    (hK : ∀ w', Arr w' g t k xs → w.grownBy w' (some g) → wpList P ops Q rest (a.put o.dst undef) w') : wpList P ops Q (o :: rest) a w :=
  wpList_store_row hgd ty x y ho g (cellsL k xs) hx hy t old h (by rw [cellsL_size, ← hn]; exact hi) (by rw [cellsL_size]; omega) (cellsL_one k xs) (hK _ (arr_setRow h k xs) (only_setRow w g _))
end
theorem arr_load {P : Program} {w : World} {ty t e : TypeId} {g n : Nat} {k : IntKind} {xs : List Int} (h : Arr w g t k xs) (hu : P.underlying ty = some (.array n e)) (hi : (P.info? ty).map (·.size) = some n) (hn : n = xs.length) :
    (Instr.loadAt ty (.pointer (some ⟨g, 0, none⟩))).run P w = .ok (.agg (cellsL k xs)) w :=
  run_loadAt_mid w g 0 ty (xs.map (Value.int k)) (.array n e) (fun j v hv => by rw [Nat.zero_add, Blk.cell h j]; simpa using hv) hu rfl (by rw [hi, hn, List.length_map])
theorem blk_grown_new {w w' : World} {cs : Array Value} {t : TypeId} {g : Nat} {row : Option Nat} (hb : (w.alloc (.cells cs t)).grownBy w' row) (hg : w.heap.size = g) (hne : some g ≠ row) : Blk w' g t cs := by
  subst hg; exact Blk.grown (Blk.new _ _ _) hb hne
theorem blk_below_new {w w' : World} {cs : Array Value} {t : TypeId} {g N : Nat} (hb : Below N (w.alloc (.cells cs t)) w') (hg : w.heap.size = g) (hN : g < N) : Blk w' g t cs := by
  subst hg; exact Blk.below (Blk.new _ _ _) hb hN
/-- a function whose one result is an array -/
theorem ret_arr {P : Program} {fn : Func} {R : Ending → World → Prop} {a : Act} {w : World} {p : Tmp} {ty t e : TypeId} {g n : Nat} {k : IntKind} {xs : List Int} (hf : fn.results = #[.cell p ty]) (hp : a.tmps.getD p undef = .pointer (some ⟨g, 0, none⟩)) (h : Arr w g t k xs)
    (hu : P.underlying ty = some (.array n e)) (hi : (P.info? ty).map (·.size) = some n) (hn : n = xs.length) (hd : a.defers = []) (hR : R (.returned (.agg (cellsL k xs))) w) : bodyPost P fn R .ret a w :=
  bodyPost_ret (results_cell_row hf a.tmps w g t (cellsL k xs) (0, 0) (.array n e) hp h hu rfl (by rw [cellsL_size, ← hn]; exact hi)) hd hR
theorem eql_bytes {P : Program} {t e : TypeId} {n : Nat} {xs ys : List Int} (ht : P.underlying t = some (.array n e)) (he : P.underlying e = some (.int .u8)) (hsz : ∀ w, (sizeOf e).run P w = .ok 1 w) (hx : Byt xs) (hy : Byt ys) (hlx : n = xs.length) (hly : n = ys.length) (w : World) :
    (binOp .eql t (.agg (cellsL .u8 xs)) (.agg (cellsL .u8 ys))).run P w = .ok (.bool (decide (xs = ys))) w := by
  have cv : ∀ zs : List Int, Byt zs → cellsL .u8 zs = ((zs.map fun z => UInt8.ofNat z.toNat).map Extern.Stop.cell).toArray := fun zs hz => by
    unfold cellsL
    rw [List.map_map]
    congr 1
    apply List.map_congr_left
    intro z hm
    have := hz z hm
    simp only [Function.comp, Extern.Stop.cell]
    congr 1
    simp
    omega
  rw [cv xs hx, cv ys hy, run_eql_bytes w t e n ht he hsz _ _ (by simp [hlx]) (by simp [hly])]
  congr 2
  rw [Bool.eq_iff_iff]
  simp only [beq_iff_eq, decide_eq_true_eq]
  exact ⟨fun h => strOfNums_inj hx hy (by unfold strOfNums; rw [h]), fun h => by rw [h]⟩
end Go.Proofs.Ythknncdhjicklaa
