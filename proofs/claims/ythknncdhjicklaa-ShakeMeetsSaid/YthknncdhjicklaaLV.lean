/- Loads and stores whose outcome is known as a run; an array read out of a slice; blocks of structs, whole and by their fields. Conditions: as each theorem states them. -/
import Derived.Test.YthknncdhjicklaaAM
import Derived.Test.YthknncdhjicklaaQO
namespace Go.Proofs.Ythknncdhjicklaa
open Go.RowKit
section
variable {P : Program} {ops : Array Oper} {rest : List Oper} {o : Oper} {a : Act} {w : World} {Q : Exit → Act → World → Prop} {ty : TypeId} {p v : Value}
theorem wpList_loadV (hgd : o.guard = none) (x : Operand) (ho : o.op = .load ty x) (hx : a.eval x = p) (hl : (Instr.loadAt ty p).run P w = .ok v w) (h : wpList P ops Q rest (a.put o.dst v) w) : wpList P ops Q (o :: rest) a w := by
  refine wpList_plain hgd fun K hK => ?_
  unfold Oper.wp execOp
  simp only [ho, hx, Sem.run_bind, hl, Result.andThen_ok, Sem.run_pure]
  exact hK _ _ h
theorem wpList_storeV {w' : World} (hgd : o.guard = none) (x y : Operand) (ho : o.op = .store ty x y) (hx : a.eval x = p) (hy : a.eval y = v) (hl : (Instr.storeAt ty p v).run P w = .ok () w') (h : wpList P ops Q rest (a.put o.dst undef) w') : wpList P ops Q (o :: rest) a w := by
  refine wpList_plain hgd fun K hK => ?_
  unfold Oper.wp execOp
  simp only [ho, hx, hy, Sem.run_bind, hl, Result.andThen_ok, Sem.run_pure]
  exact hK _ _ h
theorem wpList_arrayAt {A : Option Addr} {l c : Nat} (hgd : o.guard = none) (x : Operand) (ho : o.op = .sliceToArrayPointer ty x) (hx : a.eval x = .slice A l c) (hl : (Instr.arrayAt ty (.slice A l c)).run P w = .ok (.pointer A) w) (h : wpList P ops Q rest (a.put o.dst (.pointer A)) w) : wpList P ops Q (o :: rest) a w := by
  refine wpList_plain hgd fun K hK => ?_
  unfold Oper.wp execOp
  simp only [ho, hx, Sem.run_bind, hl, Result.andThen_ok, Sem.run_pure]
  exact hK _ _ h
end
theorem wpQuiet_arrayAt {P : Program} {ops : Array Oper} {S : World → Prop} {Lq : Act → Prop} {a : Act} {o : Oper} {rest : List Oper} {ty : TypeId} {A : Option Addr} {l c : Nat} (hw : Region.wanted o (yielded ops a.tmps) = true) (x : Operand) (ho : o.op = .sliceToArrayPointer ty x) (hx : a.eval x = .slice A l c)
    (hl : ∀ w, (Instr.arrayAt ty (.slice A l c)).run P w = .ok (.pointer A) w) (h : wpQuiet P ops S Lq rest (a.put o.dst (.pointer A))) : wpQuiet P ops S Lq (o :: rest) a := by
  refine wpQuiet_step fun K hK => ?_
  rw [if_pos hw]
  refine ⟨.pointer A, fun w hw' => ?_, hK _ h⟩
  unfold Oper.quietAt execOp
  simp only [ho, hx, Sem.run_bind, hl w, Result.andThen_ok, Sem.run_pure]
  exact ⟨rfl, rfl⟩
theorem wpQuiet_buildV {P : Program} {ops : Array Oper} {S : World → Prop} {Lq : Act → Prop} {a : Act} {o : Oper} {rest : List Oper} {t : TypeId} {cs : Array Value} (hw : Region.wanted o (yielded ops a.tmps) = true) (parts : Array (Nat × Operand)) (ho : o.op = .build t parts)
    (hb : P.built t (parts.toList.map fun p => (p.1, a.eval p.2)) = some cs) (h : wpQuiet P ops S Lq rest (a.put o.dst (.agg cs))) : wpQuiet P ops S Lq (o :: rest) a := by
  refine wpQuiet_step fun K hK => ?_
  rw [if_pos hw]
  refine ⟨.agg cs, fun w hw' => ?_, hK _ h⟩
  have hb' : P.built t (parts.map fun (i, x) => (i, a.eval x)).toList = some cs := by rw [← hb, Array.toList_map]
  unfold Oper.quietAt execOp
  simp only [ho, Sem.run_bind, run_build (P := P) w t (parts.map fun (i, x) => (i, a.eval x)) cs hb', Result.andThen_ok, Sem.run_pure]
  exact ⟨rfl, rfl⟩
theorem arrayAt_run {P : Program} {t e : TypeId} {n : Nat} (ht : P.underlying t = some (.array n e)) (A : Option Addr) {l : Nat} (c : Nat) (hl : n ≤ l) (w : World) : (Instr.arrayAt t (.slice A l c)).run P w = .ok (.pointer A) w := by
  simp [Instr.arrayAt, run_underlying ht, Nat.not_lt.2 hl]
/-- the first integers of a slice, as an array -/
theorem rd_loadArr {P : Program} {ty e : TypeId} {n B : Nat} {k : IntKind} {w : World} {A : Option Addr} {xs : List Int} (h : Rd B k w A xs) (hu : P.underlying ty = some (.array n e)) (hi : (P.info? ty).map (·.size) = some n) (hn : n ≤ xs.length) (h0 : 0 < n) :
    (Instr.loadAt ty (.pointer A)).run P w = .ok (.agg (cellsL k (xs.take n))) w := by
  obtain ⟨ad, rfl, _, _⟩ := h 0 (by omega)
  have hl : (loadCells ad n).run P w = .ok (cellsL k (xs.take n)) w := by
    have := run_loadCells_list (P := P) w ad ((xs.take n).map (Value.int k)) (fun j v hj => by
      simp only [List.getElem?_map, Option.map_eq_some_iff] at hj
      obtain ⟨x, hx, rfl⟩ := hj
      have hj : j < n := by
        rcases Nat.lt_or_ge j n with g | g
        · exact g
        · rw [List.getElem?_take, if_neg (by omega)] at hx; cases hx
      rw [List.getElem?_take, if_pos hj] at hx
      rw [h.at_ (by omega), List.getD_eq_getElem?_getD, hx]
      rfl)
    simpa [cellsL, Nat.min_eq_left hn] using this
  cases hq : P.info? ty with
  | none => simp [hq] at hi
  | some i =>
    have hs : i.size = n := by simpa [hq] using hi
    have hagg : (isAgg ty).run P w = .ok true w := by
      unfold isAgg
      rw [Sem.run_bind, run_underlying hu w]
      rfl
    simp [Instr.loadAt, Instr.sureAddr, loadVar, Sem.run_bind, hagg, sizeOf, typeInfo, hq, hs, hl]
theorem blk_load {P : Program} {w : World} {g : Nat} {t ty : TypeId} {cs : Array Value} {d : TypeDesc} (h : Blk w g t cs) (hu : P.underlying ty = some d) (hd : d.isRow = true) (hi : (P.info? ty).map (·.size) = some cs.size) :
    (Instr.loadAt ty (.pointer (some ⟨g, 0, none⟩))).run P w = .ok (.agg cs) w := by
  have := run_loadAt_mid (P := P) w g 0 ty cs.toList d (fun j v hv => by rw [Nat.zero_add, Blk.cell h j]; simpa using hv) hu hd (by rw [hi]; simp)
  simpa using this
theorem blk_loadMid {P : Program} {w : World} {g o : Nat} {t ty : TypeId} {A B C : List Value} {d : TypeDesc} (h : Blk w g t (A ++ (B ++ C)).toArray) (ho : o = A.length) (hu : P.underlying ty = some d) (hd : d.isRow = true) (hi : (P.info? ty).map (·.size) = some B.length) :
    (Instr.loadAt ty (.pointer (some ⟨g, o, none⟩))).run P w = .ok (.agg B.toArray) w := run_loadAt_mid w g o ty B d (blk_range h ho) hu hd hi
theorem blk_storeMid {P : Program} {w : World} {g o : Nat} {t ty : TypeId} {cs vs : List Value} (h : Blk w g t cs.toArray) (hl : o + vs.length ≤ cs.length) (h1 : ∀ v ∈ vs, v.oneCell' = true) (hi : (P.info? ty).map (·.size) = some vs.length) :
    ∃ w', (Instr.storeAt ty (.pointer (some ⟨g, o, none⟩)) (.agg vs.toArray)).run P w = .ok () w' ∧ Blk w' g t (ovl cs o vs).toArray ∧ w.grownBy w' (some g) := by
  refine ⟨_, run_storeAt_mid w g o ty vs.toArray (by simpa using blk_there h hl) (by rw [hi]; simp) (all_oneCell_toArray h1), ?_, ?_⟩
  · exact blk_setCells vs o w cs h hl
  · exact only_setCells g vs o w w (World.grownBy.refl _ _)
theorem over_all {cs vs : List Value} (h : vs.length = cs.length) : ovl cs 0 vs = vs := by
  unfold ovl; simp [h]
theorem blk_storeAll {P : Program} {w : World} {g : Nat} {t ty : TypeId} {old : Array Value} {vs : List Value} (h : Blk w g t old) (hl : vs.length = old.size) (h1 : ∀ v ∈ vs, v.oneCell' = true) (hi : (P.info? ty).map (·.size) = some vs.length) :
    ∃ w', (Instr.storeAt ty (.pointer (some ⟨g, 0, none⟩)) (.agg vs.toArray)).run P w = .ok () w' ∧ Blk w' g t vs.toArray ∧ w.grownBy w' (some g) := by
  have h' : Blk w g t old.toList.toArray := by simpa using h
  obtain ⟨w', h2, h3, h4⟩ := blk_storeMid (o := 0) h' (by simp; omega) h1 hi
  rw [over_all (by simp [hl])] at h3
  exact ⟨w', h2, h3, h4⟩
theorem MixO.narrowB {Q : Exit → Act → World → Prop} {N : Nat} {w0 w1 : World} {fin : Bool} {next : (World → Prop) → Act → World → Prop} {a : Act} (h : Below N w0 w1) (hN : N ≤ w1.heap.size) (k : next (fun w' => ∃ r : BW w1.heap.size w1, w' = r.world) a w1) : MixO next fin (fun w' => ∃ r : BW N w0, w' = r.world) Q .normal a w1 :=
  MixO.narrow (fun _ ⟨r, e⟩ => ⟨BW.mk' (h.trans (r.below.mono hN)), e⟩) ⟨BW.mk' (Below.refl _ _), rfl⟩ k
theorem wp_region_mixOB {P : Program} {Q : Exit → Act → World → Prop} {id : Nat} {a : Act} {w : World} {l : List Oper} (N : Nat) (σ : List (List Nat × Nat)) (hm : P.follows .mixedOrders = true) (hsel : Region.noSelect l.toArray = true)
    (hn : fuelS [] σ = l.length) (hB : mixB .any l.toArray [] σ (Array.replicate l.length false) = true) (hE : endB .any l.toArray σ = true)
    (h : mixO P l.toArray (NoPanic Q) (pickL l []) (σ.map fun s => (pickL l s.1, pickL l [s.2])) (fun w' => ∃ r : BW N w, w' = r.world) a w.drew) : (Code.region id l.toArray true).wp P Q a w :=
  wp_region_mixO _ σ hm hsel hn hB hE ⟨BW.mk' (Below.drew (Below.refl _ _)), rfl⟩ h
/-- a call that hands back a value, and makes memory -/
def RetV (v : Value) (w : World) (e : Ending) (w' : World) : Prop := e = .returned v ∧ Below w.heap.size w w'
/-- a function whose one result is a struct or an array in a cell -/
theorem ret_row {P : Program} {fn : Func} {R : Ending → World → Prop} {a : Act} {w : World} {p : Tmp} {ty t : TypeId} {g : Nat} {cs : Array Value} {d : TypeDesc} (hf : fn.results = #[.cell p ty]) (hp : a.tmps.getD p undef = .pointer (some ⟨g, 0, none⟩)) (h : Blk w g t cs)
    (hu : P.underlying ty = some d) (hd : (match d with | .struct _ | .array _ _ => true | _ => false) = true) (hi : (P.info? ty).map (·.size) = some cs.size) (hdf : a.defers = []) (hR : R (.returned (.agg cs)) w) : bodyPost P fn R .ret a w :=
  bodyPost_ret (results_cell_row hf a.tmps w g t cs (0, 0) d hp h hu hd hi) hdf hR
theorem wpList_buildV {P : Program} {ops : Array Oper} {rest : List Oper} {o : Oper} {a : Act} {w : World} {Q : Exit → Act → World → Prop} {t : TypeId} {cs : Array Value} (hgd : o.guard = none) (parts : Array (Nat × Operand)) (ho : o.op = .build t parts)
    (hb : P.built t (parts.toList.map fun p => (p.1, a.eval p.2)) = some cs) (h : wpList P ops Q rest (a.put o.dst (.agg cs)) w) : wpList P ops Q (o :: rest) a w := by
  refine wpList_plain hgd fun K hK => ?_
  have hb' : P.built t (parts.map fun (i, x) => (i, a.eval x)).toList = some cs := by rw [← hb, Array.toList_map]
  unfold Oper.wp execOp
  simp only [ho, Sem.run_bind, run_build (P := P) w t (parts.map fun (i, x) => (i, a.eval x)) cs hb', Result.andThen_ok, Sem.run_pure]
  exact hK _ _ h
end Go.Proofs.Ythknncdhjicklaa
