/- Layer 26: the law's steps in memory; contract of cells. Conditions: as each theorem states them. -/
import Derived.Test.YtnagpaaiaaaamaaD19
import Derived.Test.YtnagpaaiaaaamaaQP
namespace Go.Proofs.Ytnagpaaiaaaamaa
open Go.RowKit
/-- a step: a cell that is written, whether the store is made to fail ahead of it, behind how many bytes -/
structure DC where
  x : CX
  f : Bool
  af : Int
  cp : Bool
def DC.none : DC := ⟨CX.zero, false, 0, false⟩
def DC.vs (d : DC) : List Value := [.int .u64 d.x.ep, .int .u8 d.x.ow, .int .u64 d.x.nx, .int .u64 d.x.sn, .slice d.x.A d.x.ts.length d.x.cap, .bool d.f, .int .i64 d.af, .bool d.cp]
/-- a slice of steps -/
def DCs (B : Nat) (w : World) (A : Option Addr) (l : List DC) : Prop :=
  ∀ i, i < l.length → ∃ ad, A = some ad ∧ ad.block < B ∧ (∀ j v, (l.getD i DC.none).vs[j]? = some v → w.cell? (ad.add (i * 8 + j)) = some v) ∧ CIn B w (l.getD i DC.none).x.A (l.getD i DC.none).x.ts.length (l.getD i DC.none).x.cap (l.getD i DC.none).x.ts
theorem DCs.below {B N : Nat} {w w' : World} {A : Option Addr} {l : List DC} (h : DCs B w A l) (hb : Below N w w') (hB : B ≤ N) : DCs B w' A l := fun i hi => by
  obtain ⟨ad, e, h1, h2, h3⟩ := h i hi
  exact ⟨ad, e, h1, fun j v hv => Below.cell_some hb (h2 j v hv) (by rw [block_of_add]; omega), h3.below hb hB⟩
theorem row_load {P : Program} {w : World} {p : Addr} {ty : TypeId} {vs : List Value} {fs : Array Field} (h : ∀ j v, vs[j]? = some v → w.cell? (p.add j) = some v) (hu : P.underlying ty = some (.struct fs)) (hi : (P.info? ty).map (·.size) = some vs.length) :
    (Instr.loadAt ty (.pointer (some p))).run P w = .ok (.agg vs.toArray) w := by
  have hl : (loadCells p vs.length).run P w = .ok vs.toArray w := run_loadCells_list (P := P) w p vs h
  cases hq : P.info? ty with
  | none => simp [hq] at hi
  | some i =>
    have hs : i.size = vs.length := by simpa [hq] using hi
    have hagg : (isAgg ty).run P w = .ok true w := by
      unfold isAgg
      rw [Sem.run_bind, run_underlying hu w]
      rfl
    simp [Instr.loadAt, Instr.sureAddr, loadVar, Sem.run_bind, hagg, sizeOf, typeInfo, hq, hs, hl]
def vsL (l : List CX) : List Value := l.flatMap CX.vs
theorem vsL_len (l : List CX) : (vsL l).length = l.length * 5 := by
  induction l with
  | nil => rfl
  | cons x l ih => unfold vsL at ih ⊢; rw [List.flatMap_cons, List.length_append, ih, List.length_cons]; simp [CX.vs]; omega
theorem vsL_snoc (l : List CX) (x : CX) : vsL (l ++ [x]) = vsL l ++ x.vs := by unfold vsL; rw [List.flatMap_append]; simp
theorem vsL_get : ∀ (l : List CX) (i j : Nat) (v : Value), i < l.length → (l.getD i CX.zero).vs[j]? = some v → (vsL l)[i * 5 + j]? = some v
  | [], i, j, v, h, _ => absurd h (Nat.not_lt_zero i)
  | x :: l, 0, j, v, _, hv => by
    have hj : j < x.vs.length := by
      rcases Nat.lt_or_ge j x.vs.length with q | q
      · exact q
      · rw [List.getD_cons_zero, List.getElem?_eq_none q] at hv; cases hv
    unfold vsL
    rw [List.flatMap_cons, Nat.zero_mul, Nat.zero_add, List.getElem?_append_left hj]
    exact hv
  | x :: l, i + 1, j, v, h, hv => by
    have ih := vsL_get l i j v (by simpa using h) (by rw [List.getD_cons_succ] at hv; exact hv)
    unfold vsL at ih ⊢
    have hx : x.vs.length = 5 := rfl
    rw [List.flatMap_cons, List.getElem?_append_right (by omega), hx, show (i + 1) * 5 + j - 5 = i * 5 + j by omega]
    exact ih
/-- the cells that were appended, in memory -/
theorem cxs_own {W : World} {B n c : Nat} {A : Option Addr} {l : List CX} (h : W.ownsRow B 25 5 (.slice A n c) n (vsL l)) (hn : l.length = n) (hC : ∀ x ∈ l, CIn W.heap.size W x.A x.ts.length x.cap x.ts) : CXs W.heap.size W A l := by
  intro i hi
  obtain ⟨h1, h2⟩ := Reads.of_own h
  obtain ⟨ad, e, hb, hc⟩ := h2 (by omega)
  have hm := getD_mem (z := CX.zero) hi
  exact ⟨ad, e, hb, fun j v hv => hc _ _ (vsL_get l i j v hi hv), hC _ hm⟩
theorem size8d : (Try.prog.info? 41).map (·.size) = some 8 := by kernel_rfl
theorem one8 {c0 c1 c2 c3 c4 c5 c6 c7 : Value} (h0 : c0.oneCell' = true) (h1 : c1.oneCell' = true) (h2 : c2.oneCell' = true) (h3 : c3.oneCell' = true) (h4 : c4.oneCell' = true) (h5 : c5.oneCell' = true) (h6 : c6.oneCell' = true) (h7 : c7.oneCell' = true) : ∀ v ∈ [c0, c1, c2, c3, c4, c5, c6, c7], v.oneCell' = true := by
  intro v hv
  simp only [List.mem_cons, List.not_mem_nil, or_false] at hv
  rcases hv with rfl | rfl | rfl | rfl | rfl | rfl | rfl | rfl <;> assumption
theorem infoCell : (Try.prog.info? 25).map (fun i => (i.zero, i.size, i.bytes)) = some (some (.agg #[.int .u64 0, .int .u8 0, .int .u64 0, .int .u64 0, .slice none 0 0]), 5, 56) := by kernel_rfl
end Go.Proofs.Ytnagpaaiaaaamaa
