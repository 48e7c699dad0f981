/- Layer 27: a script of calls, opened. Conditions: as each theorem states them. -/
import Derived.Test.YtibjafkclojimaaL2
import Derived.Test.YtibjafkclojimaaWS
namespace Go.Proofs.Ytibjafkclojimaa
open Go.Joins Go.ChangeShapes Go.WideShapes Go.RowKit Go.Deep
/-- a call -/
structure DoL where
  kind : Int
  i : Int
  ow : Int
  ep : Int
  bl : Int
  af : Int
def DoL.none : DoL := ⟨0, 0, 0, 0, 0, 0⟩
def DoL.vs (d : DoL) : List Value := [.int .i64 d.kind, .int .i64 d.i, .int .u8 d.ow, .int .u64 d.ep, .int .u64 d.bl, .int .i64 d.af]
def DoL.Fit (d : DoL) : Prop := 0 ≤ d.ow ∧ d.ow ≤ 255 ∧ 0 ≤ d.ep ∧ d.ep < 18446744073709551616 ∧ 0 ≤ d.bl ∧ d.bl < 18446744073709551616
def DoLAt (w : World) (p : Addr) (d : DoL) : Prop := ∀ j v, d.vs[j]? = some v → w.cell? (p.add j) = some v
def DoLs (w : World) (A : Option Addr) (l : List DoL) : Prop := l.length ≤ 9223372036854775807 ∧ (∀ d ∈ l, d.Fit) ∧ ∀ i, i < l.length → ∃ a, A = some a ∧ DoLAt w (a.add (i * 6)) (l.getD i DoL.none)
theorem cell_lt_ {w : World} {p : Addr} {v : Value} (h : w.cell? p = some v) : p.block < w.heap.size := by
  rcases Nat.lt_or_ge p.block w.heap.size with q | q
  · exact q
  · unfold World.cell? at h
    rw [Array.getElem?_eq_none q] at h
    simp at h
theorem DoLs.below {w w' : World} {A : Option Addr} {l : List DoL} (h : DoLs w A l) (hb : Below w.heap.size w w') : DoLs w' A l :=
  ⟨h.1, h.2.1, fun i hi => by
    obtain ⟨a, e, d⟩ := h.2.2 i hi
    exact ⟨a, e, fun j v hv => Below.cell_some hb (d j v hv) (cell_lt_ (d j v hv))⟩⟩
theorem DoLs.fit {w : World} {A : Option Addr} {l : List DoL} (h : DoLs w A l) {i : Nat} (hi : i < l.length) : (l.getD i DoL.none).Fit := by
  apply h.2.1
  rw [List.getD_eq_getElem?_getD, List.getElem?_eq_getElem hi]
  simp
theorem size6d : (Try.prog.info? 35).map (·.size) = some 6 := by kernel_rfl
theorem size6l : (Try.prog.info? 59).map (·.size) = some 6 := by kernel_rfl
theorem one6 {c0 c1 c2 c3 c4 c5 : Value} (h0 : c0.oneCell' = true) (h1 : c1.oneCell' = true) (h2 : c2.oneCell' = true) (h3 : c3.oneCell' = true) (h4 : c4.oneCell' = true) (h5 : c5.oneCell' = true) : ∀ v ∈ [c0, c1, c2, c3, c4, c5], v.oneCell' = true := by
  intro v hv
  simp only [List.mem_cons, List.not_mem_nil, or_false] at hv
  rcases hv with rfl | rfl | rfl | rfl | rfl | rfl <;> assumption
theorem row_load {P : Program} {w : World} {p : Addr} {ty : TypeId} {vs : List Value} {fs : Array Field} (h : ∀ j v, vs[j]? = some v → w.cell? (p.add j) = some v) (hu : P.underlying ty = some (.struct fs)) (hi : (P.info? ty).map (·.size) = some vs.length) :
    (Instr.loadAt ty (.pointer (some p))).run P w = .ok (.agg vs.toArray) w := by
  have hl : (loadCells p vs.length).run P w = .ok vs.toArray w := run_loadCells_list (P := P) w p vs h
  cases hq : P.info? ty with
  | none => simp [hq] at hi
  | some i =>
    have hs : i.size = vs.length := by simpa [hq] using hi
    have hagg : (isAgg ty).run P w = .ok true w := by
      unfold isAgg
      rw [Sem.run_bind, run_underlying hu w]
      rfl
    simp [Instr.loadAt, Instr.sureAddr, loadVar, Sem.run_bind, hagg, sizeOf, typeInfo, hq, hs, hl]
/-- one call, opened -/
theorem doL_of_fields {H : Type} {enc : TypeId × Value → H} {w : World} {base : Nat} {held : Bool} {n : Nat} {a : Addr} {i : Nat} {ys : List (DataW H × List MemPlace)} {fs : Array Field} (he : Try.prog.underlying 35 = some (.struct fs))
    (h4 : fs.size = 6)
    (hf : ∀ (j : Nat) (f : Field), fs[j]? = some f → ∃ (v : Value) (y : DataW H × List MemPlace), w.cell? (a.add (i * fs.size + j)) = some v ∧ ys[j]? = some y ∧ DataW.trod enc Try.prog w base (fun _ => true) held n f.type [v] = some y) :
    ∃ d : DoL, d.Fit ∧ DoLAt w (a.add (i * 6)) d := by
  rw [Try.underlying35] at he
  simp only [Option.some.injEq, TypeDesc.struct.injEq] at he
  subst he
  obtain ⟨v0, y0, c0, _, t0⟩ := hf 0 _ rfl
  obtain ⟨v1, y1, c1, _, t1⟩ := hf 1 _ rfl
  obtain ⟨v2, y2, c2, _, t2⟩ := hf 2 _ rfl
  obtain ⟨v3, y3, c3, _, t3⟩ := hf 3 _ rfl
  obtain ⟨v4, y4, c4, _, t4⟩ := hf 4 _ rfl
  obtain ⟨v5, y5, c5, _, t5⟩ := hf 5 _ rfl
  obtain ⟨n0, x0, _, w0⟩ := DataW.trod_int Try.underlying3 t0
  obtain ⟨n1, x1, _, w1⟩ := DataW.trod_int Try.underlying3 t1
  obtain ⟨n2, x2, _, w2⟩ := DataW.trod_int Try.underlying5 t2
  obtain ⟨n3, x3, _, w3⟩ := DataW.trod_int Try.underlying22 t3
  obtain ⟨n4, x4, _, w4⟩ := DataW.trod_int Try.underlying22 t4
  obtain ⟨n5, x5, _, w5⟩ := DataW.trod_int Try.underlying3 t5
  simp at x0 x1 x2 x3 x4 x5
  subst x0 x1 x2 x3 x4 x5
  have b2 := bounds_u8 w2
  have b3 := bounds_u64 w3
  have b4 := bounds_u64 w4
  refine ⟨⟨n0, n1, n2, n3, n4, n5⟩, ⟨b2.1, b2.2, b3.1, by simp only; omega, b4.1, by simp only; omega⟩, fun j v hv => ?_⟩
  rw [add_of_add]
  match j, hv with
  | 0, hv => injection hv with hv; subst hv; exact c0
  | 1, hv => injection hv with hv; subst hv; exact c1
  | 2, hv => injection hv with hv; subst hv; exact c2
  | 3, hv => injection hv with hv; subst hv; exact c3
  | 4, hv => injection hv with hv; subst hv; exact c4
  | 5, hv => injection hv with hv; subst hv; exact c5
theorem list_of_all {α : Type} {P : Nat → α → Prop} (z : α) (n : Nat) (h : ∀ i, i < n → ∃ d, P i d) : ∃ ds : List α, n = ds.length ∧ ∀ i, i < n → P i (ds.getD i z) := by
  induction n with
  | zero => exact ⟨[], rfl, fun i hi => by omega⟩
  | succ n ih =>
    obtain ⟨ds, e, hd⟩ := ih (fun i hi => h i (by omega))
    obtain ⟨d, hn⟩ := h n (by omega)
    refine ⟨ds ++ [d], by simp [e], fun i hi => ?_⟩
    by_cases hin : i < n
    · have := hd i hin
      rw [List.getD_eq_getElem?_getD] at this ⊢
      rwa [List.getElem?_append_left (by omega)]
    · obtain rfl : i = n := by omega
      rw [List.getD_eq_getElem?_getD, List.getElem?_append_right (by omega)]
      simpa [e] using hn
theorem doLs_of_trod {H : Type} {enc : TypeId × Value → H} {w : World} {base : Nat} {held : Bool} {fuel : Nat} {A : Option Addr} {l c : Nat} {x : DataW H × List MemPlace}
    (h : DataW.trod enc Try.prog w base (fun _ => true) held fuel 23 [.slice A l c] = some x) : ∃ ds, l = ds.length ∧ DoLs w A ds := by
  rcases open_slice_fields Try.underlying23 Try.underlying35 (by kernel_rfl) (by kernel_rfl) h with ⟨hcs, _⟩ | ⟨a, len, cap, m, D, Pl, hcs, _, hl, hm, hmm, hx, hi⟩
  · simp at hcs
    obtain ⟨rfl, rfl, rfl⟩ := hcs
    exact ⟨[], rfl, by simp, by simp, by simp⟩
  · simp at hcs
    obtain ⟨rfl, rfl, rfl⟩ := hcs
    simp at hmm
    have hall : ∀ i, i < l → ∃ d : DoL, d.Fit ∧ DoLAt w (a.add (i * 6)) d := by
      intro i hil
      obtain ⟨ys, n, hD, _, _, hf⟩ := hi i (by omega)
      exact doL_of_fields Try.underlying35 rfl hf
    obtain ⟨ds, rfl, hds⟩ := list_of_all DoL.none l hall
    refine ⟨ds, rfl, by unfold maxLen at hm; omega, fun d hd => ?_, fun i hil => ⟨a, rfl, (hds i hil).2⟩⟩
    obtain ⟨i, hil, rfl⟩ := List.getElem_of_mem hd
    have := (hds i hil).1
    rwa [List.getD_eq_getElem?_getD, List.getElem?_eq_getElem hil] at this
end Go.Proofs.Ytibjafkclojimaa
