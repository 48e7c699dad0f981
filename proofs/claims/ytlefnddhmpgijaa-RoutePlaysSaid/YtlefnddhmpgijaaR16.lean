/- What a row of the law's steps (hostlerlaw29.Do) reads as; how it is opened. Conditions: as each theorem states them. -/
import Derived.Test.YtlefnddhmpgijaaR15
import Derived.Test.YtlefnddhmpgijaaBO
namespace Go.Proofs.Ytlefnddhmpgijaa
open Go.Joins Go.ChangeShapes Go.WideShapes Go.RowKit Go.Deep
/-- something that is learnt, and a datagram that is asked for then -/
structure DoR where
  ep : Int
  ow : Int
  fr : Int
  A : Option Addr
  c : Nat
  b : List Int
def DoR.none : DoR := ⟨0, 0, 0, Option.none, 0, []⟩
def DoRAt (w : World) (p : Addr) (d : DoR) : Prop :=
  w.cell? p = some (.int .u64 d.ep) ∧ w.cell? ⟨p.block, p.off + 1, Option.none⟩ = some (.int .u8 d.ow) ∧ w.cell? ⟨p.block, p.off + 2, Option.none⟩ = some (.int .u8 d.fr) ∧ w.cell? ⟨p.block, p.off + 3, Option.none⟩ = some (.slice d.A d.b.length d.c) ∧
  Rd w.heap.size .u8 w d.A d.b
def DoR.Fit (d : DoR) : Prop := 0 ≤ d.ep ∧ d.ep < 18446744073709551616 ∧ 0 ≤ d.ow ∧ d.ow < 256 ∧ 0 ≤ d.fr ∧ d.fr < 256 ∧ Byt d.b ∧ d.b.length ≤ d.c ∧ d.b.length ≤ 140737488351232
def IsDoRs (w : World) (A : Option Addr) (ds : List DoR) : Prop := ds.length ≤ 9223372036854775807 ∧ (∀ d ∈ ds, d.Fit) ∧ ∀ i, i < ds.length → ∃ a, A = some a ∧ DoRAt w (a.add (i * 4)) (ds.getD i DoR.none)
theorem IsDoRs.below {w w' : World} {A : Option Addr} {ds : List DoR} (h : IsDoRs w A ds) (hb : Below w.heap.size w w') : IsDoRs w' A ds :=
  ⟨h.1, h.2.1, fun i hi => by
    obtain ⟨a, e, d1, d2, d3, d4, d5⟩ := h.2.2 i hi
    exact ⟨a, e, Below.cell_some hb d1 (cell_lt d1), Below.cell_some hb d2 (cell_lt d2), Below.cell_some hb d3 (cell_lt d3), Below.cell_some hb d4 (cell_lt d4), (d5.below hb (Nat.le_refl _)).mono hb.size⟩⟩
theorem IsDoRs.fit {w : World} {A : Option Addr} {ds : List DoR} (h : IsDoRs w A ds) {i : Nat} (hi : i < ds.length) : (ds.getD i DoR.none).Fit := by
  apply h.2.1
  rw [List.getD_eq_getElem?_getD, List.getElem?_eq_getElem hi]
  simp
def lenT (ds : List DoR) : Nat := (ds.map fun d => d.b.length).sum
theorem lenT_snoc (ds : List DoR) (k : Nat) (h : k < ds.length) : lenT (ds.take (k + 1)) = lenT (ds.take k) + (ds.getD k DoR.none).b.length := by
  unfold lenT
  rw [List.take_succ_eq_append_getElem h, List.map_append, List.sum_append]
  simp [List.getD_eq_getElem?_getD, List.getElem?_eq_getElem h]
theorem len_le {ds : List DoR} {k : Nat} (h : k < ds.length) (ht : lenT ds ≤ 20000) : (ds.getD k DoR.none).b.length ≤ 20000 := by
  have h1 := lenT_snoc ds k h
  have h2 : lenT (ds.take (k + 1)) ≤ lenT ds := by
    conv => rhs; rw [← List.take_append_drop (k + 1) ds]
    unfold lenT
    rw [List.map_append, List.sum_append]
    omega
  omega
theorem addr_one (a : Addr) (n j : Nat) (hj : j ≠ 0) : a.add (n + j) = ⟨(a.add n).block, (a.add n).off + j, Option.none⟩ := by
  rw [← add_of_add]
  generalize a.add n = b
  unfold Addr.add
  rw [if_neg hj]
theorem doR_of_fields {H : Type} {enc : TypeId × Value → H} {w : World} {base : Nat} {held : Bool} {n : Nat} {a : Addr} {i : Nat} {ys : List (DataW H × List MemPlace)} {fs : Array Field} (he : Try.prog.underlying 27 = some (.struct fs))
    (hL : Light Try.prog 27 (.agg (ys.map (·.1)))) (h4 : fs.size = 4)
    (hf : ∀ (j : Nat) (f : Field), fs[j]? = some f → ∃ (v : Value) (y : DataW H × List MemPlace), w.cell? (a.add (i * fs.size + j)) = some v ∧ ys[j]? = some y ∧ DataW.trod enc Try.prog w base (fun _ => true) held n f.type [v] = some y) :
    ∃ d : DoR, d.Fit ∧ DoRAt w (a.add (i * 4)) d := by
  have he' := he
  rw [Try.underlying27] at he'
  simp only [Option.some.injEq, TypeDesc.struct.injEq] at he'
  subst he'
  obtain ⟨v0, y0, c0, _, t0⟩ := hf 0 _ rfl
  obtain ⟨v1, y1, c1, _, t1⟩ := hf 1 _ rfl
  obtain ⟨v2, y2, c2, _, t2⟩ := hf 2 _ rfl
  obtain ⟨v3, y3, c3, e3, t3⟩ := hf 3 _ rfl
  obtain ⟨n0, x0, _, w0⟩ := DataW.trod_int Try.underlying24 t0
  obtain ⟨n1, x1, _, w1⟩ := DataW.trod_int Try.underlying5 t1
  obtain ⟨n2, x2, _, w2⟩ := DataW.trod_int Try.underlying5 t2
  obtain ⟨A', cc, zs, x3, hr, hc, hwf, hl⟩ := rd_of_trod Try.underlying25 Try.underlying5 (by kernel_rfl) (of_decide_eq_true (by kernel_rfl)) t3 (hL.field (j := 3) he rfl (by simp [e3]))
  simp at x0 x1 x2
  subst x0 x1 x2 x3
  have b0 := bounds_u64 w0
  have b1 := bounds_u8 w1
  have b2 := bounds_u8 w2
  refine ⟨⟨n0, n1, n2, A', cc, zs⟩, ⟨b0.1, by simp only; omega, b1.1, by simp only; omega, b2.1, by simp only; omega, byt_wf hwf, hc, hl⟩, ?_, ?_, ?_, ?_, hr⟩
  · exact c0
  · rw [← addr_one _ _ _ (by decide)]; exact c1
  · rw [← addr_one _ _ _ (by decide)]; exact c2
  · rw [← addr_one _ _ _ (by decide)]; exact c3
theorem list_of_all {α : Type} {P : Nat → α → Prop} (z : α) (n : Nat) (h : ∀ i, i < n → ∃ d, P i d) : ∃ ds : List α, n = ds.length ∧ ∀ i, i < n → P i (ds.getD i z) := by
  induction n with
  | zero => exact ⟨[], rfl, fun i hi => by omega⟩
  | succ n ih =>
    obtain ⟨ds, e, hd⟩ := ih (fun i hi => h i (by omega))
    obtain ⟨d, hn⟩ := h n (by omega)
    refine ⟨ds ++ [d], by simp [e], fun i hi => ?_⟩
    by_cases hin : i < n
    · have := hd i hin
      rw [List.getD_eq_getElem?_getD] at this ⊢
      rwa [List.getElem?_append_left (by omega)]
    · obtain rfl : i = n := by omega
      rw [List.getD_eq_getElem?_getD, List.getElem?_append_right (by omega)]
      simpa [e] using hn
theorem isDoRs_of_trod {H : Type} {enc : TypeId × Value → H} {w : World} {base : Nat} {held : Bool} {fuel : Nat} {A : Option Addr} {l c : Nat} {x : DataW H × List MemPlace}
    (h : DataW.trod enc Try.prog w base (fun _ => true) held fuel 22 [.slice A l c] = some x) (hL : Light Try.prog 22 x.1) : ∃ ds, l = ds.length ∧ IsDoRs w A ds := by
  rcases open_slice_fields Try.underlying22 Try.underlying27 (by kernel_rfl) (by kernel_rfl) h with ⟨hcs, _⟩ | ⟨a, len, cap, m, D, Pl, hcs, _, hl, hm, hmm, hx, hi⟩
  · simp at hcs
    obtain ⟨rfl, rfl, rfl⟩ := hcs
    exact ⟨[], rfl, by simp, by simp, by simp⟩
  · simp at hcs
    obtain ⟨rfl, rfl, rfl⟩ := hcs
    simp at hmm
    rw [hx] at hL
    have hall : ∀ i, i < l → ∃ d : DoR, d.Fit ∧ DoRAt w (a.add (i * 4)) d := by
      intro i hil
      obtain ⟨ys, n, hD, _, _, hf⟩ := hi i (by omega)
      have hLi := hL.elem Try.underlying22 (d := D i) (List.mem_map.2 ⟨i, by simp; omega, rfl⟩)
      rw [hD] at hLi
      exact doR_of_fields Try.underlying27 hLi rfl hf
    obtain ⟨ds, rfl, hds⟩ := list_of_all DoR.none l hall
    refine ⟨ds, rfl, by unfold maxLen at hm; omega, fun d hd => ?_, fun i hil => ⟨a, rfl, (hds i hil).2⟩⟩
    obtain ⟨i, hil, rfl⟩ := List.getElem_of_mem hd
    have := (hds i hil).1
    rwa [List.getD_eq_getElem?_getD, List.getElem?_eq_getElem hil] at this
end Go.Proofs.Ytlefnddhmpgijaa
