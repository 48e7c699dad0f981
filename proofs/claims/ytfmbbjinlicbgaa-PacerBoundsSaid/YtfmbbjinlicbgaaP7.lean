/- Scripts of calls of a pacer (hostlerlaw35.Do): what they read as; how they are opened; the contract of heavy. Conditions: as each theorem states them. -/
import Derived.Test.YtfmbbjinlicbgaaP6
namespace Go.Proofs.Ytfmbbjinlicbgaa
open Go.Joins Go.ChangeShapes Go.WideShapes Go.RowKit Go.Deep

/-- a call of a script -/
structure DoP where
  kind : Int
  tick : Int
  n : Int
  A : Option Addr
  c : Nat
  ns : List Int
def DoP.none : DoP := ⟨0, 0, 0, Option.none, 0, []⟩
def DoPAt (w : World) (p : Addr) (d : DoP) : Prop :=
  w.cell? p = some (.int .u8 d.kind) ∧ w.cell? ⟨p.block, p.off + 1, Option.none⟩ = some (.int .u64 d.tick) ∧ w.cell? ⟨p.block, p.off + 2, Option.none⟩ = some (.int .u64 d.n) ∧ w.cell? ⟨p.block, p.off + 3, Option.none⟩ = some (.slice d.A d.ns.length d.c) ∧
  RdU w d.A d.ns
def DoP.Fit (d : DoP) : Prop := 0 ≤ d.kind ∧ d.kind ≤ 255 ∧ 0 ≤ d.tick ∧ d.tick < 18446744073709551616 ∧ 0 ≤ d.n ∧ d.n < 18446744073709551616 ∧ d.ns.length ≤ 140737488351232
def IsDoPs (w : World) (A : Option Addr) (ds : List DoP) : Prop := ds.length ≤ 9223372036854775807 ∧ (∀ d ∈ ds, d.Fit) ∧ ∀ i, i < ds.length → ∃ a, A = some a ∧ DoPAt w (a.add (i * 4)) (ds.getD i DoP.none)
theorem IsDoPs.below {w w' : World} {A : Option Addr} {ds : List DoP} (h : IsDoPs w A ds) (hb : Below w.heap.size w w') : IsDoPs w' A ds :=
  ⟨h.1, h.2.1, fun i hi => by
    obtain ⟨a, e, d1, d2, d3, d4, d5⟩ := h.2.2 i hi
    exact ⟨a, e, Below.cell_some hb d1 (cell_lt d1), Below.cell_some hb d2 (cell_lt d2), Below.cell_some hb d3 (cell_lt d3), Below.cell_some hb d4 (cell_lt d4), d5.below hb⟩⟩
theorem IsDoPs.fit {w : World} {A : Option Addr} {ds : List DoP} (h : IsDoPs w A ds) {i : Nat} (hi : i < ds.length) : (ds.getD i DoP.none).Fit := by
  apply h.2.1
  rw [List.getD_eq_getElem?_getD, List.getElem?_eq_getElem hi]
  simp
/-- how many things there are -/
def heavyT (ds : List DoP) : Nat := (ds.map fun d => 1 + d.ns.length).sum
theorem heavyT_snoc (ds : List DoP) (k : Nat) (h : k < ds.length) : heavyT (ds.take (k + 1)) = heavyT (ds.take k) + (1 + (ds.getD k DoP.none).ns.length) := by
  unfold heavyT
  rw [List.take_succ_eq_append_getElem h, List.map_append, List.sum_append]
  simp [List.getD_eq_getElem?_getD, List.getElem?_eq_getElem h]

def HPost (ds : List DoP) (w : World) (e : Ending) (w' : World) : Prop := ∃ b, e = .returned (.bool b) ∧ (b = false → heavyT ds ≤ 400) ∧ (b = true → 400 < heavyT ds) ∧ Below w.heap.size w w'
theorem heavyT_le (ds : List DoP) (k : Nat) : heavyT (ds.take k) ≤ heavyT ds := by
  conv => rhs; rw [← List.take_append_drop k ds]
  unfold heavyT
  rw [List.map_append, List.sum_append]
  omega

set_option maxHeartbeats 1000000 in
theorem heavy_any (A : Option Addr) (ds : List DoP) (cap : Nat) (w : World) (h : IsDoPs w A ds) :
    Calls Try.prog 12 #[.slice A ds.length cap] w (HPost ds w) := by
  have hl := h.1
  have HR := Lib.hid h
  clear h
  go_enter Try.func12, Try.ntmps12
  go_wp2_with fail
  go_loopw [3, 8] (fun n i wr => ∃ (x : Nat) (k : Nat), k ≤ ds.length ∧ n = .int .i64 x ∧ i = .int .i64 k ∧ x ≤ 400 ∧ Hid (x = heavyT (ds.take k)) ∧ Hid (Below w.heap.size w wr)) (fun _ i _ => ds.length - (intOf i).toNat)
  case atStart => exact ⟨0, 0, by omega, rfl, rfl, by omega, Lib.hid rfl, Lib.hid (Below.refl _ _)⟩
  case round =>
    obtain ⟨x, k, hk, rfl, rfl, hx, HX, HB⟩ := hrel
    by_cases hlt : k < ds.length
    · obtain ⟨a, hA, d1, d2, d3, d4, d5⟩ := HR.out.2.2 k hlt
      have hfit := HR.out.fit hlt
      have HS := Lib.hid (heavyT_snoc ds k hlt)
      have HLE := Lib.hid (heavyT_le ds (k + 1))
      generalize ds.getD k DoP.none = d at *
      obtain ⟨kd, dt, dn, dA, dc, ns⟩ := d
      simp only [DoP.Fit] at d1 d2 d3 d4 hfit HS
      obtain ⟨q1, q2, q3, q4, q5, q6, q7⟩ := hfit
      have c1 := Below.cell_some HB.out d1 (cell_lt d1)
      have c2 := Below.cell_some HB.out d2 (cell_lt d2)
      have c3 := Below.cell_some HB.out d3 (cell_lt d3)
      have c4 := Below.cell_some HB.out d4 (cell_lt d4)
      subst hA
      clear d1 d2 d3 d4 d5
      go_wp2_with fail
      · go_ret
        refine ⟨true, rfl, by simp, fun _ => ?_, HB.out.alloc HB.out.size _⟩
        have h1 := HS.out
        have h2 := HLE.out
        have h3 := HX.out
        omega
      · go_roundw
        case rel => exact ⟨x + (1 + ns.length), k + 1, by omega, by go_num, by go_num, by omega, Lib.hid (by rw [HS.out, HX.out]), Lib.hid (HB.out.alloc HB.out.size _)⟩
        case measure => simp [intOf]; omega
    · go_wp2_with fail
      go_ret
      refine ⟨false, rfl, fun _ => ?_, by simp, HB.out⟩
      have h3 := HX.out
      rw [List.take_of_length_le (by omega)] at h3
      omega

theorem add_one (a : Addr) (n j : Nat) (hj : j ≠ 0) : a.add (n + j) = ⟨(a.add n).block, (a.add n).off + j, Option.none⟩ := by
  rw [← add_of_add]
  generalize a.add n = b
  unfold Addr.add
  rw [if_neg hj]

/-- one call, opened -/
theorem doP_of_fields {H : Type} {enc : TypeId × Value → H} {w : World} {base : Nat} {held : Bool} {n : Nat} {a : Addr} {i : Nat} {ys : List (DataW H × List MemPlace)} {fs : Array Field} (he : Try.prog.underlying 35 = some (.struct fs))
    (hL : Light Try.prog 35 (.agg (ys.map (·.1)))) (h4 : fs.size = 4)
    (hf : ∀ (j : Nat) (f : Field), fs[j]? = some f → ∃ (v : Value) (y : DataW H × List MemPlace), w.cell? (a.add (i * fs.size + j)) = some v ∧ ys[j]? = some y ∧ DataW.trod enc Try.prog w base (fun _ => true) held n f.type [v] = some y) :
    ∃ d : DoP, d.Fit ∧ DoPAt w (a.add (i * 4)) d := by
  have he' := he
  rw [Try.underlying35] at he'
  simp only [Option.some.injEq, TypeDesc.struct.injEq] at he'
  subst he'
  obtain ⟨v0, y0, c0, _, t0⟩ := hf 0 _ rfl
  obtain ⟨v1, y1, c1, _, t1⟩ := hf 1 _ rfl
  obtain ⟨v2, y2, c2, _, t2⟩ := hf 2 _ rfl
  obtain ⟨v3, y3, c3, e3, t3⟩ := hf 3 _ rfl
  obtain ⟨n0, x0, _, w0⟩ := DataW.trod_int Try.underlying5 t0
  obtain ⟨n1, x1, _, w1⟩ := DataW.trod_int Try.underlying22 t1
  obtain ⟨n2, x2, _, w2⟩ := DataW.trod_int Try.underlying22 t2
  obtain ⟨a', l', c', x3⟩ := slice_form Try.underlying23 t3
  simp at x0 x1 x2 x3
  subst x0 x1 x2 x3
  obtain ⟨zs, hz⟩ := isRow_of_trod Try.underlying23 Try.underlying22 (by kernel_rfl) t3
  have hl := isRow_light Try.underlying23 Try.underlying22 (by kernel_rfl) (of_decide_eq_true (by kernel_rfl)) t3 (hL.field (j := 3) he rfl (by simp [e3]))
  obtain ⟨ns, rfl, hr, _⟩ := rdU_open hz
  have b0 := bounds_u8 w0
  have b1 := bounds_u64 w1
  have b2 := bounds_u64 w2
  refine ⟨⟨n0, n1, n2, a', c', ns⟩, ⟨b0.1, b0.2, b1.1, by simp only; omega, b2.1, by simp only; omega, hl⟩, ?_, ?_, ?_, ?_, hr⟩
  · exact c0
  · rw [← add_one _ _ _ (by decide)]; exact c1
  · rw [← add_one _ _ _ (by decide)]; exact c2
  · rw [← add_one _ _ _ (by decide)]; exact c3

theorem list_of_all {α : Type} {P : Nat → α → Prop} (z : α) (n : Nat) (h : ∀ i, i < n → ∃ d, P i d) : ∃ ds : List α, n = ds.length ∧ ∀ i, i < n → P i (ds.getD i z) := by
  induction n with
  | zero => exact ⟨[], rfl, fun i hi => by omega⟩
  | succ n ih =>
    obtain ⟨ds, e, hd⟩ := ih (fun i hi => h i (by omega))
    obtain ⟨d, hn⟩ := h n (by omega)
    refine ⟨ds ++ [d], by simp [e], fun i hi => ?_⟩
    by_cases hin : i < n
    · have := hd i hin
      rw [List.getD_eq_getElem?_getD] at this ⊢
      rwa [List.getElem?_append_left (by omega)]
    · obtain rfl : i = n := by omega
      rw [List.getD_eq_getElem?_getD, List.getElem?_append_right (by omega)]
      simpa [e] using hn

theorem isDoPs_of_trod {H : Type} {enc : TypeId × Value → H} {w : World} {base : Nat} {held : Bool} {fuel : Nat} {A : Option Addr} {l c : Nat} {x : DataW H × List MemPlace}
    (h : DataW.trod enc Try.prog w base (fun _ => true) held fuel 32 [.slice A l c] = some x) (hL : Light Try.prog 32 x.1) : ∃ ds, l = ds.length ∧ IsDoPs w A ds := by
  rcases open_slice_fields Try.underlying32 Try.underlying35 (by kernel_rfl) (by kernel_rfl) h with ⟨hcs, _⟩ | ⟨a, len, cap, m, D, Pl, hcs, _, hl, hm, hmm, hx, hi⟩
  · simp at hcs
    obtain ⟨rfl, rfl, rfl⟩ := hcs
    exact ⟨[], rfl, by simp, by simp, by simp⟩
  · simp at hcs
    obtain ⟨rfl, rfl, rfl⟩ := hcs
    simp at hmm
    rw [hx] at hL
    have hall : ∀ i, i < l → ∃ d : DoP, d.Fit ∧ DoPAt w (a.add (i * 4)) d := by
      intro i hil
      obtain ⟨ys, n, hD, _, _, hf⟩ := hi i (by omega)
      have hLi := hL.elem Try.underlying32 (d := D i) (List.mem_map.2 ⟨i, by simp; omega, rfl⟩)
      rw [hD] at hLi
      exact doP_of_fields Try.underlying35 hLi rfl hf
    obtain ⟨ds, rfl, hds⟩ := list_of_all DoP.none l hall
    refine ⟨ds, rfl, by unfold maxLen at hm; omega, fun d hd => ?_, fun i hil => ⟨a, rfl, (hds i hil).2⟩⟩
    obtain ⟨i, hil, rfl⟩ := List.getElem_of_mem hd
    have := (hds i hil).1
    rwa [List.getD_eq_getElem?_getD, List.getElem?_eq_getElem hil] at this
end Go.Proofs.Ytfmbbjinlicbgaa
