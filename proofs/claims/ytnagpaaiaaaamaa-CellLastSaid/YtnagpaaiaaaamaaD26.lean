/- Layer 26: an argument of steps, opened. Conditions: as each theorem states them. -/
import Derived.Test.YtnagpaaiaaaamaaD25
import Derived.Test.YtnagpaaiaaaamaaS9
namespace Go.Proofs.Ytnagpaaiaaaamaa
open Go.Joins Go.ChangeShapes Go.WideShapes Go.RowKit Go.Deep
theorem list_of_alld {α : Type} {P : Nat → α → Prop} (z : α) (n : Nat) (h : ∀ i, i < n → ∃ d, P i d) : ∃ ds : List α, n = ds.length ∧ ∀ i, i < n → P i (ds.getD i z) := by
  induction n with
  | zero => exact ⟨[], rfl, fun i hi => by omega⟩
  | succ n ih =>
    obtain ⟨ds, e, hd⟩ := ih (fun i hi => h i (by omega))
    obtain ⟨d, hn⟩ := h n (by omega)
    refine ⟨ds ++ [d], by simp [e], fun i hi => ?_⟩
    by_cases hin : i < n
    · have := hd i hin
      rw [List.getD_eq_getElem?_getD] at this ⊢
      rwa [List.getElem?_append_left (by omega)]
    · obtain rfl : i = n := by omega
      rw [List.getD_eq_getElem?_getD, List.getElem?_append_right (by omega)]
      simpa [e] using hn
def DC.Ok (d : DC) : Prop := (cl_ d.x.ep d.x.ow d.x.nx d.x.sn d.x.ts).Fit ∧ d.x.ts.length ≤ 140737488355328 ∧ ∀ t ∈ d.x.ts, t.xs.length ≤ 140737488355328
theorem dc_of_cells {H : Type} {enc : TypeId × Value → H} {w : World} {base : Nat} {held : Bool} {n : Nat} {cs : List Value} {x : DataW H × List MemPlace}
    (h : DataW.trod enc Try.prog w base (fun _ => true) held n 41 cs = some x) (hL : Light Try.prog 41 x.1) :
    ∃ d : DC, d.vs = cs ∧ d.Ok ∧ CIn w.heap.size w d.x.A d.x.ts.length d.x.cap d.x.ts := by
  obtain ⟨xs, m, _, hx, hlen, hxl, hf⟩ := DataW.trod_struct Try.underlying41 h
  have h8 : cs.length = 8 := hlen
  match cs, h8 with
  | [c0, c1, c2, c3, c4, c5, c6, c7], _ =>
    match xs, hxl with
    | [y0, y1, y2, y3], _ =>
      have t0 : DataW.trod enc Try.prog w base (fun _ => true) held m 25 [c0, c1, c2, c3, c4] = some y0 := hf 0 _ rfl
      have t1 : DataW.trod enc Try.prog w base (fun _ => true) held m 4 [c5] = some y1 := hf 1 _ rfl
      have t2 : DataW.trod enc Try.prog w base (fun _ => true) held m 3 [c6] = some y2 := hf 2 _ rfl
      have t3 : DataW.trod enc Try.prog w base (fun _ => true) held m 4 [c7] = some y3 := hf 3 _ rfl
      rw [hx] at hL
      have lg0 : Light Try.prog 25 y0.1 := hL.field (j := 0) Try.underlying41 rfl rfl
      obtain ⟨zs, m2, _, hz, _, hzl, hg⟩ := DataW.trod_struct Try.underlying25 t0
      match zs, hzl with
      | [z0, z1, z2, z3, z4], _ =>
        have s0 : DataW.trod enc Try.prog w base (fun _ => true) held m2 22 [c0] = some z0 := hg 0 _ rfl
        have s1 : DataW.trod enc Try.prog w base (fun _ => true) held m2 5 [c1] = some z1 := hg 1 _ rfl
        have s2 : DataW.trod enc Try.prog w base (fun _ => true) held m2 22 [c2] = some z2 := hg 2 _ rfl
        have s3 : DataW.trod enc Try.prog w base (fun _ => true) held m2 22 [c3] = some z3 := hg 3 _ rfl
        have s4 : DataW.trod enc Try.prog w base (fun _ => true) held m2 23 [c4] = some z4 := hg 4 _ rfl
        obtain ⟨ep, e0, _, w0⟩ := DataW.trod_int Try.underlying22 s0
        obtain ⟨ow, e1, _, w1⟩ := DataW.trod_int Try.underlying5 s1
        obtain ⟨nx, e2, _, w2⟩ := DataW.trod_int Try.underlying22 s2
        obtain ⟨sn, e3, _, w3⟩ := DataW.trod_int Try.underlying22 s3
        obtain ⟨af, e6, _, _⟩ := DataW.trod_int Try.underlying3 t2
        obtain ⟨f, e5, _⟩ := DataW.trod_bool Try.underlying4 t1
        obtain ⟨cp, e7, _⟩ := DataW.trod_bool Try.underlying4 t3
        simp at e0 e1 e2 e3 e5 e6 e7
        subst e0 e1 e2 e3 e5 e6 e7
        rw [hz] at lg0
        obtain ⟨A, c, ts, rfl, sq, fq, gq, mq, xq⟩ := txs_open Try.underlying23 Try.underlying29 Try.underlying5 (by kernel_rfl) (by kernel_rfl) (of_decide_eq_true (by kernel_rfl)) (of_decide_eq_true (by kernel_rfl)) s4 (lg0.field (j := 4) Try.underlying25 rfl rfl)
        have b0 := bounds_u64 w0
        have b1 := bounds_u8 w1
        have b2 := bounds_u64 w2
        have b3 := bounds_u64 w3
        exact ⟨⟨⟨ep, ow, nx, sn, A, c, ts⟩, f, af, cp⟩, rfl, ⟨⟨b0.1, by show ep < _; omega, b1.1, by show ow < _; omega, b2.1, by show nx < _; omega, b3.1, by show sn < _; omega, bsT_byt fq⟩, by show ts.length ≤ _; omega, fun t ht => by have := xq t ht; omega⟩, ⟨rfl, mq, sq, fq⟩⟩
theorem dcs_of_trod {H : Type} {enc : TypeId × Value → H} {w : World} {base : Nat} {held : Bool} {fuel : Nat} {A : Option Addr} {l c : Nat} {x : DataW H × List MemPlace}
    (h : DataW.trod enc Try.prog w base (fun _ => true) held fuel 36 [.slice A l c] = some x) (hL : Light Try.prog 36 x.1) :
    ∃ ds : List DC, ds.length = l ∧ DCs w.heap.size w A ds ∧ (∀ d ∈ ds, d.Ok) ∧ l ≤ 140737488355328 := by
  rcases open_slice Try.underlying36 h with ⟨hcs, _⟩ | ⟨a, len, cap, m, n, D, Pl, hcs, _, hl, hm, hmm, hx, hi⟩
  · simp at hcs
    obtain ⟨rfl, rfl, rfl⟩ := hcs
    exact ⟨[], rfl, fun i hi => absurd hi (Nat.not_lt_zero i), (fun d hd => by cases hd), by omega⟩
  · simp at hcs
    obtain ⟨rfl, rfl, rfl⟩ := hcs
    simp at hmm
    rw [hx] at hL
    have hlen := hL.len Try.underlying36
    rw [reach_eq] at hlen
    have hlb : l ≤ 140737488355328 := by
      have h4 : l * 1 ≤ (((List.range l).map D).length + ((List.range (m - l)).map fun j => D (l + j)).length) * Try.prog.bytesOf 41 := Nat.mul_le_mul (by simp) (of_decide_eq_true (by kernel_rfl))
      omega
    have hall : ∀ i, i < l → ∃ d : DC, d.Ok ∧ (∀ j v, d.vs[j]? = some v → w.cell? (a.add (i * 8 + j)) = some v) ∧ CIn w.heap.size w d.x.A d.x.ts.length d.x.cap d.x.ts ∧ a.block < w.heap.size := by
      intro i hil
      obtain ⟨cs', hc, ht⟩ := hi i (by omega)
      have hLi := hL.elem Try.underlying36 (d := D i) (List.mem_map.2 ⟨i, by simp; omega, rfl⟩)
      obtain ⟨d, hd, hok, hci⟩ := dc_of_cells ht hLi
      obtain ⟨_, hcl, hat⟩ := World.cells?_some hc
      have h8 : Try.prog.cellsOf 41 = 8 := by kernel_rfl
      rw [h8] at hat hcl
      have hcell : ∀ j v, d.vs[j]? = some v → w.cell? (a.add (i * 8 + j)) = some v := fun j v hv => by
        rw [hd] at hv
        have hj : j < 8 := by
          rcases Nat.lt_or_ge j 8 with q | q
          · exact q
          · rw [List.getElem?_eq_none (by omega)] at hv; cases hv
        rw [← add_of_add, hat j hj, hv]
      refine ⟨d, hok, hcell, hci, ?_⟩
      have := cell_lt (hcell 0 _ rfl)
      rwa [block_of_add] at this
    obtain ⟨ds, rfl, hds⟩ := list_of_alld DC.none l hall
    refine ⟨ds, rfl, fun i hi' => ?_, fun d hd => ?_, hlb⟩
    · obtain ⟨_, h1, h2, h3⟩ := hds i hi'
      exact ⟨a, rfl, h3, h1, h2⟩
    · obtain ⟨i, hil, rfl⟩ := List.getElem_of_mem hd
      have := (hds i hil).1
      rwa [List.getD_eq_getElem?_getD, List.getElem?_eq_getElem hil] at this
end Go.Proofs.Ytnagpaaiaaaamaa
