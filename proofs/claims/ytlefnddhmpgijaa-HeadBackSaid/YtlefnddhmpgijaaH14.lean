/- Structs of seven fields, opened to cells; heads of packets as arguments. Conditions: as each theorem states them. -/
import Derived.Test.YtlefnddhmpgijaaBO
import Derived.Test.YtlefnddhmpgijaaH13
namespace Go.Proofs.Ytlefnddhmpgijaa
open Go.Joins Go.ChangeShapes Go.WideShapes Go.RowKit Go.Deep
section
variable {H : Type} {enc : TypeId × Value → H} {P : Program} {w : World} {base : Nat} {spare : Nat → Bool} {held : Bool}
theorem open_agg7 {r : Reach} {b0 : Nat} {t : TypeId} {f0 f1 f2 f3 f4 f5 f6 : Field} {v : Value} {d : DataW H} {p : List MemPlace} (hs : P.underlying t = some (.struct #[f0, f1, f2, f3, f4, f5, f6])) (hone : oneCellFields P #[f0, f1, f2, f3, f4, f5, f6] = true) (hC : P.cellsOf t = 7)
    (hv : Value.okWide P w r b0 t v) (h : DataW.Trod enc P w base spare held t v d p) :
    ∃ (v0 v1 v2 v3 v4 v5 v6 : Value) (y0 y1 y2 y3 y4 y5 y6 : DataW H × List MemPlace) (n : Nat), v = .agg #[v0, v1, v2, v3, v4, v5, v6] ∧ d = .agg [y0.1, y1.1, y2.1, y3.1, y4.1, y5.1, y6.1] ∧
      DataW.trod enc P w base spare held n f0.type [v0] = some y0 ∧ DataW.trod enc P w base spare held n f1.type [v1] = some y1 ∧ DataW.trod enc P w base spare held n f2.type [v2] = some y2 ∧ DataW.trod enc P w base spare held n f3.type [v3] = some y3 ∧ DataW.trod enc P w base spare held n f4.type [v4] = some y4 ∧ DataW.trod enc P w base spare held n f5.type [v5] = some y5 ∧ DataW.trod enc P w base spare held n f6.type [v6] = some y6 := by
  obtain ⟨cs, rfl, hsz⟩ := okWide_struct hs hv
  obtain ⟨l⟩ := cs
  match l, hsz.trans hC with
  | [c0, c1, c2, c3, c4, c5, c6], _ =>
    obtain ⟨fuel, hf⟩ := h
    obtain ⟨xs, n, _, hx, _, hlen, hg⟩ := DataW.trod_struct hs hf
    obtain ⟨o0, k0⟩ := hone_of hone 0 f0 rfl
    obtain ⟨o1, k1⟩ := hone_of hone 1 f1 rfl
    obtain ⟨o2, k2⟩ := hone_of hone 2 f2 rfl
    obtain ⟨o3, k3⟩ := hone_of hone 3 f3 rfl
    obtain ⟨o4, k4⟩ := hone_of hone 4 f4 rfl
    obtain ⟨o5, k5⟩ := hone_of hone 5 f5 rfl
    obtain ⟨o6, k6⟩ := hone_of hone 6 f6 rfl
    match xs, hlen with
    | [y0, y1, y2, y3, y4, y5, y6], _ =>
      simp only [Prod.mk.injEq] at hx
      exact ⟨c0, c1, c2, c3, c4, c5, c6, y0, y1, y2, y3, y4, y5, y6, n, rfl, by simpa using hx.1, by simpa [Value.cells, o0, k0] using hg 0 f0 rfl, by simpa [Value.cells, o1, k1] using hg 1 f1 rfl, by simpa [Value.cells, o2, k2] using hg 2 f2 rfl, by simpa [Value.cells, o3, k3] using hg 3 f3 rfl, by simpa [Value.cells, o4, k4] using hg 4 f4 rfl, by simpa [Value.cells, o5, k5] using hg 5 f5 rfl, by simpa [Value.cells, o6, k6] using hg 6 f6 rfl⟩
end
/-- a head that is handed in -/
structure HeadIn (w : World) (v : Value) (h : HD) (A1 : Option Addr) (c1 : Nat) (A2 : Option Addr) (c2 : Nat) (A3 : Option Addr) (c3 : Nat) : Prop where
  val : v = .agg (HV h A1 c1 A2 c2 A3 c3)
  fit : h.Fit
  r1 : Rd w.heap.size .u8 w A1 h.dst
  r2 : Rd w.heap.size .u8 w A2 h.src
  r3 : Rd w.heap.size .u8 w A3 h.tok
  k1 : h.dst.length ≤ c1
  k2 : h.src.length ≤ c2
  k3 : h.tok.length ≤ c3
  l1 : h.dst.length ≤ 140737488351232
  l2 : h.src.length ≤ 140737488351232
  l3 : h.tok.length ≤ 140737488351232
  pb0 : -9223372036854775808 ≤ h.pb
  pb1 : h.pb ≤ 9223372036854775807
set_option maxRecDepth 100000 in
theorem head_open {H : Type} {enc : TypeId × Value → H} {w : World} {base : Nat} {held : Bool} {r : Reach} {b0 : Nat} {v : Value} {d : DataW H} {p : List MemPlace} (hv : Value.okWide Try.prog w r b0 59 v)
    (h : DataW.Trod enc Try.prog w base (fun _ => true) held 59 v d p) (hL : Light Try.prog 59 d) : ∃ hd A1 c1 A2 c2 A3 c3, HeadIn w v hd A1 c1 A2 c2 A3 c3 := by
  obtain ⟨u0, u1, u2, u3, u4, u5, u6, y0, y1, y2, y3, y4, y5, y6, n, rfl, rfl, t0, t1, t2, t3, t4, t5, t6⟩ := open_agg7 Try.underlying59 (by kernel_rfl) (by kernel_rfl) hv h
  obtain ⟨sp, e0, _, w0⟩ := DataW.trod_int Try.underlying5 t0
  obtain ⟨A1, c1, d1, rfl, q1, m1, x1, z1⟩ := rd_of_trod Try.underlying25 Try.underlying5 (by kernel_rfl) (of_decide_eq_true (by kernel_rfl)) t1 (hL.field (j := 1) Try.underlying59 rfl rfl)
  obtain ⟨A2, c2, d2, rfl, q2, m2, x2, z2⟩ := rd_of_trod Try.underlying25 Try.underlying5 (by kernel_rfl) (of_decide_eq_true (by kernel_rfl)) t2 (hL.field (j := 2) Try.underlying59 rfl rfl)
  obtain ⟨A3, c3, d3, rfl, q3, m3, x3, z3⟩ := rd_of_trod Try.underlying25 Try.underlying5 (by kernel_rfl) (of_decide_eq_true (by kernel_rfl)) t3 (hL.field (j := 3) Try.underlying59 rfl rfl)
  obtain ⟨ph, e4, _⟩ := DataW.trod_bool Try.underlying4 t4
  obtain ⟨pn, e5, _, w5⟩ := DataW.trod_int Try.underlying24 t5
  obtain ⟨pb, e6, _, w6⟩ := DataW.trod_int Try.underlying3 t6
  simp only [List.cons.injEq, and_true] at e0 e4 e5 e6
  subst e0
  subst e4
  subst e5
  subst e6
  have b0 := bounds_u8 w0
  have b5 := bounds_u64 w5
  have b6 := bounds_i64 w6
  exact ⟨⟨sp, d1, d2, d3, ph, pn, pb⟩, A1, c1, A2, c2, A3, c3, rfl, ⟨by simp only; omega, by simp only; omega, byt_wf x1, byt_wf x2, byt_wf x3, by simp only; omega, by simp only; omega⟩, q1, q2, q3, m1, m2, m3, z1, z2, z3, by simp only; omega, by simp only; omega⟩
end Go.Proofs.Ytlefnddhmpgijaa
