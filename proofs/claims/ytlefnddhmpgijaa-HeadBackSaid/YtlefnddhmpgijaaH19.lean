/- Contract of the reference (layer 3): Same, of two heads that read alike. Conditions: as each theorem states them. -/
import Derived.Test.YtlefnddhmpgijaaH10
namespace Go.Proofs.Ytlefnddhmpgijaa
open Go.RowKit
/-- a head's value, whose parts read so -/
def HdV (w : World) (v : Value) (h : HD) : Prop := ∃ v1 v2 v3, v = .agg #[.int .u8 h.space, v1, v2, v3, .bool h.phase, .int .u64 h.pn, .int .i64 h.pb] ∧ Sl w v1 h.dst ∧ Sl w v2 h.src ∧ Sl w v3 h.tok
theorem HdV.below {w w' : World} {v : Value} {h : HD} (hv : HdV w v h) (hb : Below w.heap.size w w') : HdV w' v h := by
  obtain ⟨v1, v2, v3, e, s1, s2, s3⟩ := hv
  exact ⟨v1, v2, v3, e, s1.below hb, s2.below hb, s3.below hb⟩
set_option maxRecDepth 100000 in
theorem conv_sl {w : World} {A : Option Addr} {n c : Nat} {L : List Int} (h : Sl w (.slice A n c) L) : (convert 25 9 (.slice A n c)).run Try.prog w = .ok (.string (strOfNums L)) w := by
  obtain ⟨A', n', c', e, hn, hc, hr⟩ := h
  simp only [Value.slice.injEq] at e
  obtain ⟨rfl, rfl, rfl⟩ := e
  subst hn
  exact conv_rd elU8 Try.underlying9 hr c
theorem Sl.form {w : World} {v : Value} {L : List Int} (h : Sl w v L) : ∃ A n c, v = .slice A n c := by
  obtain ⟨A, n, c, e, _⟩ := h; exact ⟨A, n, c, e⟩
set_option maxRecDepth 100000 in
set_option maxHeartbeats 2000000 in
theorem same_yes (a b : Value) (h : HD) (w : World) (ha : HdV w a h) (hb : HdV w b h) : Calls Try.prog 30 #[a, b] w fun e w' => e = .returned (.bool true) ∧ Below w.heap.size w w' := by
  obtain ⟨a1, a2, a3, rfl, s1, s2, s3⟩ := ha
  obtain ⟨b1, b2, b3, rfl, t1, t2, t3⟩ := hb
  obtain ⟨A1, n1, c1, rfl⟩ := s1.form
  obtain ⟨A2, n2, c2, rfl⟩ := s2.form
  obtain ⟨A3, n3, c3, rfl⟩ := s3.form
  obtain ⟨B1, m1, d1, rfl⟩ := t1.form
  obtain ⟨B2, m2, d2, rfl⟩ := t2.form
  obtain ⟨B3, m3, d3, rfl⟩ := t3.form
  have hw : Below w.heap.size w ((w.alloc (.cells #[.int .u8 h.space, .slice A1 n1 c1, .slice A2 n2 c2, .slice A3 n3 c3, .bool h.phase, .int .u64 h.pn, .int .i64 h.pb] 59)).alloc (.cells #[.int .u8 h.space, .slice B1 m1 d1, .slice B2 m2 d2, .slice B3 m3 d3, .bool h.phase, .int .u64 h.pn, .int .i64 h.pb] 59)) := ((Below.refl _ _).alloc (Nat.le_refl _) _).alloc (by simp) _
  have k1 := conv_sl (s1.below hw)
  have k2 := conv_sl (s2.below hw)
  have k3 := conv_sl (s3.below hw)
  have l1 := conv_sl (t1.below hw)
  have l2 := conv_sl (t2.below hw)
  have l3 := conv_sl (t3.below hw)
  clear s1 s2 s3 t1 t2 t3
  generalize strOfNums h.dst = x1 at *
  generalize strOfNums h.src = x2 at *
  generalize strOfNums h.tok = x3 at *
  have HW := Lib.hid hw
  clear hw
  go_enter Try.func30, Try.ntmps30
  go_wp2_with fail
  go_ret
  exact ⟨rfl, HW.out⟩
end Go.Proofs.Ytlefnddhmpgijaa
