/- Contract: the reference's Split of any bytes that are no long packet's (8 bytes an id). Conditions: as each theorem states them. -/
import Derived.Test.YtlefnddhmpgijaaR10
namespace Go.Proofs.Ytlefnddhmpgijaa
open Go.RowKit
def splD (b : List Int) : List Int := match splitL b 8 with | none => [] | some p => p.dst
def RSplPost (b : List Int) (w : World) (e : Ending) (w' : World) : Prop :=
  ∃ (sp at_ fin : Int) (A As At : Option Addr) (n c ns cs nt ct : Nat), e = .returned (.tuple #[.agg #[.int .u8 sp, .slice A n c, .slice As ns cs, .slice At nt ct, .int .i64 at_, .int .i64 fin], .bool (splitL b 8).isSome]) ∧
    Rd w'.heap.size .u8 w' A (splD b) ∧ n = (splD b).length ∧ Below w.heap.size w w' ∧ ∀ ad : Addr, A = some ad → w.heap.size ≤ ad.block
theorem RSplPost.no {b : List Int} {w w' : World} (h : splitL b 8 = none) (hb : Below w.heap.size w w') : RSplPost b w (.returned (.tuple #[.agg #[.int .u8 0, .slice none 0 0, .slice none 0 0, .slice none 0 0, .int .i64 0, .int .i64 0], .bool false])) w' := by
  refine ⟨0, 0, 0, none, none, none, 0, 0, 0, 0, 0, 0, by rw [h]; rfl, ?_, ?_, hb, fun ad hA => by cases hA⟩
  · unfold splD; rw [h]; exact Rd.nil
  · unfold splD; rw [h]; rfl
theorem six_facts {w : World} {g : Nat} {t : TypeId} {c0 c1 c2 c3 c4 c5 : Value} (h : Blk w g t #[c0, c1, c2, c3, c4, c5]) :
    w.cell? ⟨g, 0, none⟩ = some c0 ∧ w.cell? ⟨g, 1, none⟩ = some c1 ∧ w.cell? ⟨g, 2, none⟩ = some c2 ∧ w.cell? ⟨g, 3, none⟩ = some c3 ∧ w.cell? ⟨g, 4, none⟩ = some c4 ∧ w.cell? ⟨g, 5, none⟩ = some c5 :=
  ⟨by rw [Blk.cell h]; rfl, by rw [Blk.cell h]; rfl, by rw [Blk.cell h]; rfl, by rw [Blk.cell h]; rfl, by rw [Blk.cell h]; rfl, by rw [Blk.cell h]; rfl⟩
theorem six_frozen {w : World} {g : Nat} {t : TypeId} {cs : Array Value} (h : Blk w g t cs) : w.frozen? ⟨g, 0, none⟩ = false ∧ w.frozen? ⟨g, 1, none⟩ = false ∧ w.frozen? ⟨g, 2, none⟩ = false ∧ w.frozen? ⟨g, 3, none⟩ = false ∧ w.frozen? ⟨g, 4, none⟩ = false ∧ w.frozen? ⟨g, 5, none⟩ = false :=
  ⟨Blk.frozen h 0, Blk.frozen h 1, Blk.frozen h 2, Blk.frozen h 3, Blk.frozen h 4, Blk.frozen h 5⟩
theorem results_p6 {w : World} {g : Nat} {c0 c1 c2 c3 c4 c5 : Value} {fn : Func} {x u : Tmp} {tmps : Array Value} (hr : fn.results = #[.cell x 41, .tmp u]) (hx : tmps.getD x undef = .pointer (some ⟨g, 0, none⟩)) (h : Blk w g 41 #[c0, c1, c2, c3, c4, c5]) :
    (results fn tmps).run Try.prog w = .ok (.tuple #[.agg #[c0, c1, c2, c3, c4, c5], tmps.getD u undef]) w := by
  obtain ⟨a0, a1, a2, a3, a4, a5⟩ := six_facts h
  have hx' : tmps[x]?.getD undef = .pointer (some ⟨g, 0, none⟩) := by simpa using hx
  simp [results, hr, hx', go_sem, a0, a1, a2, a3, a4, a5]
theorem Rd.two {B : Nat} {k : IntKind} {w : World} {A : Option Addr} {xs : List Int} (h : Rd B k w A xs) (hB : B ≤ w.heap.size) : Rd B k ((w.alloc (.cells #[.int .u8 0, .slice none 0 0, .slice none 0 0, .slice none 0 0, .int .i64 0, .int .i64 0] 41)).alloc (.cells #[.int .u8 0, .slice none 0 0, .slice none 0 0, .slice none 0 0, .int .i64 0, .int .i64 0] 41)) A xs := (h.alloc hB _).alloc (by simp; omega) _

def set6 (W : World) (g : Nat) (v0 v1 v2 v3 v4 v5 : Value) : World := (((((W.setCell ⟨g, 0, none⟩ v0).setCell ⟨g, 1, none⟩ v1).setCell ⟨g, 2, none⟩ v2).setCell ⟨g, 3, none⟩ v3).setCell ⟨g, 4, none⟩ v4).setCell ⟨g, 5, none⟩ v5
theorem set6_grown (W : World) (g : Nat) (v0 v1 v2 v3 v4 v5 : Value) : W.grownBy (set6 W g v0 v1 v2 v3 v4 v5) (some g) := by
  unfold set6
  have h0 : W.grownBy (W.setCell ⟨g, 0, none⟩ v0) (some g) := only_setCell (World.grownBy.refl W _) (.inl rfl) v0
  have h1 : W.grownBy ((W.setCell ⟨g, 0, none⟩ v0).setCell ⟨g, 1, none⟩ v1) (some g) := only_setCell h0 (.inl rfl) v1
  have h2 : W.grownBy (((W.setCell ⟨g, 0, none⟩ v0).setCell ⟨g, 1, none⟩ v1).setCell ⟨g, 2, none⟩ v2) (some g) := only_setCell h1 (.inl rfl) v2
  have h3 : W.grownBy ((((W.setCell ⟨g, 0, none⟩ v0).setCell ⟨g, 1, none⟩ v1).setCell ⟨g, 2, none⟩ v2).setCell ⟨g, 3, none⟩ v3) (some g) := only_setCell h2 (.inl rfl) v3
  have h4 : W.grownBy (((((W.setCell ⟨g, 0, none⟩ v0).setCell ⟨g, 1, none⟩ v1).setCell ⟨g, 2, none⟩ v2).setCell ⟨g, 3, none⟩ v3).setCell ⟨g, 4, none⟩ v4) (some g) := only_setCell h3 (.inl rfl) v4
  exact only_setCell h4 (.inl rfl) v5
theorem set6_blk {W : World} {g : Nat} {t : TypeId} {c0 c1 c2 c3 c4 c5 : Value} (h : Blk W g t #[c0, c1, c2, c3, c4, c5]) (v0 v1 v2 v3 v4 v5 : Value) : Blk (set6 W g v0 v1 v2 v3 v4 v5) g t #[v0, v1, v2, v3, v4, v5] :=
  Blk.cast ((((((h.set_ 0 _).set_ 1 _).set_ 2 _).set_ 3 _).set_ 4 _).set_ 5 _) (by simp)
set_option maxRecDepth 100000 in
set_option maxHeartbeats 4000000 in
theorem rsplit_no (A : Option Addr) (c : Nat) (b : List Int) (w : World) (hr : Rd w.heap.size .u8 w A b) (hb : Byt b) (hl : b.length ≤ 1000000000000)
    (hno : b.length = 0 ∨ b.getD 0 0 / 64 % 2 = 0) :
    Calls Try.prog 13 #[.slice A b.length c, .int .i64 8] w (RSplPost b w) := by
  have HN : Hid (splitL b 8 = none) := Lib.hid (by unfold splitL; rw [if_pos hno])
  rcases beq_ways (b.length : Int) 0 with ⟨h0, H0⟩ | ⟨h0, H0⟩
  · clear hr hb hno
    go_enter Try.func13, Try.ntmps13
    go_wp2_with fail
    refine bodyPost_ret (results_p6 rfl rfl (Blk.alloc (Blk.new _ _ _) _)) rfl (RSplPost.no HN.out ?_)
    exact ((Below.refl _ _).alloc (Nat.le_refl _) _).alloc (by simp) _
  · have h64 : b.getD 0 0 / 64 % 2 = 0 := hno.resolve_left (by have := H0.out; omega)
    have hpos : 0 < b.length := by have := H0.out; omega
    obtain ⟨ad, rfl, -⟩ := hr.isSome (by have := H0.out; omega)
    have m0 := (hr.two (Nat.le_refl _)).at0 (by have := H0.out; omega)
    have hy := hb.getD 0
    generalize b.getD 0 0 = y at *
    obtain ⟨y0, y1⟩ := hy
    clear hr hb hno
    go_enter Try.func13, Try.ntmps13
    go_wp2_with fail
    refine bodyPost_ret (results_p6 rfl rfl (Blk.alloc (Blk.new _ _ _) _)) rfl (RSplPost.no HN.out ?_)
    exact ((Below.refl _ _).alloc (Nat.le_refl _) _).alloc (by simp) _
set_option maxRecDepth 100000 in
set_option maxHeartbeats 4000000 in
theorem rsplit_short (A : Option Addr) (c : Nat) (b : List Int) (w : World) (hr : Rd w.heap.size .u8 w A b) (hb : Byt b) (hl : b.length ≤ 1000000000000) (hc : b.length ≤ c)
    (h1 : 0 < b.length) (h2 : b.getD 0 0 / 64 % 2 ≠ 0) (h3 : b.getD 0 0 < 128) :
    Calls Try.prog 13 #[.slice A b.length c, .int .i64 8] w (RSplPost b w) := by
  have HSP : splitL b 8 = if (b.length : Int) - 1 - 8 < 20 then none else some ⟨2, (b.drop 1).take 8, [], [], 9, b.length⟩ := by
    unfold splitL
    rw [if_neg (by omega), if_neg (by omega)]
    by_cases h : (b.length : Int) - 1 - 8 < 20
    · rw [if_pos (.inr (.inr h)), if_pos h]
    · rw [if_neg (by omega), if_neg h]; rfl
  have hz : ((b.length : Int) == 0) = false := by rw [beq_eq_false_iff_ne]; omega
  obtain ⟨ad, rfl, -⟩ := hr.isSome h1
  have r2 := hr.two (Nat.le_refl _)
  have m0 := r2.at0 h1
  have hy := hb.getD 0
  have h2' : (b.getD 0 0 / 64 % 2 == 0) = false := by rw [beq_eq_false_iff_ne]; exact h2
  by_cases h29 : b.length < 29
  · have HN : Hid (splitL b 8 = none) := Lib.hid (by rw [HSP, if_pos (by omega)])
    have h29' : (b.length : Int) < 29 := by omega
    generalize b.getD 0 0 = y at *
    obtain ⟨y0, y1⟩ := hy
    clear hr hb r2 HSP h2
    go_enter Try.func13, Try.ntmps13
    go_wp2_with fail
    refine bodyPost_ret (results_p6 rfl rfl (Blk.alloc (Blk.new _ _ _) _)) rfl (RSplPost.no HN.out ?_)
    exact ((Below.refl _ _).alloc (Nat.le_refl _) _).alloc (by simp) _
  · have HN : Hid (splitL b 8 = some ⟨2, (b.drop 1).take 8, [], [], 9, b.length⟩) := Lib.hid (by rw [HSP, if_neg (by omega)])
    have h29' : (29 : Int) ≤ (b.length : Int) := by omega
    generalize b.getD 0 0 = y at *
    obtain ⟨y0, y1⟩ := hy
    obtain ⟨A1, c1, k1, k2, r1, l1, s1⟩ := slice_lh elU8 r2 hc 1 9 8 (by omega) (by omega) (by omega) (by omega)
    have R1 := Lib.hid r1
    have L1 := Lib.hid l1
    have P0 := (Blk.new w 41 #[.int .u8 0, .slice none 0 0, .slice none 0 0, .slice none 0 0, .int .i64 0, .int .i64 0])
    have PP := Lib.hid (P0.alloc (.cells #[.int .u8 0, .slice none 0 0, .slice none 0 0, .slice none 0 0, .int .i64 0, .int .i64 0] 41))
    clear hr hb r2 HSP h2 r1 l1 P0
    go_enter Try.func13, Try.ntmps13
    go_wp2_with (at_builtin; refine wpList_app (o := ⟨some 47, _, _, _, _, _⟩) (B := w.heap.size + 2) elU8 rfl _ _ rfl rfl rfl (Own.litAt (xs := []) (by simp) rfl rfl (by simp) (by simp)) (R1.out.alloc (by simp; omega) _) L1.out.symm ?_ ?_ ?_; (have := L1.out; simp only [List.length_nil]; omega); (simp); intro A2 n2 c2 w2 h2'; have H2 := Lib.hid h2'.1; have B2 := Lib.hid (((Below.refl (w.heap.size + 2) _).alloc (by simp) _).trans h2'.2.2.1); have P2 := Lib.hid (PP.out.below B2.out (by omega)); obtain ⟨a0, a1, a2, a3, a4, a5⟩ := six_facts P2.out; obtain ⟨f0, f1, f2, f3, f4, f5⟩ := six_frozen P2.out; clear h2')
    clear a0 a1 a2 a3 a4 a5 f0 f1 f2 f3 f4 f5 m0
    rw [List.nil_append] at H2
    refine bodyPost_ret (results_p6 rfl rfl (set6_blk P2.out _ _ _ _ _ _)) rfl ?_
    refine ⟨2, 9, b.length, A2, none, none, n2, c2, 0, 0, 0, 0, by rw [HN.out]; rfl, ?_, ?_, ?_, fun ad hA => by have := (H2.out.block ad hA).1; omega⟩
    · unfold splD; rw [HN.out]
      exact (H2.out.kept (set6_grown _ _ _ _ _ _ _ _) (fun ad hA e => by have h1 := (H2.out.block ad hA).1; injection e with e; omega)).rd
    · unfold splD; rw [HN.out]; exact H2.out.len
    · exact ((((Below.refl _ _).alloc (Nat.le_refl _) _).alloc (by simp) _).trans (B2.out.mono (by omega))).grown (set6_grown w2 w.heap.size _ _ _ _ _ _) (by have := B2.out.size; simp at this; omega) (fun k e => by injection e with e; omega)
end Go.Proofs.Ytlefnddhmpgijaa
