/- Layer 33: contract of Take, of bytes that are no packet. Conditions: as each theorem states them. -/
import Derived.Test.YtieabfifaigjdaaF17
import Derived.Test.YtieabfifaigjdaaF22
namespace Go.Proofs.Ytieabfifaigjdaa
open Go.RowKit
def TkNo (w : World) (e : Ending) (w' : World) : Prop := e = .returned (.tuple #[.agg #[.slice none 0 0, .slice none 0 0, .slice none 0 0], .int .i64 2]) ∧ Below w.heap.size w w'
attribute [local irreducible] tagP gsealL
set_option maxRecDepth 100000 in
set_option maxHeartbeats 8000000 in
theorem take_short (A1 A2 : Option Addr) (n1 n2 c1 c2 : Nat) (w : World) (h : n1 < 23) :
    Calls Try.prog 11 #[.slice A1 n1 c1, .slice A2 n2 c2] w (TkNo w) := by
  have d7 : decide ((n1 : Int) - 16 < 7) = true := decide_eq_true (by omega)
  have B0 := Lib.hid ((Below.refl w.heap.size w).alloc (Nat.le_refl _) (.cells #[.slice none 0 0, .slice none 0 0, .slice none 0 0] 24))
  have Z0 : Hid (Blk (w.alloc (.cells #[.slice none 0 0, .slice none 0 0, .slice none 0 0] 24)) w.heap.size 24 #[.slice none 0 0, .slice none 0 0, .slice none 0 0]) := Lib.hid (Blk.new _ _ _)
  go_enter Try.func11, Try.ntmps11
  go_wp2_with (refine wpList_storeBlk (g := w.heap.size) (t := 24) (vs := [.slice none 0 0, .slice none 0 0, .slice none 0 0]) rfl _ _ rfl rfl rfl Z0.out rfl (one3 rfl rfl rfl) size3p ?_; intro wa ka ga; have KA := Lib.hid ka; have GA := Lib.hid ga; clear ka ga)
  have BA := B0.out.trans (below_of_only GA.out (Nat.le_refl _) B0.out.size)
  exact bodyPost_ret (results_pk rfl rfl KA.out) rfl ⟨rfl, BA⟩
set_option maxRecDepth 100000 in
set_option maxHeartbeats 8000000 in
theorem take_first (A1 A2 : Option Addr) (n1 n2 c1 c2 : Nat) (b : List Int) (w : World) (hn1 : b.length = n1) (hr1 : Rd w.heap.size .u8 w A1 b) (hb1 : Byt b) (h : 23 ≤ n1) (hl1 : n1 ≤ 1000) (hc1 : n1 ≤ c1) (q0 : b.getD 0 0 / 16 ≠ 15) :
    Calls Try.prog 11 #[.slice A1 n1 c1, .slice A2 n2 c2] w (TkNo w) := by
  have HL23 : 23 ≤ n1 := by omega
  rw [← hn1] at hc1
  obtain ⟨B1, e1, s11, s12, s13, s14, s15⟩ := slice_lh elC hr1 hc1 1 5 4 (by decide) (by decide) (by omega) (by decide)
  have z1 : (1 : Int).toNat = 1 := rfl
  rw [z1] at s13 s14
  rw [hn1] at s15 hc1
  obtain ⟨x0, hx0⟩ : ∃ z, b.getD 0 0 = z := ⟨_, rfl⟩
  rw [hx0] at q0
  have hxb := hb1.getD 0
  rw [hx0] at hxb
  obtain ⟨ad, hA, hlt, hcell⟩ := hr1 0 (by omega)
  rw [hx0] at hcell
  have B0 := Lib.hid ((Below.refl w.heap.size w).alloc (Nat.le_refl _) (.cells #[.slice none 0 0, .slice none 0 0, .slice none 0 0] 24))
  have Z0 : Hid (Blk (w.alloc (.cells #[.slice none 0 0, .slice none 0 0, .slice none 0 0] 24)) w.heap.size 24 #[.slice none 0 0, .slice none 0 0, .slice none 0 0]) := Lib.hid (Blk.new _ _ _)
  have c0 : (w.alloc (.cells #[.slice none 0 0, .slice none 0 0, .slice none 0 0] 24)).cell? ad = some (.int .u8 x0) := by
    have h := Below.cell_some B0.out hcell (by rw [block_of_add]; exact hlt)
    simpa [Addr.add] using h
  obtain ⟨hx1, hx2⟩ := hxb
  have d7 : decide ((n1 : Int) - 16 < 7) = false := decide_eq_false (by omega)
  have HB1 := Lib.hid hb1
  have L1 := Lib.hid s14
  have M1 := Lib.hid s13
  subst hA
  clear hr1 hb1 hn1 s13 s14 hx0 hcell z1
  have q2 : (x0 / 16 != 15) = true := by rw [bne_iff_ne]; exact q0
  have q3 : (x0 / 16 == 15) = false := by rw [beq_eq_false_iff_ne]; exact q0
  go_enter Try.func11, Try.ntmps11
  go_wp2_with (refine wpList_storeBlk (g := w.heap.size) (t := 24) (vs := [.slice none 0 0, .slice none 0 0, .slice none 0 0]) rfl _ _ rfl rfl rfl Z0.out rfl (one3 rfl rfl rfl) size3p ?_; intro wa ka ga; have KA := Lib.hid ka; have GA := Lib.hid ga; clear ka ga)
  have BA := B0.out.trans (below_of_only GA.out (Nat.le_refl _) B0.out.size)
  exact bodyPost_ret (results_pk rfl rfl KA.out) rfl ⟨rfl, BA⟩
set_option maxRecDepth 100000 in
set_option maxHeartbeats 8000000 in
theorem take_ver (A1 A2 : Option Addr) (n1 n2 c1 c2 : Nat) (b : List Int) (w : World) (hn1 : b.length = n1) (hr1 : Rd w.heap.size .u8 w A1 b) (hb1 : Byt b) (h : 23 ≤ n1) (hl1 : n1 ≤ 1000) (hc1 : n1 ≤ c1) (q0 : b.getD 0 0 / 16 = 15) (q1 : ofF 0 ((b.drop 1).take 4) ≠ 1) :
    Calls Try.prog 11 #[.slice A1 n1 c1, .slice A2 n2 c2] w (TkNo w) := by
  have HL23 : 23 ≤ n1 := by omega
  rw [← hn1] at hc1
  obtain ⟨B1, e1, s11, s12, s13, s14, s15⟩ := slice_lh elC hr1 hc1 1 5 4 (by decide) (by decide) (by omega) (by decide)
  have z1 : (1 : Int).toNat = 1 := rfl
  rw [z1] at s13 s14
  rw [hn1] at s15 hc1
  obtain ⟨x0, hx0⟩ : ∃ z, b.getD 0 0 = z := ⟨_, rfl⟩
  rw [hx0] at q0
  have hxb := hb1.getD 0
  rw [hx0] at hxb
  obtain ⟨ad, hA, hlt, hcell⟩ := hr1 0 (by omega)
  rw [hx0] at hcell
  have B0 := Lib.hid ((Below.refl w.heap.size w).alloc (Nat.le_refl _) (.cells #[.slice none 0 0, .slice none 0 0, .slice none 0 0] 24))
  have Z0 : Hid (Blk (w.alloc (.cells #[.slice none 0 0, .slice none 0 0, .slice none 0 0] 24)) w.heap.size 24 #[.slice none 0 0, .slice none 0 0, .slice none 0 0]) := Lib.hid (Blk.new _ _ _)
  have c0 : (w.alloc (.cells #[.slice none 0 0, .slice none 0 0, .slice none 0 0] 24)).cell? ad = some (.int .u8 x0) := by
    have h := Below.cell_some B0.out hcell (by rw [block_of_add]; exact hlt)
    simpa [Addr.add] using h
  obtain ⟨hx1, hx2⟩ := hxb
  have d7 : decide ((n1 : Int) - 16 < 7) = false := decide_eq_false (by omega)
  have HB1 := Lib.hid hb1
  have L1 := Lib.hid s14
  have M1 := Lib.hid s13
  subst hA
  clear hr1 hb1 hn1 s13 s14 hx0 hcell z1
  have q2 : (x0 / 16 != 15) = false := by rw [bne_eq_false_iff_eq]; exact q0
  have q3 : (x0 / 16 == 15) = true := by rw [beq_iff_eq]; exact q0
  obtain ⟨v, hv⟩ : ∃ z, ofF 0 ((b.drop 1).take 4) = z := ⟨_, rfl⟩
  rw [hv] at q1
  have v2 : (v != 1) = true := by rw [bne_iff_ne]; exact q1
  have v3 : (v == 1) = false := by rw [beq_eq_false_iff_ne]; exact q1
  have HV := Lib.hid hv
  clear hv
  go_enter Try.func11, Try.ntmps11
  go_wp2_with fail
  generalize w.alloc (.cells #[.slice none 0 0, .slice none 0 0, .slice none 0 0] 24) = w0 at *
  refine Calls.mono (of_any B1 4 e1 _ w0 L1.out (M1.out.below B0.out (Nat.le_refl _) |>.mono B0.out.size) ((HB1.out.drop _).take _) (by decide)) ?_
  rw [HV.out]
  rintro e wx ⟨rfl, rfl⟩
  go_wp2_with (refine wpList_storeBlk (g := w.heap.size) (t := 24) (vs := [.slice none 0 0, .slice none 0 0, .slice none 0 0]) rfl _ _ rfl rfl rfl Z0.out rfl (one3 rfl rfl rfl) size3p ?_; intro wa ka ga; have KA := Lib.hid ka; have GA := Lib.hid ga; clear ka ga)
  have BA := B0.out.trans (below_of_only GA.out (Nat.le_refl _) B0.out.size)
  exact bodyPost_ret (results_pk rfl rfl KA.out) rfl ⟨rfl, BA⟩
set_option maxRecDepth 100000 in
set_option maxHeartbeats 8000000 in
theorem take_long (A1 A2 : Option Addr) (n1 n2 c1 c2 : Nat) (b : List Int) (w : World) (hn1 : b.length = n1) (hr1 : Rd w.heap.size .u8 w A1 b) (hb1 : Byt b) (h : 23 ≤ n1) (hl1 : n1 ≤ 1000) (hc1 : n1 ≤ c1) (q0 : b.getD 0 0 / 16 = 15) (q1 : ofF 0 ((b.drop 1).take 4) = 1) (h2 : 20 < n2) :
    Calls Try.prog 11 #[.slice A1 n1 c1, .slice A2 n2 c2] w (TkNo w) := by
  have HL23 : 23 ≤ n1 := by omega
  rw [← hn1] at hc1
  obtain ⟨B1, e1, s11, s12, s13, s14, s15⟩ := slice_lh elC hr1 hc1 1 5 4 (by decide) (by decide) (by omega) (by decide)
  have z1 : (1 : Int).toNat = 1 := rfl
  rw [z1] at s13 s14
  rw [hn1] at s15 hc1
  obtain ⟨x0, hx0⟩ : ∃ z, b.getD 0 0 = z := ⟨_, rfl⟩
  rw [hx0] at q0
  have hxb := hb1.getD 0
  rw [hx0] at hxb
  obtain ⟨ad, hA, hlt, hcell⟩ := hr1 0 (by omega)
  rw [hx0] at hcell
  have B0 := Lib.hid ((Below.refl w.heap.size w).alloc (Nat.le_refl _) (.cells #[.slice none 0 0, .slice none 0 0, .slice none 0 0] 24))
  have Z0 : Hid (Blk (w.alloc (.cells #[.slice none 0 0, .slice none 0 0, .slice none 0 0] 24)) w.heap.size 24 #[.slice none 0 0, .slice none 0 0, .slice none 0 0]) := Lib.hid (Blk.new _ _ _)
  have c0 : (w.alloc (.cells #[.slice none 0 0, .slice none 0 0, .slice none 0 0] 24)).cell? ad = some (.int .u8 x0) := by
    have h := Below.cell_some B0.out hcell (by rw [block_of_add]; exact hlt)
    simpa [Addr.add] using h
  obtain ⟨hx1, hx2⟩ := hxb
  have d7 : decide ((n1 : Int) - 16 < 7) = false := decide_eq_false (by omega)
  have HB1 := Lib.hid hb1
  have L1 := Lib.hid s14
  have M1 := Lib.hid s13
  subst hA
  clear hr1 hb1 hn1 s13 s14 hx0 hcell z1
  have q2 : (x0 / 16 != 15) = false := by rw [bne_eq_false_iff_eq]; exact q0
  have q3 : (x0 / 16 == 15) = true := by rw [beq_iff_eq]; exact q0
  have d20 : decide ((20 : Int) < (n2 : Int)) = true := decide_eq_true (by omega)
  have Q1 := Lib.hid q1
  clear q1
  go_enter Try.func11, Try.ntmps11
  go_wp2_with fail
  generalize w.alloc (.cells #[.slice none 0 0, .slice none 0 0, .slice none 0 0] 24) = w0 at *
  refine Calls.mono (of_any B1 4 e1 _ w0 L1.out (M1.out.below B0.out (Nat.le_refl _) |>.mono B0.out.size) ((HB1.out.drop _).take _) (by decide)) ?_
  rw [Q1.out]
  rintro e wx ⟨rfl, rfl⟩
  go_wp2_with (refine wpList_storeBlk (g := w.heap.size) (t := 24) (vs := [.slice none 0 0, .slice none 0 0, .slice none 0 0]) rfl _ _ rfl rfl rfl Z0.out rfl (one3 rfl rfl rfl) size3p ?_; intro wa ka ga; have KA := Lib.hid ka; have GA := Lib.hid ga; clear ka ga)
  have BA := B0.out.trans (below_of_only GA.out (Nat.le_refl _) B0.out.size)
  exact bodyPost_ret (results_pk rfl rfl KA.out) rfl ⟨rfl, BA⟩
end Go.Proofs.Ytieabfifaigjdaa
