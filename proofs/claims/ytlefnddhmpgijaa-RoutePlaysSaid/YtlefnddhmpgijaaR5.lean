/- Contract: the law's known (layer 29). Conditions: as each theorem states them. -/
import Derived.Test.YtlefnddhmpgijaaR4
import Derived.Test.YtlefnddhmpgijaaMK
namespace Go.Proofs.Ytlefnddhmpgijaa
open Go.RowKit
def Z20 : List Int := List.replicate 20 0
theorem Z20_len : Z20.length = 20 := rfl
theorem Z20_byt : Byt Z20 := fun x hx => by rw [(List.mem_replicate.1 hx).2]; decide
theorem Z20_split : splitL Z20 8 = none := by kernel_rfl
theorem make20 (W : World) : (Instr.makeSlice 25 (.int .i64 20) (.int .i64 20)).run Try.prog W = .ok (.slice (some ⟨W.heap.size, 0, none⟩) 20 20) (W.alloc (.cells (Z20.map (Value.int .u8)).toArray 5)) := make_any elU8 20 (by omega) W
attribute [irreducible] Z20
def DG (A : Option Addr) (c : Nat) : Value := .agg #[.int .u32 0, .int .u32 0, .slice A 41 c]
theorem to_sh (g : Nat) (k : Bool) (e0 o : Int) (A : Option Addr) (c : Nat) (w : World) (h : RtSt g k e0 o w) (hr : Rd w.heap.size .u8 w A SHL) (hc : 41 ≤ c) (x : Bool) (hx : (k && procB o) = x) :
    Calls Try.prog 14 #[.pointer (some ⟨g, 0, none⟩), .agg #[.int .u32 0, .int .u32 0, .slice A 41 c]] w fun e w' => e = .returned (toV x o) ∧ Below w.heap.size w w' := by
  have hh := to_some g k e0 o 0 0 A c SHL w h hr SHL_byt (by rw [SHL_len]; exact hc) (by rw [SHL_len]; decide)
  rw [SHL_len, SHL_split, Bool.true_and, hx] at hh
  exact hh
theorem fwd_sh (g : Nat) (k : Bool) (e0 o fr : Int) (A : Option Addr) (c : Nat) (w : World) (h : RtSt g k e0 o w) (hr : Rd w.heap.size .u8 w A SHL) (hc : 41 ≤ c) (x : Bool) (hx : (k && (procB fr && (fr != o))) = x) :
    Calls Try.prog 15 #[.pointer (some ⟨g, 0, none⟩), .int .u8 fr, .agg #[.int .u32 0, .int .u32 0, .slice A 41 c]] w fun e w' => e = .returned (toV x o) ∧ Below w.heap.size w w' := by
  have hh := fwd_some g k e0 o fr 0 0 A c SHL w h hr SHL_byt (by rw [SHL_len]; exact hc) (by rw [SHL_len]; decide)
  rw [SHL_len, SHL_split, Bool.true_and, hx] at hh
  exact hh
theorem toz_sh (g : Nat) (k : Bool) (e0 o : Int) (A : Option Addr) (w : World) (h : RtSt g k e0 o w) (hr : Rd w.heap.size .u8 w A Z20) :
    Calls Try.prog 14 #[.pointer (some ⟨g, 0, none⟩), .agg #[.int .u32 0, .int .u32 0, .slice A 20 20]] w fun e w' => e = .returned (toV false o) ∧ Below w.heap.size w w' := by
  have hh := to_some g k e0 o 0 0 A 20 Z20 w h hr Z20_byt (by rw [Z20_len]; decide) (by rw [Z20_len]; decide)
  rw [Z20_len, Z20_split] at hh
  exact hh
theorem tonil_sh (A : Option Addr) (c : Nat) (w : World) (hr : Rd w.heap.size .u8 w A SHL) (hc : 41 ≤ c) :
    Calls Try.prog 14 #[.pointer none, .agg #[.int .u32 0, .int .u32 0, .slice A 41 c]] w fun e w' => e = .returned (.tuple #[.int .u8 0, .bool false]) ∧ Below w.heap.size w w' := by
  have hh := to_nil 0 0 A c SHL w hr SHL_byt (by rw [SHL_len]; exact hc) (by rw [SHL_len]; decide)
  rw [SHL_len] at hh
  exact hh
theorem fwdnil_sh (fr : Int) (A : Option Addr) (c : Nat) (w : World) (hr : Rd w.heap.size .u8 w A SHL) (hc : 41 ≤ c) :
    Calls Try.prog 15 #[.pointer none, .int .u8 fr, .agg #[.int .u32 0, .int .u32 0, .slice A 41 c]] w fun e w' => e = .returned (.tuple #[.int .u8 0, .bool false]) ∧ Below w.heap.size w w' := by
  have hh := fwd_nil fr 0 0 A c SHL w hr SHL_byt (by rw [SHL_len]; exact hc) (by rw [SHL_len]; decide)
  rw [SHL_len] at hh
  exact hh
theorem idnil_sh (A : Option Addr) (c : Nat) (w : World) (hr : Rd w.heap.size .u8 w A SHL) (hc : 41 ≤ c) :
    Calls Try.prog 12 #[.pointer none, .agg #[.int .u32 0, .int .u32 0, .slice A 41 c]] w fun e w' => e = .returned (.tuple #[.slice none 0 0, .bool false]) ∧ Below w.heap.size w w' := by
  have hh := id_nil 0 0 A c SHL w hr SHL_byt (by rw [SHL_len]; exact hc) (by rw [SHL_len]; decide)
  rw [SHL_len] at hh
  exact hh
set_option maxRecDepth 100000 in
set_option maxHeartbeats 4000000 in
theorem known29_any (w : World) : Calls Try.prog 8 #[] w fun e w' => e = .returned (.bool true) ∧ Below w.heap.size w w' := by
  have mk := make20
  go_enter Try.func8, Try.ntmps8
  go_wp2_with fail
  refine (rnew_any _).mono ?_
  rintro e w0 ⟨rfl, h0, b0, z0⟩
  have S0 := Lib.hid h0
  have B0 := Lib.hid b0
  have hg0 : w.heap.size < w0.heap.size := by omega
  clear h0 b0 z0
  go_wp2_with fail
  refine (short_any _).mono ?_
  rintro e w1 ⟨A1, c1, rfl, k1, r1, hb1⟩
  have S1 := Lib.hid (RtSt.below S0.out hb1 hg0)
  have B1 := Lib.hid (B0.out.trans (hb1.mono (Nat.le_of_lt hg0)))
  have hg1 : w.heap.size < w1.heap.size := Nat.lt_of_lt_of_le hg0 hb1.size
  clear hb1 S0 B0 hg0
  go_wp2_with fail
  refine (to_sh _ _ _ _ A1 c1 _ S1.out r1 k1 false rfl).mono ?_
  rintro e w2 ⟨rfl, hb2⟩
  unfold toV
  simp only [Bool.false_eq_true, if_false]
  clear r1 k1
  have S2 := Lib.hid (RtSt.below S1.out hb2 hg1)
  have B2 := Lib.hid (B1.out.trans (hb2.mono (Nat.le_of_lt hg1)))
  have hg2 : w.heap.size < w2.heap.size := Nat.lt_of_lt_of_le hg1 hb2.size
  clear hb2 S1 B1 hg1
  go_wp2_with fail
  refine (learn_yes _ _ _ _ _ _ _ S2.out rfl).mono ?_
  rintro e w3 ⟨rfl, s3, q3⟩
  have S3 := Lib.hid s3
  have B3 := Lib.hid (B2.out.grown q3 B2.out.size (fun k e => by injection e with e; omega))
  have hg3 : w.heap.size < w3.heap.size := Nat.lt_of_lt_of_le hg2 q3.size
  clear s3 q3 S2 B2 hg2
  go_wp2_with fail
  refine (short_any _).mono ?_
  rintro e w4 ⟨A4, c4, rfl, k4, r4, hb4⟩
  have S4 := Lib.hid (RtSt.below S3.out hb4 hg3)
  have B4 := Lib.hid (B3.out.trans (hb4.mono (Nat.le_of_lt hg3)))
  have hg4 : w.heap.size < w4.heap.size := Nat.lt_of_lt_of_le hg3 hb4.size
  clear hb4 S3 B3 hg3
  go_wp2_with fail
  refine (to_sh _ _ _ _ A4 c4 _ S4.out r4 k4 true rfl).mono ?_
  rintro e w5 ⟨rfl, hb5⟩
  unfold toV
  simp only [if_true]
  clear r4 k4
  have S5 := Lib.hid (RtSt.below S4.out hb5 hg4)
  have B5 := Lib.hid (B4.out.trans (hb5.mono (Nat.le_of_lt hg4)))
  have hg5 : w.heap.size < w5.heap.size := Nat.lt_of_lt_of_le hg4 hb5.size
  clear hb5 S4 B4 hg4
  go_wp2_with fail
  refine (learn_no _ _ _ _ _ _ _ S5.out rfl).mono ?_
  rintro e w99 ⟨rfl, rfl⟩
  go_wp2_with fail
  refine (owner_some _ _ _ _ _ S5.out).mono ?_
  rintro e w99 ⟨rfl, rfl⟩
  go_wp2_with fail
  refine (learn_yes _ _ _ _ _ _ _ S5.out rfl).mono ?_
  rintro e w6 ⟨rfl, s6, q6⟩
  have S6 := Lib.hid s6
  have B6 := Lib.hid (B5.out.grown q6 B5.out.size (fun k e => by injection e with e; omega))
  have hg6 : w.heap.size < w6.heap.size := Nat.lt_of_lt_of_le hg5 q6.size
  clear s6 q6 S5 B5 hg5
  go_wp2_with fail
  refine (short_any _).mono ?_
  rintro e w7 ⟨A7, c7, rfl, k7, r7, hb7⟩
  have S7 := Lib.hid (RtSt.below S6.out hb7 hg6)
  have B7 := Lib.hid (B6.out.trans (hb7.mono (Nat.le_of_lt hg6)))
  have hg7 : w.heap.size < w7.heap.size := Nat.lt_of_lt_of_le hg6 hb7.size
  clear hb7 S6 B6 hg6
  go_wp2_with fail
  refine (to_sh _ _ _ _ A7 c7 _ S7.out r7 k7 true rfl).mono ?_
  rintro e w8 ⟨rfl, hb8⟩
  unfold toV
  simp only [if_true]
  clear r7 k7
  have S8 := Lib.hid (RtSt.below S7.out hb8 hg7)
  have B8 := Lib.hid (B7.out.trans (hb8.mono (Nat.le_of_lt hg7)))
  have hg8 : w.heap.size < w8.heap.size := Nat.lt_of_lt_of_le hg7 hb8.size
  clear hb8 S7 B7 hg7
  go_wp2_with fail
  refine (epoch_some _ _ _ _ _ S8.out).mono ?_
  rintro e w99 ⟨rfl, rfl⟩
  go_wp2_with fail
  refine (short_any _).mono ?_
  rintro e w9 ⟨A9, c9, rfl, k9, r9, hb9⟩
  have S9 := Lib.hid (RtSt.below S8.out hb9 hg8)
  have B9 := Lib.hid (B8.out.trans (hb9.mono (Nat.le_of_lt hg8)))
  have hg9 : w.heap.size < w9.heap.size := Nat.lt_of_lt_of_le hg8 hb9.size
  clear hb9 S8 B8 hg8
  go_wp2_with fail
  refine (fwd_sh _ _ _ _ 2 A9 c9 _ S9.out r9 k9 true rfl).mono ?_
  rintro e w10 ⟨rfl, hb10⟩
  unfold toV
  simp only [if_true]
  clear r9 k9
  have S10 := Lib.hid (RtSt.below S9.out hb10 hg9)
  have B10 := Lib.hid (B9.out.trans (hb10.mono (Nat.le_of_lt hg9)))
  have hg10 : w.heap.size < w10.heap.size := Nat.lt_of_lt_of_le hg9 hb10.size
  clear hb10 S9 B9 hg9
  go_wp2_with fail
  refine (short_any _).mono ?_
  rintro e w11 ⟨A11, c11, rfl, k11, r11, hb11⟩
  have S11 := Lib.hid (RtSt.below S10.out hb11 hg10)
  have B11 := Lib.hid (B10.out.trans (hb11.mono (Nat.le_of_lt hg10)))
  have hg11 : w.heap.size < w11.heap.size := Nat.lt_of_lt_of_le hg10 hb11.size
  clear hb11 S10 B10 hg10
  go_wp2_with fail
  refine (fwd_sh _ _ _ _ 1 A11 c11 _ S11.out r11 k11 false rfl).mono ?_
  rintro e w12 ⟨rfl, hb12⟩
  unfold toV
  simp only [Bool.false_eq_true, if_false]
  clear r11 k11
  have S12 := Lib.hid (RtSt.below S11.out hb12 hg11)
  have B12 := Lib.hid (B11.out.trans (hb12.mono (Nat.le_of_lt hg11)))
  have hg12 : w.heap.size < w12.heap.size := Nat.lt_of_lt_of_le hg11 hb12.size
  clear hb12 S11 B11 hg11
  go_wp2_with fail
  refine (toz_sh _ _ _ _ _ _ (RtSt.alloc S12.out _) ((Rd.newAt (xs := Z20) rfl rfl).mono (by simp))).mono ?_
  rintro e w13 ⟨rfl, hb13⟩
  unfold toV
  simp only [Bool.false_eq_true, if_false]
  have S13 := Lib.hid (RtSt.below (RtSt.alloc S12.out _) hb13 (by simp; omega))
  have B13 := Lib.hid ((B12.out.alloc (Nat.le_of_lt hg12) _).trans (hb13.mono (by simp; omega)))
  have hg13 : w.heap.size < w13.heap.size := by have := hb13.size; simp at this; omega
  clear hb13 S12 B12 hg12
  go_wp2_with fail
  refine (short_any _).mono ?_
  rintro e w14 ⟨A14, c14, rfl, k14, r14, hb14⟩
  have S14 := Lib.hid (RtSt.below S13.out hb14 hg13)
  have B14 := Lib.hid (B13.out.trans (hb14.mono (Nat.le_of_lt hg13)))
  have hg14 : w.heap.size < w14.heap.size := Nat.lt_of_lt_of_le hg13 hb14.size
  clear hb14 S13 B13 hg13
  go_wp2_with fail
  refine (tonil_sh A14 c14 _ r14 k14).mono ?_
  rintro e w15 ⟨rfl, hb15⟩
  clear r14 k14
  have S15 := Lib.hid (RtSt.below S14.out hb15 hg14)
  have B15 := Lib.hid (B14.out.trans (hb15.mono (Nat.le_of_lt hg14)))
  have hg15 : w.heap.size < w15.heap.size := Nat.lt_of_lt_of_le hg14 hb15.size
  clear hb15 S14 B14 hg14
  go_wp2_with fail
  refine (short_any _).mono ?_
  rintro e w16 ⟨A16, c16, rfl, k16, r16, hb16⟩
  have S16 := Lib.hid (RtSt.below S15.out hb16 hg15)
  have B16 := Lib.hid (B15.out.trans (hb16.mono (Nat.le_of_lt hg15)))
  have hg16 : w.heap.size < w16.heap.size := Nat.lt_of_lt_of_le hg15 hb16.size
  clear hb16 S15 B15 hg15
  go_wp2_with fail
  refine (fwdnil_sh 1 A16 c16 _ r16 k16).mono ?_
  rintro e w17 ⟨rfl, hb17⟩
  clear r16 k16
  have S17 := Lib.hid (RtSt.below S16.out hb17 hg16)
  have B17 := Lib.hid (B16.out.trans (hb17.mono (Nat.le_of_lt hg16)))
  have hg17 : w.heap.size < w17.heap.size := Nat.lt_of_lt_of_le hg16 hb17.size
  clear hb17 S16 B16 hg16
  go_wp2_with fail
  refine (short_any _).mono ?_
  rintro e w18 ⟨A18, c18, rfl, k18, r18, hb18⟩
  have S18 := Lib.hid (RtSt.below S17.out hb18 hg17)
  have B18 := Lib.hid (B17.out.trans (hb18.mono (Nat.le_of_lt hg17)))
  have hg18 : w.heap.size < w18.heap.size := Nat.lt_of_lt_of_le hg17 hb18.size
  clear hb18 S17 B17 hg17
  go_wp2_with fail
  refine (idnil_sh A18 c18 _ r18 k18).mono ?_
  rintro e w19 ⟨rfl, hb19⟩
  clear r18 k18
  have S19 := Lib.hid (RtSt.below S18.out hb19 hg18)
  have B19 := Lib.hid (B18.out.trans (hb19.mono (Nat.le_of_lt hg18)))
  have hg19 : w.heap.size < w19.heap.size := Nat.lt_of_lt_of_le hg18 hb19.size
  clear hb19 S18 B18 hg18
  go_wp2_with fail
  refine (learn_nil _ _ _).mono ?_
  rintro e w99 ⟨rfl, rfl⟩
  go_wp2_with fail
  refine (owner_nil _).mono ?_
  rintro e w99 ⟨rfl, rfl⟩
  go_wp2_with fail
  refine (epoch_nil _).mono ?_
  rintro e w99 ⟨rfl, rfl⟩
  go_wp2_with fail
  go_ret
  exact ⟨rfl, B19.out⟩
end Go.Proofs.Ytlefnddhmpgijaa
