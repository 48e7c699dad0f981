/- The cipher of layer 8 as plain functions on lists of bytes; the byte's other one, its inverse, the reference's products. Conditions: as each theorem states them. -/
import Derived.Test.YtepkbllcaeceeaaB
import Derived.Test.YtepkbllcaeceeaaN
namespace Go.Proofs.Ytepkbllcaeceeaa
open Go.RowKit

def xb (a b : Int) : Int := bits .xor .u8 a b
def B8 (x : Int) : Prop := 0 ≤ x ∧ x < 256
theorem xb_u (a b : Int) : B8 (xb a b) := by have h1 := bits_lo_u8 .xor a b; have h2 := bits_hi_u8 .xor a b; unfold B8 xb; omega
theorem xb_nat {a b : Int} (ha : B8 a) (hb : B8 b) : xb a b = ((a.toNat ^^^ b.toNat : Nat) : Int) := bits_xor_u8' a b ha.1 ha.2 hb.1 hb.2
theorem xb_comm {a b : Int} (ha : B8 a) (hb : B8 b) : xb a b = xb b a := by rw [xb_nat ha hb, xb_nat hb ha, Nat.xor_comm]
theorem xb_assoc {a b c : Int} (ha : B8 a) (hb : B8 b) (hc : B8 c) : xb (xb a b) c = xb a (xb b c) := by
  rw [xb_nat (xb_u a b) hc, xb_nat ha (xb_u b c), xb_nat ha hb, xb_nat hb hc, Int.toNat_natCast, Int.toNat_natCast, Nat.xor_assoc]
theorem xb_self {a : Int} (ha : B8 a) : xb a a = 0 := by rw [xb_nat ha ha, Nat.xor_self]; rfl
theorem xb_zero {a : Int} (ha : B8 a) : xb a 0 = a := by rw [xb_nat ha ⟨by decide, by decide⟩]; show ((a.toNat ^^^ 0 : Nat) : Int) = a; rw [Nat.xor_zero, Int.toNat_of_nonneg ha.1]
theorem xb_cancel {a b : Int} (ha : B8 a) (hb : B8 b) : xb (xb a b) b = a := by rw [xb_assoc ha hb hb, xb_self hb, xb_zero ha]
theorem xb_inj {a b c : Int} (ha : B8 a) (hb : B8 b) (hc : B8 c) (h : xb a c = xb b c) : a = b := by rw [← xb_cancel ha hc, h, xb_cancel hb hc]
/-- twice -/
def tw (b : Int) : Int := if 128 ≤ b then xb (2 * b % 256) 27 else 2 * b
theorem tw_u {b : Int} (h : B8 b) : B8 (tw b) := by
  unfold tw
  split
  · exact xb_u _ _
  · unfold B8 at *; omega
/-- all bytes -/
def allE : List Int := (List.range 256).map fun i : Nat => (i : Int)
theorem allE_mem {b : Int} (h : B8 b) : b ∈ allE := by
  unfold B8 at h
  exact List.mem_map.2 ⟨b.toNat, List.mem_range.2 (by omega), by omega⟩
theorem tw_bits : (allE.all fun a => (List.range 8).all fun i => tw (xb a (2 ^ i : Nat)) == xb (tw a) (tw (2 ^ i : Nat))) = true := by decide +kernel
theorem tw_lin1 {a : Int} (ha : B8 a) {i : Nat} (hi : i < 8) : tw (xb a ((2 ^ i : Nat) : Int)) = xb (tw a) (tw ((2 ^ i : Nat) : Int)) := by
  have h := List.all_eq_true.1 tw_bits a (allE_mem ha)
  have h2 := List.all_eq_true.1 h i (List.mem_range.2 hi)
  simpa using h2
/-- the generator: the power of 3, of its inverse, and the box so far -/
def gq (q : Int) : Int :=
  let q1 := xb q (q * 2 % 256)
  let q2 := xb q1 (q1 * 4 % 256)
  let q3 := xb q2 (q2 * 16 % 256)
  if 128 ≤ q3 then xb q3 9 else q3
def aff (q : Int) : Int := xb (xb (xb (xb (xb q (q * 2 % 256 + q / 128)) (q * 4 % 256 + q / 64)) (q * 8 % 256 + q / 32)) (q * 16 % 256 + q / 16)) 99
def gen : Nat → Int × Int × List Int
  | 0 => (1, 1, 99 :: List.replicate 255 0)
  | n + 1 =>
    let g := gen n
    let p := xb g.1 (tw g.1)
    let q := gq g.2.1
    (p, q, g.2.2.set p.toNat (aff q))
def boxL : List Int := (gen 255).2.2
def sub (b : Int) : Int := boxL.getD b.toNat 0
theorem boxL_len : boxL.length = 256 := by decide +kernel
theorem boxL_byt : Byt boxL := by
  have h : ∀ x ∈ boxL, 0 ≤ x ∧ x < 256 := by decide +kernel
  exact h
theorem boxL_known : boxL.getD 0 0 = 99 ∧ boxL.getD 83 0 = 237 ∧ boxL.getD 255 0 = 22 := by decide +kernel
/-- where a byte stands in the box -/
def boxI : List Int := (List.range 256).map fun y : Nat => ((boxL.findIdx (· == (y : Int)) : Nat) : Int)
theorem box_inv : (allE.all fun x => boxI.getD (sub x).toNat 0 == x) = true := by decide +kernel
theorem sub_u {b : Int} (_h : B8 b) : B8 (sub b) := boxL_byt.getD _
theorem sub_inj {x y : Int} (hx : B8 x) (hy : B8 y) (h : sub x = sub y) : x = y := by
  have h1 := List.all_eq_true.1 box_inv x (allE_mem hx)
  have h2 := List.all_eq_true.1 box_inv y (allE_mem hy)
  rw [beq_iff_eq] at h1 h2
  rw [← h1, ← h2, h]
/-- the reference's product -/
def timesN : Nat → Int → Int → Int → Int
  | 0, _, _, out => out
  | n + 1, a, b, out => timesN n (if 128 ≤ a then xb (2 * a % 256) 27 else 2 * a) (b / 2) (if b % 2 = 1 then xb out a else out)
def times (a b : Int) : Int := timesN 8 a b 0
theorem times_two : (allE.all fun a => times 2 a == tw a && times a 2 == tw a && times 3 a == xb (tw a) a) = true := by decide +kernel
/-- the reference's other one -/
def rpow : Nat → Int → Int → Int → Int
  | 0, _, _, y => y
  | f + 1, n, x, y => if n ≤ 0 then y else rpow f (n / 2) (times x x) (if n % 2 = 1 then times y x else y)
def raff : Nat → Int → Int → Int
  | 0, _, out => out
  | f + 1, y, out => raff f ((2 * y) % 256 + y / 128) (xb out y)
def rsub (b : Int) : Int := raff 5 (rpow 8 254 b 1) 99
theorem rsub_eq : (allE.all fun b => rsub b == sub b) = true := by decide +kernel
theorem gen_zero : gen 0 = (1, 1, 99 :: List.replicate 255 0) := rfl
theorem gen_succ (n : Nat) : gen (n + 1) = (xb (gen n).1 (tw (gen n).1), gq (gen n).2.1, (gen n).2.2.set (xb (gen n).1 (tw (gen n).1)).toNat (aff (gq (gen n).2.1))) := rfl
theorem gq_u {q : Int} (_h : B8 q) : B8 (gq q) := by
  unfold gq
  simp only
  split
  · exact xb_u _ _
  · exact xb_u _ _
theorem gen_ok (n : Nat) : B8 (gen n).1 ∧ B8 (gen n).2.1 ∧ (gen n).2.2.length = 256 := by
  induction n with
  | zero => exact ⟨⟨by decide, by decide⟩, ⟨by decide, by decide⟩, by decide +kernel⟩
  | succ n ih => rw [gen_succ]; exact ⟨xb_u _ _, gq_u ih.2.1, by simp [ih.2.2]⟩
theorem boxL_eq : boxL = (gen 255).2.2 := rfl
attribute [irreducible] gen boxL gq aff rpow raff timesN
end Go.Proofs.Ytepkbllcaeceeaa
