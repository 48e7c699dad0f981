/- Layer 8 as plain functions on bytes; its boxes. Conditions: as each theorem states them. -/
import Derived.Test.YtieabfifaigjdaaB
import Derived.Test.YtieabfifaigjdaaN
import Derived.Test.YtieabfifaigjdaaRows
import Derived.Test.YtieabfifaigjdaaAV
/- The cipher of layer 8 as plain functions on lists of bytes; the byte's other one, its inverse, the reference's products. Conditions: as each theorem states them. -/
namespace Go.Proofs.Ytieabfifaigjdaa
open Go.RowKit

def xb (a b : Int) : Int := bits .xor .u8 a b
def B8 (x : Int) : Prop := 0 ≤ x ∧ x < 256
theorem xb_u (a b : Int) : B8 (xb a b) := by have h1 := bits_lo_u8 .xor a b; have h2 := bits_hi_u8 .xor a b; unfold B8 xb; omega
theorem xb_nat {a b : Int} (ha : B8 a) (hb : B8 b) : xb a b = ((a.toNat ^^^ b.toNat : Nat) : Int) := bits_xor_u8' a b ha.1 ha.2 hb.1 hb.2
theorem xb_comm {a b : Int} (ha : B8 a) (hb : B8 b) : xb a b = xb b a := by rw [xb_nat ha hb, xb_nat hb ha, Nat.xor_comm]
theorem xb_assoc {a b c : Int} (ha : B8 a) (hb : B8 b) (hc : B8 c) : xb (xb a b) c = xb a (xb b c) := by
  rw [xb_nat (xb_u a b) hc, xb_nat ha (xb_u b c), xb_nat ha hb, xb_nat hb hc, Int.toNat_natCast, Int.toNat_natCast, Nat.xor_assoc]
theorem xb_self {a : Int} (ha : B8 a) : xb a a = 0 := by rw [xb_nat ha ha, Nat.xor_self]; rfl
theorem xb_zero {a : Int} (ha : B8 a) : xb a 0 = a := by rw [xb_nat ha ⟨by decide, by decide⟩]; show ((a.toNat ^^^ 0 : Nat) : Int) = a; rw [Nat.xor_zero, Int.toNat_of_nonneg ha.1]
theorem xb_cancel {a b : Int} (ha : B8 a) (hb : B8 b) : xb (xb a b) b = a := by rw [xb_assoc ha hb hb, xb_self hb, xb_zero ha]
theorem xb_inj {a b c : Int} (ha : B8 a) (hb : B8 b) (hc : B8 c) (h : xb a c = xb b c) : a = b := by rw [← xb_cancel ha hc, h, xb_cancel hb hc]
/-- twice -/
def tw (b : Int) : Int := if 128 ≤ b then xb (2 * b % 256) 27 else 2 * b
theorem tw_u {b : Int} (h : B8 b) : B8 (tw b) := by
  unfold tw
  split
  · exact xb_u _ _
  · unfold B8 at *; omega
/-- all bytes -/
def allE : List Int := (List.range 256).map fun i : Nat => (i : Int)
theorem allE_mem {b : Int} (h : B8 b) : b ∈ allE := by
  unfold B8 at h
  exact List.mem_map.2 ⟨b.toNat, List.mem_range.2 (by omega), by omega⟩
theorem tw_bits : (allE.all fun a => (List.range 8).all fun i => tw (xb a (2 ^ i : Nat)) == xb (tw a) (tw (2 ^ i : Nat))) = true := by decide +kernel
theorem tw_lin1 {a : Int} (ha : B8 a) {i : Nat} (hi : i < 8) : tw (xb a ((2 ^ i : Nat) : Int)) = xb (tw a) (tw ((2 ^ i : Nat) : Int)) := by
  have h := List.all_eq_true.1 tw_bits a (allE_mem ha)
  have h2 := List.all_eq_true.1 h i (List.mem_range.2 hi)
  simpa using h2
/-- the generator: the power of 3, of its inverse, and the box so far -/
def gq (q : Int) : Int :=
  let q1 := xb q (q * 2 % 256)
  let q2 := xb q1 (q1 * 4 % 256)
  let q3 := xb q2 (q2 * 16 % 256)
  if 128 ≤ q3 then xb q3 9 else q3
def aff (q : Int) : Int := xb (xb (xb (xb (xb q (q * 2 % 256 + q / 128)) (q * 4 % 256 + q / 64)) (q * 8 % 256 + q / 32)) (q * 16 % 256 + q / 16)) 99
def gen : Nat → Int × Int × List Int
  | 0 => (1, 1, 99 :: List.replicate 255 0)
  | n + 1 =>
    let g := gen n
    let p := xb g.1 (tw g.1)
    let q := gq g.2.1
    (p, q, g.2.2.set p.toNat (aff q))
def boxL : List Int := (gen 255).2.2
def sub (b : Int) : Int := boxL.getD b.toNat 0
theorem boxL_len : boxL.length = 256 := by decide +kernel
theorem boxL_byt : Byt boxL := by
  have h : ∀ x ∈ boxL, 0 ≤ x ∧ x < 256 := by decide +kernel
  exact h
theorem boxL_known : boxL.getD 0 0 = 99 ∧ boxL.getD 83 0 = 237 ∧ boxL.getD 255 0 = 22 := by decide +kernel
/-- where a byte stands in the box -/
def boxI : List Int := (List.range 256).map fun y : Nat => ((boxL.findIdx (· == (y : Int)) : Nat) : Int)
theorem box_inv : (allE.all fun x => boxI.getD (sub x).toNat 0 == x) = true := by decide +kernel
theorem sub_u {b : Int} (_h : B8 b) : B8 (sub b) := boxL_byt.getD _
theorem sub_inj {x y : Int} (hx : B8 x) (hy : B8 y) (h : sub x = sub y) : x = y := by
  have h1 := List.all_eq_true.1 box_inv x (allE_mem hx)
  have h2 := List.all_eq_true.1 box_inv y (allE_mem hy)
  rw [beq_iff_eq] at h1 h2
  rw [← h1, ← h2, h]
/-- the reference's product -/
def timesN : Nat → Int → Int → Int → Int
  | 0, _, _, out => out
  | n + 1, a, b, out => timesN n (if 128 ≤ a then xb (2 * a % 256) 27 else 2 * a) (b / 2) (if b % 2 = 1 then xb out a else out)
def times (a b : Int) : Int := timesN 8 a b 0
theorem times_two : (allE.all fun a => times 2 a == tw a && times a 2 == tw a && times 3 a == xb (tw a) a) = true := by decide +kernel
/-- the reference's other one -/
def rpow : Nat → Int → Int → Int → Int
  | 0, _, _, y => y
  | f + 1, n, x, y => if n ≤ 0 then y else rpow f (n / 2) (times x x) (if n % 2 = 1 then times y x else y)
def raff : Nat → Int → Int → Int
  | 0, _, out => out
  | f + 1, y, out => raff f ((2 * y) % 256 + y / 128) (xb out y)
def rsub (b : Int) : Int := raff 5 (rpow 8 254 b 1) 99
theorem rsub_eq : (allE.all fun b => rsub b == sub b) = true := by decide +kernel
theorem gen_zero : gen 0 = (1, 1, 99 :: List.replicate 255 0) := rfl
theorem gen_succ (n : Nat) : gen (n + 1) = (xb (gen n).1 (tw (gen n).1), gq (gen n).2.1, (gen n).2.2.set (xb (gen n).1 (tw (gen n).1)).toNat (aff (gq (gen n).2.1))) := rfl
theorem gq_u {q : Int} (_h : B8 q) : B8 (gq q) := by
  unfold gq
  simp only
  split
  · exact xb_u _ _
  · exact xb_u _ _
theorem gen_ok (n : Nat) : B8 (gen n).1 ∧ B8 (gen n).2.1 ∧ (gen n).2.2.length = 256 := by
  induction n with
  | zero => exact ⟨⟨by decide, by decide⟩, ⟨by decide, by decide⟩, by decide +kernel⟩
  | succ n ih => rw [gen_succ]; exact ⟨xb_u _ _, gq_u ih.2.1, by simp [ih.2.2]⟩
theorem boxL_eq : boxL = (gen 255).2.2 := rfl
attribute [irreducible] gen boxL gq aff rpow raff timesN
end Go.Proofs.Ytieabfifaigjdaa
/- Contracts: aes.twice, aes.boxes, aes.Sub. Conditions: as each theorem states them. -/
namespace Go.Proofs.Ytieabfifaigjdaa
open Go.RowKit
theorem and_128E : (allE.all fun b => bits .and .u8 b 128 == (if 128 ≤ b then 128 else 0)) = true := by decide +kernel
theorem and128E {b : Int} (hb : B8 b) : bits .and .u8 b 128 = if 128 ≤ b then 128 else 0 := by
  have h := List.all_eq_true.1 and_128E b (allE_mem hb)
  rwa [beq_iff_eq] at h
theorem twice_any (b : Int) (w : World) (hb : B8 b) : Calls Try.prog 70 #[.int .u8 b] w fun e w' => e = .returned (.int .u8 (tw b)) ∧ w = w' := by
  have ha := and128E hb
  have h0 := hb.1
  have h1 := hb.2
  by_cases h : 128 ≤ b
  · have HT := Lib.hid (show tw b = xb (2 * b % 256) 27 by unfold tw; rw [if_pos h])
    rw [if_pos h] at ha
    go_enter Try.func70, Try.ntmps70
    go_wp2_with fail
    go_ret
    exact ⟨ret_int (by rw [HT.out]; unfold xb; congr 1; omega), rfl⟩
  · have HT := Lib.hid (show tw b = 2 * b by unfold tw; rw [if_neg h])
    rw [if_neg h] at ha
    go_enter Try.func70, Try.ntmps70
    go_wp2_with fail
    go_ret
    exact ⟨ret_int (by rw [HT.out]; omega), rfl⟩
theorem or_shift : (allE.all fun q => bits .or .u8 (q * 2 % 256) (q / 128) == q * 2 % 256 + q / 128 && bits .or .u8 (q * 4 % 256) (q / 64) == q * 4 % 256 + q / 64 && bits .or .u8 (q * 8 % 256) (q / 32) == q * 8 % 256 + q / 32 && bits .or .u8 (q * 16 % 256) (q / 16) == q * 16 % 256 + q / 16) = true := by decide +kernel
theorem ors {q : Int} (h : B8 q) : bits .or .u8 (q * 2 % 256) (q / 128) = q * 2 % 256 + q / 128 ∧ bits .or .u8 (q * 4 % 256) (q / 64) = q * 4 % 256 + q / 64 ∧ bits .or .u8 (q * 8 % 256) (q / 32) = q * 8 % 256 + q / 32 ∧ bits .or .u8 (q * 16 % 256) (q / 16) = q * 16 % 256 + q / 16 := by
  have h1 := List.all_eq_true.1 or_shift q (allE_mem h)
  simp only [Bool.and_eq_true, beq_iff_eq] at h1
  exact ⟨h1.1.1.1, h1.1.1.2, h1.1.2, h1.2⟩
def gqs : Nat → Int → Int
  | 0, q => q
  | 1, q => xb q (q * 2 % 256)
  | 2, q => xb (xb q (q * 2 % 256)) (xb q (q * 2 % 256) * 4 % 256)
  | _, q => xb (xb (xb q (q * 2 % 256)) (xb q (q * 2 % 256) * 4 % 256)) (xb (xb q (q * 2 % 256)) (xb q (q * 2 % 256) * 4 % 256) * 16 % 256)
theorem gqs_u (j : Nat) {q : Int} (h : B8 q) : B8 (gqs j q) := by
  match j with
  | 0 => exact h
  | 1 => exact xb_u _ _
  | 2 => exact xb_u _ _
  | n + 3 => exact xb_u _ _
theorem gq_hi {q : Int} (h : 128 ≤ gqs 3 q) : gq q = xb (gqs 3 q) 9 := by
  have e : gq q = if 128 ≤ gqs 3 q then xb (gqs 3 q) 9 else gqs 3 q := by unfold gq; rfl
  rw [e, if_pos h]
theorem gq_lo {q : Int} (h : ¬ 128 ≤ gqs 3 q) : gq q = gqs 3 q := by
  have e : gq q = if 128 ≤ gqs 3 q then xb (gqs 3 q) 9 else gqs 3 q := by unfold gq; rfl
  rw [e, if_neg h]
theorem aff_eq (q : Int) : bits .xor .u8 (bits .xor .u8 (bits .xor .u8 (bits .xor .u8 (bits .xor .u8 q (q * 2 % 256 + q / 128)) (q * 4 % 256 + q / 64)) (q * 8 % 256 + q / 32)) (q * 16 % 256 + q / 16)) 99 = aff q := by unfold aff; rfl
theorem size256 : (Try.prog.info? 86).map (·.size) = some 256 := by kernel_rfl
set_option maxRecDepth 100000 in
set_option maxHeartbeats 2000000 in
theorem boxes_any (w : World) : Calls Try.prog 58 #[] w fun e w' => e = .returned (.agg (cellsL .u8 boxL)) ∧ Below w.heap.size w w' := by
  have hb : Try.zeroCells86.setIfInBounds 0 (.int .u8 99) = cellsL .u8 (gen 0).2.2 := by kernel_rfl
  have HZ : Hid (Try.zeroCells86.size = 256) := Lib.hid (by kernel_rfl)
  go_enter Try.func58, Try.ntmps58
  have hg0 := Lib.hid (gen_ok 0)
  have BN : Hid (Blk ((w.alloc (.cells Try.zeroCells86 86)).alloc (.cells Try.zeroCells86 86)) (w.heap.size + 1) 86 Try.zeroCells86) := Lib.hid (by
    have h := Blk.new (w.alloc (.cells Try.zeroCells86 86)) 86 Try.zeroCells86
    have e : (w.alloc (.cells Try.zeroCells86 86)).heap.size = w.heap.size + 1 := by simp
    rwa [e] at h)
  obtain ⟨G0, hG0⟩ : ∃ G, (gen 0).2.2 = G := ⟨_, rfl⟩
  have HG0 := Lib.hid hG0
  rw [hG0] at hb
  clear hG0
  have HGL : Hid (G0.length = 256) := Lib.hid (by rw [← HG0.out]; exact hg0.out.2.2)
  go_wp2_with ((with_reducible (show wpList _ _ _ (⟨none, .store 86 _ _, _, _, _, _⟩ :: _) _ _)); refine wpList_storeArr (o := ⟨none, .store 86 _ _, _, _, _, _⟩) (g := w.heap.size + 1) (t := 86) (k := .u8) (xs := G0) (n := 256) rfl _ _ rfl rfl rfl BN.out size256 HGL.out.symm HZ.out ?_; intro w1 ha1 hg1; have A1 := Lib.hid ha1; have G1 := Lib.hid hg1; clear ha1 hg1)
  clear hb BN
  have B1 := Lib.hid ((((Below.refl w.heap.size w).alloc (Nat.le_refl _) (.cells Try.zeroCells86 86)).alloc (by simp) (.cells Try.zeroCells86 86)).trans (below_of_only G1.out (by omega) (by simp <;> omega)))
  have RB1 : Hid (Blk w1 w.heap.size 86 Try.zeroCells86) := Lib.hid (Blk.grown (Blk.alloc (Blk.new w _ _) _) G1.out (by simp))
  have hz1 : w.heap.size < w1.heap.size := Blk.lt RB1.out
  have i0 : ∀ W : World, (Instr.index 105 (.agg #[.int .i64 1, .int .i64 2, .int .i64 4]) (.int .i64 0)).run Try.prog W = .ok (.int .i64 1) W := fun _ => by kernel_rfl
  have i1 : ∀ W : World, (Instr.index 105 (.agg #[.int .i64 1, .int .i64 2, .int .i64 4]) (.int .i64 1)).run Try.prog W = .ok (.int .i64 2) W := fun _ => by kernel_rfl
  have i2 : ∀ W : World, (Instr.index 105 (.agg #[.int .i64 1, .int .i64 2, .int .i64 4]) (.int .i64 2)).run Try.prog W = .ok (.int .i64 4) W := fun _ => by kernel_rfl
  have I0 := Lib.hid i0
  have I1 := Lib.hid i1
  have I2 := Lib.hid i2
  clear i0 i1 i2
  have HGZ : Hid ((gen 0).1 = 1 ∧ (gen 0).2.1 = 1) := Lib.hid (by rw [gen_zero]; exact ⟨rfl, rfl⟩)
  go_loopw [2, 3, 7] (fun p q i wr => ∃ (k : Nat) (a b : Int), k ≤ 255 ∧ i = .int .i64 k ∧ p = .int .u8 a ∧ q = .int .u8 b ∧ Hid (a = (gen k).1) ∧ Hid (b = (gen k).2.1) ∧ Hid (Arr wr (w.heap.size + 1) 86 .u8 (gen k).2.2) ∧ Hid (w1.grownBy wr (some (w.heap.size + 1)))) (fun _ _ i _ => 255 - (intOf i).toNat)
  case atStart => exact ⟨0, 1, 1, by omega, rfl, rfl, rfl, Lib.hid HGZ.out.1.symm, Lib.hid HGZ.out.2.symm, Lib.hid (by rw [HG0.out]; exact A1.out), Lib.hid (World.grownBy.refl _ _)⟩
  case round =>
    obtain ⟨k, a, b, hk, rfl, rfl, rfl, HA, HB, HX, HG⟩ := hrel
    by_cases hlt : k < 255
    · have HOK := Lib.hid (gen_ok k)
      have hA : B8 a := by rw [HA.out]; exact HOK.out.1
      have hB : B8 b := by rw [HB.out]; exact HOK.out.2.1
      have HA8 := Lib.hid hA
      have HB8 := Lib.hid hB
      have HT := Lib.hid (tw_u hA)
      obtain ⟨ha0, ha1⟩ := hA
      obtain ⟨hb0, hb1⟩ := hB
      obtain ⟨wo, rfl⟩ : ∃ wo : World, wo = wr := ⟨_, rfl⟩
      go_wp2_with fail
      refine Calls.mono (twice_any a _ HA8.out) ?_
      rintro e w2 ⟨rfl, rfl⟩
      obtain ⟨a2, ha2⟩ : ∃ x, bits .xor .u8 a (tw a) = x := ⟨_, rfl⟩
      have HA2 : Hid (a2 = xb a (tw a)) := Lib.hid ha2.symm
      have ha28 : B8 a2 := by rw [← ha2]; exact xb_u _ _
      obtain ⟨ha20, ha21⟩ := ha28
      go_wp2_with fail
      clear ha2
      go_loop [3, 5, 14] (fun q _ i => ∃ (j : Nat) (x : Int), j ≤ 3 ∧ i = .int .i64 j ∧ q = .int .u8 x ∧ 0 ≤ x ∧ x < 256 ∧ Hid (x = gqs j b)) (fun _ _ i => 3 - (intOf i).toNat)
      case atStart => exact ⟨0, b, by omega, rfl, rfl, hb0, hb1, Lib.hid rfl⟩
      case round =>
        obtain ⟨j, x, hj, rfl, rfl, hx0, hx1, HXX⟩ := hrel
        have hn := fun j => gqs_u j HB8.out
        rcases (show j = 0 ∨ j = 1 ∨ j = 2 ∨ j = 3 by omega) with rfl | rfl | rfl | rfl
        · have i0 := I0.out
          have HN := Lib.hid (hn 1)
          clear hn
          go_wp2_with fail
          go_round
          case rel => exact ⟨1, _, by omega, by go_num, rfl, bits_lo_u8 _ _ _, by have := bits_hi_u8 .xor x (x * 2 % 256); omega, Lib.hid (by rw [HXX.out]; rfl)⟩
          case measure => simp [intOf]
        · have i1 := I1.out
          clear hn
          go_wp2_with fail
          go_round
          case rel => exact ⟨2, _, by omega, by go_num, rfl, bits_lo_u8 _ _ _, by have := bits_hi_u8 .xor x (x * 4 % 256); omega, Lib.hid (by rw [HXX.out]; rfl)⟩
          case measure => simp [intOf]
        · have i2 := I2.out
          clear hn
          go_wp2_with fail
          go_round
          case rel => exact ⟨3, _, by omega, by go_num, rfl, bits_lo_u8 _ _ _, by have := bits_hi_u8 .xor x (x * 16 % 256); omega, Lib.hid (by rw [HXX.out]; rfl)⟩
          case measure => simp [intOf]
        · clear hn
          have hx8 : B8 x := ⟨hx0, hx1⟩
          have hand := and128E hx8
          by_cases hge : 128 ≤ x
          · rw [if_pos hge] at hand
            obtain ⟨q, hq⟩ : ∃ q, bits .xor .u8 x 9 = q := ⟨_, rfl⟩
            have HQ : Hid (q = gq b) := Lib.hid (by rw [gq_hi (by rw [← HXX.out]; exact hge), ← HXX.out]; exact hq.symm)
            have HQ8 : Hid (B8 q) := Lib.hid (by rw [← hq]; exact xb_u _ _)
            have HGN := Lib.hid (gen_succ k)
            have hQ : B8 q := HQ8.out
            obtain ⟨hq0, hq1⟩ := hQ
            obtain ⟨r1, r2, r3, r4⟩ := ors HQ8.out
            have r5 := aff_eq q
            obtain ⟨f, hf⟩ : ∃ f, aff q = f := ⟨_, rfl⟩
            rw [hf] at r5
            have HF := Lib.hid hf
            clear hf
            have e1 : (a2.toNat : Int) = a2 := by omega
            have hat : a2.toNat < 256 := by omega
            have d0 := HX.out.cell (i := a2.toNat) (by rw [HOK.out.2.2]; exact hat)
            have f0 := HX.out.frozen a2.toNat
            generalize (gen k).2.2.getD a2.toNat 0 = old at d0
            have E1 := Lib.hid e1
            clear e1
            go_wp2_with fail
            go_roundw
            case rel => exact ⟨k + 1, a2, q, by omega, by go_num, rfl, rfl, Lib.hid (by rw [HGN.out, ← HA.out]; exact HA2.out), Lib.hid (by rw [HGN.out, ← HB.out]; exact HQ.out), Lib.hid (Arr.cast (HX.out.set a2.toNat _) (by rw [HGN.out, ← HA.out, ← HB.out, ← HQ.out, ← HA2.out, HF.out])), Lib.hid (only_setCell HG.out (.inl rfl) _)⟩
            case measure => simp [intOf]; omega
          · rw [if_neg hge] at hand
            obtain ⟨q, rfl⟩ : ∃ q, q = x := ⟨_, rfl⟩
            have HQ : Hid (q = gq b) := Lib.hid (by rw [gq_lo (by rw [← HXX.out]; exact hge), ← HXX.out])
            have HQ8 : Hid (B8 q) := Lib.hid hx8
            have HGN := Lib.hid (gen_succ k)
            have hQ : B8 q := HQ8.out
            obtain ⟨hq0, hq1⟩ := hQ
            obtain ⟨r1, r2, r3, r4⟩ := ors HQ8.out
            have r5 := aff_eq q
            obtain ⟨f, hf⟩ : ∃ f, aff q = f := ⟨_, rfl⟩
            rw [hf] at r5
            have HF := Lib.hid hf
            have R1 : Hid (bits .or .u8 (q * 2) (q / 128) = q * 2 % 256 + q / 128) := Lib.hid (by have h := r1; rw [show q * 2 % 256 = q * 2 by omega] at h ⊢; exact h)
            have R5 := Lib.hid r5
            clear hf
            have e1 : (a2.toNat : Int) = a2 := by omega
            have hat : a2.toNat < 256 := by omega
            have d0 := HX.out.cell (i := a2.toNat) (by rw [HOK.out.2.2]; exact hat)
            have f0 := HX.out.frozen a2.toNat
            generalize (gen k).2.2.getD a2.toNat 0 = old at d0
            have E1 := Lib.hid e1
            clear e1
            go_wp2_with fail
            go_roundw
            case rel => exact ⟨k + 1, a2, q, by omega, by go_num, rfl, rfl, Lib.hid (by rw [HGN.out, ← HA.out]; exact HA2.out), Lib.hid (by rw [HGN.out, ← HB.out]; exact HQ.out), Lib.hid (Arr.cast (HX.out.set a2.toNat _) (by rw [HGN.out, ← HA.out, ← HB.out, ← HQ.out, ← HA2.out, HF.out]; show _ = (gen k).2.2.set a2.toNat f; rw [R1.out, R5.out])), Lib.hid (only_setCell HG.out (.inl rfl) _)⟩
            case measure => simp [intOf]; omega
    · have hk255 : k = 255 := by omega
      have HAB : Hid (Arr wr (w.heap.size + 1) 86 .u8 boxL) := Lib.hid (Arr.cast HX.out (by rw [hk255, boxL_eq]))
      have HBL := Lib.hid boxL_len
      have RB2 := Lib.hid (Blk.grown RB1.out HG.out (by simp))
      have B2 := Lib.hid (B1.out.trans (below_of_only HG.out (by omega) B1.out.size))
      clear HX hk255
      go_wp2_with (first
        | ((with_reducible (show wpList _ _ _ (⟨some 57, _, _, _, _, _⟩ :: _) _ _)); refine wpList_loadArr (o := ⟨some 57, _, _, _, _, _⟩) (g := w.heap.size + 1) (t := 86) (k := .u8) (xs := boxL) (n := 256) rfl _ rfl rfl HAB.out Try.underlying86 size256 HBL.out.symm ?_)
        | ((with_reducible (show wpList _ _ _ (⟨none, .store 86 _ _, _, _, _, _⟩ :: _) _ _)); refine wpList_storeArr (o := ⟨none, .store 86 _ _, _, _, _, _⟩) (g := w.heap.size) (t := 86) (k := .u8) (xs := boxL) (n := 256) rfl _ _ rfl rfl rfl RB2.out size256 HBL.out.symm HZ.out ?_; intro w9 ha9 hg9))
      exact ret_arr (g := w.heap.size) (t := 86) (k := .u8) (xs := boxL) rfl rfl ha9 Try.underlying86 size256 HBL.out.symm rfl ⟨rfl, B2.out.trans (below_of_only hg9 (Nat.le_refl _) B2.out.size)⟩

end Go.Proofs.Ytieabfifaigjdaa
/- The column's mix is injective. Conditions: as each theorem states them. -/
namespace Go.Proofs.Ytieabfifaigjdaa
set_option maxRecDepth 100000 in
theorem tw_all : (allE.all fun a => allE.all fun b => tw (xb a b) == xb (tw a) (tw b)) = true := by decide +kernel
theorem tw_lin {a b : Int} (ha : B8 a) (hb : B8 b) : tw (xb a b) = xb (tw a) (tw b) := by
  have h := List.all_eq_true.1 (List.all_eq_true.1 tw_all a (allE_mem ha)) b (allE_mem hb)
  rwa [beq_iff_eq] at h
end Go.Proofs.Ytieabfifaigjdaa
/- The column's mix is injective. Conditions: as each theorem states them. -/
namespace Go.Proofs.Ytieabfifaigjdaa
/-- twice, on all naturals -/
def twN (n : Nat) : Nat := (tw ((n % 256 : Nat) : Int)).toNat
theorem b8_mod (n : Nat) : B8 ((n % 256 : Nat) : Int) := ⟨by omega, by omega⟩
theorem twN_lin (x y : Nat) : twN (x ^^^ y) = twN x ^^^ twN y := by
  unfold twN
  have h : (x ^^^ y) % 256 = (x % 256) ^^^ (y % 256) := Nat.xor_mod_two_pow (n := 8)
  have e : (((x ^^^ y) % 256 : Nat) : Int) = xb ((x % 256 : Nat) : Int) ((y % 256 : Nat) : Int) := by
    rw [xb_nat (b8_mod x) (b8_mod y), h]; rfl
  rw [e, tw_lin (b8_mod x) (b8_mod y), xb_nat (tw_u (b8_mod x)) (tw_u (b8_mod y))]
  rfl
theorem xcl (x y : Nat) : x ^^^ (x ^^^ y) = y := by rw [← Nat.xor_assoc, Nat.xor_self, Nat.zero_xor]
theorem xlc (x y z : Nat) : x ^^^ (y ^^^ z) = y ^^^ (x ^^^ z) := by rw [← Nat.xor_assoc, Nat.xor_comm x y, Nat.xor_assoc]
/-- a column's four bytes, mixed -/
def mixc (T : Nat → Nat) (a b c d : Nat) : Nat × Nat × Nat × Nat :=
  (a ^^^ ((a ^^^ b ^^^ c ^^^ d) ^^^ T (a ^^^ b)), b ^^^ ((a ^^^ b ^^^ c ^^^ d) ^^^ T (b ^^^ c)), c ^^^ ((a ^^^ b ^^^ c ^^^ d) ^^^ T (c ^^^ d)), d ^^^ ((a ^^^ b ^^^ c ^^^ d) ^^^ T (d ^^^ a)))
set_option linter.unusedSimpArgs false in
theorem mixc_all {T : Nat → Nat} (hT : ∀ x y, T (x ^^^ y) = T x ^^^ T y) (a b c d : Nat) :
    (mixc T a b c d).1 ^^^ (mixc T a b c d).2.1 ^^^ (mixc T a b c d).2.2.1 ^^^ (mixc T a b c d).2.2.2 = a ^^^ b ^^^ c ^^^ d := by
  simp only [mixc, hT]
  simp only [Nat.xor_assoc, Nat.xor_comm, xlc, Nat.xor_self, Nat.xor_zero, Nat.zero_xor, xcl]
set_option linter.unusedSimpArgs false in
theorem mixc_02 {T : Nat → Nat} (hT : ∀ x y, T (x ^^^ y) = T x ^^^ T y) (a b c d : Nat) :
    a ^^^ c = (mixc T a b c d).1 ^^^ (mixc T a b c d).2.2.1 ^^^ T (a ^^^ b ^^^ c ^^^ d) := by
  simp only [mixc, hT]
  simp only [Nat.xor_assoc, Nat.xor_comm, xlc, Nat.xor_self, Nat.xor_zero, Nat.zero_xor, xcl]
set_option linter.unusedSimpArgs false in
theorem mixc_01 {T : Nat → Nat} (hT : ∀ x y, T (x ^^^ y) = T x ^^^ T y) (a b c d : Nat) :
    a ^^^ b = (mixc T a b c d).1 ^^^ (mixc T a b c d).2.1 ^^^ T (a ^^^ c) := by
  simp only [mixc, hT]
  simp only [Nat.xor_assoc, Nat.xor_comm, xlc, Nat.xor_self, Nat.xor_zero, Nat.zero_xor, xcl]
theorem mixc_0 {T : Nat → Nat} (a b c d : Nat) :
    a = (mixc T a b c d).1 ^^^ ((a ^^^ b ^^^ c ^^^ d) ^^^ T (a ^^^ b)) := by
  simp only [mixc]
  rw [Nat.xor_assoc, Nat.xor_self, Nat.xor_zero]
theorem mixc_inj {T : Nat → Nat} (hT : ∀ x y, T (x ^^^ y) = T x ^^^ T y) {a b c d a' b' c' d' : Nat} (h : mixc T a b c d = mixc T a' b' c' d') : a = a' ∧ b = b' ∧ c = c' ∧ d = d' := by
  have hs : a ^^^ b ^^^ c ^^^ d = a' ^^^ b' ^^^ c' ^^^ d' := by rw [← mixc_all hT, h, mixc_all hT]
  have h02 : a ^^^ c = a' ^^^ c' := by rw [mixc_02 hT a b c d, mixc_02 hT a' b' c' d', h, hs]
  have h01 : a ^^^ b = a' ^^^ b' := by rw [mixc_01 hT a b c d, mixc_01 hT a' b' c' d', h, h02]
  have h0 : a = a' := by rw [mixc_0 (T := T) a b c d, mixc_0 (T := T) a' b' c' d', h, hs, h01]
  have hc : c = c' := by have := congrArg (a ^^^ ·) h02; simp only [xcl] at this; rw [this, ← h0, xcl]
  have hb : b = b' := by have := congrArg (a ^^^ ·) h01; simp only [xcl] at this; rw [this, ← h0, xcl]
  refine ⟨h0, hb, hc, ?_⟩
  rw [h0, hb, hc] at hs
  have := congrArg ((a' ^^^ b' ^^^ c') ^^^ ·) hs
  simpa only [xcl] using this
end Go.Proofs.Ytieabfifaigjdaa
/- The sealing of a block as a plain function on lists of bytes; it is injective. Conditions: as each theorem states them. -/
namespace Go.Proofs.Ytieabfifaigjdaa
theorem getD_el {l : List Int} {i : Nat} (h : i < l.length) : l.getD i 0 = l[i] := by simp [List.getD_eq_getElem?_getD, h]
/-- a block of sixteen bytes -/
def Blk16 (s : List Int) : Prop := s.length = 16 ∧ Byt s
/-- a round's key, added -/
def addL (s k : List Int) : List Int := s.zipWith xb k
/-- bytes replaced and rows shifted -/
def rowsL (s : List Int) : List Int := (List.range 16).map fun i => sub (s.getD ((i + 4 * (i % 4)) % 16) 0)
theorem byt_getD8 {s : List Int} (h : Byt s) (i : Nat) : B8 (s.getD i 0) := h.getD i
theorem ext16 {s t : List Int} (hs : s.length = 16) (ht : t.length = 16) (h : ∀ i, i < 16 → s.getD i 0 = t.getD i 0) : s = t := by
  apply List.ext_getElem (by omega)
  intro i h1 h2
  have := h i (by omega)
  rwa [getD_el h1, getD_el h2] at this
theorem addL_getD {s k : List Int} (hs : s.length = 16) (hk : k.length = 16) {i : Nat} (hi : i < 16) : (addL s k).getD i 0 = xb (s.getD i 0) (k.getD i 0) := by
  unfold addL
  rw [getD_el (by rw [List.length_zipWith]; omega), List.getElem_zipWith, getD_el (by omega), getD_el (by omega)]
theorem addL_len {s k : List Int} (hs : s.length = 16) (hk : k.length = 16) : (addL s k).length = 16 := by unfold addL; rw [List.length_zipWith]; omega
theorem byt_of16 {s : List Int} (hs : s.length = 16) (h : ∀ i, i < 16 → B8 (s.getD i 0)) : Byt s := by
  intro x hx
  obtain ⟨i, hi, rfl⟩ := List.mem_iff_getElem.1 hx
  have := h i (by omega)
  rwa [getD_el hi] at this
theorem addL_ok {s k : List Int} (hs : Blk16 s) (hk : Blk16 k) : Blk16 (addL s k) := by
  refine ⟨addL_len hs.1 hk.1, byt_of16 (addL_len hs.1 hk.1) fun i hi => ?_⟩
  rw [addL_getD hs.1 hk.1 hi]
  exact xb_u _ _
theorem addL_inj {s t k : List Int} (hs : Blk16 s) (ht : Blk16 t) (hk : Blk16 k) (h : addL s k = addL t k) : s = t := by
  refine ext16 hs.1 ht.1 fun i hi => ?_
  have e := congrArg (fun l => l.getD i 0) h
  simp only [addL_getD hs.1 hk.1 hi, addL_getD ht.1 hk.1 hi] at e
  exact xb_inj (byt_getD8 hs.2 i) (byt_getD8 ht.2 i) (byt_getD8 hk.2 i) e
theorem rowsL_getD (s : List Int) {i : Nat} (hi : i < 16) : (rowsL s).getD i 0 = sub (s.getD ((i + 4 * (i % 4)) % 16) 0) := by
  unfold rowsL
  rw [getD_el (by simpa using hi), List.getElem_map, List.getElem_range]
theorem rowsL_len (s : List Int) : (rowsL s).length = 16 := by simp [rowsL]
theorem rowsL_ok {s : List Int} (hs : Blk16 s) : Blk16 (rowsL s) := by
  refine ⟨rowsL_len s, byt_of16 (rowsL_len s) fun i hi => ?_⟩
  rw [rowsL_getD s hi]
  exact sub_u (byt_getD8 hs.2 _)
theorem rowsL_inj {s t : List Int} (hs : Blk16 s) (ht : Blk16 t) (h : rowsL s = rowsL t) : s = t := by
  refine ext16 hs.1 ht.1 fun j hj => ?_
  have hi : (j + 12 * (j % 4)) % 16 < 16 := Nat.mod_lt _ (by decide)
  have e := congrArg (fun l => l.getD ((j + 12 * (j % 4)) % 16) 0) h
  simp only [rowsL_getD s hi, rowsL_getD t hi] at e
  have hj2 : ((j + 12 * (j % 4)) % 16 + 4 * ((j + 12 * (j % 4)) % 16 % 4)) % 16 = j := by omega
  rw [hj2] at e
  exact sub_inj (byt_getD8 hs.2 j) (byt_getD8 ht.2 j) e
end Go.Proofs.Ytieabfifaigjdaa
/- The mix of a block's columns and the whole sealing are injective. Conditions: as each theorem states them. -/
namespace Go.Proofs.Ytieabfifaigjdaa
/-- one mixed byte: of a byte, the next one, and the sum of all four -/
def mcolB (x y all : Int) : Int := xb x (xb all (tw (xb x y)))
def allX (a b c d : Int) : Int := xb (xb (xb a b) c) d
theorem allX_u (a b c d : Int) : B8 (allX a b c d) := xb_u _ _
theorem twN_tw {x : Int} (h : B8 x) : twN x.toNat = (tw x).toNat := by
  unfold twN
  have : ((x.toNat % 256 : Nat) : Int) = x := by have := h.1; have := h.2; omega
  rw [this]
theorem xb_toNat {a b : Int} (ha : B8 a) (hb : B8 b) : (xb a b).toNat = a.toNat ^^^ b.toNat := by rw [xb_nat ha hb, Int.toNat_natCast]
theorem mcolB_u (x y all : Int) : B8 (mcolB x y all) := xb_u _ _
theorem mcolB_toNat {x y all : Int} (hx : B8 x) (hy : B8 y) (ha : B8 all) : (mcolB x y all).toNat = x.toNat ^^^ (all.toNat ^^^ twN (x.toNat ^^^ y.toNat)) := by
  unfold mcolB
  rw [xb_toNat hx (xb_u _ _), xb_toNat ha (tw_u (xb_u _ _)), ← twN_tw (xb_u _ _), xb_toNat hx hy]
theorem allX_toNat {a b c d : Int} (ha : B8 a) (hb : B8 b) (hc : B8 c) (hd : B8 d) : (allX a b c d).toNat = a.toNat ^^^ b.toNat ^^^ c.toNat ^^^ d.toNat := by
  unfold allX
  rw [xb_toNat (xb_u _ _) hd, xb_toNat (xb_u _ _) hc, xb_toNat ha hb]
theorem nat_eq {a b : Int} (ha : B8 a) (hb : B8 b) (h : a.toNat = b.toNat) : a = b := by have := ha.1; have := hb.1; omega
theorem mix_inj {a b c d a' b' c' d' : Int} (ha : B8 a) (hb : B8 b) (hc : B8 c) (hd : B8 d) (ha' : B8 a') (hb' : B8 b') (hc' : B8 c') (hd' : B8 d')
    (h0 : mcolB a b (allX a b c d) = mcolB a' b' (allX a' b' c' d')) (h1 : mcolB b c (allX a b c d) = mcolB b' c' (allX a' b' c' d'))
    (h2 : mcolB c d (allX a b c d) = mcolB c' d' (allX a' b' c' d')) (h3 : mcolB d a (allX a b c d) = mcolB d' a' (allX a' b' c' d')) :
    a = a' ∧ b = b' ∧ c = c' ∧ d = d' := by
  have g0 := congrArg Int.toNat h0
  have g1 := congrArg Int.toNat h1
  have g2 := congrArg Int.toNat h2
  have g3 := congrArg Int.toNat h3
  rw [mcolB_toNat ha hb (allX_u _ _ _ _), mcolB_toNat ha' hb' (allX_u _ _ _ _), allX_toNat ha hb hc hd, allX_toNat ha' hb' hc' hd'] at g0
  rw [mcolB_toNat hb hc (allX_u _ _ _ _), mcolB_toNat hb' hc' (allX_u _ _ _ _), allX_toNat ha hb hc hd, allX_toNat ha' hb' hc' hd'] at g1
  rw [mcolB_toNat hc hd (allX_u _ _ _ _), mcolB_toNat hc' hd' (allX_u _ _ _ _), allX_toNat ha hb hc hd, allX_toNat ha' hb' hc' hd'] at g2
  rw [mcolB_toNat hd ha (allX_u _ _ _ _), mcolB_toNat hd' ha' (allX_u _ _ _ _), allX_toNat ha hb hc hd, allX_toNat ha' hb' hc' hd'] at g3
  have hm : mixc twN a.toNat b.toNat c.toNat d.toNat = mixc twN a'.toNat b'.toNat c'.toNat d'.toNat := by unfold mixc; rw [g0, g1, g2, g3]
  obtain ⟨e0, e1, e2, e3⟩ := mixc_inj twN_lin hm
  exact ⟨nat_eq ha ha' e0, nat_eq hb hb' e1, nat_eq hc hc' e2, nat_eq hd hd' e3⟩
/-- the byte at place j of the mixed column that begins at i -/
def mixJ (s : List Int) (i j : Nat) : Int :=
  mcolB (s.getD (i + j) 0) (s.getD (i + (j + 1) % 4) 0) (allX (s.getD i 0) (s.getD (i + 1) 0) (s.getD (i + 2) 0) (s.getD (i + 3) 0))
/-- the column that begins at i, mixed -/
def mixAt (s : List Int) (i : Nat) : List Int := (((s.set i (mixJ s i 0)).set (i + 1) (mixJ s i 1)).set (i + 2) (mixJ s i 2)).set (i + 3) (mixJ s i 3)
theorem mixAt_len (s : List Int) (i : Nat) : (mixAt s i).length = s.length := by simp [mixAt]
theorem getD_set' (s : List Int) (i j : Nat) (x : Int) : (s.set i x).getD j 0 = if i = j ∧ j < s.length then x else s.getD j 0 := by
  simp only [List.getD_eq_getElem?_getD, List.getElem?_set]
  by_cases h : i = j
  · subst h
    by_cases h2 : i < s.length
    · simp [h2]
    · simp [h2]
  · simp [h]
theorem mixAt_getD {s : List Int} (hs : s.length = 16) {i : Nat} (hi : i + 3 < 16) (k : Nat) : (mixAt s i).getD k 0 = if i ≤ k ∧ k < i + 4 then mixJ s i (k - i) else s.getD k 0 := by
  unfold mixAt
  simp only [getD_set', List.length_set, hs]
  by_cases h : i ≤ k ∧ k < i + 4
  · rw [if_pos h]
    rcases (show k = i ∨ k = i + 1 ∨ k = i + 2 ∨ k = i + 3 by omega) with rfl | rfl | rfl | rfl
    · rw [if_neg (by omega), if_neg (by omega), if_neg (by omega), if_pos (by omega), Nat.sub_self]
    · rw [if_neg (by omega), if_neg (by omega), if_pos (by omega), Nat.add_sub_cancel_left]
    · rw [if_neg (by omega), if_pos (by omega), Nat.add_sub_cancel_left]
    · rw [if_pos (by omega), Nat.add_sub_cancel_left]
  · rw [if_neg h, if_neg (by omega), if_neg (by omega), if_neg (by omega), if_neg (by omega)]
theorem mixAt_ok {s : List Int} (hs : Blk16 s) {i : Nat} (hi : i + 3 < 16) : Blk16 (mixAt s i) := by
  have hl : (mixAt s i).length = 16 := by rw [mixAt_len, hs.1]
  refine ⟨hl, byt_of16 hl fun k _ => ?_⟩
  rw [mixAt_getD hs.1 hi]
  split
  · exact mcolB_u _ _ _
  · exact byt_getD8 hs.2 k
theorem mixAt_inj {s t : List Int} (hs : Blk16 s) (ht : Blk16 t) {i : Nat} (hi : i + 3 < 16) (h : mixAt s i = mixAt t i) : s = t := by
  have e := fun k => congrArg (fun l => l.getD k 0) h
  simp only [mixAt_getD hs.1 hi, mixAt_getD ht.1 hi] at e
  have e0 := e i
  have e1 := e (i + 1)
  have e2 := e (i + 2)
  have e3 := e (i + 3)
  rw [if_pos (by omega), if_pos (by omega)] at e0 e1 e2 e3
  simp only [Nat.sub_self, Nat.add_sub_cancel_left, mixJ, Nat.add_zero, Nat.reduceAdd, Nat.reduceMod] at e0 e1 e2 e3
  obtain ⟨f0, f1, f2, f3⟩ := mix_inj (byt_getD8 hs.2 _) (byt_getD8 hs.2 _) (byt_getD8 hs.2 _) (byt_getD8 hs.2 _) (byt_getD8 ht.2 _) (byt_getD8 ht.2 _) (byt_getD8 ht.2 _) (byt_getD8 ht.2 _) e0 e1 e2 e3
  refine ext16 hs.1 ht.1 fun k _ => ?_
  by_cases hk : i ≤ k ∧ k < i + 4
  · rcases (show k = i ∨ k = i + 1 ∨ k = i + 2 ∨ k = i + 3 by omega) with rfl | rfl | rfl | rfl
    · exact f0
    · exact f1
    · exact f2
    · exact f3
  · have := e k
    rwa [if_neg hk, if_neg hk] at this
end Go.Proofs.Ytieabfifaigjdaa
/- The whole sealing as a plain function; it is injective. Conditions: as each theorem states them. -/
namespace Go.Proofs.Ytieabfifaigjdaa
/-- all four columns, mixed -/
def mcolL (s : List Int) : List Int := mixAt (mixAt (mixAt (mixAt s 0) 4) 8) 12
theorem mcolL_ok {s : List Int} (hs : Blk16 s) : Blk16 (mcolL s) := mixAt_ok (mixAt_ok (mixAt_ok (mixAt_ok hs (by decide)) (by decide)) (by decide)) (by decide)
theorem mcolL_inj {s t : List Int} (hs : Blk16 s) (ht : Blk16 t) (h : mcolL s = mcolL t) : s = t := by
  have hs0 := mixAt_ok hs (i := 0) (by decide)
  have hs1 := mixAt_ok hs0 (i := 4) (by decide)
  have hs2 := mixAt_ok hs1 (i := 8) (by decide)
  have ht0 := mixAt_ok ht (i := 0) (by decide)
  have ht1 := mixAt_ok ht0 (i := 4) (by decide)
  have ht2 := mixAt_ok ht1 (i := 8) (by decide)
  exact mixAt_inj hs ht (by decide) (mixAt_inj hs0 ht0 (by decide) (mixAt_inj hs1 ht1 (by decide) (mixAt_inj hs2 ht2 (by decide) h)))
/-- the key of round n -/
def rkey (w : List Int) (n : Nat) : List Int := (w.drop (16 * n)).take 16
theorem rkey_ok {w : List Int} (hw : w.length = 176) (hb : Byt w) {n : Nat} (hn : n < 11) : Blk16 (rkey w n) := by
  refine ⟨by unfold rkey; rw [List.length_take, List.length_drop]; omega, ?_⟩
  intro x hx
  exact hb x (List.mem_of_mem_drop (List.mem_of_mem_take hx))
theorem rkey_getD (w : List Int) (n : Nat) {i : Nat} (hi : i < 16) : (rkey w n).getD i 0 = w.getD (16 * n + i) 0 := by
  unfold rkey
  simp only [List.getD_eq_getElem?_getD, List.getElem?_take, List.getElem?_drop, if_pos hi]
/-- the state behind n rounds -/
def arnd (w s : List Int) : Nat → List Int
  | 0 => addL s (rkey w 0)
  | n + 1 => addL (if n + 1 < 10 then mcolL (rowsL (arnd w s n)) else rowsL (arnd w s n)) (rkey w (n + 1))
/-- a sealed block -/
def sealL (w s : List Int) : List Int := arnd w s 10
theorem arnd_ok {w s : List Int} (hw : w.length = 176) (hb : Byt w) (hs : Blk16 s) : ∀ n, n < 11 → Blk16 (arnd w s n)
  | 0, h => addL_ok hs (rkey_ok hw hb h)
  | n + 1, h => by
    have ih := rowsL_ok (arnd_ok hw hb hs n (by omega))
    unfold arnd
    refine addL_ok ?_ (rkey_ok hw hb h)
    split
    · exact mcolL_ok ih
    · exact ih
theorem arnd_inj {w s t : List Int} (hw : w.length = 176) (hb : Byt w) (hs : Blk16 s) (ht : Blk16 t) : ∀ n, n < 11 → arnd w s n = arnd w t n → s = t
  | 0, h, e => addL_inj hs ht (rkey_ok hw hb h) e
  | n + 1, h, e => by
    have h1 := arnd_ok hw hb hs n (by omega)
    have h2 := arnd_ok hw hb ht n (by omega)
    refine arnd_inj hw hb hs ht n (by omega) (rowsL_inj h1 h2 ?_)
    unfold arnd at e
    by_cases hn : n + 1 < 10
    · rw [if_pos hn, if_pos hn] at e
      exact mcolL_inj (rowsL_ok h1) (rowsL_ok h2) (addL_inj (mcolL_ok (rowsL_ok h1)) (mcolL_ok (rowsL_ok h2)) (rkey_ok hw hb h) e)
    · rw [if_neg hn, if_neg hn] at e
      exact addL_inj (rowsL_ok h1) (rowsL_ok h2) (rkey_ok hw hb h) e
theorem sealL_ok {w s : List Int} (hw : w.length = 176) (hb : Byt w) (hs : Blk16 s) : Blk16 (sealL w s) := arnd_ok hw hb hs 10 (by decide)
theorem sealL_inj {w s t : List Int} (hw : w.length = 176) (hb : Byt w) (hs : Blk16 s) (ht : Blk16 t) (h : sealL w s = sealL w t) : s = t := arnd_inj hw hb hs ht 10 (by decide) h
end Go.Proofs.Ytieabfifaigjdaa
/- A key's columns as a plain function on lists of bytes. Conditions: as each theorem states them. -/
namespace Go.Proofs.Ytieabfifaigjdaa
/-- byte j of what the column before i is turned to -/
def kt (w : List Int) (c : Int) (i j : Nat) : Int :=
  if i % 4 = 0 then (if j = 0 then xb (sub (w.getD (4 * i - 3) 0)) c else sub (w.getD (4 * i - 4 + (j + 1) % 4) 0)) else w.getD (4 * i - 4 + j) 0
/-- byte j of column i -/
def kn (w : List Int) (c : Int) (i j : Nat) : Int := xb (w.getD (4 * i - 16 + j) 0) (kt w c i j)
def kcol (w : List Int) (c : Int) (i : Nat) : List Int := [kn w c i 0, kn w c i 1, kn w c i 2, kn w c i 3]
/-- behind n more columns: the bytes, and the turn -/
def kexp (key : List Int) : Nat → List Int × Int
  | 0 => (key, 1)
  | n + 1 => ((kexp key n).1 ++ kcol (kexp key n).1 (kexp key n).2 (n + 4), if (n + 4) % 4 = 0 then tw (kexp key n).2 else (kexp key n).2)
def wkL (key : List Int) : List Int := (kexp key 40).1
theorem kexp_zero (key : List Int) : kexp key 0 = (key, 1) := rfl
theorem kexp_succ (key : List Int) (n : Nat) : kexp key (n + 1) = ((kexp key n).1 ++ kcol (kexp key n).1 (kexp key n).2 (n + 4), if (n + 4) % 4 = 0 then tw (kexp key n).2 else (kexp key n).2) := rfl
theorem kcol_byt (w : List Int) (c : Int) (i : Nat) : Byt (kcol w c i) := fun x hx => by
  unfold kcol at hx
  simp only [List.mem_cons, List.not_mem_nil, or_false] at hx
  rcases hx with rfl | rfl | rfl | rfl <;> exact xb_u _ _
theorem kexp_ok {key : List Int} (hk : Blk16 key) : ∀ n, (kexp key n).1.length = 16 + 4 * n ∧ Byt (kexp key n).1 ∧ B8 (kexp key n).2
  | 0 => ⟨hk.1, hk.2, (⟨by decide, by decide⟩ : B8 1)⟩
  | n + 1 => by
    obtain ⟨h1, h2, h3⟩ := kexp_ok hk n
    rw [kexp_succ]
    refine ⟨?_, h2.append (kcol_byt _ _ _), ?_⟩
    · show (_ ++ kcol _ _ _).length = _
      rw [List.length_append, h1]
      show 16 + 4 * n + 4 = _
      omega
    · show B8 (if _ then _ else _)
      split
      · exact tw_u h3
      · exact h3
theorem wkL_len {key : List Int} (hk : Blk16 key) : (wkL key).length = 176 := (kexp_ok hk 40).1
theorem wkL_byt {key : List Int} (hk : Blk16 key) : Byt (wkL key) := (kexp_ok hk 40).2.1
theorem wkL_eq (key : List Int) : wkL key = (kexp key 40).1 := rfl
/-- a block sealed under a key -/
def aesL (key s : List Int) : List Int := sealL (wkL key) s
theorem aesL_eq (key s : List Int) : aesL key s = sealL (wkL key) s := rfl
theorem aesL_ok {key s : List Int} (hk : Blk16 key) (hs : Blk16 s) : Blk16 (aesL key s) := sealL_ok (wkL_len hk) (wkL_byt hk) hs
theorem aesL_inj {key s t : List Int} (hk : Blk16 key) (hs : Blk16 s) (ht : Blk16 t) (h : aesL key s = aesL key t) : s = t := sealL_inj (wkL_len hk) (wkL_byt hk) hs ht h
theorem aes_known : aesL [0, 1, 2, 3, 4, 5, 6, 7, 8, 9, 10, 11, 12, 13, 14, 15] [0, 17, 34, 51, 68, 85, 102, 119, 136, 153, 170, 187, 204, 221, 238, 255] = [105, 196, 224, 216, 106, 123, 4, 48, 216, 205, 183, 128, 112, 180, 197, 90] := by decide +kernel
attribute [irreducible] kexp wkL aesL
end Go.Proofs.Ytieabfifaigjdaa
