
/- Contracts: math/bits.RotateLeft32 and sha.turn, the reference's shift and turn. Conditions: as each theorem states them. -/
import Derived.Test.YtibjafkclojimaaRows
import Derived.Test.YtibjafkclojimaaS1
namespace Go.Proofs.Ytibjafkclojimaa
open Go.RowKit

theorem rot_or (n : Nat) (hn : n ≤ 32) (x : Int) (hx : U32 x) : bits .or .u32 (IntKind.u32.wrap (x * (2 ^ (32 - n) : Nat))) (x / (2 ^ n : Nat)) = rotr n x := by
  obtain ⟨m, rfl⟩ := Int.eq_ofNat_of_zero_le hx.1
  have hp : (2 ^ n) * (2 ^ (32 - n)) = 4294967296 := by rw [← Nat.pow_add, show n + (32 - n) = 32 by omega]
  have hm : m < 4294967296 := by have := hx.2; omega
  have h1 : m / 2 ^ n < 2 ^ (32 - n) := Nat.div_lt_of_lt_mul (by rw [hp]; omega)
  have h0 : 2 ^ (32 - n) ≤ 4294967296 := Nat.pow_le_pow_right (n := 2) (by omega) (show 32 - n ≤ 32 by omega)
  have e1 : IntKind.u32.wrap ((m : Int) * (2 ^ (32 - n) : Nat)) = ((m % 2 ^ n * 2 ^ (32 - n) : Nat) : Int) := by
    rw [wrapu32, ← Int.natCast_mul, show (4294967296 : Int) = ((4294967296 : Nat) : Int) from rfl, ← Int.natCast_emod]
    congr 1
    rw [← hp, Nat.mul_mod_mul_right]
  have h2 : m % 2 ^ n * 2 ^ (32 - n) < 4294967296 := by
    rw [← hp]
    exact Nat.mul_lt_mul_of_pos_right (Nat.mod_lt _ (Nat.pos_of_ne_zero (by simp))) (Nat.pos_of_ne_zero (by simp))
  rw [e1, ← Int.natCast_ediv, bits_or_u32_nat _ _ h2 (by omega), or_add h1]
  unfold rotr
  rw [← Int.natCast_ediv, ← Int.natCast_emod, ← Int.natCast_mul, ← Int.natCast_add, Nat.add_comm]

-- GENERATED
theorem rotl_2 (x : Int) (w : World) (hx : U32 x) : Calls Try.prog 35 #[.int .u32 x, .int .i64 (-2)] w fun e w' => e = .returned (.int .u32 (rotr 2 x)) ∧ w = w' := by
  have HR := Lib.hid (rot_or 2 (by decide) x hx)
  have hb : bits .and .u64 (IntKind.u64.wrap (-2)) 31 = 30 := by decide +kernel
  unfold U32 at hx
  obtain ⟨h0, h1⟩ := hx
  go_enter Try.func35, Try.ntmps35
  go_wp2_with fail
  go_ret
  exact ⟨ret_int HR.out, rfl⟩
theorem turn_2 (x : Int) (w : World) (hx : U32 x) : Calls Try.prog 34 #[.int .u32 x, .int .i64 2] w fun e w' => e = .returned (.int .u32 (rotr 2 x)) ∧ w' = w := by
  go_enter Try.func34, Try.ntmps34
  go_wp2_with (go_at_call 35; refine (rotl_2 x _ hx).mono ?_; rintro e w' ⟨rfl, rfl⟩)
  go_ret
  exact ⟨rfl, rfl⟩
theorem rotl_6 (x : Int) (w : World) (hx : U32 x) : Calls Try.prog 35 #[.int .u32 x, .int .i64 (-6)] w fun e w' => e = .returned (.int .u32 (rotr 6 x)) ∧ w = w' := by
  have HR := Lib.hid (rot_or 6 (by decide) x hx)
  have hb : bits .and .u64 (IntKind.u64.wrap (-6)) 31 = 26 := by decide +kernel
  unfold U32 at hx
  obtain ⟨h0, h1⟩ := hx
  go_enter Try.func35, Try.ntmps35
  go_wp2_with fail
  go_ret
  exact ⟨ret_int HR.out, rfl⟩
theorem turn_6 (x : Int) (w : World) (hx : U32 x) : Calls Try.prog 34 #[.int .u32 x, .int .i64 6] w fun e w' => e = .returned (.int .u32 (rotr 6 x)) ∧ w' = w := by
  go_enter Try.func34, Try.ntmps34
  go_wp2_with (go_at_call 35; refine (rotl_6 x _ hx).mono ?_; rintro e w' ⟨rfl, rfl⟩)
  go_ret
  exact ⟨rfl, rfl⟩
theorem rotl_7 (x : Int) (w : World) (hx : U32 x) : Calls Try.prog 35 #[.int .u32 x, .int .i64 (-7)] w fun e w' => e = .returned (.int .u32 (rotr 7 x)) ∧ w = w' := by
  have HR := Lib.hid (rot_or 7 (by decide) x hx)
  have hb : bits .and .u64 (IntKind.u64.wrap (-7)) 31 = 25 := by decide +kernel
  unfold U32 at hx
  obtain ⟨h0, h1⟩ := hx
  go_enter Try.func35, Try.ntmps35
  go_wp2_with fail
  go_ret
  exact ⟨ret_int HR.out, rfl⟩
theorem turn_7 (x : Int) (w : World) (hx : U32 x) : Calls Try.prog 34 #[.int .u32 x, .int .i64 7] w fun e w' => e = .returned (.int .u32 (rotr 7 x)) ∧ w' = w := by
  go_enter Try.func34, Try.ntmps34
  go_wp2_with (go_at_call 35; refine (rotl_7 x _ hx).mono ?_; rintro e w' ⟨rfl, rfl⟩)
  go_ret
  exact ⟨rfl, rfl⟩
theorem rotl_11 (x : Int) (w : World) (hx : U32 x) : Calls Try.prog 35 #[.int .u32 x, .int .i64 (-11)] w fun e w' => e = .returned (.int .u32 (rotr 11 x)) ∧ w = w' := by
  have HR := Lib.hid (rot_or 11 (by decide) x hx)
  have hb : bits .and .u64 (IntKind.u64.wrap (-11)) 31 = 21 := by decide +kernel
  unfold U32 at hx
  obtain ⟨h0, h1⟩ := hx
  go_enter Try.func35, Try.ntmps35
  go_wp2_with fail
  go_ret
  exact ⟨ret_int HR.out, rfl⟩
theorem turn_11 (x : Int) (w : World) (hx : U32 x) : Calls Try.prog 34 #[.int .u32 x, .int .i64 11] w fun e w' => e = .returned (.int .u32 (rotr 11 x)) ∧ w' = w := by
  go_enter Try.func34, Try.ntmps34
  go_wp2_with (go_at_call 35; refine (rotl_11 x _ hx).mono ?_; rintro e w' ⟨rfl, rfl⟩)
  go_ret
  exact ⟨rfl, rfl⟩
theorem rotl_13 (x : Int) (w : World) (hx : U32 x) : Calls Try.prog 35 #[.int .u32 x, .int .i64 (-13)] w fun e w' => e = .returned (.int .u32 (rotr 13 x)) ∧ w = w' := by
  have HR := Lib.hid (rot_or 13 (by decide) x hx)
  have hb : bits .and .u64 (IntKind.u64.wrap (-13)) 31 = 19 := by decide +kernel
  unfold U32 at hx
  obtain ⟨h0, h1⟩ := hx
  go_enter Try.func35, Try.ntmps35
  go_wp2_with fail
  go_ret
  exact ⟨ret_int HR.out, rfl⟩
theorem turn_13 (x : Int) (w : World) (hx : U32 x) : Calls Try.prog 34 #[.int .u32 x, .int .i64 13] w fun e w' => e = .returned (.int .u32 (rotr 13 x)) ∧ w' = w := by
  go_enter Try.func34, Try.ntmps34
  go_wp2_with (go_at_call 35; refine (rotl_13 x _ hx).mono ?_; rintro e w' ⟨rfl, rfl⟩)
  go_ret
  exact ⟨rfl, rfl⟩
theorem rotl_17 (x : Int) (w : World) (hx : U32 x) : Calls Try.prog 35 #[.int .u32 x, .int .i64 (-17)] w fun e w' => e = .returned (.int .u32 (rotr 17 x)) ∧ w = w' := by
  have HR := Lib.hid (rot_or 17 (by decide) x hx)
  have hb : bits .and .u64 (IntKind.u64.wrap (-17)) 31 = 15 := by decide +kernel
  unfold U32 at hx
  obtain ⟨h0, h1⟩ := hx
  go_enter Try.func35, Try.ntmps35
  go_wp2_with fail
  go_ret
  exact ⟨ret_int HR.out, rfl⟩
theorem turn_17 (x : Int) (w : World) (hx : U32 x) : Calls Try.prog 34 #[.int .u32 x, .int .i64 17] w fun e w' => e = .returned (.int .u32 (rotr 17 x)) ∧ w' = w := by
  go_enter Try.func34, Try.ntmps34
  go_wp2_with (go_at_call 35; refine (rotl_17 x _ hx).mono ?_; rintro e w' ⟨rfl, rfl⟩)
  go_ret
  exact ⟨rfl, rfl⟩
theorem rotl_18 (x : Int) (w : World) (hx : U32 x) : Calls Try.prog 35 #[.int .u32 x, .int .i64 (-18)] w fun e w' => e = .returned (.int .u32 (rotr 18 x)) ∧ w = w' := by
  have HR := Lib.hid (rot_or 18 (by decide) x hx)
  have hb : bits .and .u64 (IntKind.u64.wrap (-18)) 31 = 14 := by decide +kernel
  unfold U32 at hx
  obtain ⟨h0, h1⟩ := hx
  go_enter Try.func35, Try.ntmps35
  go_wp2_with fail
  go_ret
  exact ⟨ret_int HR.out, rfl⟩
theorem turn_18 (x : Int) (w : World) (hx : U32 x) : Calls Try.prog 34 #[.int .u32 x, .int .i64 18] w fun e w' => e = .returned (.int .u32 (rotr 18 x)) ∧ w' = w := by
  go_enter Try.func34, Try.ntmps34
  go_wp2_with (go_at_call 35; refine (rotl_18 x _ hx).mono ?_; rintro e w' ⟨rfl, rfl⟩)
  go_ret
  exact ⟨rfl, rfl⟩
theorem rotl_19 (x : Int) (w : World) (hx : U32 x) : Calls Try.prog 35 #[.int .u32 x, .int .i64 (-19)] w fun e w' => e = .returned (.int .u32 (rotr 19 x)) ∧ w = w' := by
  have HR := Lib.hid (rot_or 19 (by decide) x hx)
  have hb : bits .and .u64 (IntKind.u64.wrap (-19)) 31 = 13 := by decide +kernel
  unfold U32 at hx
  obtain ⟨h0, h1⟩ := hx
  go_enter Try.func35, Try.ntmps35
  go_wp2_with fail
  go_ret
  exact ⟨ret_int HR.out, rfl⟩
theorem turn_19 (x : Int) (w : World) (hx : U32 x) : Calls Try.prog 34 #[.int .u32 x, .int .i64 19] w fun e w' => e = .returned (.int .u32 (rotr 19 x)) ∧ w' = w := by
  go_enter Try.func34, Try.ntmps34
  go_wp2_with (go_at_call 35; refine (rotl_19 x _ hx).mono ?_; rintro e w' ⟨rfl, rfl⟩)
  go_ret
  exact ⟨rfl, rfl⟩
theorem rotl_22 (x : Int) (w : World) (hx : U32 x) : Calls Try.prog 35 #[.int .u32 x, .int .i64 (-22)] w fun e w' => e = .returned (.int .u32 (rotr 22 x)) ∧ w = w' := by
  have HR := Lib.hid (rot_or 22 (by decide) x hx)
  have hb : bits .and .u64 (IntKind.u64.wrap (-22)) 31 = 10 := by decide +kernel
  unfold U32 at hx
  obtain ⟨h0, h1⟩ := hx
  go_enter Try.func35, Try.ntmps35
  go_wp2_with fail
  go_ret
  exact ⟨ret_int HR.out, rfl⟩
theorem turn_22 (x : Int) (w : World) (hx : U32 x) : Calls Try.prog 34 #[.int .u32 x, .int .i64 22] w fun e w' => e = .returned (.int .u32 (rotr 22 x)) ∧ w' = w := by
  go_enter Try.func34, Try.ntmps34
  go_wp2_with (go_at_call 35; refine (rotl_22 x _ hx).mono ?_; rintro e w' ⟨rfl, rfl⟩)
  go_ret
  exact ⟨rfl, rfl⟩
theorem rotl_25 (x : Int) (w : World) (hx : U32 x) : Calls Try.prog 35 #[.int .u32 x, .int .i64 (-25)] w fun e w' => e = .returned (.int .u32 (rotr 25 x)) ∧ w = w' := by
  have HR := Lib.hid (rot_or 25 (by decide) x hx)
  have hb : bits .and .u64 (IntKind.u64.wrap (-25)) 31 = 7 := by decide +kernel
  unfold U32 at hx
  obtain ⟨h0, h1⟩ := hx
  go_enter Try.func35, Try.ntmps35
  go_wp2_with fail
  go_ret
  exact ⟨ret_int HR.out, rfl⟩
theorem turn_25 (x : Int) (w : World) (hx : U32 x) : Calls Try.prog 34 #[.int .u32 x, .int .i64 25] w fun e w' => e = .returned (.int .u32 (rotr 25 x)) ∧ w' = w := by
  go_enter Try.func34, Try.ntmps34
  go_wp2_with (go_at_call 35; refine (rotl_25 x _ hx).mono ?_; rintro e w' ⟨rfl, rfl⟩)
  go_ret
  exact ⟨rfl, rfl⟩
theorem turn_any (x n : Int) (w : World) (hx : U32 x) (hn : n = 2 ∨ n = 6 ∨ n = 7 ∨ n = 11 ∨ n = 13 ∨ n = 17 ∨ n = 18 ∨ n = 19 ∨ n = 22 ∨ n = 25) : Calls Try.prog 34 #[.int .u32 x, .int .i64 n] w fun e w' => e = .returned (.int .u32 (rotr n.toNat x)) ∧ w' = w := by
  rcases hn with rfl | rfl | rfl | rfl | rfl | rfl | rfl | rfl | rfl | rfl
  · exact turn_2 x w hx
  · exact turn_6 x w hx
  · exact turn_7 x w hx
  · exact turn_11 x w hx
  · exact turn_13 x w hx
  · exact turn_17 x w hx
  · exact turn_18 x w hx
  · exact turn_19 x w hx
  · exact turn_22 x w hx
  · exact turn_25 x w hx

/-- shift: a word divided by a power of two -/
def hlf (n : Nat) (x : Int) : Int := x / (2 ^ n : Nat)
theorem hlf_succ {x : Int} (h0 : 0 ≤ x) (k : Nat) : hlf k x / 2 = hlf (k + 1) x := by
  obtain ⟨m, rfl⟩ := Int.eq_ofNat_of_zero_le h0
  unfold hlf
  rw [← Int.natCast_ediv, ← Int.natCast_ediv, show (2 : Int) = ((2 : Nat) : Int) from rfl, ← Int.natCast_ediv, Nat.div_div_eq_div_mul, Nat.pow_succ]
end Go.Proofs.Ytibjafkclojimaa
