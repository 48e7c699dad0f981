
/- Contracts: math/bits.RotateLeft32 and sha.turn, the reference's shift and turn. Conditions: as each theorem states them. -/
import Derived.Test.YtnagpaaiaaaamaaRows
import Derived.Test.YtnagpaaiaaaamaaS1
namespace Go.Proofs.Ytnagpaaiaaaamaa
open Go.RowKit

theorem rot_or (n : Nat) (hn : n ≤ 32) (x : Int) (hx : U32 x) : bits .or .u32 (IntKind.u32.wrap (x * (2 ^ (32 - n) : Nat))) (x / (2 ^ n : Nat)) = rotr n x := by
  obtain ⟨m, rfl⟩ := Int.eq_ofNat_of_zero_le hx.1
  have hp : (2 ^ n) * (2 ^ (32 - n)) = 4294967296 := by rw [← Nat.pow_add, show n + (32 - n) = 32 by omega]
  have hm : m < 4294967296 := by have := hx.2; omega
  have h1 : m / 2 ^ n < 2 ^ (32 - n) := Nat.div_lt_of_lt_mul (by rw [hp]; omega)
  have h0 : 2 ^ (32 - n) ≤ 4294967296 := Nat.pow_le_pow_right (n := 2) (by omega) (show 32 - n ≤ 32 by omega)
  have e1 : IntKind.u32.wrap ((m : Int) * (2 ^ (32 - n) : Nat)) = ((m % 2 ^ n * 2 ^ (32 - n) : Nat) : Int) := by
    rw [wrapu32, ← Int.natCast_mul, show (4294967296 : Int) = ((4294967296 : Nat) : Int) from rfl, ← Int.natCast_emod]
    congr 1
    rw [← hp, Nat.mul_mod_mul_right]
  have h2 : m % 2 ^ n * 2 ^ (32 - n) < 4294967296 := by
    rw [← hp]
    exact Nat.mul_lt_mul_of_pos_right (Nat.mod_lt _ (Nat.pos_of_ne_zero (by simp))) (Nat.pos_of_ne_zero (by simp))
  rw [e1, ← Int.natCast_ediv, bits_or_u32_nat _ _ h2 (by omega), or_add h1]
  unfold rotr
  rw [← Int.natCast_ediv, ← Int.natCast_emod, ← Int.natCast_mul, ← Int.natCast_add, Nat.add_comm]

-- GENERATED
theorem rotl_2 (x : Int) (w : World) (hx : U32 x) : Calls Try.prog 44 #[.int .u32 x, .int .i64 (-2)] w fun e w' => e = .returned (.int .u32 (rotr 2 x)) ∧ w = w' := by
  have HR := Lib.hid (rot_or 2 (by decide) x hx)
  have hb : bits .and .u64 (IntKind.u64.wrap (-2)) 31 = 30 := by decide +kernel
  unfold U32 at hx
  obtain ⟨h0, h1⟩ := hx
  go_enter Try.func44, Try.ntmps44
  go_wp2_with fail
  go_ret
  exact ⟨ret_int HR.out, rfl⟩
theorem turn_2 (x : Int) (w : World) (hx : U32 x) : Calls Try.prog 43 #[.int .u32 x, .int .i64 2] w fun e w' => e = .returned (.int .u32 (rotr 2 x)) ∧ w' = w := by
  go_enter Try.func43, Try.ntmps43
  go_wp2_with (go_at_call 44; refine (rotl_2 x _ hx).mono ?_; rintro e w' ⟨rfl, rfl⟩)
  go_ret
  exact ⟨rfl, rfl⟩
theorem rotl_6 (x : Int) (w : World) (hx : U32 x) : Calls Try.prog 44 #[.int .u32 x, .int .i64 (-6)] w fun e w' => e = .returned (.int .u32 (rotr 6 x)) ∧ w = w' := by
  have HR := Lib.hid (rot_or 6 (by decide) x hx)
  have hb : bits .and .u64 (IntKind.u64.wrap (-6)) 31 = 26 := by decide +kernel
  unfold U32 at hx
  obtain ⟨h0, h1⟩ := hx
  go_enter Try.func44, Try.ntmps44
  go_wp2_with fail
  go_ret
  exact ⟨ret_int HR.out, rfl⟩
theorem turn_6 (x : Int) (w : World) (hx : U32 x) : Calls Try.prog 43 #[.int .u32 x, .int .i64 6] w fun e w' => e = .returned (.int .u32 (rotr 6 x)) ∧ w' = w := by
  go_enter Try.func43, Try.ntmps43
  go_wp2_with (go_at_call 44; refine (rotl_6 x _ hx).mono ?_; rintro e w' ⟨rfl, rfl⟩)
  go_ret
  exact ⟨rfl, rfl⟩
theorem rotl_7 (x : Int) (w : World) (hx : U32 x) : Calls Try.prog 44 #[.int .u32 x, .int .i64 (-7)] w fun e w' => e = .returned (.int .u32 (rotr 7 x)) ∧ w = w' := by
  have HR := Lib.hid (rot_or 7 (by decide) x hx)
  have hb : bits .and .u64 (IntKind.u64.wrap (-7)) 31 = 25 := by decide +kernel
  unfold U32 at hx
  obtain ⟨h0, h1⟩ := hx
  go_enter Try.func44, Try.ntmps44
  go_wp2_with fail
  go_ret
  exact ⟨ret_int HR.out, rfl⟩
theorem turn_7 (x : Int) (w : World) (hx : U32 x) : Calls Try.prog 43 #[.int .u32 x, .int .i64 7] w fun e w' => e = .returned (.int .u32 (rotr 7 x)) ∧ w' = w := by
  go_enter Try.func43, Try.ntmps43
  go_wp2_with (go_at_call 44; refine (rotl_7 x _ hx).mono ?_; rintro e w' ⟨rfl, rfl⟩)
  go_ret
  exact ⟨rfl, rfl⟩
theorem rotl_11 (x : Int) (w : World) (hx : U32 x) : Calls Try.prog 44 #[.int .u32 x, .int .i64 (-11)] w fun e w' => e = .returned (.int .u32 (rotr 11 x)) ∧ w = w' := by
  have HR := Lib.hid (rot_or 11 (by decide) x hx)
  have hb : bits .and .u64 (IntKind.u64.wrap (-11)) 31 = 21 := by decide +kernel
  unfold U32 at hx
  obtain ⟨h0, h1⟩ := hx
  go_enter Try.func44, Try.ntmps44
  go_wp2_with fail
  go_ret
  exact ⟨ret_int HR.out, rfl⟩
theorem turn_11 (x : Int) (w : World) (hx : U32 x) : Calls Try.prog 43 #[.int .u32 x, .int .i64 11] w fun e w' => e = .returned (.int .u32 (rotr 11 x)) ∧ w' = w := by
  go_enter Try.func43, Try.ntmps43
  go_wp2_with (go_at_call 44; refine (rotl_11 x _ hx).mono ?_; rintro e w' ⟨rfl, rfl⟩)
  go_ret
  exact ⟨rfl, rfl⟩
theorem rotl_13 (x : Int) (w : World) (hx : U32 x) : Calls Try.prog 44 #[.int .u32 x, .int .i64 (-13)] w fun e w' => e = .returned (.int .u32 (rotr 13 x)) ∧ w = w' := by
  have HR := Lib.hid (rot_or 13 (by decide) x hx)
  have hb : bits .and .u64 (IntKind.u64.wrap (-13)) 31 = 19 := by decide +kernel
  unfold U32 at hx
  obtain ⟨h0, h1⟩ := hx
  go_enter Try.func44, Try.ntmps44
  go_wp2_with fail
  go_ret
  exact ⟨ret_int HR.out, rfl⟩
theorem turn_13 (x : Int) (w : World) (hx : U32 x) : Calls Try.prog 43 #[.int .u32 x, .int .i64 13] w fun e w' => e = .returned (.int .u32 (rotr 13 x)) ∧ w' = w := by
  go_enter Try.func43, Try.ntmps43
  go_wp2_with (go_at_call 44; refine (rotl_13 x _ hx).mono ?_; rintro e w' ⟨rfl, rfl⟩)
  go_ret
  exact ⟨rfl, rfl⟩
theorem rotl_17 (x : Int) (w : World) (hx : U32 x) : Calls Try.prog 44 #[.int .u32 x, .int .i64 (-17)] w fun e w' => e = .returned (.int .u32 (rotr 17 x)) ∧ w = w' := by
  have HR := Lib.hid (rot_or 17 (by decide) x hx)
  have hb : bits .and .u64 (IntKind.u64.wrap (-17)) 31 = 15 := by decide +kernel
  unfold U32 at hx
  obtain ⟨h0, h1⟩ := hx
  go_enter Try.func44, Try.ntmps44
  go_wp2_with fail
  go_ret
  exact ⟨ret_int HR.out, rfl⟩
theorem turn_17 (x : Int) (w : World) (hx : U32 x) : Calls Try.prog 43 #[.int .u32 x, .int .i64 17] w fun e w' => e = .returned (.int .u32 (rotr 17 x)) ∧ w' = w := by
  go_enter Try.func43, Try.ntmps43
  go_wp2_with (go_at_call 44; refine (rotl_17 x _ hx).mono ?_; rintro e w' ⟨rfl, rfl⟩)
  go_ret
  exact ⟨rfl, rfl⟩
theorem rotl_18 (x : Int) (w : World) (hx : U32 x) : Calls Try.prog 44 #[.int .u32 x, .int .i64 (-18)] w fun e w' => e = .returned (.int .u32 (rotr 18 x)) ∧ w = w' := by
  have HR := Lib.hid (rot_or 18 (by decide) x hx)
  have hb : bits .and .u64 (IntKind.u64.wrap (-18)) 31 = 14 := by decide +kernel
  unfold U32 at hx
  obtain ⟨h0, h1⟩ := hx
  go_enter Try.func44, Try.ntmps44
  go_wp2_with fail
  go_ret
  exact ⟨ret_int HR.out, rfl⟩
theorem turn_18 (x : Int) (w : World) (hx : U32 x) : Calls Try.prog 43 #[.int .u32 x, .int .i64 18] w fun e w' => e = .returned (.int .u32 (rotr 18 x)) ∧ w' = w := by
  go_enter Try.func43, Try.ntmps43
  go_wp2_with (go_at_call 44; refine (rotl_18 x _ hx).mono ?_; rintro e w' ⟨rfl, rfl⟩)
  go_ret
  exact ⟨rfl, rfl⟩
theorem rotl_19 (x : Int) (w : World) (hx : U32 x) : Calls Try.prog 44 #[.int .u32 x, .int .i64 (-19)] w fun e w' => e = .returned (.int .u32 (rotr 19 x)) ∧ w = w' := by
  have HR := Lib.hid (rot_or 19 (by decide) x hx)
  have hb : bits .and .u64 (IntKind.u64.wrap (-19)) 31 = 13 := by decide +kernel
  unfold U32 at hx
  obtain ⟨h0, h1⟩ := hx
  go_enter Try.func44, Try.ntmps44
  go_wp2_with fail
  go_ret
  exact ⟨ret_int HR.out, rfl⟩
theorem turn_19 (x : Int) (w : World) (hx : U32 x) : Calls Try.prog 43 #[.int .u32 x, .int .i64 19] w fun e w' => e = .returned (.int .u32 (rotr 19 x)) ∧ w' = w := by
  go_enter Try.func43, Try.ntmps43
  go_wp2_with (go_at_call 44; refine (rotl_19 x _ hx).mono ?_; rintro e w' ⟨rfl, rfl⟩)
  go_ret
  exact ⟨rfl, rfl⟩
theorem rotl_22 (x : Int) (w : World) (hx : U32 x) : Calls Try.prog 44 #[.int .u32 x, .int .i64 (-22)] w fun e w' => e = .returned (.int .u32 (rotr 22 x)) ∧ w = w' := by
  have HR := Lib.hid (rot_or 22 (by decide) x hx)
  have hb : bits .and .u64 (IntKind.u64.wrap (-22)) 31 = 10 := by decide +kernel
  unfold U32 at hx
  obtain ⟨h0, h1⟩ := hx
  go_enter Try.func44, Try.ntmps44
  go_wp2_with fail
  go_ret
  exact ⟨ret_int HR.out, rfl⟩
theorem turn_22 (x : Int) (w : World) (hx : U32 x) : Calls Try.prog 43 #[.int .u32 x, .int .i64 22] w fun e w' => e = .returned (.int .u32 (rotr 22 x)) ∧ w' = w := by
  go_enter Try.func43, Try.ntmps43
  go_wp2_with (go_at_call 44; refine (rotl_22 x _ hx).mono ?_; rintro e w' ⟨rfl, rfl⟩)
  go_ret
  exact ⟨rfl, rfl⟩
theorem rotl_25 (x : Int) (w : World) (hx : U32 x) : Calls Try.prog 44 #[.int .u32 x, .int .i64 (-25)] w fun e w' => e = .returned (.int .u32 (rotr 25 x)) ∧ w = w' := by
  have HR := Lib.hid (rot_or 25 (by decide) x hx)
  have hb : bits .and .u64 (IntKind.u64.wrap (-25)) 31 = 7 := by decide +kernel
  unfold U32 at hx
  obtain ⟨h0, h1⟩ := hx
  go_enter Try.func44, Try.ntmps44
  go_wp2_with fail
  go_ret
  exact ⟨ret_int HR.out, rfl⟩
theorem turn_25 (x : Int) (w : World) (hx : U32 x) : Calls Try.prog 43 #[.int .u32 x, .int .i64 25] w fun e w' => e = .returned (.int .u32 (rotr 25 x)) ∧ w' = w := by
  go_enter Try.func43, Try.ntmps43
  go_wp2_with (go_at_call 44; refine (rotl_25 x _ hx).mono ?_; rintro e w' ⟨rfl, rfl⟩)
  go_ret
  exact ⟨rfl, rfl⟩
theorem turn_any (x n : Int) (w : World) (hx : U32 x) (hn : n = 2 ∨ n = 6 ∨ n = 7 ∨ n = 11 ∨ n = 13 ∨ n = 17 ∨ n = 18 ∨ n = 19 ∨ n = 22 ∨ n = 25) : Calls Try.prog 43 #[.int .u32 x, .int .i64 n] w fun e w' => e = .returned (.int .u32 (rotr n.toNat x)) ∧ w' = w := by
  rcases hn with rfl | rfl | rfl | rfl | rfl | rfl | rfl | rfl | rfl | rfl
  · exact turn_2 x w hx
  · exact turn_6 x w hx
  · exact turn_7 x w hx
  · exact turn_11 x w hx
  · exact turn_13 x w hx
  · exact turn_17 x w hx
  · exact turn_18 x w hx
  · exact turn_19 x w hx
  · exact turn_22 x w hx
  · exact turn_25 x w hx

/-- shift: a word divided by a power of two -/
def hlf (n : Nat) (x : Int) : Int := x / (2 ^ n : Nat)
theorem hlf_succ {x : Int} (h0 : 0 ≤ x) (k : Nat) : hlf k x / 2 = hlf (k + 1) x := by
  obtain ⟨m, rfl⟩ := Int.eq_ofNat_of_zero_le h0
  unfold hlf
  rw [← Int.natCast_ediv, ← Int.natCast_ediv, show (2 : Int) = ((2 : Nat) : Int) from rfl, ← Int.natCast_ediv, Nat.div_div_eq_div_mul, Nat.pow_succ]
theorem shift_any (x : Int) (n : Nat) (w : World) (hx : U32 x) (hn : n ≤ 1000) : Calls Try.prog 41 #[.int .u32 x, .int .i64 n] w fun e w' => e = .returned (.int .u32 (hlf n x)) ∧ w' = w := by
  unfold U32 at hx
  obtain ⟨h0, h1⟩ := hx
  go_enter Try.func41, Try.ntmps41
  go_wp2_with fail
  go_loop [0, 5] (fun u i => ∃ (k : Nat) (y : Int), k ≤ n ∧ i = .int .i64 k ∧ u = .int .u32 y ∧ 0 ≤ y ∧ y < 4294967296 ∧ Hid (y = hlf k x)) (fun _ i => n - (intOf i).toNat)
  case atStart => exact ⟨0, x, by omega, rfl, rfl, h0, h1, Lib.hid (by simp [hlf])⟩
  case round =>
    obtain ⟨k, y, hk, rfl, rfl, y0, y1, HY⟩ := hrel
    by_cases hlt : k < n
    · have hy2 : Hid (y / 2 = hlf (k + 1) x) := Lib.hid (by rw [HY.out]; exact hlf_succ h0 k)
      go_wp2_with fail
      go_round
      case rel => exact ⟨k + 1, y / 2, by omega, by go_num, rfl, by omega, by omega, hy2⟩
      case measure => simp [intOf]; omega
    · obtain rfl : k = n := by omega
      go_wp2_with fail
      go_ret
      exact ⟨by rw [← HY.out]; rfl, rfl⟩
theorem rturn_any (x : Int) (n : Nat) (w : World) (hx : U32 x) (hn : n ≤ 32) : Calls Try.prog 40 #[.int .u32 x, .int .i64 n] w fun e w' => e = .returned (.int .u32 (rotr n x)) ∧ w' = w := by
  have HX := Lib.hid hx
  have hru := rotr_u hn hx
  unfold U32 at hx hru
  obtain ⟨h0, h1⟩ := hx
  go_enter Try.func40, Try.ntmps40
  go_wp2_with fail
  go_loop [5, 6] (fun u i => ∃ (k : Nat) (y : Int), n ≤ k ∧ k ≤ 32 ∧ i = .int .i64 k ∧ u = .int .u32 y ∧ 0 ≤ y ∧ y < 4294967296 ∧ Hid (y = IntKind.u32.wrap (x * (2 ^ (k - n) : Nat)))) (fun _ i => 32 - (intOf i).toNat)
  case atStart => exact ⟨n, x, by omega, by omega, rfl, rfl, h0, h1, Lib.hid (by simp [wrapu32]; omega)⟩
  case round =>
    obtain ⟨k, y, hk0, hk, rfl, rfl, y0, y1, HY⟩ := hrel
    by_cases hlt : k < 32
    · have hy2 : Hid (IntKind.u32.wrap (2 * y) = IntKind.u32.wrap (x * (2 ^ (k + 1 - n) : Nat))) := Lib.hid (by
        rw [HY.out, wrapu32, wrapu32, wrapu32, show k + 1 - n = (k - n) + 1 by omega, Nat.pow_succ, Int.natCast_mul, ← Int.mul_assoc]
        generalize x * ((2 ^ (k - n) : Nat) : Int) = z
        omega)
      go_wp2_with fail
      go_round
      case rel => exact ⟨k + 1, IntKind.u32.wrap (2 * y), by omega, by omega, by go_num, rfl, by rw [wrapu32]; omega, by rw [wrapu32]; omega, hy2⟩
      case measure => simp [intOf]; omega
    · obtain rfl : k = 32 := by omega
      have hf : Hid (IntKind.u32.wrap (hlf n x + y) = rotr n x) := Lib.hid (by
        unfold hlf
        obtain ⟨m, rfl⟩ := Int.eq_ofNat_of_zero_le h0
        have hp : (2 ^ n) * (2 ^ (32 - n)) = 4294967296 := by rw [← Nat.pow_add, show n + (32 - n) = 32 by omega]
        have e1 : IntKind.u32.wrap ((m : Int) * (2 ^ (32 - n) : Nat)) = ((m % 2 ^ n * 2 ^ (32 - n) : Nat) : Int) := by
          rw [wrapu32, ← Int.natCast_mul, show (4294967296 : Int) = ((4294967296 : Nat) : Int) from rfl, ← Int.natCast_emod]
          congr 1
          rw [← hp, Nat.mul_mod_mul_right]
        have hru2 := rotr_u hn HX.out
        unfold U32 at hru2
        rw [HY.out, e1, wrapu32]
        unfold rotr at hru2 ⊢
        rw [← Int.natCast_emod, ← Int.natCast_mul] at hru2 ⊢
        omega)
      go_wp2_with (go_at_call 41; refine (shift_any x n _ HX.out (by omega)).mono ?_; rintro e w' ⟨rfl, rfl⟩)
      go_ret
      exact ⟨ret_int hf.out, rfl⟩
end Go.Proofs.Ytnagpaaiaaaamaa
