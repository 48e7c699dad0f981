/- Contracts of the Go functions that the laws of layer 5 (pnum) reach, and plain lemmas on them. Conditions: as each theorem states them. -/
import Derived.Test.YtookgmjdgcbdnaaRows
import Derived.WalkKit
import Derived.Outline
import Derived.BigQuiet
import Derived.Lib.Hide
namespace Go.Proofs.Ytookgmjdgcbdnaa
open Go.RowKit

def farS (n m : Int) : Int := if n ≤ m then m - n else n - m
theorem ret_int {k : IntKind} {a b : Int} (h : a = b) : Ending.returned (.int k a) = .returned (.int k b) := by rw [h]

theorem far_any (n m : Int) (a : Addr) (w : World) (hn : 0 ≤ n) (hn' : n < 18446744073709551616) (hm : 0 ≤ m) (hm' : m < 18446744073709551616)
    (hc : w.cell? a = some (.int .u64 m)) :
    Calls Try.prog 14 #[.int .u64 n, .pointer (some a)] w fun e w' => e = .returned (.int .u64 (farS n m)) ∧ w' = w := by
  by_cases h : n ≤ m
  all_goals go_enter Try.func14, Try.ntmps14
  all_goals go_wp2
  all_goals go_ret
  all_goals exact ⟨ret_int (by unfold farS; split <;> omega), rfl⟩

def bytesW (w : Int) : Int := if w < 128 then 1 else if w < 32768 then 2 else if w < 8388608 then 3 else 4
def bytesS (full acked : Int) (has : Bool) : Int := bytesW (if has then (if full ≤ acked then 0 else full - acked) else full + 1)

theorem bytesW1 (x : Int) (h : x < 128) : bytesW x = 1 := by unfold bytesW; rw [if_pos h]
theorem bytesW2 (x : Int) (h' : 128 ≤ x) (h : x < 32768) : bytesW x = 2 := by unfold bytesW; rw [if_neg (by omega), if_pos h]
theorem bytesW3 (x : Int) (h' : 32768 ≤ x) (h : x < 8388608) : bytesW x = 3 := by unfold bytesW; rw [if_neg (by omega), if_neg (by omega), if_pos h]
theorem bytesW4 (x : Int) (h' : 8388608 ≤ x) : bytesW x = 4 := by unfold bytesW; rw [if_neg (by omega), if_neg (by omega), if_neg (by omega)]

theorem bytes_max (acked : Int) (w : World) :
    Calls Try.prog 7 #[.int .u64 18446744073709551615, .int .u64 acked, .bool false] w fun e w' => e = .returned (.int .i64 4) ∧ w = w' := by
  have hz : (IntKind.u64.wrap 18446744073709551616 == 0) = true := by decide
  go_enter Try.func7, Try.ntmps7
  go_wp2
  go_ret
  exact ⟨rfl, rfl⟩

theorem bytes_any (full acked : Int) (has : Bool) (w : World) (h0 : 0 ≤ full) (h1 : full < 18446744073709551616) (hn : 0 ≤ acked) (hn' : acked < 18446744073709551616) :
    Calls Try.prog 7 #[.int .u64 full, .int .u64 acked, .bool has] w fun e w' => e = .returned (.int .i64 (bytesS full acked has)) ∧ w = w' := by
  by_cases hm : has = false ∧ full = 18446744073709551615
  · obtain ⟨rfl, rfl⟩ := hm
    exact bytes_max acked w
  have hways : (has = true ∧ full ≤ acked) ∨ (has = true ∧ ¬ full ≤ acked) ∨ (has = false ∧ full + 1 < 18446744073709551616) := by
    cases has
    · right; right; simp at hm ⊢; omega
    · by_cases h : full ≤ acked
      · left; exact ⟨rfl, h⟩
      · right; left; exact ⟨rfl, h⟩
  clear hm
  rcases hways with ⟨rfl, h⟩ | ⟨rfl, h⟩ | ⟨rfl, h⟩
  · go_enter Try.func7, Try.ntmps7
    go_wp2
    go_loop [8] (fun n => n = .int .i64 1) (fun n => 4 - (intOf n).toNat)
    case atStart => rfl
    case round =>
      subst hrel
      go_wp2
      go_ret
      exact ⟨ret_int (by simp [bytesS, h, bytesW]), rfl⟩
  case' inr.inr =>
    have hz : (full + 1 == 0) = false := by simp; omega
    have hb := Lib.hid (show bytesS full acked false = bytesW (full + 1) by simp [bytesS])
    have hx0 : 0 ≤ full + 1 := by omega
    have hx1 : full + 1 < 18446744073709551616 := by omega
  case' inr.inl =>
    have hb := Lib.hid (show bytesS full acked true = bytesW (full - acked) by simp [bytesS, h])
    have hx0 : 0 ≤ full - acked := by omega
    have hx1 : full - acked < 18446744073709551616 := by omega
  all_goals go_enter Try.func7, Try.ntmps7
  all_goals go_wp2
  rotate_left
  generalize full + 1 = x at *
  rotate_left
  generalize full - acked = x at *
  all_goals
    go_loop [8] (fun n => ∃ (k : Nat), 1 ≤ k ∧ k ≤ 4 ∧ n = .int .i64 k ∧ (2 ≤ k → 128 ≤ x) ∧ (3 ≤ k → 32768 ≤ x) ∧ (4 ≤ k → 8388608 ≤ x)) (fun n => 4 - (intOf n).toNat)
    case atStart => exact ⟨1, by omega, by omega, rfl, by omega, by omega, by omega⟩
    case round =>
      obtain ⟨k, hk1, hk4, rfl, g2, g3, g4⟩ := hrel
      clear h
      obtain rfl | rfl | rfl | rfl : k = 1 ∨ k = 2 ∨ k = 3 ∨ k = 4 := by omega
      all_goals go_wp2
      all_goals first | (go_ret; refine ⟨ret_int ?_, rfl⟩; rw [hb.out]; first | exact (bytesW1 _ (by omega)).symm | exact (bytesW2 _ (by omega) (by omega)).symm | exact (bytesW3 _ (by omega) (by omega)).symm | exact (bytesW4 _ (by omega)).symm) | skip
      all_goals go_round
      all_goals first | (simp [intOf]; done) | exact ⟨2, by omega, by omega, rfl, by omega, by omega, by omega⟩ | exact ⟨3, by omega, by omega, rfl, by omega, by omega, by omega⟩ | exact ⟨4, by omega, by omega, rfl, by omega, by omega, by omega⟩
end Go.Proofs.Ytookgmjdgcbdnaa
