/- Contracts (layer 1): varint.Take, varint.Append of one number. Conditions: as each theorem states them. -/
import Derived.Test.YtlefnddhmpgijaaH2
import Derived.Test.YtlefnddhmpgijaaB2
namespace Go.Proofs.Ytlefnddhmpgijaa
open Go.RowKit
theorem or64 {z y : Int} (h0 : 0 ≤ z) (h1 : z < 72057594037927936) (y0 : 0 ≤ y) (y1 : y < 256) : bits .or .u64 (z * 256) y = z * 256 + y := by
  rw [bits_or_u64' _ _ (by omega) (by omega) y0 (by omega)]
  obtain ⟨a, rfl⟩ := Int.eq_ofNat_of_zero_le h0
  obtain ⟨b, rfl⟩ := Int.eq_ofNat_of_zero_le y0
  have e : ((a : Int) * 256).toNat = a * 2 ^ 8 := by omega
  rw [e, Int.toNat_natCast, or_add (n := 8) (by omega)]
  omega
theorem or8hi {t : Int} {c : Nat} (h0 : 0 ≤ t) (h1 : t < 64) (hc : c ≤ 3) : bits .or .u8 t ((c : Int) * 64) = t + 64 * c := by
  rw [bits_or_u8' _ _ h0 (by omega) (by omega) (by omega)]
  obtain ⟨a, rfl⟩ := Int.eq_ofNat_of_zero_le h0
  have e : ((c : Int) * 64).toNat = c * 2 ^ 6 := by omega
  rw [e, Int.toNat_natCast, Nat.or_comm, or_add (n := 6) (by omega)]
  omega
theorem and63 {x : Int} (h0 : 0 ≤ x) (h1 : x < 256) : bits .and .u8 x 63 = x % 64 := by
  rw [bits_and_u8' _ _ h0 h1 (by omega) (by omega)]
  obtain ⟨a, rfl⟩ := Int.eq_ofNat_of_zero_le h0
  have e : (a : Int).toNat &&& (63 : Int).toNat = a % 2 ^ 6 := by
    rw [Int.toNat_natCast]; exact Nat.and_two_pow_sub_one_eq_mod a 6
  rw [e]; omega
def vtV : Option (Int × Nat) → Value
  | none => .tuple #[.int .u64 0, .int .i64 0, .bool false]
  | some v => .tuple #[.int .u64 v.1, .int .i64 (v.2 : Nat), .bool true]
theorem ofF_take {L : List Int} {j : Nat} (hj : j < L.length) (a : Int) : ofF a (L.take (j + 1)) = 256 * ofF a (L.take j) + L.getD j 0 := by
  rw [take_snoc_getD hj, ofF_snoc]
theorem pow_le_256 {j : Nat} (h : j ≤ 6) : (256 : Int) ^ j ≤ 281474976710656 := by
  rcases (show j = 0 ∨ j = 1 ∨ j = 2 ∨ j = 3 ∨ j = 4 ∨ j = 5 ∨ j = 6 by omega) with rfl | rfl | rfl | rfl | rfl | rfl | rfl <;> decide
set_option maxRecDepth 100000 in
set_option maxHeartbeats 2000000 in
theorem vtake_any (A : Option Addr) (cap : Nat) (xs : List Int) (w : World) (hr : Rd w.heap.size .u8 w A xs) (hb : Byt xs) (hc : xs.length ≤ cap) (hl : xs.length ≤ 1000000000000) :
    Calls Try.prog 53 #[.slice A xs.length cap] w fun e w' => e = .returned (vtV (vtake xs)) ∧ w = w' := by
  cases xs with
  | nil =>
    go_enter Try.func53, Try.ntmps53
    go_wp2_with fail
    go_ret3
    exact ⟨rfl, rfl⟩
  | cons x r =>
    have hx := hb x (by simp)
    have HV := Lib.hid (vtake_cons x r)
    have hcl : (x / 64).toNat ≤ 3 := by omega
    have hq4 : (2 : Nat) ^ (x / 64).toNat = 1 ∨ (2 : Nat) ^ (x / 64).toNat = 2 ∨ (2 : Nat) ^ (x / 64).toNat = 4 ∨ (2 : Nat) ^ (x / 64).toNat = 8 := by
      rcases (show (x / 64).toNat = 0 ∨ (x / 64).toNat = 1 ∨ (x / 64).toNat = 2 ∨ (x / 64).toNat = 3 by omega) with h | h | h | h <;> rw [h] <;> simp
    have HW := fun w => width_any (x / 64).toNat hcl w
    rw [show (((x / 64).toNat : Nat) : Int) = x / 64 by omega] at HW
    generalize (2 : Nat) ^ (x / 64).toNat = q at *
    have HW' := Lib.hid HW
    clear HW
    obtain ⟨ad, rfl, _⟩ := hr.isSome (by simp)
    have c0 := hr.at0 (by simp)
    rw [List.getD_cons_zero] at c0
    have HX63 := and63 hx.1 hx.2
    obtain ⟨hx0, hx1⟩ := hx
    have hq8 : 1 ≤ q ∧ q ≤ 8 := by omega
    obtain ⟨hq1, hq8⟩ := hq8
    have hL1 : 0 < (x :: r).length := by simp
    by_cases hlen : (x :: r).length < q
    · rw [if_pos hlen] at HV
      generalize hL : (x :: r).length = L at *
      clear hL hq4
      have hL0 : L ≠ 0 := by omega
      go_enter Try.func53, Try.ntmps53
      go_wp2_with fail
      refine (HW'.out _).mono ?_
      rintro e w' ⟨rfl, rfl⟩
      go_wp2_with fail
      go_ret3
      exact ⟨by rw [HV.out]; rfl, rfl⟩
    · rw [if_neg hlen] at HV
      obtain ⟨A', c', hc1, hc2, hrd, hlen', hrun⟩ := slice_lh elU8 hr hc 1 q (q - 1) (by omega) (by omega) (by omega) (by omega)
      have hdrop : ((x :: r).drop (1 : Int).toNat).take (q - 1) = r.take (q - 1) := rfl
      rw [hdrop] at hrd hlen'
      have HBL : Hid (Byt (r.take (q - 1))) := Lib.hid ((show Byt r from fun y hy => hb y (by simp [hy])).take _)
      generalize hL : (x :: r).length = L at *
      have hL0 : L ≠ 0 := by omega
      clear hL hr
      generalize r.take (q - 1) = l at *
      have HRD := Lib.hid hrd
      have HLL := Lib.hid hlen'
      clear hrd hlen' hq4 hdrop
      go_enter Try.func53, Try.ntmps53
      go_wp2_with fail
      refine (HW'.out _).mono ?_
      rintro e w' ⟨rfl, rfl⟩
      go_wp2_with fail
      go_loop [2, 29] (fun n i => ∃ (j : Nat) (z : Int), j ≤ q - 1 ∧ i = .int .i64 j ∧ n = .int .u64 z ∧ 0 ≤ z ∧ Hid (z = ofF (x % 64) (l.take j))) (fun _ i => q - (intOf i).toNat)
      case atStart => exact ⟨0, x % 64, by omega, rfl, rfl, by omega, Lib.hid (by simp [ofF])⟩
      case round =>
        obtain ⟨j, z, hj, rfl, rfl, hz0, HZ⟩ := hrel
        have hrg := ofF_range (x % 64) (l.take j) (HBL.out.take _) (by omega)
        rw [← HZ.out] at hrg
        have hlt : (l.take j).length = j := by rw [List.length_take, HLL.out]; omega
        rw [hlt] at hrg
        by_cases hjl : j < q - 1
        · have hp := pow_le_256 (j := j) (by omega)
          have hz1 : z < 18014398509481984 := by
            have h1 : (x % 64 + 1) * 256 ^ j ≤ 64 * 281474976710656 := Int.mul_le_mul (by omega) hp (Int.le_of_lt (pow_pos256 _)) (by omega)
            omega
          obtain ⟨ad2, hA2, _, hc'⟩ := HRD.out j (by rw [HLL.out]; exact hjl)
          have hy := HBL.out.getD j
          have HN : Hid (ofF (x % 64) (l.take (j + 1)) = z * 256 + l.getD j 0) := Lib.hid (by rw [ofF_take (by rw [HLL.out]; exact hjl), ← HZ.out]; omega)
          subst hA2
          clear hrg hlt hp
          generalize l.getD j 0 = y at *
          obtain ⟨hy0, hy1⟩ := hy
          have hor := or64 hz0 (by omega) hy0 hy1
          go_wp2_with fail
          go_round
          case rel => exact ⟨j + 1, z * 256 + y, by omega, by go_num, rfl, by omega, Lib.hid HN.out.symm⟩
          case measure => simp [intOf]; omega
        · have hjq : j = q - 1 := by omega
          have hlj : l.take j = l := List.take_of_length_le (by rw [HLL.out]; omega)
          rw [hlj] at HZ
          clear hrg hlt hlj
          go_wp2_with fail
          go_ret3
          exact ⟨by rw [HV.out, ← HZ.out]; rfl, rfl⟩
end Go.Proofs.Ytlefnddhmpgijaa
