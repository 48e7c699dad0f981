/- Contracts of the references (layers 1 and 3): low, Size, Bytes, Short. Conditions: as each theorem states them. -/
import Derived.Test.YtlefnddhmpgijaaH12
namespace Go.Proofs.Ytlefnddhmpgijaa
open Go.RowKit
theorem make8 (k : Nat) (h1 : 1 ≤ k) (h8 : k ≤ 8) (W : World) : (Instr.makeSlice 25 (.int .i64 (k : Nat)) (.int .i64 (k : Nat))).run Try.prog W = .ok (.slice (some ⟨W.heap.size, 0, none⟩) k k) (W.alloc (.cells ((List.replicate k (0 : Int)).map (Value.int .u8)).toArray 5)) := by
  rcases (show k = 1 ∨ k = 2 ∨ k = 3 ∨ k = 4 ∨ k = 5 ∨ k = 6 ∨ k = 7 ∨ k = 8 by omega) with rfl | rfl | rfl | rfl | rfl | rfl | rfl | rfl <;> kernel_rfl
set_option maxRecDepth 100000 in
set_option maxHeartbeats 2000000 in
theorem low_any (n : Int) (k : Nat) (w : World) (h0 : 0 ≤ n) (h1 : n < 18446744073709551616) (hk1 : 1 ≤ k) (hk : k ≤ 8) : Calls Try.prog 40 #[.int .u64 n, .int .i64 (k : Nat)] w (RetOwn 5 .u8 (beL n k) w) := by
  have mk := make8 k hk1 hk
  go_enter Try.func40, Try.ntmps40
  go_wp2_with fail
  clear mk
  go_loopw [0, 6] (fun nv i wr => ∃ (r : Nat) (x m : Int), r ≤ k ∧ i = .int .i64 x ∧ x = (r : Int) - 1 ∧ nv = .int .u64 m ∧ 0 ≤ m ∧ m < 18446744073709551616 ∧ Hid (m = n / 256 ^ (k - r)) ∧ Hid (Own w.heap.size 5 .u8 wr (some ⟨w.heap.size, 0, none⟩) k k (List.replicate r 0 ++ beL n (k - r))) ∧ Hid (Below w.heap.size w wr)) (fun _ i _ => (intOf i + 1).toNat)
  case atStart => exact ⟨k, k - 1, n, by omega, rfl, rfl, rfl, h0, h1, Lib.hid (by rw [Nat.sub_self]; simp), Lib.hid (Own.cast (Own.litAt (xs := List.replicate k 0) rfl (by simp) (by simp) (Nat.le_refl _) (by simp [maxLen]; omega)) (by rw [Nat.sub_self]; simp [beL])), Lib.hid ((Below.refl _ _).alloc (Nat.le_refl _) _)⟩
  case round =>
    obtain ⟨r, x, m, hr, rfl, hx, rfl, hm0, hm1, HM, HO, HB⟩ := hrel
    cases r with
    | zero =>
      obtain rfl : x = -1 := by omega
      clear hx
      have HOE : Hid (Own w.heap.size 5 .u8 wr (some ⟨w.heap.size, 0, none⟩) k k (beL n k)) := Lib.hid (Own.cast HO.out (by simp))
      clear HO HM
      go_wp2_with fail
      go_ret
      exact ⟨_, _, _, rfl, HOE.out, HB.out⟩
    | succ r =>
      obtain rfl : x = (r : Int) := by omega
      clear hx
      have HN : Hid (List.replicate (r + 1) 0 ++ beL n (k - (r + 1)) = List.replicate r 0 ++ 0 :: beL n (k - (r + 1))) := Lib.hid (by rw [List.replicate_succ']; simp)
      rw [HN.out] at HO
      have hkr : Hid (k - r = (k - (r + 1)) + 1) := Lib.hid (by omega)
      have d0 := HO.out.cell0 (i := r) (by simp)
      have f0 := HO.out.frozen r
      have hget : (List.replicate r 0 ++ 0 :: beL n (k - (r + 1))).getD r 0 = 0 := by
        have := getD_mid (List.replicate r 0) (beL n (k - (r + 1))) 0
        rwa [List.length_replicate] at this
      rw [hget] at d0
      have d1 := d0
      have f1 := f0
      rw [← add_zero_addr2] at d1 f1
      clear hget
      have hset : ∀ y, (List.replicate r 0 ++ 0 :: beL n (k - (r + 1))).set r y = List.replicate r 0 ++ y :: beL n (k - (r + 1)) := fun y => by
        have := set_mid (List.replicate r 0) (beL n (k - (r + 1))) 0 y
        rwa [List.length_replicate] at this
      have HSET := Lib.hid hset
      clear hset
      have hm2 : 0 ≤ m / 256 ∧ m / 256 < 18446744073709551616 := by omega
      obtain ⟨hm2, hm3⟩ := hm2
      have HDIV : Hid (m / 256 = n / 256 ^ (k - r)) := Lib.hid (by rw [HM.out, hkr.out, Int.pow_succ, Int.ediv_ediv_of_nonneg (Int.le_of_lt (pow_pos256 _))])
      go_wp2_with fail
      go_roundw
      case rel => exact ⟨r, _, _, by omega, rfl, by omega, rfl, hm2, hm3, HDIV, Lib.hid (Own.cast (HO.out.set_ r _) (by rw [HSET.out, HM.out, hkr.out]; rfl)), Lib.hid (HB.out.setCell (by simp) _)⟩
      case measure => simp [intOf]

theorem size_any (n : Int) (w : World) (hc : vcls n < 4) : Calls Try.prog 47 #[.int .u64 n] w fun e w' => e = .returned (.int .i64 ((2 ^ vcls n : Nat) : Int)) ∧ w = w' := by
  have hg := vcls_gt n
  generalize vcls n = v at *
  obtain ⟨g0, g1, g2, g3⟩ := hg
  rcases (show v = 0 ∨ v = 1 ∨ v = 2 ∨ v = 3 by omega) with rfl | rfl | rfl | rfl
  · have h : n < 64 := by omega
    clear g0 g1 g2 g3
    go_enter Try.func47, Try.ntmps47
    go_wp2_with fail
    go_ret
    exact ⟨rfl, rfl⟩
  · have h : decide (n < 64) = false := by simp; omega
    have h' : n < 16384 := by omega
    clear g0 g1 g2 g3
    go_enter Try.func47, Try.ntmps47
    go_wp2_with fail
    go_ret
    exact ⟨rfl, rfl⟩
  · have h : decide (n < 64) = false := by simp; omega
    have h2 : decide (n < 16384) = false := by simp; omega
    have h' : n < 1073741824 := by omega
    clear g0 g1 g2 g3
    go_enter Try.func47, Try.ntmps47
    go_wp2_with fail
    go_ret
    exact ⟨rfl, rfl⟩
  · have h : decide (n < 64) = false := by simp; omega
    have h2 : decide (n < 16384) = false := by simp; omega
    have h3 : decide (n < 1073741824) = false := by simp; omega
    have h' : n < 4611686018427387904 := by omega
    clear g0 g1 g2 g3
    go_enter Try.func47, Try.ntmps47
    go_wp2_with fail
    go_ret
    exact ⟨rfl, rfl⟩
set_option maxRecDepth 100000 in
set_option maxHeartbeats 4000000 in
theorem bytes_any (n : Int) (w : World) (h0 : 0 ≤ n) (h1 : n < 18446744073709551616) (hc : vcls n < 4) : Calls Try.prog 48 #[.int .u64 n, .int .i64 ((2 ^ vcls n : Nat) : Int)] w (RetOwn 5 .u8 (vput n) w) := by
  have ht := vtop h0 hc
  have hq4 : (vcls n = 0 ∧ (2 : Nat) ^ vcls n = 1) ∨ (vcls n = 1 ∧ (2 : Nat) ^ vcls n = 2) ∨ (vcls n = 2 ∧ (2 : Nat) ^ vcls n = 4) ∨ (vcls n = 3 ∧ (2 : Nat) ^ vcls n = 8) := by
    rcases (show vcls n = 0 ∨ vcls n = 1 ∨ vcls n = 2 ∨ vcls n = 3 by omega) with h | h | h | h <;> rw [h] <;> simp
  have hbe : beL n (2 ^ vcls n) = (n / 256 ^ (2 ^ vcls n - 1) % 256) :: beL n (2 ^ vcls n - 1) := by
    have e : 2 ^ vcls n = (2 ^ vcls n - 1) + 1 := by omega
    rw [e]; rfl
  have hV2 : vput n = (n / 256 ^ (2 ^ vcls n - 1) % 256 + 64 * (vcls n : Int)) :: beL n (2 ^ vcls n - 1) := rfl
  have ht0 : 0 ≤ n / 256 ^ (2 ^ vcls n - 1) % 256 ∧ n / 256 ^ (2 ^ vcls n - 1) % 256 < 64 := by
    have := Int.ediv_nonneg h0 (Int.le_of_lt (pow_pos256 (2 ^ vcls n - 1)))
    omega
  generalize hvn : vput n = V at *
  generalize n / 256 ^ (2 ^ vcls n - 1) % 256 = t at *
  generalize (2 : Nat) ^ vcls n = k at *
  generalize vcls n = c at *
  have HV2 := Lib.hid hV2
  have HBE := Lib.hid hbe
  have HQ := Lib.hid hq4
  have hk18 : 1 ≤ k ∧ k ≤ 8 := by omega
  obtain ⟨hk1, hk⟩ := hk18
  obtain ⟨ht0, ht1⟩ := ht0
  clear hV2 hbe hvn ht hq4
  have mk := make8 k hk1 hk
  go_enter Try.func48, Try.ntmps48
  go_wp2_with fail
  clear mk
  go_loopw [0, 6] (fun nv i wr => ∃ (r : Nat) (x m : Int), r ≤ k ∧ i = .int .i64 x ∧ x = (r : Int) - 1 ∧ nv = .int .u64 m ∧ 0 ≤ m ∧ m < 18446744073709551616 ∧ Hid (m = n / 256 ^ (k - r)) ∧ Hid (Own w.heap.size 5 .u8 wr (some ⟨w.heap.size, 0, none⟩) k k (List.replicate r 0 ++ beL n (k - r))) ∧ Hid (Below w.heap.size w wr)) (fun _ i _ => (intOf i + 1).toNat)
  case atStart => exact ⟨k, k - 1, n, by omega, rfl, rfl, rfl, h0, h1, Lib.hid (by rw [Nat.sub_self]; simp), Lib.hid (Own.cast (Own.litAt (xs := List.replicate k 0) rfl (by simp) (by simp) (Nat.le_refl _) (by simp [maxLen]; omega)) (by rw [Nat.sub_self]; simp [beL])), Lib.hid ((Below.refl _ _).alloc (Nat.le_refl _) _)⟩
  case round =>
    obtain ⟨r, x, m, hr, rfl, hx, rfl, hm0, hm1, HM, HO, HB⟩ := hrel
    cases r with
    | zero =>
      obtain rfl : x = -1 := by omega
      clear hx
      have HOE : Hid (Own w.heap.size 5 .u8 wr (some ⟨w.heap.size, 0, none⟩) k k (beL n k)) := Lib.hid (Own.cast HO.out (by simp))
      clear HO HM
      rw [HBE.out] at HOE
      go_wp2_with fail
      have hzz : w.heap.size < wr.heap.size := (HOE.out.block _ rfl).2
      go_loop [7, 8] (fun cv kv => ∃ j : Nat, j ≤ c ∧ cv = .int .i64 (j : Nat) ∧ kv = .int .i64 ((2 ^ j : Nat) : Int)) (fun cv _ => 4 - (intOf cv).toNat)
      case atStart => exact ⟨0, by omega, rfl, rfl⟩
      case round =>
        obtain ⟨j, hj, rfl, rfl⟩ := hrel
        have HT : Hid (∀ v : Int, v = t + 64 * (c : Int) → Own w.heap.size 5 .u8 (wr.setCell ⟨w.heap.size, 0, none⟩ (.int .u8 v)) (some ⟨w.heap.size, 0, none⟩) k k V) := Lib.hid (fun v hv => Own.cast (HOE.out.set_ 0 _) (by rw [HV2.out, hv]; rfl))
        have HBE2 : Hid (∀ v : Int, Below w.heap.size w (wr.setCell ⟨w.heap.size, 0, none⟩ (.int .u8 v))) := Lib.hid (fun v => HB.out.setCell (by simp) _)
        have d0 := HOE.out.cell0 (i := 0) (by simp)
        have f0 := HOE.out.frozen 0
        rw [List.getD_cons_zero] at d0
        have hq := HQ.out
        rcases hq with ⟨rfl, rfl⟩ | ⟨rfl, rfl⟩ | ⟨rfl, rfl⟩ | ⟨rfl, rfl⟩
        · rcases (show j = 0 by omega) with rfl
          · go_wp2_with fail
            go_ret
            exact ⟨_, _, _, rfl, HT.out _ (by omega), HBE2.out _⟩
        · rcases (show j = 0 ∨ j = 1 by omega) with rfl | rfl
          · go_wp2_with fail
            go_round
            case rel => exact ⟨1, by omega, rfl, rfl⟩
            case measure => simp [intOf]
          · go_wp2_with fail
            go_ret
            exact ⟨_, _, _, rfl, HT.out _ (by omega), HBE2.out _⟩
        · rcases (show j = 0 ∨ j = 1 ∨ j = 2 by omega) with rfl | rfl | rfl
          · go_wp2_with fail
            go_round
            case rel => exact ⟨1, by omega, rfl, rfl⟩
            case measure => simp [intOf]
          · go_wp2_with fail
            go_round
            case rel => exact ⟨2, by omega, rfl, rfl⟩
            case measure => simp [intOf]
          · go_wp2_with fail
            go_ret
            exact ⟨_, _, _, rfl, HT.out _ (by omega), HBE2.out _⟩
        · rcases (show j = 0 ∨ j = 1 ∨ j = 2 ∨ j = 3 by omega) with rfl | rfl | rfl | rfl
          · go_wp2_with fail
            go_round
            case rel => exact ⟨1, by omega, rfl, rfl⟩
            case measure => simp [intOf]
          · go_wp2_with fail
            go_round
            case rel => exact ⟨2, by omega, rfl, rfl⟩
            case measure => simp [intOf]
          · go_wp2_with fail
            go_round
            case rel => exact ⟨3, by omega, rfl, rfl⟩
            case measure => simp [intOf]
          · go_wp2_with fail
            go_ret
            exact ⟨_, _, _, rfl, HT.out _ (by omega), HBE2.out _⟩
    | succ r =>
      obtain rfl : x = (r : Int) := by omega
      clear hx
      have HN : Hid (List.replicate (r + 1) 0 ++ beL n (k - (r + 1)) = List.replicate r 0 ++ 0 :: beL n (k - (r + 1))) := Lib.hid (by rw [List.replicate_succ']; simp)
      rw [HN.out] at HO
      have hkr : Hid (k - r = (k - (r + 1)) + 1) := Lib.hid (by omega)
      have d0 := HO.out.cell0 (i := r) (by simp)
      have f0 := HO.out.frozen r
      have hget : (List.replicate r 0 ++ 0 :: beL n (k - (r + 1))).getD r 0 = 0 := by
        have := getD_mid (List.replicate r 0) (beL n (k - (r + 1))) 0
        rwa [List.length_replicate] at this
      rw [hget] at d0
      have d1 := d0
      have f1 := f0
      rw [← add_zero_addr2] at d1 f1
      clear hget
      have hset : ∀ y, (List.replicate r 0 ++ 0 :: beL n (k - (r + 1))).set r y = List.replicate r 0 ++ y :: beL n (k - (r + 1)) := fun y => by
        have := set_mid (List.replicate r 0) (beL n (k - (r + 1))) 0 y
        rwa [List.length_replicate] at this
      have HSET := Lib.hid hset
      clear hset
      have hm2 : 0 ≤ m / 256 ∧ m / 256 < 18446744073709551616 := by omega
      obtain ⟨hm2, hm3⟩ := hm2
      have HDIV : Hid (m / 256 = n / 256 ^ (k - r)) := Lib.hid (by rw [HM.out, hkr.out, Int.pow_succ, Int.ediv_ediv_of_nonneg (Int.le_of_lt (pow_pos256 _))])
      go_wp2_with fail
      go_roundw
      case rel => exact ⟨r, _, _, by omega, rfl, by omega, rfl, hm2, hm3, HDIV, Lib.hid (Own.cast (HO.out.set_ r _) (by rw [HSET.out, HM.out, hkr.out]; rfl)), Lib.hid (HB.out.setCell (by simp) _)⟩
      case measure => simp [intOf]

theorem short_any (n : Int) (w : World) (h0 : 0 ≤ n) (h1 : n < 18446744073709551616) (hc : vcls n < 4) : Calls Try.prog 41 #[.int .u64 n] w (RetOwn 5 .u8 (vput n) w) := by
  have HS := Lib.hid (fun w => size_any n w hc)
  have HBY := Lib.hid (fun w => bytes_any n w h0 h1 hc)
  have hp := Nat.two_pow_pos (vcls n)
  generalize (2 : Nat) ^ vcls n = k at *
  have hk : decide ((k : Int) = 0) = false := by simp; omega
  go_enter Try.func41, Try.ntmps41
  go_wp2_with fail
  refine (HS.out _).mono ?_
  rintro e w' ⟨rfl, rfl⟩
  go_wp2_with fail
  refine (HBY.out _).mono ?_
  rintro e w' ⟨A, m, c, rfl, ho, hb⟩
  have HO := Lib.hid ho
  have HB := Lib.hid hb
  clear ho hb
  go_wp2_with fail
  go_ret
  exact ⟨A, m, c, rfl, HO.out, HB.out⟩
end Go.Proofs.Ytlefnddhmpgijaa
