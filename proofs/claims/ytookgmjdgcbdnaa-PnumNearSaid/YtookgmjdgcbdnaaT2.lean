/- Contracts of the Go functions that the laws of layer 5 (pnum) reach, and plain lemmas on them. Conditions: as each theorem states them. -/
import Derived.Test.YtookgmjdgcbdnaaT1
namespace Go.Proofs.Ytookgmjdgcbdnaa
open Go.RowKit

theorem window_any (n : Int) (w : World) (hn : 1 ≤ n) (hn' : n ≤ 4) :
    Calls Try.prog 13 #[.int .i64 n] w fun e w' => e = .returned (.int .u64 (256 ^ n.toNat)) ∧ w = w' := by
  go_enter Try.func13, Try.ntmps13
  go_wp2
  go_loop [3, 4] (fun x i => ∃ (k : Nat), k ≤ n ∧ i = .int .i64 k ∧ x = .int .u64 (256 ^ k)) (fun _ i => 4 - (intOf i).toNat)
  case atStart => exact ⟨0, by omega, rfl, rfl⟩
  case round =>
    obtain ⟨k, hk, rfl, rfl⟩ := hrel
    by_cases hlt : (k : Int) < n
    · obtain rfl | rfl | rfl | rfl : k = 0 ∨ k = 1 ∨ k = 2 ∨ k = 3 := by omega
      all_goals go_wp2
      all_goals go_round
      all_goals first | (simp [intOf]; done) | exact ⟨1, by omega, rfl, rfl⟩ | exact ⟨2, by omega, rfl, rfl⟩ | exact ⟨3, by omega, rfl, rfl⟩ | exact ⟨4, by omega, rfl, rfl⟩
    · obtain rfl : n = k := by omega
      go_wp2
      go_ret
      exact ⟨ret_int (by simp), rfl⟩

theorem refBytes_any (full acked : Int) (has : Bool) (w : World) (h0 : 0 ≤ full) (h1 : full < 18446744073709551616) (hn : 0 ≤ acked) (hn' : acked < 18446744073709551616) :
    Calls Try.prog 8 #[.int .u64 full, .int .u64 acked, .bool has] w fun e w' => e = .returned (.int .i64 (bytesS full acked has)) ∧ w = w' := by
  by_cases h : has = true ∧ full ≤ acked
  · obtain ⟨rfl, h⟩ := h
    go_enter Try.func8, Try.ntmps8
    go_wp2
    go_ret
    exact ⟨ret_int (by simp [bytesS, h, bytesW]), rfl⟩
  · have hx : ∃ x, bytesS full acked has = bytesW x ∧ 0 ≤ x ∧ ((has = true ∧ acked < full ∧ x = full - acked) ∨ (has = false ∧ x = full + 1)) := by
      cases has
      · exact ⟨full + 1, by simp [bytesS], by omega, .inr ⟨rfl, rfl⟩⟩
      · simp at h
        exact ⟨full - acked, by simp [bytesS]; rw [if_neg (by omega)], by omega, .inl ⟨rfl, h, rfl⟩⟩
    clear h
    obtain ⟨x, hb, hx0, hx⟩ := hx
    have HB := Lib.hid hb
    clear hb
    rcases hx with ⟨rfl, hl, hx⟩ | ⟨rfl, hx⟩
    all_goals
      have HX := Lib.hid hx
      clear hx
      go_enter Try.func8, Try.ntmps8
      go_wp2
      go_loop [7] (fun n => ∃ (k : Nat), 1 ≤ k ∧ k ≤ 4 ∧ n = .int .i64 k ∧ (2 ≤ k → 128 ≤ x) ∧ (3 ≤ k → 32768 ≤ x) ∧ (4 ≤ k → 8388608 ≤ x)) (fun n => 4 - (intOf n).toNat)
      case atStart => exact ⟨1, by omega, by omega, rfl, by omega, by omega, by omega⟩
      case round =>
        obtain ⟨k, hk1, hk4, rfl, g2, g3, g4⟩ := hrel
        have hx := HX.out
        obtain ⟨rfl, hc⟩ | ⟨rfl, hc⟩ | ⟨rfl, hc⟩ | ⟨rfl, hc⟩ | ⟨rfl, hc⟩ | ⟨rfl, hc⟩ | ⟨rfl, hc⟩ : (k = 1 ∧ x < 128) ∨ (k = 1 ∧ 128 ≤ x) ∨ (k = 2 ∧ x < 32768) ∨ (k = 2 ∧ 32768 ≤ x) ∨ (k = 3 ∧ x < 8388608) ∨ (k = 3 ∧ 8388608 ≤ x) ∨ (k = 4 ∧ 8388608 ≤ x) := by omega
        all_goals rw [hx] at hc
        all_goals clear hx
        all_goals go_wp2_with (go_at_call 13; refine (window_any _ _ (by omega) (by omega)).mono ?_; rintro e w' ⟨rfl, rfl⟩)
        all_goals have hx := HX.out
        all_goals first | (go_ret; refine ⟨ret_int ?_, rfl⟩; rw [HB.out]; first | exact (bytesW1 _ (by omega)).symm | exact (bytesW2 _ (by omega) (by omega)).symm | exact (bytesW3 _ (by omega) (by omega)).symm | exact (bytesW4 _ (by omega)).symm) | skip
        all_goals go_round
        all_goals first | (simp [intOf]; done) | exact ⟨2, by omega, by omega, rfl, by omega, by omega, by omega⟩ | exact ⟨3, by omega, by omega, rfl, by omega, by omega, by omega⟩ | exact ⟨4, by omega, by omega, rfl, by omega, by omega, by omega⟩

theorem trunc_in (full : Int) (n : Int) (w : World) (h0 : 0 ≤ full) (h1 : full < 18446744073709551616) (hn : 1 ≤ n) (hn' : n ≤ 4) :
    Calls Try.prog 9 #[.int .u64 full, .int .i64 n] w fun e w' => e = .returned (.int .u64 (full % 256 ^ n.toNat)) ∧ w = w' := by
  obtain rfl | rfl | rfl | rfl : n = 1 ∨ n = 2 ∨ n = 3 ∨ n = 4 := by omega
  all_goals go_enter Try.func9, Try.ntmps9
  all_goals go_wp2
  all_goals go_ret
  all_goals exact ⟨rfl, rfl⟩
theorem trunc_out (full : Int) (n : Int) (w : World) (hn : n < 1 ∨ 4 < n) :
    Calls Try.prog 9 #[.int .u64 full, .int .i64 n] w fun e w' => e = .returned (.int .u64 0) ∧ w = w' := by
  rcases hn with hn | hn
  all_goals go_enter Try.func9, Try.ntmps9
  all_goals go_wp2
  all_goals go_ret
  all_goals exact ⟨rfl, rfl⟩
theorem refTrunc_in (full : Int) (n : Int) (w : World) (h0 : 0 ≤ full) (h1 : full < 18446744073709551616) (hn : 1 ≤ n) (hn' : n ≤ 4) :
    Calls Try.prog 10 #[.int .u64 full, .int .i64 n] w fun e w' => e = .returned (.int .u64 (full % 256 ^ n.toNat)) ∧ w = w' := by
  obtain rfl | rfl | rfl | rfl : n = 1 ∨ n = 2 ∨ n = 3 ∨ n = 4 := by omega
  all_goals go_enter Try.func10, Try.ntmps10
  all_goals go_wp2_with (go_at_call 13; refine (window_any _ _ (by omega) (by omega)).mono ?_; rintro e w' ⟨rfl, rfl⟩)
  all_goals go_ret
  all_goals exact ⟨rfl, rfl⟩
theorem refTrunc_out (full : Int) (n : Int) (w : World) (hn : n < 1 ∨ 4 < n) :
    Calls Try.prog 10 #[.int .u64 full, .int .i64 n] w fun e w' => e = .returned (.int .u64 0) ∧ w = w' := by
  rcases hn with hn | hn
  all_goals go_enter Try.func10, Try.ntmps10
  all_goals go_wp2
  all_goals go_ret
  all_goals exact ⟨rfl, rfl⟩

/-- what is expanded, W: the window -/
def lowS (nx t W : Int) : Int := nx - nx % W + t % W
def expandS (next t W : Int) : Int :=
  let nx := if next ≤ 4611686018427387903 then next else 4611686018427387903
  let here := lowS nx t W
  let b1 := if here + W ≤ 4611686018427387903 ∧ farS (here + W) nx ≤ farS here nx then here + W else here
  if W ≤ here ∧ here - W ≤ 4611686018427387903 ∧ (4611686018427387903 < b1 ∨ farS (here - W) nx < farS b1 nx) then here - W else b1

def TryPost (best : Addr) (n : Int) (b : Prop) (w : World) (e : Ending) (w' : World) : Prop := e = .returned (.tuple #[]) ∧ ((b ∧ ∃ k, w' = (w.setCell best (.int .u64 n)).drewN k) ∨ (¬ b ∧ ∃ k, w' = w.drewN k))

def tryC (n b m : Int) (may : Bool) : Prop := may = true ∧ n ≤ 4611686018427387903 ∧ (4611686018427387903 < b ∨ farS n m < farS b m ∨ (farS n m = farS b m ∧ b < n))
set_option maxHeartbeats 2000000 in
theorem try_any (n b m : Int) (may : Bool) (ab af an : Addr) (w : World) (hn : 0 ≤ n) (hn' : n < 18446744073709551616) (hm : 0 ≤ m) (hm' : m < 18446744073709551616) (hb0 : 0 ≤ b) (hb' : b < 18446744073709551616)
    (hc : w.cell? ab = some (.int .u64 b)) (hfz : w.frozen? ab = false) (hcn : w.cell? an = some (.int .u64 m)) (hcf : w.cell? af = some (.func (.func 14) #[] #[.pointer (some an)])) :
    Calls Try.prog 15 #[.int .u64 n, .bool may, .pointer (some ab), .pointer (some af)] w
      (TryPost ab n (tryC n b m may) w) := by
  have hfn : farS n m = farS n m := rfl
  have b1 : 0 ≤ farS n m ∧ farS n m < 18446744073709551616 := by unfold farS; split <;> omega
  have b2 : 0 ≤ farS b m ∧ farS b m < 18446744073709551616 := by unfold farS; split <;> omega
  clear hfn
  cases may
  · go_enter Try.func15, Try.ntmps15
    go_wp2
    go_quiet (fail)
    go_wp2
    refine bodyPost_end (results_none rfl _ _ _) rfl ⟨rfl, .inr ⟨by simp [tryC], _, rfl⟩⟩
  by_cases h1 : n ≤ 4611686018427387903
  case neg =>
    have hd : decide (n ≤ 4611686018427387903) = false := by simp; omega
    go_enter Try.func15, Try.ntmps15
    go_wp2
    go_quiet (fail)
    go_wp2
    refine bodyPost_end (results_none rfl _ _ _) rfl ⟨rfl, .inr ⟨by unfold tryC; omega, _, rfl⟩⟩
  by_cases h2 : 4611686018427387903 < b
  · go_enter Try.func15, Try.ntmps15
    go_wp2
    go_quiet (fail)
    go_wp2
    refine bodyPost_end (results_none rfl _ _ _) rfl ⟨rfl, .inl ⟨⟨rfl, h1, .inl h2⟩, _, rfl⟩⟩
  have hd2 : decide (4611686018427387903 < b) = false := by simp; omega
  by_cases h3 : farS n m < farS b m
  · go_enter Try.func15, Try.ntmps15
    go_wp2
    go_quiet ((go_at_call 14; exact Calls.quiet_of_same (far_any _ _ _ _ (by omega) (by omega) (by omega) (by omega) hcn)))
    go_wp2
    refine bodyPost_end (results_none rfl _ _ _) rfl ⟨rfl, .inl ⟨⟨rfl, h1, .inr (.inl h3)⟩, _, rfl⟩⟩
  have hd3 : decide (farS n m < farS b m) = false := by simp; omega
  by_cases h4 : farS n m = farS b m
  case neg =>
    have hd4 : (farS n m == farS b m) = false := by simp [h4]
    have H4 := Lib.hid h4
    clear h4
    go_enter Try.func15, Try.ntmps15
    go_wp2
    go_quiet ((go_at_call 14; exact Calls.quiet_of_same (far_any _ _ _ _ (by omega) (by omega) (by omega) (by omega) hcn)))
    go_wp2
    refine bodyPost_end (results_none rfl _ _ _) rfl ⟨rfl, .inr ⟨?_, _, rfl⟩⟩
    have := H4.out
    unfold tryC
    omega
  have hd4 : (farS n m == farS b m) = true := by simp [h4]
  have H4 := Lib.hid h4
  clear h4 h3
  by_cases h5 : b < n
  · go_enter Try.func15, Try.ntmps15
    go_wp2
    go_quiet ((go_at_call 14; exact Calls.quiet_of_same (far_any _ _ _ _ (by omega) (by omega) (by omega) (by omega) hcn)))
    go_wp2
    refine bodyPost_end (results_none rfl _ _ _) rfl ⟨rfl, .inl ⟨⟨rfl, h1, .inr (.inr ⟨H4.out, h5⟩)⟩, _, rfl⟩⟩
  · have hd5 : decide (b < n) = false := by simp; omega
    go_enter Try.func15, Try.ntmps15
    go_wp2
    go_quiet ((go_at_call 14; exact Calls.quiet_of_same (far_any _ _ _ _ (by omega) (by omega) (by omega) (by omega) hcn)))
    go_wp2
    refine bodyPost_end (results_none rfl _ _ _) rfl ⟨rfl, .inr ⟨?_, _, rfl⟩⟩
    have := H4.out
    unfold tryC
    omega

end Go.Proofs.Ytookgmjdgcbdnaa
