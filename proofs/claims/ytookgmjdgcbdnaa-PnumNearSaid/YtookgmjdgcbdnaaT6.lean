/- Contracts of the Go functions that the laws of layer 5 (pnum) reach, and plain lemmas on them. Conditions: as each theorem states them. -/
import Derived.Test.YtookgmjdgcbdnaaT5
namespace Go.Proofs.Ytookgmjdgcbdnaa
open Go.RowKit

theorem expand_cases (next t W : Int) (h0 : 0 ≤ next) (hx : next ≤ 4611686018427387903) (hW : W = 256 ∨ W = 65536 ∨ W = 16777216 ∨ W = 4294967296) :
    ∃ h, h = next / W * W + t % W ∧ ((next < h ∧ W ≤ h ∧ (4611686018427387903 < h ∨ next - (h - W) < h - next) ∧ expandS next t W = h - W) ∨ (next < h ∧ W ≤ h ∧ (h ≤ 4611686018427387903 ∧ h - next ≤ next - (h - W)) ∧ expandS next t W = h) ∨ (next < h ∧ h < W ∧ expandS next t W = h)
      ∨ (h ≤ next ∧ (4611686018427387903 < h + W ∨ next - h < h + W - next) ∧ expandS next t W = h) ∨ (h ≤ next ∧ (h + W ≤ 4611686018427387903 ∧ h + W - next ≤ next - h) ∧ expandS next t W = h + W)) := by
  refine ⟨_, rfl, ?_⟩
  have hf := fun r => refx_fin next t W next (next / W * W + t % W) r h0 hW (by rw [if_pos hx]) rfl
  generalize next / W * W + t % W = h at *
  by_cases c1 : next < h
  · by_cases c2 : W ≤ h
    · by_cases c3 : 4611686018427387903 < h ∨ next - (h - W) < h - next
      · exact .inl ⟨c1, c2, c3, (hf _ (.inl ⟨c1, c2, c3, rfl⟩)).symm⟩
      · exact .inr (.inl ⟨c1, c2, by omega, (hf _ (.inr (.inl ⟨c1, c2, by omega, rfl⟩))).symm⟩)
    · exact .inr (.inr (.inl ⟨c1, by omega, (hf _ (.inr (.inr (.inl ⟨c1, by omega, rfl⟩)))).symm⟩))
  · by_cases c3 : 4611686018427387903 < h + W ∨ next - h < h + W - next
    · exact .inr (.inr (.inr (.inl ⟨by omega, c3, (hf _ (.inr (.inr (.inr (.inl ⟨by omega, c3, rfl⟩))))).symm⟩)))
    · exact .inr (.inr (.inr (.inr ⟨by omega, by omega, (hf _ (.inr (.inr (.inr (.inr ⟨by omega, by omega, rfl⟩))))).symm⟩)))

theorem expand_back (next full W : Int) (h0 : 0 ≤ next) (hf : full ≤ 4611686018427387903) (hW : W = 256 ∨ W = 65536 ∨ W = 16777216 ∨ W = 4294967296)
    (h1 : next ≤ full) (h2 : full - next < W / 2) : expandS next (full % W) W = full := by
  obtain ⟨h, hh, hc⟩ := expand_cases next (full % W) W h0 (by omega) hW
  rcases hW with rfl | rfl | rfl | rfl <;> omega

theorem expand_near (next t W : Int) (h0 : 0 ≤ next) (hf : next ≤ 4611686018427387903) (hW : W = 256 ∨ W = 65536 ∨ W = 16777216 ∨ W = 4294967296) :
    expandS next t W % W = t % W ∧ 0 ≤ expandS next t W ∧ expandS next t W ≤ 4611686018427387903 ∧ (next ≤ expandS next t W → expandS next t W - next ≤ W / 2 ∨ expandS next t W < W) ∧
      (expandS next t W < next → next - expandS next t W < W / 2 ∨ (next - expandS next t W ≤ W ∧ 4611686018427387903 < expandS next t W + W)) := by
  obtain ⟨h, hh, hc⟩ := expand_cases next t W h0 (by omega) hW
  generalize expandS next t W = r at *
  rcases hW with rfl | rfl | rfl | rfl <;> omega

theorem bytesW_form (x : Int) (h : 0 ≤ x) (h' : x < 2147483648) : ∃ n W : Int, bytesW x = n ∧ ((n = 1 ∧ W = 256) ∨ (n = 2 ∧ W = 65536) ∨ (n = 3 ∧ W = 16777216) ∨ (n = 4 ∧ W = 4294967296)) ∧ x < W / 2 := by
  by_cases h1 : x < 128
  · exact ⟨1, 256, bytesW1 x h1, by omega, by omega⟩
  by_cases h2 : x < 32768
  · exact ⟨2, 65536, bytesW2 x (by omega) h2, by omega, by omega⟩
  by_cases h3 : x < 8388608
  · exact ⟨3, 16777216, bytesW3 x (by omega) h3, by omega, by omega⟩
  · exact ⟨4, 4294967296, bytesW4 x (by omega), by omega, by omega⟩

set_option maxHeartbeats 1000000 in
theorem back_walk (a0 a1 a2 : Int) (h0 : 0 ≤ a0) (h0' : a0 < 18446744073709551616) (h1 : 0 ≤ a1) (h1' : a1 < 18446744073709551616) (h2 : 0 ≤ a2) (h2' : a2 < 18446744073709551616) (w : World) :
    Calls Try.prog 4 #[.int .u64 a0, .int .u64 a1, .int .u64 a2] w fun e w' => e = .returned (.bool true) ∧ Below w.heap.size w w' := by
  by_cases c1 : 4611686018427387903 < a0
  · go_enter Try.func4, Try.ntmps4
    go_wp2_with (go_at_call 6; refine (known_any _).mono ?_; rintro e w1 ⟨rfl, hb1⟩)
    go_ret
    exact ⟨rfl, hb1⟩
  by_cases c2 : a1 = 0
  · subst c2
    go_enter Try.func4, Try.ntmps4
    go_wp2_with (go_at_call 6; refine (known_any _).mono ?_; rintro e w1 ⟨rfl, hb1⟩)
    go_ret
    exact ⟨rfl, hb1⟩
  have c2' : (a1 == 0) = false := by simp [c2]
  clear c2
  by_cases c3 : 2147483647 < a1
  · go_enter Try.func4, Try.ntmps4
    go_wp2_with (go_at_call 6; refine (known_any _).mono ?_; rintro e w1 ⟨rfl, hb1⟩)
    go_ret
    exact ⟨rfl, hb1⟩
  by_cases c4 : 4611686018427387903 - a0 < a1
  · go_enter Try.func4, Try.ntmps4
    go_wp2_with (go_at_call 6; refine (known_any _).mono ?_; rintro e w1 ⟨rfl, hb1⟩)
    go_ret
    exact ⟨rfl, hb1⟩
  by_cases c5 : a2 ≤ a0
  · go_enter Try.func4, Try.ntmps4
    go_wp2_with (go_at_call 6; refine (known_any _).mono ?_; rintro e w1 ⟨rfl, hb1⟩)
    go_ret
    exact ⟨rfl, hb1⟩
  by_cases c6 : a0 + a1 < a2
  · go_enter Try.func4, Try.ntmps4
    go_wp2_with (go_at_call 6; refine (known_any _).mono ?_; rintro e w1 ⟨rfl, hb1⟩)
    go_ret
    exact ⟨rfl, hb1⟩
  have hp : 0 < a1 := by
    have : a1 ≠ 0 := by simpa using c2'
    omega
  obtain ⟨n, W, hn, hW, hlt⟩ := bytesW_form a1 (by omega) (by omega)
  have kB := Lib.hid (fun w => bytes_any (a0 + a1) a0 true w (by omega) (by omega) h0 h0')
  rw [show bytesS (a0 + a1) a0 true = n from by
    have : ¬ a0 + a1 ≤ a0 := by omega
    simp only [bytesS, if_true, if_neg this]
    rw [show a0 + a1 - a0 = a1 by omega, hn]] at kB
  have kT := Lib.hid (fun w => trunc_in (a0 + a1) n w (by omega) (by omega) (by omega) (by omega))
  have hpow : (256 : Int) ^ n.toNat = W := by rcases hW with ⟨rfl, rfl⟩ | ⟨rfl, rfl⟩ | ⟨rfl, rfl⟩ | ⟨rfl, rfl⟩ <;> decide
  rw [hpow] at kT
  have kE := Lib.hid (fun w => expand_in a2 ((a0 + a1) % W) n W w h2 h2' (by rcases hW with ⟨rfl, rfl⟩ | ⟨rfl, rfl⟩ | ⟨rfl, rfl⟩ | ⟨rfl, rfl⟩ <;> omega) (by rcases hW with ⟨rfl, rfl⟩ | ⟨rfl, rfl⟩ | ⟨rfl, rfl⟩ | ⟨rfl, rfl⟩ <;> omega) hW)
  rw [expand_back a2 (a0 + a1) W h2 (by omega) (by omega) (by omega) (by omega)] at kE
  have hn1 : 1 ≤ n := by omega
  have hn4 : n ≤ 4 := by omega
  clear hn hW hlt hpow
  go_enter Try.func4, Try.ntmps4
  go_wp2_with fail
  refine (known_any _).mono ?_
  rintro e w1 ⟨rfl, hb1⟩
  go_wp2_with fail
  refine (kB.out _).mono ?_
  rintro e w' ⟨rfl, rfl⟩
  go_wp2_with fail
  refine (kT.out _).mono ?_
  rintro e w' ⟨rfl, rfl⟩
  go_wp2_with fail
  refine (kE.out _).mono ?_
  rintro e w2 ⟨rfl, hb2⟩
  go_wp2_with fail
  go_ret
  exact ⟨rfl, hb1.trans (hb2.mono hb1.size)⟩

set_option maxHeartbeats 1000000 in
theorem near_walk (a0 a1 a2 : Int) (h0 : 0 ≤ a0) (h0' : a0 < 18446744073709551616) (h1 : 0 ≤ a1) (h1' : a1 < 18446744073709551616) (w : World) :
    Calls Try.prog 5 #[.int .u64 a0, .int .u64 a1, .int .i64 a2] w fun e w' => e = .returned (.bool true) ∧ Below w.heap.size w w' := by
  by_cases c1 : a2 < 1
  · go_enter Try.func5, Try.ntmps5
    go_wp2_with (go_at_call 6; refine (known_any _).mono ?_; rintro e w1 ⟨rfl, hb1⟩)
    go_ret
    exact ⟨rfl, hb1⟩
  by_cases c2 : 4 < a2
  · go_enter Try.func5, Try.ntmps5
    go_wp2_with (go_at_call 6; refine (known_any _).mono ?_; rintro e w1 ⟨rfl, hb1⟩)
    go_ret
    exact ⟨rfl, hb1⟩
  by_cases c3 : 4611686018427387903 < a0
  · go_enter Try.func5, Try.ntmps5
    go_wp2_with (go_at_call 6; refine (known_any _).mono ?_; rintro e w1 ⟨rfl, hb1⟩)
    go_ret
    exact ⟨rfl, hb1⟩
  have hn : ∃ W : Int, (a2 = 1 ∧ W = 256) ∨ (a2 = 2 ∧ W = 65536) ∨ (a2 = 3 ∧ W = 16777216) ∨ (a2 = 4 ∧ W = 4294967296) := by
    obtain h | h | h | h : a2 = 1 ∨ a2 = 2 ∨ a2 = 3 ∨ a2 = 4 := by omega
    · exact ⟨256, by omega⟩
    · exact ⟨65536, by omega⟩
    · exact ⟨16777216, by omega⟩
    · exact ⟨4294967296, by omega⟩
  obtain ⟨W, hW⟩ := hn
  have kE := Lib.hid (fun w => expand_in a0 a1 a2 W w h0 h0' h1 h1' hW)
  obtain ⟨q1, q2, q3, q4, q5⟩ := expand_near a0 a1 W h0 (by omega) (by omega)
  generalize expandS a0 a1 W = r at *
  clear c1 c2
  rcases hW with ⟨rfl, rfl⟩ | ⟨rfl, rfl⟩ | ⟨rfl, rfl⟩ | ⟨rfl, rfl⟩
  · have q1' : (r % 256 != a1 % 256) = false := by simp [q1]
    have q3' : decide (4611686018427387903 < r) = false := by simp; omega
    have hways : (a0 ≤ r ∧ r - a0 ≤ 128) ∨ (a0 ≤ r ∧ 128 < r - a0 ∧ r < 256) ∨ (r < a0 ∧ a0 - r < 128) ∨ (r < a0 ∧ 128 ≤ a0 - r ∧ a0 - r ≤ 256 ∧ 4611686018427387903 < r + 256) := by omega
    clear q1 q4 q5
    rcases hways with ⟨z1, z2⟩ | ⟨z1, z2, z3⟩ | ⟨z1, z2⟩ | ⟨z1, z2, z3, z4⟩
    all_goals
      go_enter Try.func5, Try.ntmps5
      go_wp2_with fail
      refine (known_any _).mono ?_
      rintro e w1 ⟨rfl, hb1⟩
      go_wp2_with fail
      refine (kE.out _).mono ?_
      rintro e w2 ⟨rfl, hb2⟩
      go_wp2_with fail
      go_quiet (fail)
      go_wp2_with fail
      go_ret
      exact ⟨rfl, below_drewN (hb1.trans (hb2.mono hb1.size)) _⟩
  · have q1' : (r % 65536 != a1 % 65536) = false := by simp [q1]
    have q3' : decide (4611686018427387903 < r) = false := by simp; omega
    have hways : (a0 ≤ r ∧ r - a0 ≤ 32768) ∨ (a0 ≤ r ∧ 32768 < r - a0 ∧ r < 65536) ∨ (r < a0 ∧ a0 - r < 32768) ∨ (r < a0 ∧ 32768 ≤ a0 - r ∧ a0 - r ≤ 65536 ∧ 4611686018427387903 < r + 65536) := by omega
    clear q1 q4 q5
    rcases hways with ⟨z1, z2⟩ | ⟨z1, z2, z3⟩ | ⟨z1, z2⟩ | ⟨z1, z2, z3, z4⟩
    all_goals
      go_enter Try.func5, Try.ntmps5
      go_wp2_with fail
      refine (known_any _).mono ?_
      rintro e w1 ⟨rfl, hb1⟩
      go_wp2_with fail
      refine (kE.out _).mono ?_
      rintro e w2 ⟨rfl, hb2⟩
      go_wp2_with fail
      go_quiet (fail)
      go_wp2_with fail
      go_ret
      exact ⟨rfl, below_drewN (hb1.trans (hb2.mono hb1.size)) _⟩
  · have q1' : (r % 16777216 != a1 % 16777216) = false := by simp [q1]
    have q3' : decide (4611686018427387903 < r) = false := by simp; omega
    have hways : (a0 ≤ r ∧ r - a0 ≤ 8388608) ∨ (a0 ≤ r ∧ 8388608 < r - a0 ∧ r < 16777216) ∨ (r < a0 ∧ a0 - r < 8388608) ∨ (r < a0 ∧ 8388608 ≤ a0 - r ∧ a0 - r ≤ 16777216 ∧ 4611686018427387903 < r + 16777216) := by omega
    clear q1 q4 q5
    rcases hways with ⟨z1, z2⟩ | ⟨z1, z2, z3⟩ | ⟨z1, z2⟩ | ⟨z1, z2, z3, z4⟩
    all_goals
      go_enter Try.func5, Try.ntmps5
      go_wp2_with fail
      refine (known_any _).mono ?_
      rintro e w1 ⟨rfl, hb1⟩
      go_wp2_with fail
      refine (kE.out _).mono ?_
      rintro e w2 ⟨rfl, hb2⟩
      go_wp2_with fail
      go_quiet (fail)
      go_wp2_with fail
      go_ret
      exact ⟨rfl, below_drewN (hb1.trans (hb2.mono hb1.size)) _⟩
  · have q1' : (r % 4294967296 != a1 % 4294967296) = false := by simp [q1]
    have q3' : decide (4611686018427387903 < r) = false := by simp; omega
    have hways : (a0 ≤ r ∧ r - a0 ≤ 2147483648) ∨ (a0 ≤ r ∧ 2147483648 < r - a0 ∧ r < 4294967296) ∨ (r < a0 ∧ a0 - r < 2147483648) ∨ (r < a0 ∧ 2147483648 ≤ a0 - r ∧ a0 - r ≤ 4294967296 ∧ 4611686018427387903 < r + 4294967296) := by omega
    clear q1 q4 q5
    rcases hways with ⟨z1, z2⟩ | ⟨z1, z2, z3⟩ | ⟨z1, z2⟩ | ⟨z1, z2, z3, z4⟩
    all_goals
      go_enter Try.func5, Try.ntmps5
      go_wp2_with fail
      refine (known_any _).mono ?_
      rintro e w1 ⟨rfl, hb1⟩
      go_wp2_with fail
      refine (kE.out _).mono ?_
      rintro e w2 ⟨rfl, hb2⟩
      go_wp2_with fail
      go_quiet (fail)
      go_wp2_with fail
      go_ret
      exact ⟨rfl, below_drewN (hb1.trans (hb2.mono hb1.size)) _⟩
end Go.Proofs.Ytookgmjdgcbdnaa
