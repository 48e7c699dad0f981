/- Contracts of the Go functions that the laws of layer 5 (pnum) reach, and plain lemmas on them. Conditions: as each theorem states them. -/
import Derived.Test.YtookgmjdgcbdnaaT4
namespace Go.Proofs.Ytookgmjdgcbdnaa
open Go.RowKit

theorem ret_bool {a b : Bool} (h : a = b) : Ending.returned (.bool a) = .returned (.bool b) := by rw [h]

theorem known_any (w : World) : Calls Try.prog 6 #[] w fun e w' => e = .returned (.bool true) ∧ Below w.heap.size w w' := by
  have k1 := Lib.hid (fun w => bytes_any 11295746 11266227 true w (by omega) (by omega) (by omega) (by omega))
  have k2 := Lib.hid (fun w => bytes_any 11331838 11266227 true w (by omega) (by omega) (by omega) (by omega))
  have k3 := Lib.hid (fun w => trunc_in 11295746 2 w (by omega) (by omega) (by omega) (by omega))
  have k4 := Lib.hid (fun w => expand_in 2821665003 39730 2 65536 w (by omega) (by omega) (by omega) (by omega) (by omega))
  have k5 := Lib.hid (fun w => bytes_any 0 0 false w (by omega) (by omega) (by omega) (by omega))
  have k6 := Lib.hid (fun w => bytes_any 127 0 false w (by omega) (by omega) (by omega) (by omega))
  have k7 := Lib.hid (fun w => expand_in 0 255 1 256 w (by omega) (by omega) (by omega) (by omega) (by omega))
  have k8 := Lib.hid (fun w => expand_in 300 40 1 256 w (by omega) (by omega) (by omega) (by omega) (by omega))
  have k9 := Lib.hid (fun w => trunc_out 5 0 w (by omega))
  rw [show bytesS 11295746 11266227 true = 2 from by decide] at k1
  rw [show bytesS 11331838 11266227 true = 3 from by decide] at k2
  rw [show (11295746 : Int) % 256 ^ Int.toNat 2 = 23554 from by decide] at k3
  rw [show expandS 2821665003 39730 65536 = 2821692210 from by decide] at k4
  rw [show bytesS 0 0 false = 1 from by decide] at k5
  rw [show bytesS 127 0 false = 2 from by decide] at k6
  rw [show expandS 0 255 256 = 255 from by decide] at k7
  rw [show expandS 300 40 256 = 296 from by decide] at k8
  go_enter Try.func6, Try.ntmps6
  go_wp2_with fail
  refine (k1.out _).mono ?_
  rintro e w' ⟨rfl, rfl⟩
  go_wp2_with fail
  refine (k2.out _).mono ?_
  rintro e w' ⟨rfl, rfl⟩
  go_wp2_with fail
  refine (k3.out _).mono ?_
  rintro e w' ⟨rfl, rfl⟩
  go_wp2_with fail
  refine (k4.out _).mono ?_
  rintro e w1 ⟨rfl, hb1⟩
  go_wp2_with fail
  refine (k5.out _).mono ?_
  rintro e w' ⟨rfl, rfl⟩
  go_wp2_with fail
  refine (k6.out _).mono ?_
  rintro e w' ⟨rfl, rfl⟩
  go_wp2_with fail
  refine (k7.out _).mono ?_
  rintro e w2 ⟨rfl, hb2⟩
  go_wp2_with fail
  refine (k8.out _).mono ?_
  rintro e w3 ⟨rfl, hb3⟩
  go_wp2_with fail
  refine (k9.out _).mono ?_
  rintro e w' ⟨rfl, rfl⟩
  go_wp2_with fail
  go_ret
  exact ⟨rfl, hb1.trans ((hb2.mono hb1.size).trans (hb3.mono (Nat.le_trans hb1.size hb2.size)))⟩

theorem tells_walk (a0 : Int) (a1 : Int) (a2 : Bool) (a3 : Int) (h0 : 0 ≤ a0) (h0' : a0 < 18446744073709551616) (h1 : 0 ≤ a1) (h1' : a1 < 18446744073709551616) (w : World) :
    Calls Try.prog 3 #[.int .u64 a0, .int .u64 a1, .bool a2, .int .i64 a3] w fun e w' => e = .returned (.bool true) ∧ Below w.heap.size w w' := by
  have kT : ∃ t : Int, (∀ w, Calls Try.prog 9 #[.int .u64 a0, .int .i64 a3] w fun e w' => e = .returned (.int .u64 t) ∧ w = w') ∧ (∀ w, Calls Try.prog 10 #[.int .u64 a0, .int .i64 a3] w fun e w' => e = .returned (.int .u64 t) ∧ w = w') := by
    by_cases hn : 1 ≤ a3 ∧ a3 ≤ 4
    · exact ⟨_, fun w => trunc_in a0 a3 w h0 h0' hn.1 hn.2, fun w => refTrunc_in a0 a3 w h0 h0' hn.1 hn.2⟩
    · exact ⟨_, fun w => trunc_out a0 a3 w (by omega), fun w => refTrunc_out a0 a3 w (by omega)⟩
  have kE : ∃ t : Int, (∀ w, Calls Try.prog 11 #[.int .u64 a1, .int .u64 a0, .int .i64 a3] w fun e w' => e = .returned (.int .u64 t) ∧ Below w.heap.size w w') ∧ (∀ w, Calls Try.prog 12 #[.int .u64 a1, .int .u64 a0, .int .i64 a3] w fun e w' => e = .returned (.int .u64 t) ∧ w = w') := by
    by_cases hn : 1 ≤ a3 ∧ a3 ≤ 4
    · obtain ⟨W, hW⟩ : ∃ W : Int, (a3 = 1 ∧ W = 256) ∨ (a3 = 2 ∧ W = 65536) ∨ (a3 = 3 ∧ W = 16777216) ∨ (a3 = 4 ∧ W = 4294967296) := by
        obtain h | h | h | h : a3 = 1 ∨ a3 = 2 ∨ a3 = 3 ∨ a3 = 4 := by omega
        · exact ⟨256, by omega⟩
        · exact ⟨65536, by omega⟩
        · exact ⟨16777216, by omega⟩
        · exact ⟨4294967296, by omega⟩
      exact ⟨_, fun w => expand_in a1 a0 a3 W w h1 h1' h0 h0' hW, fun w => refExpand_in a1 a0 a3 W w h1 h1' h0 h0' hW⟩
    · exact ⟨_, fun w => expand_out a1 a0 a3 w (by omega), fun w => refExpand_out a1 a0 a3 w (by omega)⟩
  obtain ⟨t1, hT, hT'⟩ := kT
  obtain ⟨t2, hE, hE'⟩ := kE
  have HT := Lib.hid hT
  have HT' := Lib.hid hT'
  have HE := Lib.hid hE
  have HE' := Lib.hid hE'
  clear hT hT' hE hE'
  go_enter Try.func3, Try.ntmps3
  go_wp2_with fail
  refine (known_any _).mono ?_
  rintro e w1 ⟨rfl, hb1⟩
  go_wp2_with fail
  refine (bytes_any _ _ _ _ h0 h0' h1 h1').mono ?_
  rintro e w' ⟨rfl, rfl⟩
  go_wp2_with fail
  refine (refBytes_any _ _ _ _ h0 h0' h1 h1').mono ?_
  rintro e w' ⟨rfl, rfl⟩
  go_wp2_with fail
  refine (HT.out _).mono ?_
  rintro e w' ⟨rfl, rfl⟩
  go_wp2_with fail
  refine (HT'.out _).mono ?_
  rintro e w' ⟨rfl, rfl⟩
  go_wp2_with fail
  refine (HE.out _).mono ?_
  rintro e w2 ⟨rfl, hb2⟩
  go_wp2_with fail
  refine (HE'.out _).mono ?_
  rintro e w' ⟨rfl, rfl⟩
  go_wp2_with fail
  go_ret
  exact ⟨rfl, hb1.trans (hb2.mono hb1.size)⟩
end Go.Proofs.Ytookgmjdgcbdnaa
