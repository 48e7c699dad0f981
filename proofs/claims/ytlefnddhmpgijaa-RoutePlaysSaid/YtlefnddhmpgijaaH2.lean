/- Contracts (layers 1 and 3): types, Bits, width, class, number. Conditions: as each theorem states them. -/
import Derived.Test.YtlefnddhmpgijaaH1
import Derived.Test.YtlefnddhmpgijaaRows
import Derived.Test.YtlefnddhmpgijaaB
namespace Go.Proofs.Ytlefnddhmpgijaa
open Go.RowKit
theorem elU8 : ElT Try.prog 25 5 .u8 1 := ⟨Try.underlying25, Try.underlying5, by kernel_rfl, by decide⟩
theorem types_any (x : Int) (w : World) : Calls Try.prog 38 #[.int .u8 x] w fun e w' => e = .returned (.int .u8 (if x = 1 then 2 else 0)) ∧ w = w' := by
  by_cases h : x = 1
  · subst h
    go_enter Try.func38, Try.ntmps38
    go_wp2_with fail
    go_ret
    exact ⟨rfl, rfl⟩
  · have h' : decide (x = 1) = false := by simp [h]
    go_enter Try.func38, Try.ntmps38
    go_wp2_with fail
    go_ret
    exact ⟨ret_int (by first | rfl | simp [h]), rfl⟩
def bitsV (x : Int) : Int := if x = 2 then 31 else 15
theorem bits_any (x : Int) (w : World) : Calls Try.prog 28 #[.int .u8 x] w fun e w' => e = .returned (.int .u8 (bitsV x)) ∧ w = w' := by
  unfold bitsV
  by_cases h : x = 2
  · subst h
    go_enter Try.func28, Try.ntmps28
    go_wp2_with fail
    go_ret
    exact ⟨rfl, rfl⟩
  · have h' : decide (x = 2) = false := by simp [h]
    go_enter Try.func28, Try.ntmps28
    go_wp2_with fail
    go_ret
    exact ⟨ret_int (by first | rfl | simp [h]), rfl⟩
theorem width_any (c : Nat) (hc : c ≤ 3) (w : World) : Calls Try.prog 46 #[.int .i64 c] w fun e w' => e = .returned (.int .i64 ((2 ^ c : Nat) : Int)) ∧ w = w' := by
  rcases (show c = 0 ∨ c = 1 ∨ c = 2 ∨ c = 3 by omega) with rfl | rfl | rfl | rfl
  all_goals
    go_enter Try.func46, Try.ntmps46
    go_wp2_with fail
    go_ret
    exact ⟨rfl, rfl⟩
theorem vcls_le (n : Int) : vcls n ≤ 4 := by unfold vcls; split <;> (try split) <;> (try split) <;> (try split) <;> omega
theorem vcls_gt (n : Int) : (0 < vcls n ↔ 63 < n) ∧ (1 < vcls n ↔ 16383 < n) ∧ (2 < vcls n ↔ 1073741823 < n) ∧ (3 < vcls n ↔ 4611686018427387903 < n) := by
  unfold vcls; split <;> (try split) <;> (try split) <;> (try split) <;> omega
set_option maxHeartbeats 1000000 in
theorem class_any (n : Int) (w : World) : Calls Try.prog 45 #[.int .u64 n] w fun e w' => e = .returned (.int .i64 (vcls n : Nat)) ∧ w = w' := by
  have h4 := vcls_le n
  have hg := vcls_gt n
  generalize hv : vcls n = v at *
  clear hv
  obtain ⟨g0, g1, g2, g3⟩ := hg
  have G0 := Lib.hid g0
  have G1 := Lib.hid g1
  have G2 := Lib.hid g2
  have G3 := Lib.hid g3
  clear g0 g1 g2 g3
  go_enter Try.func45, Try.ntmps45
  go_wp2_with fail
  go_loop [3] (fun s => ∃ c : Nat, s = .int .i64 c ∧ c ≤ v) (fun s => 4 - (intOf s).toNat)
  case atStart => exact ⟨0, rfl, by omega⟩
  case round =>
    obtain ⟨c, rfl, hc⟩ := hrel
    rcases (show c = 0 ∨ c = 1 ∨ c = 2 ∨ c = 3 ∨ c = 4 by omega) with rfl | rfl | rfl | rfl | rfl
    · by_cases h : 63 < n
      · have := G0.out.2 h
        go_wp2_with fail
        go_round
        case rel => exact ⟨1, rfl, by omega⟩
        case measure => simp [intOf]
      · have h' : decide (63 < n) = false := by simp; omega
        have h2 : ¬ (0 < v) := fun h2 => h (G0.out.1 h2)
        obtain rfl : v = 0 := by omega
        go_wp2_with fail
        go_ret
        exact ⟨rfl, rfl⟩
    · by_cases h : 16383 < n
      · have := G1.out.2 h
        go_wp2_with fail
        go_round
        case rel => exact ⟨2, rfl, by omega⟩
        case measure => simp [intOf]
      · have h' : decide (16383 < n) = false := by simp; omega
        have h2 : ¬ (1 < v) := fun h2 => h (G1.out.1 h2)
        obtain rfl : v = 1 := by omega
        go_wp2_with fail
        go_ret
        exact ⟨rfl, rfl⟩
    · by_cases h : 1073741823 < n
      · have := G2.out.2 h
        go_wp2_with fail
        go_round
        case rel => exact ⟨3, rfl, by omega⟩
        case measure => simp [intOf]
      · have h' : decide (1073741823 < n) = false := by simp; omega
        have h2 : ¬ (2 < v) := fun h2 => h (G2.out.1 h2)
        obtain rfl : v = 2 := by omega
        go_wp2_with fail
        go_ret
        exact ⟨rfl, rfl⟩
    · by_cases h : 4611686018427387903 < n
      · have := G3.out.2 h
        go_wp2_with fail
        go_round
        case rel => exact ⟨4, rfl, by omega⟩
        case measure => simp [intOf]
      · have h' : decide (4611686018427387903 < n) = false := by simp; omega
        have h2 : ¬ (3 < v) := fun h2 => h (G3.out.1 h2)
        obtain rfl : v = 3 := by omega
        go_wp2_with fail
        go_ret
        exact ⟨rfl, rfl⟩
    · obtain rfl : v = 4 := by omega
      go_wp2_with fail
      go_ret
      exact ⟨rfl, rfl⟩

set_option maxRecDepth 100000 in
set_option maxHeartbeats 2000000 in
theorem number_any (n : Int) (k : Nat) (w : World) (h0 : 0 ≤ n) (h1 : n < 18446744073709551616) (hk : k ≤ 8) : Calls Try.prog 37 #[.int .u64 n, .int .i64 k] w (RetOwn 5 .u8 (beL n k) w) := by
  go_enter Try.func37, Try.ntmps37
  go_wp2_with fail
  go_loopw [5, 6] (fun b i wr => ∃ (r : Nat) (A : Option Addr) (m c : Nat) (acc : List Int), r ≤ k ∧ i = .int .i64 ((r : Int) - 1) ∧ b = .slice A m c ∧ acc.length ≤ 8 ∧ Hid (Own w.heap.size 5 .u8 wr A m c acc) ∧ Hid (acc.length + r = k) ∧ Hid (acc ++ beL n r = beL n k) ∧ Hid (Below w.heap.size w wr)) (fun _ i _ => (intOf i + 1).toNat)
  case atStart => exact ⟨k, none, 0, 0, [], by omega, rfl, rfl, by simp, Lib.hid (Own.nil _ _ _ _), Lib.hid (by simp), Lib.hid rfl, Lib.hid (Below.refl _ _)⟩
  case round =>
    obtain ⟨r, A, m, c, acc, hr, rfl, rfl, hacc, HO, HL, HE, HB⟩ := hrel
    cases r with
    | zero =>
      go_wp2_with fail
      go_ret
      refine ⟨A, m, c, rfl, ?_, HB.out⟩
      have := HE.out
      simp only [beL, List.append_nil] at this
      rw [← this]
      exact HO.out
    | succ r =>
      obtain ⟨x, hx⟩ : ∃ x, x = n / 256 ^ r % 256 := ⟨_, rfl⟩
      have HX := Lib.hid hx
      have HE2 : Hid ((acc ++ [x]) ++ beL n r = beL n k) := Lib.hid (by rw [hx, ← HE.out]; simp [beL])
      have HL2 : Hid ((acc ++ [x]).length + r = k) := Lib.hid (by have := HL.out; simp; omega)
      have hl2 : Hid (acc.length + 1 ≤ 8) := Lib.hid (by have := HL.out; omega)
      have hxb : 0 ≤ x ∧ x < 256 := by omega
      obtain ⟨hx0, hx1⟩ := hxb
      clear hx
      have hsz := HB.out.size
      rcases (show r = 0 ∨ r = 1 ∨ r = 2 ∨ r = 3 ∨ r = 4 ∨ r = 5 ∨ r = 6 ∨ r = 7 by omega) with rfl | rfl | rfl | rfl | rfl | rfl | rfl | rfl
      · have hxx : n % 256 = x := by have := HX.out; omega
        go_wp2_with (at_builtin; refine wpList_app (o := ⟨some 20, _, _, _, _, _⟩) elU8 rfl _ _ rfl rfl rfl (HO.out.alloc _) (Rd.newAt (xs := [x]) rfl rfl) rfl ?_ ?_ ?_; (have := hl2.out; simp; omega); (simp <;> omega); intro A5 n5 c5 w5 h5; have H5 := Lib.hid h5.1; have B5 := Lib.hid ((HB.out.alloc HB.out.size _).trans h5.2.2.1); clear h5)
        go_roundw
        case rel => exact ⟨_, A5, n5, c5, acc ++ [x], by omega, by go_num, rfl, by have := hl2.out; simp; omega, H5, HL2, HE2, B5⟩
        case measure => simp [intOf]
      · have hxx : n / 256 % 256 = x := by have := HX.out; omega
        go_wp2_with (at_builtin; refine wpList_app (o := ⟨some 20, _, _, _, _, _⟩) elU8 rfl _ _ rfl rfl rfl (HO.out.alloc _) (Rd.newAt (xs := [x]) rfl rfl) rfl ?_ ?_ ?_; (have := hl2.out; simp; omega); (simp <;> omega); intro A5 n5 c5 w5 h5; have H5 := Lib.hid h5.1; have B5 := Lib.hid ((HB.out.alloc HB.out.size _).trans h5.2.2.1); clear h5)
        go_roundw
        case rel => exact ⟨_, A5, n5, c5, acc ++ [x], by omega, by go_num, rfl, by have := hl2.out; simp; omega, H5, HL2, HE2, B5⟩
        case measure => simp [intOf]
      · have hxx : n / 65536 % 256 = x := by have := HX.out; omega
        go_wp2_with (at_builtin; refine wpList_app (o := ⟨some 20, _, _, _, _, _⟩) elU8 rfl _ _ rfl rfl rfl (HO.out.alloc _) (Rd.newAt (xs := [x]) rfl rfl) rfl ?_ ?_ ?_; (have := hl2.out; simp; omega); (simp <;> omega); intro A5 n5 c5 w5 h5; have H5 := Lib.hid h5.1; have B5 := Lib.hid ((HB.out.alloc HB.out.size _).trans h5.2.2.1); clear h5)
        go_roundw
        case rel => exact ⟨_, A5, n5, c5, acc ++ [x], by omega, by go_num, rfl, by have := hl2.out; simp; omega, H5, HL2, HE2, B5⟩
        case measure => simp [intOf]
      · have hxx : n / 16777216 % 256 = x := by have := HX.out; omega
        go_wp2_with (at_builtin; refine wpList_app (o := ⟨some 20, _, _, _, _, _⟩) elU8 rfl _ _ rfl rfl rfl (HO.out.alloc _) (Rd.newAt (xs := [x]) rfl rfl) rfl ?_ ?_ ?_; (have := hl2.out; simp; omega); (simp <;> omega); intro A5 n5 c5 w5 h5; have H5 := Lib.hid h5.1; have B5 := Lib.hid ((HB.out.alloc HB.out.size _).trans h5.2.2.1); clear h5)
        go_roundw
        case rel => exact ⟨_, A5, n5, c5, acc ++ [x], by omega, by go_num, rfl, by have := hl2.out; simp; omega, H5, HL2, HE2, B5⟩
        case measure => simp [intOf]
      · have hxx : n / 4294967296 % 256 = x := by have := HX.out; omega
        go_wp2_with (at_builtin; refine wpList_app (o := ⟨some 20, _, _, _, _, _⟩) elU8 rfl _ _ rfl rfl rfl (HO.out.alloc _) (Rd.newAt (xs := [x]) rfl rfl) rfl ?_ ?_ ?_; (have := hl2.out; simp; omega); (simp <;> omega); intro A5 n5 c5 w5 h5; have H5 := Lib.hid h5.1; have B5 := Lib.hid ((HB.out.alloc HB.out.size _).trans h5.2.2.1); clear h5)
        go_roundw
        case rel => exact ⟨_, A5, n5, c5, acc ++ [x], by omega, by go_num, rfl, by have := hl2.out; simp; omega, H5, HL2, HE2, B5⟩
        case measure => simp [intOf]
      · have hxx : n / 1099511627776 % 256 = x := by have := HX.out; omega
        go_wp2_with (at_builtin; refine wpList_app (o := ⟨some 20, _, _, _, _, _⟩) elU8 rfl _ _ rfl rfl rfl (HO.out.alloc _) (Rd.newAt (xs := [x]) rfl rfl) rfl ?_ ?_ ?_; (have := hl2.out; simp; omega); (simp <;> omega); intro A5 n5 c5 w5 h5; have H5 := Lib.hid h5.1; have B5 := Lib.hid ((HB.out.alloc HB.out.size _).trans h5.2.2.1); clear h5)
        go_roundw
        case rel => exact ⟨_, A5, n5, c5, acc ++ [x], by omega, by go_num, rfl, by have := hl2.out; simp; omega, H5, HL2, HE2, B5⟩
        case measure => simp [intOf]
      · have hxx : n / 281474976710656 % 256 = x := by have := HX.out; omega
        go_wp2_with (at_builtin; refine wpList_app (o := ⟨some 20, _, _, _, _, _⟩) elU8 rfl _ _ rfl rfl rfl (HO.out.alloc _) (Rd.newAt (xs := [x]) rfl rfl) rfl ?_ ?_ ?_; (have := hl2.out; simp; omega); (simp <;> omega); intro A5 n5 c5 w5 h5; have H5 := Lib.hid h5.1; have B5 := Lib.hid ((HB.out.alloc HB.out.size _).trans h5.2.2.1); clear h5)
        go_roundw
        case rel => exact ⟨_, A5, n5, c5, acc ++ [x], by omega, by go_num, rfl, by have := hl2.out; simp; omega, H5, HL2, HE2, B5⟩
        case measure => simp [intOf]
      · have hxx : n / 72057594037927936 = x := by have := HX.out; omega
        go_wp2_with (at_builtin; refine wpList_app (o := ⟨some 20, _, _, _, _, _⟩) elU8 rfl _ _ rfl rfl rfl (HO.out.alloc _) (Rd.newAt (xs := [x]) rfl rfl) rfl ?_ ?_ ?_; (have := hl2.out; simp; omega); (simp <;> omega); intro A5 n5 c5 w5 h5; have H5 := Lib.hid h5.1; have B5 := Lib.hid ((HB.out.alloc HB.out.size _).trans h5.2.2.1); clear h5)
        go_roundw
        case rel => exact ⟨_, A5, n5, c5, acc ++ [x], by omega, by go_num, rfl, by have := hl2.out; simp; omega, H5, HL2, HE2, B5⟩
        case measure => simp [intOf]
end Go.Proofs.Ytlefnddhmpgijaa
