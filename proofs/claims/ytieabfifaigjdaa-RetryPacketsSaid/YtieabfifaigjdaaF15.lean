/- Walk: the law RetryKnown. Conditions: as each theorem states them. -/
import Derived.Test.YtieabfifaigjdaaF12
import Derived.Test.YtieabfifaigjdaaF8
namespace Go.Proofs.Ytieabfifaigjdaa
open Go.RowKit
/-- what a token that was made is -/
theorem chk_made {sec : List Int} {life addr at_ addr2 now : Int} {orig : List Int} (a0 : 0 ≤ addr) (a1 : addr < 4294967296) (t0 : 0 ≤ at_) (t1 : at_ < 18446744073709551616) (hl : orig.length ≤ 20) :
    chkL sec life (tknL sec addr at_ orig) addr2 now = if addr ≠ addr2 then ([], 5) else if now < at_ ∨ life < now - at_ then ([], 8) else (orig, 0) := by
  obtain ⟨h1, h2, h3, h4, h5⟩ := tkn_parts (sec := sec) a0 a1 t0 t1 hl
  unfold chkL
  rw [if_neg (fun q => q ⟨h4, h5⟩), h1, h2, h3]
theorem chk_empty (sec : List Int) (life addr now : Int) : chkL sec life [] addr now = ([], 2) := by
  unfold chkL
  rw [if_pos (fun q => absurd q.1.1 (by decide))]
def S1 : List Int := [1, 0, 0, 0, 0, 0, 0, 0, 0, 0, 0, 0, 0, 0, 0, 0, 0, 0, 0, 0, 0, 0, 0, 0, 0, 0, 0, 0, 0, 0, 0, 0]
theorem S1_byt : Byt S1 := by unfold S1; intro x hx; simp only [List.mem_cons, List.not_mem_nil, or_false] at hx; omega
theorem conv_n2 {B : Nat} {w : World} {A : Option Addr} {xs : List Int} {n : Nat} (hr : Rd B .u8 w A xs) (hn : n = xs.length) (c : Nat) : (convert 22 9 (.slice A n c)).run Try.prog w = .ok (.string (strOfNums xs)) w := by
  subst hn; exact conv_rd elC Try.underlying9 hr c
theorem id_str : strOfNums [105, 100] = ⟨#[105, 100]⟩ := by decide +kernel
theorem ch1 : chkL S1 10 (tknL S1 7 5 [105, 100]) 7 15 = ([105, 100], 0) := by
  rw [chk_made (by decide) (by decide) (by decide) (by decide) (by decide)]; simp
theorem ch2 : chkL S1 10 (tknL S1 7 5 [105, 100]) 7 16 = ([], 8) := by
  rw [chk_made (by decide) (by decide) (by decide) (by decide) (by decide)]; simp
theorem ch3 : chkL S1 10 (tknL S1 7 5 [105, 100]) 8 15 = ([], 5) := by
  rw [chk_made (by decide) (by decide) (by decide) (by decide) (by decide)]; simp
attribute [local irreducible] tknL chkL
set_option maxRecDepth 100000 in
set_option maxHeartbeats 1000000 in
theorem known33_walk (w : World) :
    Calls Try.prog 6 #[] w fun e w' => e = .returned (.bool true) ∧ Below w.heap.size w w' := by
  go_enter Try.func6, Try.ntmps6
  go_wp2_with fail
  refine Calls.mono (new_any S1 10 w rfl) ?_
  rintro e w1 ⟨g, rfl, hk, hg, b1⟩
  have K1 := Lib.hid hk
  have B1 := Lib.hid b1
  clear hk b1
  go_wp2_with fail
  refine Calls.mono (works_any _) ?_
  rintro e w2 ⟨rfl, b2⟩
  have K2 := Lib.hid (show Kp w2 g S1 10 from Blk.below K1.out b2 (Blk.lt K1.out))
  have B2 := Lib.hid (B1.out.trans (b2.mono B1.out.size))
  clear b2 K1 B1
  have cv1 := Lib.run_convert_bytes_const (P := Try.prog) w2 22 5 #[.int .u8 105, .int .u8 100] 2 2 Try.underlying22 Try.underlying5
  simp only [List.size_toArray, List.length_cons, List.length_nil] at cv1
  have BW : Hid (Below w2.heap.size w2 (w2.alloc (.cells #[.int .u8 105, .int .u8 100] 5 (2, 3)))) := Lib.hid ((Below.refl _ _).alloc (Nat.le_refl _) _)
  have T3 : Hid (Rd (w2.alloc (.cells #[.int .u8 105, .int .u8 100] 5 (2, 3))).heap.size .u8 (w2.alloc (.cells #[.int .u8 105, .int .u8 100] 5 (2, 3))) (some ⟨w2.heap.size, 0, none⟩) [105, 100]) := Lib.hid ((Rd.mark (xs := [105, 100]) rfl rfl).mono (by simp))
  go_wp2_with fail
  generalize hw3 : w2.alloc (.cells #[.int .u8 105, .int .u8 100] 5 (2, 3)) = w3 at *
  clear hw3 cv1
  have K3 := Lib.hid (show Kp w3 g S1 10 from Blk.below K2.out BW.out (Blk.lt K2.out))
  have B3 := Lib.hid (B2.out.trans (BW.out.mono B2.out.size))
  clear K2 B2 BW
  refine Calls.mono (make_any_ g S1 10 7 5 (some ⟨w2.heap.size, 0, none⟩) 2 2 [105, 100] w3 K3.out rfl S1_byt rfl T3.out (by intro x hx; simp only [List.mem_cons, List.not_mem_nil, or_false] at hx; omega) (by decide) (by decide) (by decide) (by decide) (by decide) (by decide)) ?_
  rintro e w4 ⟨A4, n4, c4, rfl, o4, b4⟩
  have O4 := Lib.hid o4
  have N4 := Lib.hid o4.len
  have hn4 : n4 ≤ 100 := by rw [o4.len, tknL_len]; decide
  have TB := Lib.hid (tknL_byt (sec := S1) (addr := 7) (at_ := 5) (orig := [105, 100]) (by intro x hx; simp only [List.mem_cons, List.not_mem_nil, or_false] at hx; omega) (by decide))
  have K4 := Lib.hid (show Kp w4 g S1 10 from Blk.below K3.out b4 (Blk.lt K3.out))
  have B4 := Lib.hid (B3.out.trans (b4.mono B3.out.size))
  have E1 : Hid (chkL S1 10 (tknL S1 7 5 [105, 100]) 7 15 = ([105, 100], 0)) := Lib.hid ch1
  have E2 : Hid (chkL S1 10 (tknL S1 7 5 [105, 100]) 7 16 = ([], 8)) := Lib.hid ch2
  have E3 : Hid (chkL S1 10 (tknL S1 7 5 [105, 100]) 8 15 = ([], 5)) := Lib.hid ch3
  have HC := Lib.hid (fun (W : World) (a t : Int) (h : Kp W g S1 10) (hr : Rd W.heap.size .u8 W A4 (tknL S1 7 5 [105, 100])) (a0 : 0 ≤ a) (a1 : a < 4294967296) (t0 : 0 ≤ t) (t1 : t < 18446744073709551616) => check_any_ g S1 10 a t A4 n4 c4 (tknL S1 7 5 [105, 100]) W h rfl S1_byt N4.out.symm hr TB.out (by omega) O4.out.cap.1 a0 a1 t0 t1)
  clear o4 b4 K3 B3 T3
  go_wp2_with fail
  refine Calls.mono (HC.out w4 7 15 K4.out O4.out.rd (by decide) (by decide) (by decide) (by decide)) ?_
  rw [E1.out]
  rintro e w5 ⟨A5, n5, c5, rfl, r5, l5, m5, b5, f5⟩
  have R5 : Hid (Rd w5.heap.size .u8 w5 A5 [105, 100]) := Lib.hid r5
  have L5 : Hid (n5 = [(105 : Int), 100].length) := Lib.hid l5
  have O5 := Lib.hid (O4.out.below b5)
  have K5 := Lib.hid (show Kp w5 g S1 10 from Blk.below K4.out b5 (Blk.lt K4.out))
  have B5 := Lib.hid (B4.out.trans (b5.mono B4.out.size))
  clear r5 l5 m5 b5 f5 K4 B4
  go_wp2_with fail
  refine Calls.mono (HC.out w5 7 16 K5.out O5.out.rd (by decide) (by decide) (by decide) (by decide)) ?_
  rw [E2.out]
  rintro e w6 ⟨A6, n6, c6, rfl, r6, l6, m6, b6, f6⟩
  have R6 := Lib.hid ((R5.out.below b6 (Nat.le_refl _)).mono b6.size)
  have O6 := Lib.hid (O5.out.below b6)
  have K6 := Lib.hid (show Kp w6 g S1 10 from Blk.below K5.out b6 (Blk.lt K5.out))
  have B6 := Lib.hid (B5.out.trans (b6.mono B5.out.size))
  clear r6 l6 m6 b6 f6 K5 B5 O5 R5
  go_wp2_with fail
  refine Calls.mono (HC.out w6 8 15 K6.out O6.out.rd (by decide) (by decide) (by decide) (by decide)) ?_
  rw [E3.out]
  rintro e w7 ⟨A7, n7, c7, rfl, r7, l7, m7, b7, f7⟩
  have R7 := Lib.hid ((R6.out.below b7 (Nat.le_refl _)).mono b7.size)
  have K7 := Lib.hid (show Kp w7 g S1 10 from Blk.below K6.out b7 (Blk.lt K6.out))
  have B7 := Lib.hid (B6.out.trans (b7.mono B6.out.size))
  clear r7 l7 m7 b7 f7 K6 B6 O6 R6 HC E1 E2 E3
  go_wp2_with fail
  refine Calls.mono (check_any_ g S1 10 7 15 none 0 0 [] w7 K7.out rfl S1_byt rfl Rd.nil Byt.nil (by decide) (by decide) (by decide) (by decide) (by decide) (by decide)) ?_
  rw [chk_empty]
  rintro e w8 ⟨A8, n8, c8, rfl, r8, l8, m8, b8, f8⟩
  have R8 := Lib.hid ((R7.out.below b8 (Nat.le_refl _)).mono b8.size)
  have B8 := Lib.hid (B7.out.trans (b8.mono B7.out.size))
  clear r8 l8 m8 b8 f8 K7 B7 R7
  go_wp2_with fail
  refine Calls.mono (make_nil 1 1 none 0 0 _) ?_
  rintro e w9 ⟨rfl, rfl⟩
  go_wp2_with fail
  refine Calls.mono (check_nil 7 15 A4 n4 c4 _) ?_
  rintro e w10 ⟨rfl, rfl⟩
  have hcv := conv_n2 R8.out L5.out c5
  rw [id_str] at hcv
  clear R8 O4 N4 TB L5
  go_wp2_with fail
  go_ret
  exact ⟨rfl, B8.out⟩
end Go.Proofs.Ytieabfifaigjdaa
