/- Contracts of be, of, and of the reference's number (layer 33). Conditions: as each theorem states them. -/
import Derived.Test.YtieabfifaigjdaaF1
import Derived.Test.YtieabfifaigjdaaB2
import Derived.Test.YtieabfifaigjdaaMK
namespace Go.Proofs.Ytieabfifaigjdaa
open Go.RowKit
theorem add_zero_addr2 (g i : Nat) : (⟨g, 0, none⟩ : Addr).add i = ⟨g, i, none⟩ := by unfold Addr.add; split <;> simp_all
theorem set_mid (xs l : List Int) (t v : Int) : (xs ++ t :: l).set xs.length v = xs ++ v :: l := by
  rw [List.set_append_right _ _ (Nat.le_refl _), Nat.sub_self, List.set_cons_zero]
theorem getD_mid (xs l : List Int) (t : Int) : (xs ++ t :: l).getD xs.length 0 = t := by
  rw [List.getD_eq_getElem?_getD, List.getElem?_append_right (Nat.le_refl _)]; simp
theorem make8 (k : Nat) (h1 : 1 ≤ k) (h8 : k ≤ 8) (W : World) : (Instr.makeSlice 22 (.int .i64 (k : Nat)) (.int .i64 (k : Nat))).run Try.prog W = .ok (.slice (some ⟨W.heap.size, 0, none⟩) k k) (W.alloc (.cells ((List.replicate k (0 : Int)).map (Value.int .u8)).toArray 5)) := by
  rcases (show k = 1 ∨ k = 2 ∨ k = 3 ∨ k = 4 ∨ k = 5 ∨ k = 6 ∨ k = 7 ∨ k = 8 by omega) with rfl | rfl | rfl | rfl | rfl | rfl | rfl | rfl <;> kernel_rfl
set_option maxRecDepth 100000 in
set_option maxHeartbeats 2000000 in
theorem rn_any (n : Int) (k : Nat) (w : World) (h0 : 0 ≤ n) (h1 : n < 18446744073709551616) (hk1 : 1 ≤ k) (hk : k ≤ 8) : Calls Try.prog 29 #[.int .u64 n, .int .i64 (k : Nat)] w (RetOwn 5 .u8 (beL n k) w) := by
  have mk := make8 k hk1 hk
  go_enter Try.func29, Try.ntmps29
  go_wp2_with fail
  clear mk
  go_loopw [0, 6] (fun nv i wr => ∃ (r : Nat) (x m : Int), r ≤ k ∧ i = .int .i64 x ∧ x = (r : Int) - 1 ∧ nv = .int .u64 m ∧ 0 ≤ m ∧ m < 18446744073709551616 ∧ Hid (m = n / 256 ^ (k - r)) ∧ Hid (Own w.heap.size 5 .u8 wr (some ⟨w.heap.size, 0, none⟩) k k (List.replicate r 0 ++ beL n (k - r))) ∧ Hid (Below w.heap.size w wr)) (fun _ i _ => (intOf i + 1).toNat)
  case atStart => exact ⟨k, k - 1, n, by omega, rfl, rfl, rfl, h0, h1, Lib.hid (by rw [Nat.sub_self]; simp), Lib.hid (Own.cast (Own.litAt (xs := List.replicate k 0) rfl (by simp) (by simp) (Nat.le_refl _) (by simp [maxLen]; omega)) (by rw [Nat.sub_self]; simp [beL])), Lib.hid ((Below.refl _ _).alloc (Nat.le_refl _) _)⟩
  case round =>
    obtain ⟨r, x, m, hr, rfl, hx, rfl, hm0, hm1, HM, HO, HB⟩ := hrel
    cases r with
    | zero =>
      obtain rfl : x = -1 := by omega
      clear hx
      have HOE : Hid (Own w.heap.size 5 .u8 wr (some ⟨w.heap.size, 0, none⟩) k k (beL n k)) := Lib.hid (Own.cast HO.out (by simp))
      clear HO HM
      go_wp2_with fail
      go_ret
      exact ⟨_, _, _, rfl, HOE.out, HB.out⟩
    | succ r =>
      obtain rfl : x = (r : Int) := by omega
      clear hx
      have HN : Hid (List.replicate (r + 1) 0 ++ beL n (k - (r + 1)) = List.replicate r 0 ++ 0 :: beL n (k - (r + 1))) := Lib.hid (by rw [List.replicate_succ']; simp)
      rw [HN.out] at HO
      have hkr : Hid (k - r = (k - (r + 1)) + 1) := Lib.hid (by omega)
      have d0 := HO.out.cell0 (i := r) (by simp)
      have f0 := HO.out.frozen r
      have hget : (List.replicate r 0 ++ 0 :: beL n (k - (r + 1))).getD r 0 = 0 := by
        have := getD_mid (List.replicate r 0) (beL n (k - (r + 1))) 0
        rwa [List.length_replicate] at this
      rw [hget] at d0
      have d1 := d0
      have f1 := f0
      rw [← add_zero_addr2] at d1 f1
      clear hget
      have hset : ∀ y, (List.replicate r 0 ++ 0 :: beL n (k - (r + 1))).set r y = List.replicate r 0 ++ y :: beL n (k - (r + 1)) := fun y => by
        have := set_mid (List.replicate r 0) (beL n (k - (r + 1))) 0 y
        rwa [List.length_replicate] at this
      have HSET := Lib.hid hset
      clear hset
      have hm2 : 0 ≤ m / 256 ∧ m / 256 < 18446744073709551616 := by omega
      obtain ⟨hm2, hm3⟩ := hm2
      have HDIV : Hid (m / 256 = n / 256 ^ (k - r)) := Lib.hid (by rw [HM.out, hkr.out, Int.pow_succ, Int.ediv_ediv_of_nonneg (Int.le_of_lt (pow_pos256 _))])
      go_wp2_with fail
      go_roundw
      case rel => exact ⟨r, _, _, by omega, rfl, by omega, rfl, hm2, hm3, HDIV, Lib.hid (Own.cast (HO.out.set_ r _) (by rw [HSET.out, HM.out, hkr.out]; rfl)), Lib.hid (HB.out.setCell (by simp) _)⟩
      case measure => simp [intOf]
set_option maxRecDepth 100000 in
set_option maxHeartbeats 4000000 in
theorem be_any (n : Int) (k : Nat) (w : World) (h0 : 0 ≤ n) (h1 : n < 18446744073709551616) (hk : k ≤ 8) :
    Calls Try.prog 27 #[.int .u64 n, .int .i64 k] w (RetOwn 5 .u8 (beL n k) w) := by
  go_enter Try.func27, Try.ntmps27
  go_wp2_with fail
  go_loopw [5, 6] (fun b i wr => ∃ (r : Nat) (A : Option Addr) (m c : Nat) (acc : List Int), r ≤ k ∧ i = .int .i64 ((r : Int) - 1) ∧ b = .slice A m c ∧ Hid (Own w.heap.size 5 .u8 wr A m c acc) ∧ Hid (acc.length + r = k) ∧ Hid (acc ++ beL n r = beL n k) ∧ Hid (Below w.heap.size w wr)) (fun _ i _ => (intOf i + 1).toNat)
  case atStart => exact ⟨k, none, 0, 0, [], by omega, rfl, rfl, Lib.hid (Own.nil _ _ _ _), Lib.hid (by simp), Lib.hid rfl, Lib.hid (Below.refl _ _)⟩
  case round =>
    obtain ⟨r, A, m, c, acc, hr, rfl, rfl, HO, HL, HE, HB⟩ := hrel
    cases r with
    | zero =>
      have FIN : Hid (RetOwn 5 .u8 (beL n k) w (.returned (.slice A m c)) wr) := Lib.hid ⟨A, m, c, rfl, by
        have := HE.out
        simp only [beL, List.append_nil] at this
        rw [← this]
        exact HO.out, HB.out⟩
      clear HO HE
      go_wp2_with fail
      go_ret
      exact FIN.out
    | succ r =>
      obtain ⟨x, hx⟩ : ∃ x, x = n / 256 ^ r % 256 := ⟨_, rfl⟩
      have HX := Lib.hid hx
      have HE2 : Hid ((acc ++ [x]) ++ beL n r = beL n k) := Lib.hid (by rw [hx, ← HE.out]; simp [beL])
      have HL2 : Hid ((acc ++ [x]).length + r = k) := Lib.hid (by have := HL.out; simp; omega)
      have hxb : 0 ≤ x ∧ x < 256 := by omega
      obtain ⟨hx0, hx1⟩ := hxb
      clear hx
      have hsz := HB.out.size
      rcases (show r = 0 ∨ r = 1 ∨ r = 2 ∨ r = 3 ∨ r = 4 ∨ r = 5 ∨ r = 6 ∨ r = 7 by omega) with rfl | rfl | rfl | rfl | rfl | rfl | rfl | rfl
      · have hxx : n % 256 = x := by have := HX.out; omega
        go_wp2_with (at_builtin; refine wpList_app (o := ⟨some 20, _, _, _, _, _⟩) elC rfl _ _ rfl rfl rfl (HO.out.alloc _) (Rd.newAt (xs := [x]) rfl rfl) rfl ?_ ?_ ?_; (have := HL.out; simp; omega); (simp <;> omega); intro A5 n5 c5 w5 h5; have H5 := Lib.hid h5; clear h5)
        go_roundw
        case rel => exact ⟨_, A5, n5, c5, acc ++ [x], by omega, by go_num, rfl, Lib.hid H5.out.1, HL2, HE2, Lib.hid ((HB.out.alloc hsz _).trans H5.out.2.2.1)⟩
        case measure => simp [intOf]
      · have hxx : n / 256 % 256 = x := by have := HX.out; omega
        go_wp2_with (at_builtin; refine wpList_app (o := ⟨some 20, _, _, _, _, _⟩) elC rfl _ _ rfl rfl rfl (HO.out.alloc _) (Rd.newAt (xs := [x]) rfl rfl) rfl ?_ ?_ ?_; (have := HL.out; simp; omega); (simp <;> omega); intro A5 n5 c5 w5 h5; have H5 := Lib.hid h5; clear h5)
        go_roundw
        case rel => exact ⟨_, A5, n5, c5, acc ++ [x], by omega, by go_num, rfl, Lib.hid H5.out.1, HL2, HE2, Lib.hid ((HB.out.alloc hsz _).trans H5.out.2.2.1)⟩
        case measure => simp [intOf]
      · have hxx : n / 65536 % 256 = x := by have := HX.out; omega
        go_wp2_with (at_builtin; refine wpList_app (o := ⟨some 20, _, _, _, _, _⟩) elC rfl _ _ rfl rfl rfl (HO.out.alloc _) (Rd.newAt (xs := [x]) rfl rfl) rfl ?_ ?_ ?_; (have := HL.out; simp; omega); (simp <;> omega); intro A5 n5 c5 w5 h5; have H5 := Lib.hid h5; clear h5)
        go_roundw
        case rel => exact ⟨_, A5, n5, c5, acc ++ [x], by omega, by go_num, rfl, Lib.hid H5.out.1, HL2, HE2, Lib.hid ((HB.out.alloc hsz _).trans H5.out.2.2.1)⟩
        case measure => simp [intOf]
      · have hxx : n / 16777216 % 256 = x := by have := HX.out; omega
        go_wp2_with (at_builtin; refine wpList_app (o := ⟨some 20, _, _, _, _, _⟩) elC rfl _ _ rfl rfl rfl (HO.out.alloc _) (Rd.newAt (xs := [x]) rfl rfl) rfl ?_ ?_ ?_; (have := HL.out; simp; omega); (simp <;> omega); intro A5 n5 c5 w5 h5; have H5 := Lib.hid h5; clear h5)
        go_roundw
        case rel => exact ⟨_, A5, n5, c5, acc ++ [x], by omega, by go_num, rfl, Lib.hid H5.out.1, HL2, HE2, Lib.hid ((HB.out.alloc hsz _).trans H5.out.2.2.1)⟩
        case measure => simp [intOf]
      · have hxx : n / 4294967296 % 256 = x := by have := HX.out; omega
        go_wp2_with (at_builtin; refine wpList_app (o := ⟨some 20, _, _, _, _, _⟩) elC rfl _ _ rfl rfl rfl (HO.out.alloc _) (Rd.newAt (xs := [x]) rfl rfl) rfl ?_ ?_ ?_; (have := HL.out; simp; omega); (simp <;> omega); intro A5 n5 c5 w5 h5; have H5 := Lib.hid h5; clear h5)
        go_roundw
        case rel => exact ⟨_, A5, n5, c5, acc ++ [x], by omega, by go_num, rfl, Lib.hid H5.out.1, HL2, HE2, Lib.hid ((HB.out.alloc hsz _).trans H5.out.2.2.1)⟩
        case measure => simp [intOf]
      · have hxx : n / 1099511627776 % 256 = x := by have := HX.out; omega
        go_wp2_with (at_builtin; refine wpList_app (o := ⟨some 20, _, _, _, _, _⟩) elC rfl _ _ rfl rfl rfl (HO.out.alloc _) (Rd.newAt (xs := [x]) rfl rfl) rfl ?_ ?_ ?_; (have := HL.out; simp; omega); (simp <;> omega); intro A5 n5 c5 w5 h5; have H5 := Lib.hid h5; clear h5)
        go_roundw
        case rel => exact ⟨_, A5, n5, c5, acc ++ [x], by omega, by go_num, rfl, Lib.hid H5.out.1, HL2, HE2, Lib.hid ((HB.out.alloc hsz _).trans H5.out.2.2.1)⟩
        case measure => simp [intOf]
      · have hxx : n / 281474976710656 % 256 = x := by have := HX.out; omega
        go_wp2_with (at_builtin; refine wpList_app (o := ⟨some 20, _, _, _, _, _⟩) elC rfl _ _ rfl rfl rfl (HO.out.alloc _) (Rd.newAt (xs := [x]) rfl rfl) rfl ?_ ?_ ?_; (have := HL.out; simp; omega); (simp <;> omega); intro A5 n5 c5 w5 h5; have H5 := Lib.hid h5; clear h5)
        go_roundw
        case rel => exact ⟨_, A5, n5, c5, acc ++ [x], by omega, by go_num, rfl, Lib.hid H5.out.1, HL2, HE2, Lib.hid ((HB.out.alloc hsz _).trans H5.out.2.2.1)⟩
        case measure => simp [intOf]
      · have hxx : n / 72057594037927936 = x := by have := HX.out; omega
        go_wp2_with (at_builtin; refine wpList_app (o := ⟨some 20, _, _, _, _, _⟩) elC rfl _ _ rfl rfl rfl (HO.out.alloc _) (Rd.newAt (xs := [x]) rfl rfl) rfl ?_ ?_ ?_; (have := HL.out; simp; omega); (simp <;> omega); intro A5 n5 c5 w5 h5; have H5 := Lib.hid h5; clear h5)
        go_roundw
        case rel => exact ⟨_, A5, n5, c5, acc ++ [x], by omega, by go_num, rfl, Lib.hid H5.out.1, HL2, HE2, Lib.hid ((HB.out.alloc hsz _).trans H5.out.2.2.1)⟩
        case measure => simp [intOf]
theorem or64 {z y : Int} (h0 : 0 ≤ z) (h1 : z < 72057594037927936) (y0 : 0 ≤ y) (y1 : y < 256) : bits .or .u64 (z * 256) y = z * 256 + y := by
  have h := bits_or_u64_nat (z.toNat * 256) y.toNat (by omega) (by omega)
  rw [show ((z.toNat * 256 : Nat) : Int) = z * 256 by omega, show ((y.toNat : Nat) : Int) = y by omega] at h
  rw [h, show z.toNat * 256 = z.toNat * 2 ^ 8 from rfl, or_add (by omega)]
  omega
theorem ofF_take {L : List Int} {j : Nat} (h : j < L.length) : ofF 0 (L.take (j + 1)) = 256 * ofF 0 (L.take j) + L.getD j 0 := by
  rw [take_snoc_getD h, ofF_snoc]
theorem pow_le7 {j : Nat} (h : j < 8) : (256 : Int) ^ j ≤ 72057594037927936 := by
  rcases (show j = 0 ∨ j = 1 ∨ j = 2 ∨ j = 3 ∨ j = 4 ∨ j = 5 ∨ j = 6 ∨ j = 7 by omega) with rfl | rfl | rfl | rfl | rfl | rfl | rfl | rfl <;> decide
set_option maxRecDepth 100000 in
set_option maxHeartbeats 4000000 in
theorem of_any (A : Option Addr) (n c : Nat) (b : List Int) (w : World) (hn : b.length = n) (hr : Rd w.heap.size .u8 w A b) (hb : Byt b) (hn8 : n ≤ 8) :
    Calls Try.prog 23 #[.slice A n c] w fun e w' => e = .returned (.int .u64 (ofF 0 b)) ∧ w = w' := by
  have HN := Lib.hid hn
  have HR := Lib.hid hr
  have HB := Lib.hid hb
  clear hn hr hb
  go_enter Try.func23, Try.ntmps23
  go_wp2_with fail
  go_loop [3, 8] (fun s i => ∃ k : Nat, k ≤ n ∧ i = .int .i64 k ∧ s = .int .u64 (ofF 0 (b.take k))) (fun _ i => n - (intOf i).toNat)
  case atStart => exact ⟨0, by omega, rfl, rfl⟩
  case round =>
    obtain ⟨k, hk, rfl, rfl⟩ := hrel
    by_cases hlt : k < n
    · obtain ⟨ad, hA, h1, h2⟩ := HR.out k (by rw [HN.out]; exact hlt)
      have hrg := ofF_range 0 (b.take k) (HB.out.take k) (by omega)
      rw [List.length_take, show min k b.length = k by have := HN.out; omega] at hrg
      have hp7 := pow_le7 (j := k) (by omega)
      have hyb := HB.out.getD k
      have HS : Hid (ofF 0 (b.take (k + 1)) = ofF 0 (b.take k) * 256 + b.getD k 0) := Lib.hid (by rw [ofF_take (by have := HN.out; omega)]; omega)
      generalize ofF 0 (b.take k) = z at *
      generalize b.getD k 0 = y at *
      have hor := or64 (z := z) (y := y) hrg.1 (by omega) hyb.1 hyb.2
      obtain ⟨hy0, hy1⟩ := hyb
      obtain ⟨hz0, hz1⟩ := hrg
      subst hA
      have hz2 : z < 72057594037927936 := by omega
      clear hp7 hz1 h1
      go_wp2_with fail
      go_round
      case rel => exact ⟨k + 1, by omega, by go_num, by rw [HS.out]⟩
      case measure => simp [intOf]; omega
    · obtain rfl : k = n := by omega
      have HF : Hid (ofF 0 (b.take k) = ofF 0 b) := Lib.hid (by rw [List.take_of_length_le (by rw [HN.out]; omega)])
      go_wp2_with fail
      go_ret
      rw [HF.out]
      exact ⟨rfl, rfl⟩
end Go.Proofs.Ytieabfifaigjdaa
