
/- Contracts of the reference's blocks and words. Conditions: as each theorem states them. -/
import Derived.Test.YtnagpaaiaaaamaaS9
import Derived.Test.YtnagpaaiaaaamaaB2
import Derived.Test.YtnagpaaiaaaamaaQM
import Derived.IntWalk
namespace Go.Proofs.Ytnagpaaiaaaamaa
open Go.RowKit

theorem rturn_i (x n : Int) (m : Nat) (hnm : n = m) (hm : m ≤ 32) (w : World) (hx : U32 x) : Calls Try.prog 40 #[.int .u32 x, .int .i64 n] w fun e w' => e = .returned (.int .u32 (rotr m x)) ∧ w' = w := by
  subst hnm; exact rturn_any x m w hx hm
theorem shift_i (x n : Int) (m : Nat) (hnm : n = m) (hm : m ≤ 1000) (w : World) (hx : U32 x) : Calls Try.prog 41 #[.int .u32 x, .int .i64 n] w fun e w' => e = .returned (.int .u32 (hlf m x)) ∧ w' = w := by
  subst hnm; exact shift_any x m w hx hm

theorem pow_step (m j : Nat) : m / 256 ^ j / 256 = m / 256 ^ (j + 1) := by rw [Nat.div_div_eq_div_mul, Nat.pow_succ]
set_option maxHeartbeats 2000000 in
theorem blocks_any (A : Option Addr) (c : Nat) (L : List Int) (w : World) (hr : Rd w.heap.size .u8 w A L) (hl : L.length ≤ 1000000000000) :
    Calls Try.prog 38 #[.slice A L.length c] w (RetOwn 5 .u8 (L ++ padL L.length) w) := by
  have HR := Lib.hid hr
  clear hr
  have hmk : ∀ W : World, (Instr.makeSlice 29 (.int .i64 8) (.int .i64 8)).run Try.prog W = .ok (.slice (some ⟨W.heap.size, 0, none⟩) 8 8) (W.alloc (.cells #[.int .u8 0, .int .u8 0, .int .u8 0, .int .u8 0, .int .u8 0, .int .u8 0, .int .u8 0, .int .u8 0] 5)) := fun _ => by kernel_rfl
  have O0 : Hid (Own w.heap.size 5 .u8 (w.alloc (.cells #[] 5)) (some ⟨w.heap.size, 0, none⟩) 0 0 []) := Lib.hid (Own.litAt rfl rfl rfl (Nat.le_refl _) (Nat.zero_le _))
  have HR0 := Lib.hid (HR.out.alloc (Nat.le_refl _) (.cells #[] 5))
  go_enter Try.func38, Try.ntmps38
  go_wp2_with (first
    | (at_builtin; refine wpList_app (o := ⟨some 9, _, _, _, _, _⟩) (B := w.heap.size) elU8 rfl _ _ rfl rfl rfl O0.out HR0.out rfl ?_ ?_ ?_; (simp only [List.length_nil]; omega); (simp); intro A1 n1 c1 w1 q1; have H1 := Lib.hid q1; have B1 := Lib.hid (((Below.refl w.heap.size w).alloc (Nat.le_refl _) _).trans q1.2.2.1); have O1 := Lib.hid (Own.alloc q1.1 (.cells #[.int .u8 128] 5)); clear q1)
    | (at_builtin; refine wpList_app (o := ⟨some 11, _, _, _, _, _⟩) (B := w.heap.size) elU8 rfl _ _ rfl rfl rfl O1.out (Rd.newAt (xs := [128]) rfl rfl) rfl ?_ ?_ ?_; (simp only [List.nil_append, List.length_cons, List.length_nil]; omega); (exact (B1.out.alloc B1.out.size _).size); intro A2 n2 c2 w2 q2; have H2 := Lib.hid q2; have B2 := Lib.hid ((B1.out.alloc B1.out.size _).trans q2.2.2.1); clear q2))
  have O2 : Hid (Own w.heap.size 5 .u8 w2 A2 n2 c2 (L ++ 128 :: List.replicate 0 0)) := Lib.hid (by have := H2.out.1; simpa using this)
  clear H1 B1 O1 H2 hmk
  have hmk := Lib.hid (fun W : World => (by kernel_rfl : (Instr.makeSlice 29 (.int .i64 8) (.int .i64 8)).run Try.prog W = .ok (.slice (some ⟨W.heap.size, 0, none⟩) 8 8) (W.alloc (.cells #[.int .u8 0, .int .u8 0, .int .u8 0, .int .u8 0, .int .u8 0, .int .u8 0, .int .u8 0, .int .u8 0] 5))))
  have hpn : padN L.length < 64 := by unfold padN; omega
  go_loopw [3] (fun b wr => ∃ (j : Nat) (A1 : Option Addr) (n1 c1 : Nat), j ≤ padN L.length ∧ b = .slice A1 n1 c1 ∧ Hid (Own w.heap.size 5 .u8 wr A1 n1 c1 (L ++ 128 :: List.replicate j 0)) ∧ Hid (Below w.heap.size w wr)) (fun b _ => L.length + 65 - (match b with | .slice _ n _ => n | _ => 0))
  case atStart => exact ⟨0, A2, n2, c2, by omega, rfl, O2, B2⟩
  case round =>
    clear O2 B2
    obtain ⟨j, A1, n1, c1, hj, rfl, HO, HB⟩ := hrel
    have hn1 : n1 = L.length + 1 + j := by have h1 := HO.out.len; rw [List.length_append, List.length_cons, List.length_replicate] at h1; omega
    have hc1 := HO.out.cap
    by_cases hlt : j < padN L.length
    · have ht : ((n1 : Int) % 64 != 56) = true := by rw [bne_iff_ne]; unfold padN at hlt; omega
      have HN1 := Lib.hid hn1
      have hn1' : n1 ≤ 1000000000065 := by omega
      clear hn1
      go_wp2_with (at_builtin; refine wpList_app (o := ⟨some 18, _, _, _, _, _⟩) elU8 rfl _ _ rfl rfl rfl (HO.out.alloc _) (Rd.newAt (xs := [0]) rfl rfl) rfl ?_ ?_ ?_; (simp only [List.length_append, List.length_cons, List.length_replicate, List.length_nil]; omega); exact (HB.out.alloc HB.out.size _).size; intro A9 n9 c9 w9 q9; have H9 := Lib.hid q9; have B9 := Lib.hid ((HB.out.alloc HB.out.size _).trans q9.2.2.1); clear q9)
      go_roundw
      case rel => exact ⟨j + 1, A9, n9, c9, by omega, rfl, Lib.hid (by have := H9.out.1; rw [List.append_assoc, List.cons_append, ← List.replicate_succ'] at this; exact this), B9⟩
      case measure =>
        have h1 := H9.out.1.len
        rw [List.length_append, List.length_append, List.length_cons, List.length_replicate, List.length_cons, List.length_nil] at h1
        have h2 := HN1.out
        simp only
        omega
    · have hjp : j = padN L.length := by omega
      have ht : ((n1 : Int) % 64 != 56) = false := by rw [bne_eq_false_iff_eq]; unfold padN at hjp; omega
      rw [hjp] at HO
      have HN1 := Lib.hid hn1
      have hn1' : n1 ≤ 1000000000065 := by omega
      clear hn1 hjp hlt hj
      obtain ⟨w3, rfl⟩ : ∃ w3 : World, w3 = wr := ⟨_, rfl⟩
      have hmk2 := hmk.out
      go_wp2_with fail
      clear ht hmk2
      have h8 := be8_len (8 * L.length)
      have H8 := Lib.hid h8
      clear h8
      go_loopw [4, 6] (fun n i wr => ∃ (j N : Nat), j ≤ 8 ∧ i = .int .i64 (7 - (j : Int)) ∧ n = .int .u64 N ∧ N ≤ 8000000000000 ∧ Hid (N = 8 * L.length / 256 ^ j) ∧ Hid (Arr wr w3.heap.size 5 .u8 (bak (be8 (8 * L.length)) j)) ∧ Hid (Below w3.heap.size w3 wr)) (fun _ i _ => (intOf i + 1).toNat)
      case atStart => exact ⟨0, 8 * L.length, by omega, rfl, by go_num, by omega, Lib.hid (by simp), Lib.hid (Arr.newAt rfl (by rw [bak_zero, H8.out]; rfl)), Lib.hid ((Below.refl _ _).alloc (Nat.le_refl _) _)⟩
      case round =>
        obtain ⟨j, N, hj, rfl, rfl, hN, HN, HA, HX⟩ := hrel
        by_cases hlt : j < 8
        · have d0 := HA.out.cell (i := 7 - j) (by rw [bak_len _ (by rw [H8.out]; omega), H8.out]; omega)
          have f0 := HA.out.frozen (7 - j)
          have e1 : (7 - (j : Int)).toNat = 7 - j := by omega
          generalize (bak (be8 (8 * L.length)) j).getD (7 - j) 0 = old at d0
          go_wp2_with fail
          go_roundw
          case rel => exact ⟨j + 1, N / 256, by omega, by go_num, by go_num, by omega, Lib.hid (by rw [HN.out, pow_step]), Lib.hid (Arr.cast (HA.out.set (7 - j) _) (by
            rw [← bak_set (i := 7 - j) (by rw [H8.out]; omega), be8_get _ (by omega), show 7 - (7 - j) = j by omega, ← HN.out]
            first | rfl | (congr 1; simp only [wrapu8]; omega))), Lib.hid (HX.out.setCell (by simp) _)⟩
          case measure => simp [intOf]; omega
        · have hj8 : j = 8 := by omega
          have HA8 : Hid (Arr wr w3.heap.size 5 .u8 (be8 (8 * L.length))) := Lib.hid (Arr.cast HA.out (by have := bak_full (be8 (8 * L.length)); rw [H8.out] at this; rw [hj8]; exact this))
          clear hj8
          go_wp2_with (at_builtin; refine wpList_app (o := ⟨some 38, _, _, _, _, _⟩) elU8 rfl _ _ rfl rfl rfl (HO.out.below HX.out) HA8.out.rd H8.out.symm ?_ ?_ ?_; (simp only [List.length_append, List.length_cons, List.length_replicate, H8.out]; omega); exact Nat.le_trans HB.out.size HX.out.size; intro A9 n9 c9 w9 q9; have H9 := Lib.hid q9; have B9 := Lib.hid ((HB.out.trans (HX.out.mono HB.out.size)).trans q9.2.2.1); clear q9)
          go_ret
          exact RetOwn.cast ⟨_, _, _, rfl, H9.out.1, B9.out⟩ (by rw [padL_eq, List.append_assoc])
end Go.Proofs.Ytnagpaaiaaaamaa
