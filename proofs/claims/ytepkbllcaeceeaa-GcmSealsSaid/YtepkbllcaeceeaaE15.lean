/- Contracts of layer 8's reference: Times, Sub, Box. Conditions: as each theorem states them. -/
import Derived.Test.YtepkbllcaeceeaaE13
namespace Go.Proofs.Ytepkbllcaeceeaa
open Go.RowKit
theorem timesN_zero (a b out : Int) : timesN 0 a b out = out := by unfold timesN; rfl
theorem timesN_succ (n : Nat) (a b out : Int) : timesN (n + 1) a b out = timesN n (if 128 ≤ a then xb (2 * a % 256) 27 else 2 * a) (b / 2) (if b % 2 = 1 then xb out a else out) := by rw [timesN]
theorem times_eq (a b : Int) : times a b = timesN 8 a b 0 := rfl
theorem timesN_u : ∀ (n : Nat) (a b out : Int), B8 out → B8 (timesN n a b out)
  | 0, a, b, out, h => by rw [timesN_zero]; exact h
  | n + 1, a, b, out, h => by
    rw [timesN_succ]
    refine timesN_u n _ _ _ ?_
    split
    · exact xb_u _ _
    · exact h
theorem times_u (a b : Int) : B8 (times a b) := timesN_u 8 a b 0 ⟨by decide, by decide⟩
attribute [local irreducible] times
set_option maxRecDepth 100000 in
set_option maxHeartbeats 2000000 in
theorem rtimes_any (a b : Int) (w : World) (ha : B8 a) (hb : B8 b) : Calls Try.prog 57 #[.int .u8 a, .int .u8 b] w fun e w' => e = .returned (.int .u8 (times a b)) ∧ w = w' := by
  obtain ⟨ha0, ha1⟩ := ha
  obtain ⟨hb0, hb1⟩ := hb
  have HE := Lib.hid (times_eq a b)
  have HN := Lib.hid timesN_succ
  go_enter Try.func57, Try.ntmps57
  go_wp2_with fail
  go_loop [0, 1, 5, 6] (fun x y o i => ∃ (k : Nat) (p q r : Int), k ≤ 8 ∧ i = .int .i64 k ∧ x = .int .u8 p ∧ y = .int .u8 q ∧ o = .int .u8 r ∧ 0 ≤ p ∧ p < 256 ∧ 0 ≤ q ∧ q < 256 ∧ 0 ≤ r ∧ r < 256 ∧ Hid (timesN (8 - k) p q r = times a b)) (fun _ _ _ i => 8 - (intOf i).toNat)
  case atStart => exact ⟨0, a, b, 0, by omega, rfl, rfl, rfl, rfl, ha0, ha1, hb0, hb1, by omega, by omega, Lib.hid HE.out.symm⟩
  case round =>
    obtain ⟨k, p, q, r, hk, rfl, rfl, rfl, rfl, hp0, hp1, hq0, hq1, hr0, hr1, HT⟩ := hrel
    by_cases hlt : k < 8
    · have HT2 := HT.out
      rw [show 8 - k = (8 - (k + 1)) + 1 by omega, HN.out] at HT2
      by_cases hq : q % 2 = 1
      · rw [if_pos hq] at HT2
        by_cases hp : 128 ≤ p
        · rw [if_pos hp] at HT2
          have HT3 := Lib.hid HT2
          clear HT2 HT
          go_wp2_with fail
          go_round
          case rel => exact ⟨k + 1, _, _, _, by omega, by go_num, rfl, rfl, rfl, bits_lo_u8 _ _ _, by have := bits_hi_u8 .xor (2 * p % 256) 27; omega, by omega, by omega, bits_lo_u8 _ _ _, by have := bits_hi_u8 .xor r p; omega, Lib.hid (by rw [← HT3.out]; rfl)⟩
          case measure => simp [intOf]; omega
        · rw [if_neg hp] at HT2
          have HT3 := Lib.hid HT2
          clear HT2 HT
          go_wp2_with fail
          go_round
          case rel => exact ⟨k + 1, _, _, _, by omega, by go_num, rfl, rfl, rfl, by omega, by omega, by omega, by omega, bits_lo_u8 _ _ _, by have := bits_hi_u8 .xor r p; omega, Lib.hid (by rw [← HT3.out]; rfl)⟩
          case measure => simp [intOf]; omega
      · rw [if_neg hq] at HT2
        have hq2 : q % 2 = 0 := by omega
        clear hq
        by_cases hp : 128 ≤ p
        · rw [if_pos hp] at HT2
          have HT3 := Lib.hid HT2
          clear HT2 HT
          go_wp2_with fail
          go_round
          case rel => exact ⟨k + 1, _, _, _, by omega, by go_num, rfl, rfl, rfl, bits_lo_u8 _ _ _, by have := bits_hi_u8 .xor (2 * p % 256) 27; omega, by omega, by omega, hr0, hr1, Lib.hid (by rw [← HT3.out]; rfl)⟩
          case measure => simp [intOf]; omega
        · rw [if_neg hp] at HT2
          have HT3 := Lib.hid HT2
          clear HT2 HT
          go_wp2_with fail
          go_round
          case rel => exact ⟨k + 1, _, _, _, by omega, by go_num, rfl, rfl, rfl, by omega, by omega, by omega, by omega, hr0, hr1, Lib.hid (by rw [← HT3.out])⟩
          case measure => simp [intOf]; omega
    · have hk8 : k = 8 := by omega
      have HF : Hid (r = times a b) := Lib.hid (by have h := HT.out; rw [hk8] at h; rw [← h]; exact (timesN_zero _ _ _).symm)
      go_wp2_with fail
      go_ret
      exact ⟨ret_int HF.out, rfl⟩
theorem rpow_zero (n x y : Int) : rpow 0 n x y = y := by unfold rpow; rfl
theorem rpow_succ (f : Nat) (n x y : Int) : rpow (f + 1) n x y = if n ≤ 0 then y else rpow f (n / 2) (times x x) (if n % 2 = 1 then times y x else y) := by rw [rpow]
theorem raff_zero (y out : Int) : raff 0 y out = out := by unfold raff; rfl
theorem raff_succ (f : Nat) (y out : Int) : raff (f + 1) y out = raff f ((2 * y) % 256 + y / 128) (xb out y) := by rw [raff]
theorem rsub_is {b : Int} (hb : B8 b) : raff 5 (rpow 8 254 b 1) 99 = sub b := by
  have h := List.all_eq_true.1 rsub_eq b (allE_mem hb)
  rw [beq_iff_eq] at h
  exact h
set_option maxRecDepth 100000 in
set_option maxHeartbeats 2000000 in
theorem rsub_any (b : Int) (w : World) (hb : B8 b) : Calls Try.prog 56 #[.int .u8 b] w fun e w' => e = .returned (.int .u8 (sub b)) ∧ w = w' := by
  have HB := Lib.hid (rsub_is hb)
  have hb0 := hb.1
  have hb1 := hb.2
  go_enter Try.func56, Try.ntmps56
  go_wp2_with fail
  go_loop [3, 4, 5] (fun y x n => ∃ (f : Nat) (m p q : Int), f ≤ 8 ∧ n = .int .i64 m ∧ x = .int .u8 p ∧ y = .int .u8 q ∧ 0 ≤ m ∧ m < 2 ^ f ∧ B8 p ∧ B8 q ∧ Hid (rpow f m p q = rpow 8 254 b 1)) (fun _ _ n => (intOf n).toNat)
  case atStart => exact ⟨8, 254, b, 1, by omega, rfl, rfl, rfl, by decide, by decide, hb, ⟨by decide, by decide⟩, Lib.hid rfl⟩
  case round =>
    obtain ⟨f, m, p, q, hf, rfl, rfl, rfl, hm0, hm1, hp, hq, HR⟩ := hrel
    by_cases hm : 0 < m
    · obtain ⟨f, rfl⟩ : ∃ f', f = f' + 1 := by
        rcases Nat.eq_zero_or_pos f with h | h
        · subst h; simp at hm1; omega
        · exact ⟨f - 1, by omega⟩
      have HR2 := HR.out
      rw [rpow_succ, if_neg (by omega)] at HR2
      have hm2 : m / 2 < 2 ^ f := by rw [Int.pow_succ] at hm1; omega
      have hm254 : m < 256 := Int.lt_of_lt_of_le hm1 (by
        have : (2 : Nat) ^ (f + 1) ≤ 2 ^ 8 := Nat.pow_le_pow_right (by decide) hf
        exact_mod_cast this)
      have HM2 := Lib.hid hm2
      have HP := Lib.hid hp
      have HQ := Lib.hid hq
      obtain ⟨hp0, hp1⟩ := hp
      obtain ⟨hq0, hq1⟩ := hq
      clear hm1 hm2 HR
      by_cases h1 : m % 2 = 1
      · rw [if_pos h1] at HR2
        have HR3 := Lib.hid HR2
        clear HR2
        go_wp2_with fail
        refine Calls.mono (rtimes_any q p _ HQ.out HP.out) ?_
        rintro e w' ⟨rfl, rfl⟩
        go_wp2_with fail
        refine Calls.mono (rtimes_any p p _ HP.out HP.out) ?_
        rintro e w' ⟨rfl, rfl⟩
        go_wp2_with fail
        go_round
        case rel => exact ⟨f, _, _, _, by omega, rfl, rfl, rfl, by omega, HM2.out, times_u _ _, times_u _ _, HR3⟩
        case measure => simp [intOf]; omega
      · rw [if_neg h1] at HR2
        have HR3 := Lib.hid HR2
        have h2 : (m % 2 == 1) = false := by simpa using h1
        clear HR2 h1
        go_wp2_with fail
        refine Calls.mono (rtimes_any p p _ HP.out HP.out) ?_
        rintro e w' ⟨rfl, rfl⟩
        go_wp2_with fail
        go_round
        case rel => exact ⟨f, _, _, _, by omega, rfl, rfl, rfl, by omega, HM2.out, times_u _ _, HQ.out, HR3⟩
        case measure => simp [intOf]; omega
    · have hm00 : m = 0 := by omega
      have HQR : Hid (raff 5 q 99 = sub b) := Lib.hid (by
        rw [← HB.out, ← HR.out, hm00]
        rcases f with _ | f
        · rw [rpow_zero]
        · rw [rpow_succ, if_pos (by decide)])
      subst hm00
      have HQ := Lib.hid hq
      clear hm hm1 hm0 HR HB hp hq
      go_wp2_with fail
      go_loop [3, 6, 7] (fun y o i => ∃ (k : Nat) (s r : Int), k ≤ 5 ∧ i = .int .i64 k ∧ y = .int .u8 s ∧ o = .int .u8 r ∧ B8 s ∧ B8 r ∧ Hid (raff (5 - k) s r = sub b)) (fun _ _ i => 5 - (intOf i).toNat)
      case atStart => exact ⟨0, q, 99, by omega, rfl, rfl, rfl, HQ.out, ⟨by decide, by decide⟩, HQR⟩
      case round =>
        obtain ⟨k, s, r, hk, rfl, rfl, rfl, hs, hr, HR⟩ := hrel
        by_cases hlt : k < 5
        · have HR2 := HR.out
          rw [show 5 - k = (5 - (k + 1)) + 1 by omega, raff_succ] at HR2
          have HR3 := Lib.hid HR2
          obtain ⟨hs0, hs1⟩ := hs
          obtain ⟨hr0, hr1⟩ := hr
          clear HR HR2
          go_wp2_with fail
          go_round
          case rel => exact ⟨k + 1, _, _, by omega, by go_num, rfl, rfl, ⟨by omega, by omega⟩, xb_u _ _, HR3⟩
          case measure => simp [intOf]; omega
        · have hk5 : k = 5 := by omega
          have HF : Hid (r = sub b) := Lib.hid (by have h := HR.out; rw [hk5] at h; rw [← h]; exact (raff_zero _ _).symm)
          go_wp2_with fail
          go_ret
          exact ⟨ret_int HF.out, rfl⟩
theorem len_snoc' {B : Nat} {e : TypeId} {k : IntKind} {w : World} {A : Option Addr} {n c m : Nat} {Q : List Int} {z : Int} (h : Own B e k w A n c (Q ++ [z])) (hp : Q.length = m) : n = m + 1 := by have := h.len; rw [List.length_append, hp] at this; exact this
theorem sub_at (k : Nat) : sub (k : Int) = boxL.getD k 0 := by unfold sub; rw [Int.toNat_natCast]
set_option maxRecDepth 100000 in
set_option maxHeartbeats 2000000 in
theorem rbox_any (w : World) : Calls Try.prog 22 #[] w (RetOwn 5 .u8 boxL w) := by
  have HBL := Lib.hid boxL_len
  go_enter Try.func22, Try.ntmps22
  go_wp2_with fail
  go_loopw [1, 2] (fun v i wr => ∃ (k : Nat) (A : Option Addr) (c : Nat), k ≤ 256 ∧ i = .int .i64 k ∧ v = .slice A k c ∧ Hid (Own w.heap.size 5 .u8 wr A k c (boxL.take k)) ∧ Hid (Below w.heap.size w wr)) (fun _ i _ => 256 - (intOf i).toNat)
  case atStart => exact ⟨0, none, 0, by omega, rfl, rfl, Lib.hid (by rw [List.take_zero]; exact Own.nil _ _ _ _), Lib.hid (Below.refl _ _)⟩
  case round =>
    obtain ⟨k, A, c, hk, rfl, rfl, HO, HB⟩ := hrel
    by_cases hlt : k < 256
    · have HTK := Lib.hid (take_snoc_getD (xs := boxL) (t := k) (by rw [HBL.out]; omega))
      have HTL : Hid ((boxL.take k).length = k) := Lib.hid (by rw [List.length_take, HBL.out]; omega)
      have HS := Lib.hid (sub_at k)
      go_wp2_with fail
      refine Calls.mono (rsub_any k _ ⟨by omega, by omega⟩) ?_
      rintro e w' ⟨rfl, rfl⟩
      rw [HS.out]
      generalize boxL.getD k 0 = z at *
      go_wp2_with (at_builtin; refine wpList_app (o := ⟨some 12, _, _, _, _, _⟩) elB8 rfl _ _ rfl rfl rfl (HO.out.alloc _) (Rd.newAt (xs := [_]) rfl rfl) rfl ?_ ?_ ?_; (simp only [List.length_take, List.length_cons, List.length_nil]; omega); (have := HB.out.size; simp <;> omega); intro A9 n9 c9 w9 q9; have H9 := Lib.hid q9.1; have B9 := Lib.hid ((HB.out.alloc HB.out.size _).trans q9.2.2.1); have hn9 := len_snoc' q9.1 HTL.out; subst hn9; clear q9)
      go_roundw
      case rel => exact ⟨k + 1, A9, c9, by omega, by go_num, rfl, Lib.hid (by rw [HTK.out]; exact H9.out), B9⟩
      case measure => simp [intOf]; omega
    · have HF : Hid (Own w.heap.size 5 .u8 wr A k c boxL) := Lib.hid (by have h := HO.out; rw [List.take_of_length_le (by rw [HBL.out]; omega)] at h; exact h)
      go_wp2_with fail
      go_ret
      exact ⟨A, k, c, rfl, HF.out, HB.out⟩
end Go.Proofs.Ytepkbllcaeceeaa
