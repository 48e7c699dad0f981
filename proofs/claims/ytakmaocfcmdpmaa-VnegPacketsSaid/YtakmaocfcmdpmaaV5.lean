/- Contracts: the reference's Bytes, the law's own works; the walk of VnegChooses. Conditions: as each theorem states them. -/
import Derived.Test.YtakmaocfcmdpmaaV4
namespace Go.Proofs.Ytakmaocfcmdpmaa
open Go.RowKit

theorem putL_eq (first : Int) (ds ss vs : List Int) : [first, 0, 0, 0, 0, (ds.length : Int) % 256] ++ ds ++ [(ss.length : Int) % 256] ++ ss ++ vs.flatMap w4 = putL first ds ss vs := by simp [putL, bgn]

set_option maxHeartbeats 1000000 in
theorem bytes_any (first : Int) (A A2 A3 : Option Addr) (c c2 c3 : Nat) (ds ss vs : List Int) (w : World) (hr : Rd w.heap.size .u8 w A ds) (hr2 : Rd w.heap.size .u8 w A2 ss) (hr3 : Rd w.heap.size .u32 w A3 vs) (hw : Wrd vs) (hl : ds.length ≤ 1099511627776) (hl2 : ss.length ≤ 1099511627776) (hl3 : vs.length ≤ 1099511627776) :
    Calls Try.prog 16 #[.int .u8 first, .slice A ds.length c, .slice A2 ss.length c2, .slice A3 vs.length c3] w (RetOwn 5 .u8 (putL first ds ss vs) w) := by
  have e4 : IntKind.u8.wrap (ds.length : Int) = ds.length % 256 := wrapu8 _
  have e5 : IntKind.u8.wrap (ss.length : Int) = ss.length % 256 := wrapu8 _
  have HR := Lib.hid hr
  have HR2 := Lib.hid hr2
  have HR3 := Lib.hid hr3
  have HW := Lib.hid hw
  have HE := Lib.hid (putL_eq first ds ss vs)
  clear hr hr2 hr3 hw
  go_enter Try.func16, Try.ntmps16
  go_wp2_with (first
    | (at_builtin; refine wpList_app (o := ⟨some 18, _, _, _, _, _⟩) elU8 rfl _ _ rfl rfl rfl (Own.litAt (xs := [first, 0, 0, 0, 0, (ds.length : Int) % 256]) rfl rfl rfl (Nat.le_refl _) (by simp [maxLen])) (HR.out.alloc (Nat.le_refl _) _) (by first | rfl | simp) ?_ ?_ ?_; (simp <;> omega); exact Below.size ((Below.refl w.heap.size w).alloc (Nat.le_refl _) _); intro A1 n1 c1 w1 h1; have H1 := Lib.hid h1; have B1 := Lib.hid (Below.trans ((Below.refl w.heap.size w).alloc (Nat.le_refl _) _) h1.2.2.1); clear h1)
    | (at_builtin; refine wpList_app (o := ⟨some 24, _, _, _, _, _⟩) elU8 rfl _ _ rfl rfl rfl (H1.out.1.alloc _) (Rd.newAt (xs := [(ss.length : Int) % 256]) rfl rfl) (by first | rfl | simp) ?_ ?_ ?_; (simp <;> omega); exact Below.size (B1.out.alloc B1.out.size _); intro A2 n2 c2 w2 h2; have H2 := Lib.hid h2; have B2 := Lib.hid (Below.trans (B1.out.alloc B1.out.size _) h2.2.2.1); clear h2)
    | (at_builtin; refine wpList_app (o := ⟨some 26, _, _, _, _, _⟩) elU8 rfl _ _ rfl rfl rfl (H2.out.1) (HR2.out.below B2.out (Nat.le_refl _)) (by first | rfl | simp) ?_ ?_ ?_; (simp <;> omega); exact Below.size (B2.out); intro A3 n3 c3 w3 h3; have H3 := Lib.hid h3; have B3 := Lib.hid (Below.trans (B2.out) h3.2.2.1); clear h3))
  go_loopw [9, 10] (fun b i wr => ∃ (k : Nat) (A5 : Option Addr) (n5 c5 : Nat), k ≤ vs.length ∧ i = .int .i64 k ∧ b = .slice A5 n5 c5 ∧ Hid (Own w.heap.size 5 .u8 wr A5 n5 c5 ([first, 0, 0, 0, 0, (ds.length : Int) % 256] ++ ds ++ [(ss.length : Int) % 256] ++ ss ++ (vs.take k).flatMap w4)) ∧ Hid (Below w.heap.size w wr)) (fun _ i _ => vs.length - (intOf i).toNat)
  case atStart => exact ⟨0, A3, n3, c3, by omega, rfl, rfl, Lib.hid (by simpa using H3.out.1), B3⟩
  case round =>
    obtain ⟨k, A5, n5, c5, hk, rfl, rfl, HO5, HB5⟩ := hrel
    by_cases hlt : k < vs.length
    · have hxb := HW.out.getD k
      have HS := Lib.hid (w4_snoc hlt)
      have HL := Lib.hid (w4_len (vs.take k))
      obtain ⟨ad, x, hA, hb, hc, HX⟩ := (HR3.out.below HB5.out (Nat.le_refl _)).hx hlt
      subst hA
      rw [HX.out] at hxb HS
      obtain ⟨hx0, hx1⟩ := hxb
      have e1 : IntKind.u8.wrap (x / 65536) = x / 65536 % 256 := wrapu8 _
      have e2 : IntKind.u8.wrap (x / 256) = x / 256 % 256 := wrapu8 _
      have e3 : IntKind.u8.wrap x = x % 256 := wrapu8 _
      go_wp2_with (first | (at_builtin; refine wpList_app (o := ⟨some 50, _, _, _, _, _⟩) elU8 rfl _ _ rfl rfl rfl (HO5.out.alloc _) (Rd.newAt (xs := w4 x) rfl rfl) rfl ?_ ?_ ?_; (have h2 := HL.out; simp only [List.length_append, h2, List.length_take]; simp [w4]; omega); exact (HB5.out.alloc HB5.out.size _).size; intro A6 n6 c6 w6 h6; have H6 := Lib.hid h6; have B6 := Lib.hid ((HB5.out.alloc HB5.out.size _).trans h6.2.2.1); clear h6))
      go_roundw
      case rel => exact ⟨k + 1, A6, n6, c6, by omega, by go_num, rfl, Lib.hid (by rw [HS.out, ← List.append_assoc]; exact H6.out.1), B6⟩
      case measure => simp [intOf]; omega
    · have hf := HO5.out
      rw [List.take_of_length_le (by omega), HE.out] at hf
      have HF := Lib.hid hf
      clear hf
      go_wp2_with fail
      go_ret
      exact ⟨A5, n5, c5, rfl, HF.out, HB5.out⟩

theorem works_any (w : World) : Calls Try.prog 8 #[] w fun e w' => e = .returned (.bool true) ∧ Below w.heap.size w w' := by
  have r1 : Rd (w.heap.size + 2) .u32 ((w.alloc (.cells #[.int .u32 5, .int .u32 1] 23)).alloc (.cells #[.int .u32 1, .int .u32 5, .int .u32 9] 23)) (some ⟨w.heap.size, 0, none⟩) [5, 1] := ((Rd.newAt (xs := [5, 1]) rfl rfl).alloc (by simp) _).mono (by omega)
  have r2 : Rd (w.heap.size + 2) .u32 ((w.alloc (.cells #[.int .u32 5, .int .u32 1] 23)).alloc (.cells #[.int .u32 1, .int .u32 5, .int .u32 9] 23)) (some ⟨w.heap.size + 1, 0, none⟩) [1, 5, 9] := (Rd.newAt (xs := [1, 5, 9]) (by simp) rfl)
  have hC := choose_any _ _ 2 3 [5, 1] [1, 5, 9] _ (r1.mono (by simp)) (r2.mono (by simp)) (by simp) (by simp)
  rw [show chs [5, 1] [1, 5, 9] = some 5 by decide +kernel] at hC
  simp [chsV] at hC
  have HC := Lib.hid hC
  have hs : strOfNums (putL 192 [7] [] [1]) = ⟨#[192, 0, 0, 0, 0, 1, 7, 0, 0, 0, 0, 1]⟩ := by decide +kernel
  have HS := Lib.hid hs
  have q1 : rsv 438975050 = true := by decide +kernel
  have q2 : rsv 1 = false := by decide +kernel
  clear r1 r2 hC hs
  go_enter Try.func8, Try.ntmps8
  go_wp2_with fail
  refine HC.out.mono ?_
  rintro e w1 ⟨rfl, rfl⟩
  go_wp2_with fail
  refine (put_yes _ _ _ 1 0 1 [7] [] [1] _ (by exact (Rd.newAt (xs := [7]) (by simp) rfl).alloc (by simp) _ |>.mono (by simp)) Rd.nil (by exact (Rd.newAt (xs := [1]) (by simp) rfl).mono (by simp)) (by simp [Wrd]) (by simp [okPut])).mono ?_
  rintro e w2 ⟨A4, n4, c4, rfl, ho, hb⟩
  have hcv := conv_own elU8 Try.underlying9 ho
  rw [HS.out] at hcv
  have HB := Lib.hid (((((((Below.refl w.heap.size w).alloc (Nat.le_refl _) _).alloc (by simp) _).alloc (by simp; omega) _).alloc (by simp; omega) _)).trans (hb.mono (by simp; omega)))
  clear ho hb
  go_wp2_with (go_at_call 11; refine (reserved_any _ _).mono ?_; rintro e w' ⟨rfl, rfl⟩)
  go_ret
  exact ⟨rfl, HB.out⟩

set_option maxHeartbeats 1000000 in
theorem chooses_walk (A A2 : Option Addr) (c c2 : Nat) (xs ys : List Int) (v : Int) (w : World) (hr : Rd w.heap.size .u32 w A xs) (hr2 : Rd w.heap.size .u32 w A2 ys) (hw : Wrd xs) (hl : xs.length ≤ 140737488351232) (hl2 : ys.length ≤ 140737488351232) (hv0 : 0 ≤ v) (hv1 : v < 4294967296) :
    Calls Try.prog 3 #[.slice A xs.length c, .slice A2 ys.length c2, .int .u32 v] w fun e w' => e = .returned (.bool true) ∧ Below w.heap.size w w' := by
  by_cases g1 : 200 < xs.length
  · go_enter Try.func3, Try.ntmps3
    go_wp2_with (go_at_call 8; refine (works_any _).mono ?_; rintro e w1 ⟨rfl, hb1⟩)
    go_ret
    exact ⟨rfl, hb1⟩
  have g1' : decide (200 < xs.length) = false := by simp; omega
  by_cases g2 : 200 < ys.length
  · go_enter Try.func3, Try.ntmps3
    go_wp2_with (go_at_call 8; refine (works_any _).mono ?_; rintro e w1 ⟨rfl, hb1⟩)
    go_ret
    exact ⟨rfl, hb1⟩
  have HC := Lib.hid (choose_any A A2 c c2 xs ys w hr hr2 (by omega) (by omega))
  have HD := Lib.hid (rchoose_any A A2 c c2 xs ys w hr hr2 (by omega) (by omega) hw)
  generalize chs xs ys = r at *
  unfold chsV at HC HD
  have hq : rsv (bits .or .u32 (bits .and .u32 v 4042322160) 168430090) = true := by
    obtain ⟨n, rfl⟩ := Int.eq_ofNat_of_zero_le hv0
    have e1 : bits .and .u32 (n : Int) 4042322160 = ((n &&& 4042322160 : Nat) : Int) := bits_and_u32_nat n 4042322160 (by omega) (by omega)
    have l1 : n &&& 4042322160 < 4294967296 := Nat.lt_of_le_of_lt Nat.and_le_left (by omega)
    have e2 : bits .or .u32 ((n &&& 4042322160 : Nat) : Int) 168430090 = (((n &&& 4042322160) ||| 168430090 : Nat) : Int) := bits_or_u32_nat _ 168430090 l1 (by omega)
    have l2 : (n &&& 4042322160) ||| 168430090 < 2 ^ 32 := Nat.or_lt_two_pow l1 (by decide)
    have e3 : bits .and .u32 (((n &&& 4042322160) ||| 168430090 : Nat) : Int) 252645135 = ((((n &&& 4042322160) ||| 168430090) &&& 252645135 : Nat) : Int) := bits_and_u32_nat _ 252645135 l2 (by omega)
    unfold rsv
    rw [e1, e2, e3, Nat.and_or_distrib_right, Nat.and_assoc]
    simp
  clear hr hr2 hw
  go_enter Try.func3, Try.ntmps3
  go_wp2_with fail
  refine HC.out.mono ?_
  rintro e w' ⟨rfl, rfl⟩
  go_wp2_with fail
  refine HD.out.mono ?_
  rintro e w' ⟨rfl, rfl⟩
  go_wp2_with (first | (go_at_call 8; refine (works_any _).mono ?_; rintro e w1 ⟨rfl, hb1⟩) | (go_at_call 11; refine (reserved_any _ _).mono ?_; rintro e w' ⟨rfl, rfl⟩) | (go_at_call 12; refine (rrsv_any _ _ hv0 hv1).mono ?_; rintro e w' ⟨rfl, rfl⟩))
  go_ret
  exact ⟨rfl, hb1⟩
end Go.Proofs.Ytakmaocfcmdpmaa
