/- Contract (layer 1): varint.Append of one number. Conditions: as each theorem states them. -/
import Derived.Test.YtlefnddhmpgijaaH3
namespace Go.Proofs.Ytlefnddhmpgijaa
open Go.RowKit
theorem add_zero_addr2 (g i : Nat) : (⟨g, 0, none⟩ : Addr).add i = ⟨g, i, none⟩ := by unfold Addr.add; split <;> simp_all
theorem set_mid (xs l : List Int) (t v : Int) : (xs ++ t :: l).set xs.length v = xs ++ v :: l := by
  rw [List.set_append_right _ _ (Nat.le_refl _), Nat.sub_self, List.set_cons_zero]
theorem getD_mid (xs l : List Int) (t : Int) : (xs ++ t :: l).getD xs.length 0 = t := by
  rw [List.getD_eq_getElem?_getD, List.getElem?_append_right (Nat.le_refl _)]; simp
set_option maxRecDepth 100000 in
set_option maxHeartbeats 4000000 in
theorem vappend_any (A : Option Addr) (cap : Nat) (xs : List Int) (A2 : Option Addr) (c2 : Nat) (n : Int) (w : World) (hr : Rd w.heap.size .u8 w A xs) (hr2 : Rd w.heap.size .u64 w A2 [n]) (h0 : 0 ≤ n) (h1 : n < 18446744073709551616) (hc : vcls n < 4) (hl : xs.length ≤ 1000000000000) :
    Calls Try.prog 39 #[.slice A xs.length cap, .slice A2 1 c2] w (RetOwn2 5 .u8 (xs ++ vput n) (.int .i64 0) w) := by
  have ht := vtop h0 hc
  have hV : vput n = vputC n (vcls n) := rfl
  have hq4 : (2 : Nat) ^ vcls n = 1 ∨ (2 : Nat) ^ vcls n = 2 ∨ (2 : Nat) ^ vcls n = 4 ∨ (2 : Nat) ^ vcls n = 8 := by
    rcases (show vcls n = 0 ∨ vcls n = 1 ∨ vcls n = 2 ∨ vcls n = 3 by omega) with h | h | h | h <;> rw [h] <;> simp
  have hcc := Lib.hid (class_any n)
  have HW := Lib.hid (fun w => width_any (vcls n) (by omega) w)
  have hbe : beL n (2 ^ vcls n) = (n / 256 ^ (2 ^ vcls n - 1) % 256) :: beL n (2 ^ vcls n - 1) := by
    have e : 2 ^ vcls n = (2 ^ vcls n - 1) + 1 := by omega
    rw [e]; rfl
  have hV2 : vput n = (n / 256 ^ (2 ^ vcls n - 1) % 256 + 64 * (vcls n : Int)) :: beL n (2 ^ vcls n - 1) := rfl
  have hor := or8hi (t := n / 256 ^ (2 ^ vcls n - 1) % 256) (c := vcls n) (by omega) (by have := Int.ediv_nonneg h0 (Int.le_of_lt (pow_pos256 (2 ^ vcls n - 1))); omega) (by omega)
  have ht0 : 0 ≤ n / 256 ^ (2 ^ vcls n - 1) % 256 ∧ n / 256 ^ (2 ^ vcls n - 1) % 256 < 256 := by omega
  generalize hvn : vput n = V at *
  generalize n / 256 ^ (2 ^ vcls n - 1) % 256 = t at *
  generalize (2 : Nat) ^ vcls n = q at *
  generalize vcls n = c at *
  have HV2 := Lib.hid hV2
  have HBE := Lib.hid hbe
  have HOR := Lib.hid hor
  have hq8 : 1 ≤ q ∧ q ≤ 8 := by omega
  obtain ⟨hq1, hq8⟩ := hq8
  obtain ⟨ht0, ht1⟩ := ht0
  clear hV2 hbe hV hvn ht hor hq4
  have HR := Lib.hid hr
  have HR2 := Lib.hid hr2
  clear hr hr2
  go_enter Try.func39, Try.ntmps39
  go_wp2_with (at_builtin; refine wpList_app (o := ⟨some 13, _, _, _, _, _⟩) elU8 rfl _ _ rfl rfl rfl (Own.nil w.heap.size _ _ _) HR.out rfl ?_ ?_ ?_; (simp <;> omega); exact Nat.le_refl _; intro A1 n1 c1 w1 h1; have H1 := Lib.hid (Own.cast h1.1 (List.nil_append xs)); have B1 := Lib.hid h1.2.2.1; clear h1)
  go_loopw [6, 16] (fun b i wr => ∃ (k : Nat) (A : Option Addr) (m c' : Nat), k ≤ 1 ∧ i = .int .i64 k ∧ b = .slice A m c' ∧ Hid (Own w.heap.size 5 .u8 wr A m c' (if k = 0 then xs else xs ++ V)) ∧ Hid (Below w.heap.size w wr)) (fun _ i _ => 1 - (intOf i).toNat)
  case atStart => exact ⟨0, A1, n1, c1, by omega, rfl, rfl, H1, B1⟩
  case round =>
    obtain ⟨k, A3, m, c', hk, rfl, rfl, HO, HB⟩ := hrel
    rcases (show k = 0 ∨ k = 1 by omega) with rfl | rfl
    · have HO' : Hid (Own w.heap.size 5 .u8 wr A3 m c' xs) := HO
      have hm := HO'.out.len
      subst hm
      have HR2r := HR2.out.below HB.out (Nat.le_refl _)
      obtain ⟨ad2, hA2, _⟩ := HR2r.isSome (by simp)
      subst hA2
      have e0 := HR2r.at0 (by simp)
      rw [List.getD_cons_zero] at e0
      have hc4 : (c : Int) ≤ 3 := by omega
      clear HO HR2r
      go_wp2_with fail
      refine (hcc.out _).mono ?_
      rintro e w' ⟨rfl, rfl⟩
      go_wp2_with fail
      refine (HW.out _).mono ?_
      rintro e w' ⟨rfl, rfl⟩
      go_wp2_with fail
      go_loopw [6, 11] (fun b i wr => ∃ (r : Nat) (A : Option Addr) (m c' : Nat) (acc : List Int), r ≤ q ∧ i = .int .i64 ((r : Int) - 1) ∧ b = .slice A m c' ∧ acc.length ≤ 8 ∧ Hid (Own w.heap.size 5 .u8 wr A m c' (xs ++ acc)) ∧ Hid (acc.length + r = q) ∧ Hid (acc ++ beL n r = beL n q) ∧ Hid (Below w.heap.size w wr)) (fun _ i _ => (intOf i + 1).toNat)
      case atStart => exact ⟨q, A3, xs.length, c', [], by omega, rfl, rfl, by simp, Lib.hid (Own.cast HO'.out (List.append_nil xs).symm), Lib.hid (by simp), Lib.hid rfl, HB⟩
      case round =>
        obtain ⟨r, A, m, c3, acc, hr, rfl, rfl, hacc, HO, HL, HE, HB⟩ := hrel
        cases r with
        | zero =>
          have hE := HE.out
          simp only [beL, List.append_nil] at hE
          rw [hE, HBE.out] at HO
          have hmm := HO.out.len
          obtain ⟨g, hA, hg1, hg2⟩ := HO.out.addr (by rw [hmm]; simp only [List.length_append, List.length_cons]; omega)
          subst hA
          have hml : xs.length < m := by rw [hmm]; simp only [List.length_append, List.length_cons]; omega
          have d0 := HO.out.cell0 (i := xs.length) (by simp)
          have f0 := HO.out.frozen xs.length
          rw [getD_mid] at d0
          have d1 := d0
          have f1 := f0
          rw [← add_zero_addr2] at d1 f1
          have hor := HOR.out
          clear hE hmm
          go_wp2_with fail
          go_roundw
          case rel => exact ⟨1, some ⟨g, 0, none⟩, m, c3, by omega, rfl, rfl, Lib.hid (Own.cast (HO.out.set_ xs.length _) (by rw [set_mid, HV2.out]; rfl)), Lib.hid (HB.out.setCell (by simp; omega) _)⟩
          case measure => simp [intOf]
        | succ r =>
          obtain ⟨x, hx⟩ : ∃ x, x = n / 256 ^ r % 256 := ⟨_, rfl⟩
          have HX := Lib.hid hx
          have HE2 : Hid ((acc ++ [x]) ++ beL n r = beL n q) := Lib.hid (by rw [hx, ← HE.out]; simp [beL])
          have HL2 : Hid ((acc ++ [x]).length + r = q) := Lib.hid (by have := HL.out; simp; omega)
          have hl2 : Hid (acc.length + 1 ≤ 8) := Lib.hid (by have := HL.out; omega)
          have hxb : 0 ≤ x ∧ x < 256 := by omega
          obtain ⟨hx0, hx1⟩ := hxb
          clear hx
          have hsz := HB.out.size
          rcases (show r = 0 ∨ r = 1 ∨ r = 2 ∨ r = 3 ∨ r = 4 ∨ r = 5 ∨ r = 6 ∨ r = 7 by omega) with rfl | rfl | rfl | rfl | rfl | rfl | rfl | rfl
          · have hxx : n % 256 = x := by have := HX.out; omega
            go_wp2_with (at_builtin; refine wpList_app (o := ⟨some 40, _, _, _, _, _⟩) elU8 rfl _ _ rfl rfl rfl (HO.out.alloc _) (Rd.newAt (xs := [x]) rfl rfl) rfl ?_ ?_ ?_; (have := hl2.out; simp; omega); (simp <;> omega); intro A5 n5 c5 w5 h5; have H5 := Lib.hid h5.1; have B5 := Lib.hid ((HB.out.alloc HB.out.size _).trans h5.2.2.1); clear h5)
            go_roundw
            case rel => exact ⟨_, A5, n5, c5, acc ++ [x], by omega, by go_num, rfl, by have := hl2.out; simp; omega, Lib.hid (Own.cast H5.out (List.append_assoc _ _ _)), HL2, HE2, B5⟩
            case measure => simp [intOf]
          · have hxx : n / 256 % 256 = x := by have := HX.out; omega
            go_wp2_with (at_builtin; refine wpList_app (o := ⟨some 40, _, _, _, _, _⟩) elU8 rfl _ _ rfl rfl rfl (HO.out.alloc _) (Rd.newAt (xs := [x]) rfl rfl) rfl ?_ ?_ ?_; (have := hl2.out; simp; omega); (simp <;> omega); intro A5 n5 c5 w5 h5; have H5 := Lib.hid h5.1; have B5 := Lib.hid ((HB.out.alloc HB.out.size _).trans h5.2.2.1); clear h5)
            go_roundw
            case rel => exact ⟨_, A5, n5, c5, acc ++ [x], by omega, by go_num, rfl, by have := hl2.out; simp; omega, Lib.hid (Own.cast H5.out (List.append_assoc _ _ _)), HL2, HE2, B5⟩
            case measure => simp [intOf]
          · have hxx : n / 65536 % 256 = x := by have := HX.out; omega
            go_wp2_with (at_builtin; refine wpList_app (o := ⟨some 40, _, _, _, _, _⟩) elU8 rfl _ _ rfl rfl rfl (HO.out.alloc _) (Rd.newAt (xs := [x]) rfl rfl) rfl ?_ ?_ ?_; (have := hl2.out; simp; omega); (simp <;> omega); intro A5 n5 c5 w5 h5; have H5 := Lib.hid h5.1; have B5 := Lib.hid ((HB.out.alloc HB.out.size _).trans h5.2.2.1); clear h5)
            go_roundw
            case rel => exact ⟨_, A5, n5, c5, acc ++ [x], by omega, by go_num, rfl, by have := hl2.out; simp; omega, Lib.hid (Own.cast H5.out (List.append_assoc _ _ _)), HL2, HE2, B5⟩
            case measure => simp [intOf]
          · have hxx : n / 16777216 % 256 = x := by have := HX.out; omega
            go_wp2_with (at_builtin; refine wpList_app (o := ⟨some 40, _, _, _, _, _⟩) elU8 rfl _ _ rfl rfl rfl (HO.out.alloc _) (Rd.newAt (xs := [x]) rfl rfl) rfl ?_ ?_ ?_; (have := hl2.out; simp; omega); (simp <;> omega); intro A5 n5 c5 w5 h5; have H5 := Lib.hid h5.1; have B5 := Lib.hid ((HB.out.alloc HB.out.size _).trans h5.2.2.1); clear h5)
            go_roundw
            case rel => exact ⟨_, A5, n5, c5, acc ++ [x], by omega, by go_num, rfl, by have := hl2.out; simp; omega, Lib.hid (Own.cast H5.out (List.append_assoc _ _ _)), HL2, HE2, B5⟩
            case measure => simp [intOf]
          · have hxx : n / 4294967296 % 256 = x := by have := HX.out; omega
            go_wp2_with (at_builtin; refine wpList_app (o := ⟨some 40, _, _, _, _, _⟩) elU8 rfl _ _ rfl rfl rfl (HO.out.alloc _) (Rd.newAt (xs := [x]) rfl rfl) rfl ?_ ?_ ?_; (have := hl2.out; simp; omega); (simp <;> omega); intro A5 n5 c5 w5 h5; have H5 := Lib.hid h5.1; have B5 := Lib.hid ((HB.out.alloc HB.out.size _).trans h5.2.2.1); clear h5)
            go_roundw
            case rel => exact ⟨_, A5, n5, c5, acc ++ [x], by omega, by go_num, rfl, by have := hl2.out; simp; omega, Lib.hid (Own.cast H5.out (List.append_assoc _ _ _)), HL2, HE2, B5⟩
            case measure => simp [intOf]
          · have hxx : n / 1099511627776 % 256 = x := by have := HX.out; omega
            go_wp2_with (at_builtin; refine wpList_app (o := ⟨some 40, _, _, _, _, _⟩) elU8 rfl _ _ rfl rfl rfl (HO.out.alloc _) (Rd.newAt (xs := [x]) rfl rfl) rfl ?_ ?_ ?_; (have := hl2.out; simp; omega); (simp <;> omega); intro A5 n5 c5 w5 h5; have H5 := Lib.hid h5.1; have B5 := Lib.hid ((HB.out.alloc HB.out.size _).trans h5.2.2.1); clear h5)
            go_roundw
            case rel => exact ⟨_, A5, n5, c5, acc ++ [x], by omega, by go_num, rfl, by have := hl2.out; simp; omega, Lib.hid (Own.cast H5.out (List.append_assoc _ _ _)), HL2, HE2, B5⟩
            case measure => simp [intOf]
          · have hxx : n / 281474976710656 % 256 = x := by have := HX.out; omega
            go_wp2_with (at_builtin; refine wpList_app (o := ⟨some 40, _, _, _, _, _⟩) elU8 rfl _ _ rfl rfl rfl (HO.out.alloc _) (Rd.newAt (xs := [x]) rfl rfl) rfl ?_ ?_ ?_; (have := hl2.out; simp; omega); (simp <;> omega); intro A5 n5 c5 w5 h5; have H5 := Lib.hid h5.1; have B5 := Lib.hid ((HB.out.alloc HB.out.size _).trans h5.2.2.1); clear h5)
            go_roundw
            case rel => exact ⟨_, A5, n5, c5, acc ++ [x], by omega, by go_num, rfl, by have := hl2.out; simp; omega, Lib.hid (Own.cast H5.out (List.append_assoc _ _ _)), HL2, HE2, B5⟩
            case measure => simp [intOf]
          · have hxx : n / 72057594037927936 = x := by have := HX.out; omega
            go_wp2_with (at_builtin; refine wpList_app (o := ⟨some 40, _, _, _, _, _⟩) elU8 rfl _ _ rfl rfl rfl (HO.out.alloc _) (Rd.newAt (xs := [x]) rfl rfl) rfl ?_ ?_ ?_; (have := hl2.out; simp; omega); (simp <;> omega); intro A5 n5 c5 w5 h5; have H5 := Lib.hid h5.1; have B5 := Lib.hid ((HB.out.alloc HB.out.size _).trans h5.2.2.1); clear h5)
            go_roundw
            case rel => exact ⟨_, A5, n5, c5, acc ++ [x], by omega, by go_num, rfl, by have := hl2.out; simp; omega, Lib.hid (Own.cast H5.out (List.append_assoc _ _ _)), HL2, HE2, B5⟩
            case measure => simp [intOf]
    · go_wp2_with fail
      go_ret2
      exact ⟨A3, m, c', rfl, HO.out, HB.out⟩
end Go.Proofs.Ytlefnddhmpgijaa
