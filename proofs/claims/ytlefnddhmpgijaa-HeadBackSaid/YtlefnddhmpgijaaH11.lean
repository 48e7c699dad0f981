/- Contract (layer 3): Put. Conditions: as each theorem states them. -/
import Derived.Test.YtlefnddhmpgijaaH10
namespace Go.Proofs.Ytlefnddhmpgijaa
open Go.RowKit
theorem orK (k : Nat) (h1 : 1 ≤ k) (h4 : k ≤ 4) : bits .or .u8 ((k : Int) - 1) 4 = k + 3 ∧ bits .or .u8 ((k : Int) + 3) 64 = k + 67 ∧ bits .or .u8 ((k : Int) - 1) 64 = k + 63 ∧ bits .or .u8 ((k : Int) - 1) 128 = k + 127 ∧ bits .or .u8 ((k : Int) + 127) 64 = k + 191 ∧ bits .or .u8 ((k : Int) + 191) 0 = k + 191 ∧ bits .or .u8 ((k : Int) + 191) 32 = k + 223 := by
  rcases (show k = 1 ∨ k = 2 ∨ k = 3 ∨ k = 4 by omega) with rfl | rfl | rfl | rfl <;> decide
theorem vlen8 (n : Int) (h : vcls n < 4) : 2 ^ vcls n ≤ 8 := by
  rcases (show vcls n = 0 ∨ vcls n = 1 ∨ vcls n = 2 ∨ vcls n = 3 by omega) with h | h | h | h <;> rw [h] <;> decide
theorem hv_facts {w : World} {g : Nat} {t : TypeId} {c0 c1 c2 c3 c4 c5 c6 : Value} (h : Blk w g t #[c0, c1, c2, c3, c4, c5, c6]) : w.cell? ⟨g, 0, none⟩ = some c0 ∧ w.cell? ⟨g, 1, none⟩ = some c1 ∧ w.cell? ⟨g, 2, none⟩ = some c2 ∧ w.cell? ⟨g, 3, none⟩ = some c3 ∧ w.cell? ⟨g, 4, none⟩ = some c4 ∧ w.cell? ⟨g, 5, none⟩ = some c5 ∧ w.cell? ⟨g, 6, none⟩ = some c6 :=
  ⟨Blk.cell h 0, Blk.cell h 1, Blk.cell h 2, Blk.cell h 3, Blk.cell h 4, Blk.cell h 5, Blk.cell h 6⟩
/-- the head's block reads as it did -/
def HvS (bx : Nat) (cs : Array Value) (w' : World) : Prop := Blk w' bx 59 cs

theorem put_no (h : HD) (A1 : Option Addr) (c1 : Nat) (A2 : Option Addr) (c2 : Nat) (A3 : Option Addr) (c3 : Nat) (n : Int) (w : World) (hf : h.Fit) (hno : ¬ (h.May ∧ 0 ≤ n ∧ n ≤ 65536)) :
    Calls Try.prog 23 #[.agg (HV h A1 c1 A2 c2 A3 c3), .int .i64 n] w fun e w' => e = .returned (.tuple #[.slice none 0 0, .int .i64 2]) ∧ Below w.heap.size w w' := by
  have hm := Lib.hid (fun w => may_any h A1 c1 A2 c2 A3 c3 w hf)
  generalize hd : decide h.May = b at hm
  have hb : b = false ∨ n < 0 ∨ 65536 < n := by
    cases b with
    | false => exact .inl rfl
    | true =>
      have hmm := of_decide_eq_true hd
      have hn2 : ¬ (0 ≤ n ∧ n ≤ 65536) := fun hx => hno ⟨hmm, hx⟩
      right; omega
  unfold HV at *
  clear hd hno hf
  go_enter Try.func23, Try.ntmps23
  go_wp2_with fail
  refine (hm.out _).mono ?_
  rintro e w2 ⟨rfl, hb2⟩
  have HB2 : Hid (Below w.heap.size w w2) := Lib.hid (((Below.refl w.heap.size w).alloc (Nat.le_refl _) _).trans (hb2.mono (by simp)))
  clear hb2
  rcases hb with rfl | hb | hb
  · go_wp2_with fail
    go_ret2
    exact ⟨rfl, HB2.out⟩
  · cases b
    all_goals
      go_wp2_with fail
      go_ret2
      exact ⟨rfl, HB2.out⟩
  · have hb0 : decide (n < 0) = false := by simp; omega
    cases b
    all_goals
      go_wp2_with fail
      go_ret2
      exact ⟨rfl, HB2.out⟩

set_option maxRecDepth 100000 in
set_option maxHeartbeats 6000000 in
theorem put_yes (h : HD) (A1 : Option Addr) (c1 : Nat) (A2 : Option Addr) (c2 : Nat) (A3 : Option Addr) (c3 : Nat) (n : Int) (w : World) (hf : h.Fit) (hm : h.May) (hn0 : 0 ≤ n) (hn1 : n ≤ 65536)
    (r1 : Rd w.heap.size .u8 w A1 h.dst) (r2 : Rd w.heap.size .u8 w A2 h.src) (r3 : Rd w.heap.size .u8 w A3 h.tok) (htok : h.tok.length ≤ 100000000000) :
    Calls Try.prog 23 #[.agg (HV h A1 c1 A2 c2 A3 c3), .int .i64 n] w (RetOwn2 5 .u8 (h.put n) (.int .i64 0) w) := by
  have hmay := fun w => may_any h A1 c1 A2 c2 A3 c3 w hf
  rw [decide_eq_true hm] at hmay
  have HM := Lib.hid hmay
  clear hmay
  obtain ⟨L, hL⟩ : ∃ L, L = h.put n := ⟨_, rfl⟩
  rw [← hL]
  unfold HV at *
  obtain ⟨sp, d, s, t, ph, pn, pb⟩ := h
  obtain ⟨f1, f2, f3, f4, f5, f6, f7⟩ := hf
  obtain ⟨m1, m2, m3, m4, m5, m6, m7, m8, m9⟩ := hm
  simp only at *
  obtain ⟨k, rfl⟩ := Int.eq_ofNat_of_zero_le (show 0 ≤ pb by omega)
  obtain ⟨o1, o2, o3, o4, o5, o6, o7⟩ := orK k (by omega) (by omega)
  have HL := Lib.hid hL
  have R1 := Lib.hid r1
  have R2 := Lib.hid r2
  have R3 := Lib.hid r3
  have M7 := Lib.hid m7
  have M8 := Lib.hid m8
  have M9 := Lib.hid m9
  have hk1 : 1 ≤ k := by omega
  have hk4 : k ≤ 4 := by omega
  have hnn0 : decide (n < 0) = false := by simp; omega
  have hnn1 : decide (65536 < n) = false := by simp; omega
  have ht12 : t.length ≤ 100000000000 := htok
  clear hL r1 r2 r3 m7 m8 m9 f3 f4 f5
  generalize hbx : w.heap.size = bx at *
  have HBX := Lib.hid hbx
  have HK0 : Hid (Blk (w.alloc (.cells #[.int .u8 sp, .slice A1 d.length c1, .slice A2 s.length c2, .slice A3 t.length c3, .bool ph, .int .u64 pn, .int .i64 (k : Nat)] 59)) bx 59 #[.int .u8 sp, .slice A1 d.length c1, .slice A2 s.length c2, .slice A3 t.length c3, .bool ph, .int .u64 pn, .int .i64 (k : Nat)]) := Lib.hid (by rw [← hbx]; exact Blk.new _ _ _)
  have hsz0 : (w.alloc (.cells #[.int .u8 sp, .slice A1 d.length c1, .slice A2 s.length c2, .slice A3 t.length c3, .bool ph, .int .u64 pn, .int .i64 (k : Nat)] 59)).heap.size = bx + 1 := by simp [hbx]
  have HSZ0 := Lib.hid hsz0
  have HB0 : Hid (Below bx w (w.alloc (.cells #[.int .u8 sp, .slice A1 d.length c1, .slice A2 s.length c2, .slice A3 t.length c3, .bool ph, .int .u64 pn, .int .i64 (k : Nat)] 59))) := Lib.hid ((Below.refl bx w).alloc (by omega) _)
  clear hsz0 hbx
  go_enter Try.func23, Try.ntmps23
  go_wp2_with fail
  rw [HBX.out]
  refine (HM.out _).mono ?_
  rintro e w2 ⟨rfl, hb2⟩
  have HK2 := Lib.hid (Blk.below HK0.out hb2 (Blk.lt HK0.out))
  have HB2 := Lib.hid (HB0.out.trans (hb2.mono (by rw [HSZ0.out]; omega)))
  have hz2 : bx < w2.heap.size := by have := hb2.size; rw [HSZ0.out] at this; exact this
  obtain ⟨p0, p1, p2, p3, p4, p5, p6⟩ := hv_facts HK2.out
  clear hb2 HK0 HB0
  have hvb1 := vlen8 (t.length : Nat) (by unfold vcls; split <;> (try split) <;> (try split) <;> (try split) <;> omega)
  have hvb2 := vlen8 ((k : Int) + n) (by unfold vcls; split <;> (try split) <;> (try split) <;> (try split) <;> omega)
  have HV1 := Lib.hid hvb1
  have HV2 := Lib.hid hvb2
  clear hvb1 hvb2
  by_cases hs : sp = 2
  · subst hs
    cases ph
    all_goals
      go_wp2_with (at_builtin; refine wpList_app (o := ⟨some 36, _, _, _, _, _⟩) (B := bx + 1) elU8 rfl _ _ rfl rfl rfl (Own.litAt (xs := [_]) rfl rfl rfl (by omega) (by simp [maxLen])) (R1.out.below (HB2.out.alloc (by omega) _) (Nat.le_refl _)) rfl ?_ ?_ ?_; ((simp <;> omega)); ((simp <;> omega)); intro A5 n5 c5 w5 h5; have H5 := Lib.hid h5.1; have HB5 := Lib.hid ((HB2.out.alloc (by omega) _).trans (h5.2.2.1.mono (by omega))); have HK5 := Lib.hid (Blk.below (Blk.alloc HK2.out _) h5.2.2.1 (by omega)); have hz5 : bx < w5.heap.size := by { have := Blk.lt HK5.out; omega }; clear h5; obtain ⟨p0, p1, p2, p3, p4, p5, p6⟩ := hv_facts HK5.out)
      refine (number_any pn k _ (by omega) (by omega) (by omega)).mono ?_
      rintro e w6 ⟨A6, n6, c6, rfl, ho6, hb6⟩
      have H5' := Lib.hid (H5.out.below hb6)
      have HB6 := Lib.hid (HB5.out.trans (hb6.mono (by omega)))
      have HK6 := Lib.hid (Blk.below HK5.out hb6 (Blk.lt HK5.out))
      have hz6 : bx < w6.heap.size := by have := hb6.size; omega
      have R6 := Lib.hid ho6.rd
      have N6 := ho6.len
      rw [beL_len] at N6
      subst N6
      clear ho6 hb6
      go_wp2_with (at_builtin; refine wpList_app (o := ⟨some 43, _, _, _, _, _⟩) (B := bx + 1) elU8 rfl _ _ rfl rfl rfl H5'.out R6.out (beL_len _ _).symm ?_ ?_ ?_; (rw [beL_len]; simp <;> omega); exact hz6; intro A7 n7 c7 w7 h7; have H7 := Lib.hid h7.1; have HB7 := Lib.hid (HB6.out.trans (h7.2.2.1.mono (by omega))); clear h7)
      go_ret2
      refine ⟨A7, n7, c7, rfl, ?_, by rw [HBX.out]; exact HB7.out⟩
      rw [HBX.out]
      refine (Own.cast H7.out ?_).mono (by omega)
      rw [HL.out]
      unfold HD.put HD.first HD.rest
      simp
      omega
  have hsp : sp = 0 ∨ sp = 1 := by omega
  have hsp2 : decide (sp = 2) = false := by simp [hs]
  clear hs
  rcases hsp with rfl | rfl
  · skip
    go_wp2_with (go_at_call 38; refine (types_any _ _).mono ?_; rintro e w4 ⟨rfl, rfl⟩)
    refine (number_any 1 4 _ (by omega) (by omega) (by omega)).mono ?_
    rintro e w6 ⟨A6, n6, c6, rfl, ho6, hb6⟩
    have O0 := Lib.hid ((Own.litAt (e := 5) (k := .u8) (w := w2) (B := bx + 1) (g := w2.heap.size) (n := 1) (cs := #[.int .u8 ((k : Int) + 191)]) (xs := [(k : Int) + 191]) rfl rfl rfl (by omega) (by simp [maxLen])).below hb6)
    have HB6 := Lib.hid ((HB2.out.alloc (by omega) _).trans (hb6.mono (by simp; omega)))
    have HK6 := Lib.hid (Blk.below (Blk.alloc HK2.out _) hb6 (by have := Blk.lt HK2.out; simp; omega))
    have hz6 : bx < w6.heap.size := by have := Blk.lt HK6.out; omega
    have R6 := Lib.hid ho6.rd
    have N6 := ho6.len
    rw [beL_len] at N6
    subst N6
    rw [be14] at R6
    clear ho6 hb6
    clear p0 p1 p2 p3 p4 p5 p6
    go_wp2_with (at_builtin; refine wpList_app (o := ⟨some 54, _, _, _, _, _⟩) (B := bx + 1) elU8 rfl _ _ rfl rfl rfl (O0.out) (R6.out) rfl ?_ ?_ ?_; ((simp)); (exact hz6); intro A7 n7 c7 w7 h7; have H7 := Lib.hid h7.1; have HB7 := Lib.hid (HB6.out.trans (h7.2.2.1.mono (by omega))); have HK7 := Lib.hid (Blk.below (HK6.out) h7.2.2.1 (by omega)); have hz7 : bx < w7.heap.size := by { have := Blk.lt HK7.out; omega }; clear h7)
    have hS8 : HvS bx #[.int .u8 0, .slice A1 d.length c1, .slice A2 s.length c2, .slice A3 t.length c3, .bool ph, .int .u64 pn, .int .i64 (k : Nat)] w7.drew := Blk.drew HK7.out
    have hne : Nonempty (CW (HvS bx #[.int .u8 0, .slice A1 d.length c1, .slice A2 s.length c2, .slice A3 t.length c3, .bool ph, .int .u64 pn, .int .i64 (k : Nat)])) := CW.inh hS8
    have hcl : ∀ r : CW (HvS bx #[.int .u8 0, .slice A1 d.length c1, .slice A2 s.length c2, .slice A3 t.length c3, .bool ph, .int .u64 pn, .int .i64 (k : Nat)]), r.world.cell? ⟨bx, 1, none⟩ = some (.slice A1 d.length c1) := fun r => Blk.cell r.holds 1
    refine wp_region_mix_class (HvS bx #[.int .u8 0, .slice A1 d.length c1, .slice A2 s.length c2, .slice A3 t.length c3, .bool ph, .int .u64 pn, .int .i64 (k : Nat)]) [([0, 1, 2, 3, 4, 7, 8], 5), ([], 6), ([], 9)] [10] (by kernel_rfl) (by kernel_rfl) (by kernel_rfl) (by kernel_rfl) hS8 ?_
    simp only [pickL, List.map_cons, List.map_nil, List.filterMap_cons, List.filterMap_nil, List.getElem?_cons_succ, List.getElem?_cons_zero]
    refine mixS_cons ?_
    repeat (show wpQuiet _ _ _ _ (_ :: _) _; go_big_quiet_step (fail))
    refine wpQuiet_nil ?_
    show wpList _ _ _ [_] _ _
    go_wp2_with fail
    refine MixQ.class (Blk.alloc (Blk.drew HK7.out) _) ?_
    refine mixS_cons ?_
    refine wpQuiet_nil ?_
    show wpList _ _ _ [_] _ _
    go_wp2_with (at_builtin; refine wpList_app (o := ⟨some 61, _, _, _, _, _⟩) (B := bx + 1) elU8 rfl _ _ rfl rfl rfl ((H7.out.drew).alloc _) (Rd.newAt (xs := [_]) rfl rfl) rfl ?_ ?_ ?_; ((simp only [List.length_append, List.length_cons, List.length_nil]; omega)); ((simp <;> omega)); intro A8 n8 c8 w8 h8; have H8 := Lib.hid h8.1; have HB8 := Lib.hid (((HB7.out.drew).alloc (by simp; omega) _).trans (h8.2.2.1.mono (by omega))); have HK8 := Lib.hid (Blk.below (Blk.alloc (Blk.drew HK7.out) _) h8.2.2.1 (by omega)); have hz8 : bx < w8.heap.size := by { have := Blk.lt HK8.out; omega }; clear h8)
    refine MixQ.class HK8.out ?_
    refine mixS_cons ?_
    refine wpQuiet_nil ?_
    show wpList _ _ _ [_] _ _
    go_wp2_with (at_builtin; refine wpList_app (o := ⟨some 64, _, _, _, _, _⟩) (B := bx + 1) elU8 rfl _ _ rfl rfl rfl (H8.out) (R1.out.below HB8.out (Nat.le_refl _)) rfl ?_ ?_ ?_; ((simp only [List.length_append, List.length_cons, List.length_nil]; omega)); (exact hz8); intro A9 n9 c9 w9 h9; have H9 := Lib.hid h9.1; have HB9 := Lib.hid (HB8.out.trans (h9.2.2.1.mono (by omega))); have HK9 := Lib.hid (Blk.below (HK8.out) h9.2.2.1 (by omega)); have hz9 : bx < w9.heap.size := by { have := Blk.lt HK9.out; omega }; clear h9)
    refine MixQ.class HK9.out ?_
    refine mixS_nil ?_
    repeat (show wpQuiet _ _ _ _ (_ :: _) _; go_big_quiet_step (fail))
    refine wpQuiet_nil ?_
    refine NoPanic.normal ?_
    clear hcl hS8 hne
    go_wp2_with fail
    have hS10 : HvS bx #[.int .u8 0, .slice A1 d.length c1, .slice A2 s.length c2, .slice A3 t.length c3, .bool ph, .int .u64 pn, .int .i64 (k : Nat)] w9.drew := Blk.drew HK9.out
    have hne : Nonempty (CW (HvS bx #[.int .u8 0, .slice A1 d.length c1, .slice A2 s.length c2, .slice A3 t.length c3, .bool ph, .int .u64 pn, .int .i64 (k : Nat)])) := CW.inh hS10
    have hcl : ∀ r : CW (HvS bx #[.int .u8 0, .slice A1 d.length c1, .slice A2 s.length c2, .slice A3 t.length c3, .bool ph, .int .u64 pn, .int .i64 (k : Nat)]), r.world.cell? ⟨bx, 2, none⟩ = some (.slice A2 s.length c2) := fun r => Blk.cell r.holds 2
    refine wp_region_mix_class (HvS bx #[.int .u8 0, .slice A1 d.length c1, .slice A2 s.length c2, .slice A3 t.length c3, .bool ph, .int .u64 pn, .int .i64 (k : Nat)]) [([0, 1, 2, 3, 4, 7, 8], 5), ([], 6), ([], 9)] [10] (by kernel_rfl) (by kernel_rfl) (by kernel_rfl) (by kernel_rfl) hS10 ?_
    simp only [pickL, List.map_cons, List.map_nil, List.filterMap_cons, List.filterMap_nil, List.getElem?_cons_succ, List.getElem?_cons_zero]
    refine mixS_cons ?_
    repeat (show wpQuiet _ _ _ _ (_ :: _) _; go_big_quiet_step (fail))
    refine wpQuiet_nil ?_
    show wpList _ _ _ [_] _ _
    go_wp2_with fail
    refine MixQ.class (Blk.alloc (Blk.drew HK9.out) _) ?_
    refine mixS_cons ?_
    refine wpQuiet_nil ?_
    show wpList _ _ _ [_] _ _
    go_wp2_with (at_builtin; refine wpList_app (o := ⟨some 71, _, _, _, _, _⟩) (B := bx + 1) elU8 rfl _ _ rfl rfl rfl ((H9.out.drew).alloc _) (Rd.newAt (xs := [_]) rfl rfl) rfl ?_ ?_ ?_; ((simp only [List.length_append, List.length_cons, List.length_nil]; omega)); ((simp <;> omega)); intro A10 n10 c10 w10 h10; have H10 := Lib.hid h10.1; have HB10 := Lib.hid (((HB9.out.drew).alloc (by simp; omega) _).trans (h10.2.2.1.mono (by omega))); have HK10 := Lib.hid (Blk.below (Blk.alloc (Blk.drew HK9.out) _) h10.2.2.1 (by omega)); have hz10 : bx < w10.heap.size := by { have := Blk.lt HK10.out; omega }; clear h10)
    refine MixQ.class HK10.out ?_
    refine mixS_cons ?_
    refine wpQuiet_nil ?_
    show wpList _ _ _ [_] _ _
    go_wp2_with (at_builtin; refine wpList_app (o := ⟨some 74, _, _, _, _, _⟩) (B := bx + 1) elU8 rfl _ _ rfl rfl rfl (H10.out) (R2.out.below HB10.out (Nat.le_refl _)) rfl ?_ ?_ ?_; ((simp only [List.length_append, List.length_cons, List.length_nil]; omega)); (exact hz10); intro A11 n11 c11 w11 h11; have H11 := Lib.hid h11.1; have HB11 := Lib.hid (HB10.out.trans (h11.2.2.1.mono (by omega))); have HK11 := Lib.hid (Blk.below (HK10.out) h11.2.2.1 (by omega)); have hz11 : bx < w11.heap.size := by { have := Blk.lt HK11.out; omega }; clear h11)
    refine MixQ.class HK11.out ?_
    refine mixS_nil ?_
    repeat (show wpQuiet _ _ _ _ (_ :: _) _; go_big_quiet_step (fail))
    refine wpQuiet_nil ?_
    refine NoPanic.normal ?_
    clear hcl hS10 hne
    obtain ⟨p0, p1, p2, p3, p4, p5, p6⟩ := hv_facts HK11.out
    go_wp2_with fail
    have O11 := Lib.hid (H11.out.alloc (.cells #[.int .u64 (t.length : Nat)] 24))
    have hlen11 := H11.out.len
    refine Calls.mono (by rw [hlen11]; exact vappend_any A11 c11 _ (some ⟨w11.heap.size, 0, none⟩) 1 (t.length : Nat) _ O11.out.rd ((Rd.newAt (xs := [((t.length : Nat) : Int)]) rfl rfl).mono (by simp)) (by omega) (by omega) (by unfold vcls; split <;> (try split) <;> (try split) <;> (try split) <;> omega) (by simp only [List.length_append, List.length_cons, List.length_nil]; omega)) ?_
    rintro e w12 ⟨A12, n12, c12, rfl, ho12, hb12⟩
    have H12 := Lib.hid (ho12.mono (show bx + 1 ≤ _ by simp; omega))
    have HB12 := Lib.hid ((HB11.out.alloc (by omega) _).trans (hb12.mono (by simp; omega)))
    have HK12 := Lib.hid (Blk.below (Blk.alloc HK11.out _) hb12 (by simp; omega))
    have hz12 : bx < w12.heap.size := by have := Blk.lt HK12.out; omega
    clear ho12 hb12 hlen11
    clear p0 p1 p2 p3 p4 p5 p6
    obtain ⟨p0, p1, p2, p3, p4, p5, p6⟩ := hv_facts HK12.out
    go_wp2_with (at_builtin; refine wpList_app (o := ⟨some 91, _, _, _, _, _⟩) (B := bx + 1) elU8 rfl _ _ rfl rfl rfl (H12.out) (R3.out.below HB12.out (Nat.le_refl _)) rfl ?_ ?_ ?_; ((simp only [List.length_append, List.length_cons, List.length_nil, vput_len]; (have h1 := HV1.out; have h2 := HV2.out; omega))); (exact hz12); intro A13 n13 c13 w13 h13; have H13 := Lib.hid h13.1; have HB13 := Lib.hid (HB12.out.trans (h13.2.2.1.mono (by omega))); have HK13 := Lib.hid (Blk.below (HK12.out) h13.2.2.1 (by omega)); have hz13 : bx < w13.heap.size := by { have := Blk.lt HK13.out; omega }; clear h13; obtain ⟨p0, p1, p2, p3, p4, p5, p6⟩ := hv_facts HK13.out)
    have O13 := Lib.hid (H13.out.alloc (.cells #[.int .u64 ((k : Int) + n)] 24))
    have hlen13 := H13.out.len
    refine Calls.mono (by rw [hlen13]; exact vappend_any A13 c13 _ (some ⟨w13.heap.size, 0, none⟩) 1 ((k : Int) + n) _ O13.out.rd ((Rd.newAt (xs := [(k : Int) + n]) rfl rfl).mono (by simp)) (by omega) (by omega) (by unfold vcls; split <;> (try split) <;> (try split) <;> (try split) <;> omega) (by simp only [List.length_append, List.length_cons, List.length_nil, vput_len]; (have h1 := HV1.out; have h2 := HV2.out; omega))) ?_
    rintro e w14 ⟨A14, n14, c14, rfl, ho14, hb14⟩
    have H14 := Lib.hid (ho14.mono (show bx + 1 ≤ _ by simp; omega))
    have HB14 := Lib.hid ((HB13.out.alloc (by omega) _).trans (hb14.mono (by simp; omega)))
    have HK14 := Lib.hid (Blk.below (Blk.alloc HK13.out _) hb14 (by simp; omega))
    have hz14 : bx < w14.heap.size := by have := Blk.lt HK14.out; omega
    clear ho14 hb14 hlen13
    clear p0 p1 p2 p3 p4 p5 p6
    obtain ⟨p0, p1, p2, p3, p4, p5, p6⟩ := hv_facts HK14.out
    go_wp2_with fail
    refine (number_any pn k _ (by omega) (by omega) (by omega)).mono ?_
    rintro e w16 ⟨A16, n16, c16, rfl, ho16, hb16⟩
    have H16 := Lib.hid (H14.out.below hb16)
    have HB16 := Lib.hid (HB14.out.trans (hb16.mono (by omega)))
    have hz16 : bx < w16.heap.size := by have := hb16.size; omega
    have R16 := Lib.hid ho16.rd
    have N16 := ho16.len
    rw [beL_len] at N16
    subst N16
    clear ho16 hb16
    go_wp2_with (at_builtin; refine wpList_app (o := ⟨some 109, _, _, _, _, _⟩) (B := bx + 1) elU8 rfl _ _ rfl rfl rfl H16.out R16.out (beL_len _ _).symm ?_ ?_ ?_; (rw [beL_len]; simp only [List.length_append, List.length_cons, List.length_nil, vput_len]; (have h1 := HV1.out; have h2 := HV2.out; omega)); exact hz16; intro A17 n17 c17 w17 h17; have H17 := Lib.hid h17.1; have HB17 := Lib.hid (HB16.out.trans (h17.2.2.1.mono (by omega))); clear h17)
    go_ret2
    refine ⟨A17, n17, c17, rfl, ?_, by rw [HBX.out]; exact HB17.out⟩
    rw [HBX.out]
    refine (Own.cast H17.out ?_).mono (by omega)
    rw [HL.out]
    unfold HD.put HD.first HD.rest
    simp
    omega
  · skip
    go_wp2_with (go_at_call 38; refine (types_any _ _).mono ?_; rintro e w4 ⟨rfl, rfl⟩)
    refine (number_any 1 4 _ (by omega) (by omega) (by omega)).mono ?_
    rintro e w6 ⟨A6, n6, c6, rfl, ho6, hb6⟩
    have O0 := Lib.hid ((Own.litAt (e := 5) (k := .u8) (w := w2) (B := bx + 1) (g := w2.heap.size) (n := 1) (cs := #[.int .u8 ((k : Int) + 223)]) (xs := [(k : Int) + 223]) rfl rfl rfl (by omega) (by simp [maxLen])).below hb6)
    have HB6 := Lib.hid ((HB2.out.alloc (by omega) _).trans (hb6.mono (by simp; omega)))
    have HK6 := Lib.hid (Blk.below (Blk.alloc HK2.out _) hb6 (by have := Blk.lt HK2.out; simp; omega))
    have hz6 : bx < w6.heap.size := by have := Blk.lt HK6.out; omega
    have R6 := Lib.hid ho6.rd
    have N6 := ho6.len
    rw [beL_len] at N6
    subst N6
    rw [be14] at R6
    clear ho6 hb6
    clear p0 p1 p2 p3 p4 p5 p6
    go_wp2_with (at_builtin; refine wpList_app (o := ⟨some 54, _, _, _, _, _⟩) (B := bx + 1) elU8 rfl _ _ rfl rfl rfl (O0.out) (R6.out) rfl ?_ ?_ ?_; ((simp)); (exact hz6); intro A7 n7 c7 w7 h7; have H7 := Lib.hid h7.1; have HB7 := Lib.hid (HB6.out.trans (h7.2.2.1.mono (by omega))); have HK7 := Lib.hid (Blk.below (HK6.out) h7.2.2.1 (by omega)); have hz7 : bx < w7.heap.size := by { have := Blk.lt HK7.out; omega }; clear h7)
    have hS8 : HvS bx #[.int .u8 1, .slice A1 d.length c1, .slice A2 s.length c2, .slice A3 t.length c3, .bool ph, .int .u64 pn, .int .i64 (k : Nat)] w7.drew := Blk.drew HK7.out
    have hne : Nonempty (CW (HvS bx #[.int .u8 1, .slice A1 d.length c1, .slice A2 s.length c2, .slice A3 t.length c3, .bool ph, .int .u64 pn, .int .i64 (k : Nat)])) := CW.inh hS8
    have hcl : ∀ r : CW (HvS bx #[.int .u8 1, .slice A1 d.length c1, .slice A2 s.length c2, .slice A3 t.length c3, .bool ph, .int .u64 pn, .int .i64 (k : Nat)]), r.world.cell? ⟨bx, 1, none⟩ = some (.slice A1 d.length c1) := fun r => Blk.cell r.holds 1
    refine wp_region_mix_class (HvS bx #[.int .u8 1, .slice A1 d.length c1, .slice A2 s.length c2, .slice A3 t.length c3, .bool ph, .int .u64 pn, .int .i64 (k : Nat)]) [([0, 1, 2, 3, 4, 7, 8], 5), ([], 6), ([], 9)] [10] (by kernel_rfl) (by kernel_rfl) (by kernel_rfl) (by kernel_rfl) hS8 ?_
    simp only [pickL, List.map_cons, List.map_nil, List.filterMap_cons, List.filterMap_nil, List.getElem?_cons_succ, List.getElem?_cons_zero]
    refine mixS_cons ?_
    repeat (show wpQuiet _ _ _ _ (_ :: _) _; go_big_quiet_step (fail))
    refine wpQuiet_nil ?_
    show wpList _ _ _ [_] _ _
    go_wp2_with fail
    refine MixQ.class (Blk.alloc (Blk.drew HK7.out) _) ?_
    refine mixS_cons ?_
    refine wpQuiet_nil ?_
    show wpList _ _ _ [_] _ _
    go_wp2_with (at_builtin; refine wpList_app (o := ⟨some 61, _, _, _, _, _⟩) (B := bx + 1) elU8 rfl _ _ rfl rfl rfl ((H7.out.drew).alloc _) (Rd.newAt (xs := [_]) rfl rfl) rfl ?_ ?_ ?_; ((simp only [List.length_append, List.length_cons, List.length_nil]; omega)); ((simp <;> omega)); intro A8 n8 c8 w8 h8; have H8 := Lib.hid h8.1; have HB8 := Lib.hid (((HB7.out.drew).alloc (by simp; omega) _).trans (h8.2.2.1.mono (by omega))); have HK8 := Lib.hid (Blk.below (Blk.alloc (Blk.drew HK7.out) _) h8.2.2.1 (by omega)); have hz8 : bx < w8.heap.size := by { have := Blk.lt HK8.out; omega }; clear h8)
    refine MixQ.class HK8.out ?_
    refine mixS_cons ?_
    refine wpQuiet_nil ?_
    show wpList _ _ _ [_] _ _
    go_wp2_with (at_builtin; refine wpList_app (o := ⟨some 64, _, _, _, _, _⟩) (B := bx + 1) elU8 rfl _ _ rfl rfl rfl (H8.out) (R1.out.below HB8.out (Nat.le_refl _)) rfl ?_ ?_ ?_; ((simp only [List.length_append, List.length_cons, List.length_nil]; omega)); (exact hz8); intro A9 n9 c9 w9 h9; have H9 := Lib.hid h9.1; have HB9 := Lib.hid (HB8.out.trans (h9.2.2.1.mono (by omega))); have HK9 := Lib.hid (Blk.below (HK8.out) h9.2.2.1 (by omega)); have hz9 : bx < w9.heap.size := by { have := Blk.lt HK9.out; omega }; clear h9)
    refine MixQ.class HK9.out ?_
    refine mixS_nil ?_
    repeat (show wpQuiet _ _ _ _ (_ :: _) _; go_big_quiet_step (fail))
    refine wpQuiet_nil ?_
    refine NoPanic.normal ?_
    clear hcl hS8 hne
    go_wp2_with fail
    have hS10 : HvS bx #[.int .u8 1, .slice A1 d.length c1, .slice A2 s.length c2, .slice A3 t.length c3, .bool ph, .int .u64 pn, .int .i64 (k : Nat)] w9.drew := Blk.drew HK9.out
    have hne : Nonempty (CW (HvS bx #[.int .u8 1, .slice A1 d.length c1, .slice A2 s.length c2, .slice A3 t.length c3, .bool ph, .int .u64 pn, .int .i64 (k : Nat)])) := CW.inh hS10
    have hcl : ∀ r : CW (HvS bx #[.int .u8 1, .slice A1 d.length c1, .slice A2 s.length c2, .slice A3 t.length c3, .bool ph, .int .u64 pn, .int .i64 (k : Nat)]), r.world.cell? ⟨bx, 2, none⟩ = some (.slice A2 s.length c2) := fun r => Blk.cell r.holds 2
    refine wp_region_mix_class (HvS bx #[.int .u8 1, .slice A1 d.length c1, .slice A2 s.length c2, .slice A3 t.length c3, .bool ph, .int .u64 pn, .int .i64 (k : Nat)]) [([0, 1, 2, 3, 4, 7, 8], 5), ([], 6), ([], 9)] [10] (by kernel_rfl) (by kernel_rfl) (by kernel_rfl) (by kernel_rfl) hS10 ?_
    simp only [pickL, List.map_cons, List.map_nil, List.filterMap_cons, List.filterMap_nil, List.getElem?_cons_succ, List.getElem?_cons_zero]
    refine mixS_cons ?_
    repeat (show wpQuiet _ _ _ _ (_ :: _) _; go_big_quiet_step (fail))
    refine wpQuiet_nil ?_
    show wpList _ _ _ [_] _ _
    go_wp2_with fail
    refine MixQ.class (Blk.alloc (Blk.drew HK9.out) _) ?_
    refine mixS_cons ?_
    refine wpQuiet_nil ?_
    show wpList _ _ _ [_] _ _
    go_wp2_with (at_builtin; refine wpList_app (o := ⟨some 71, _, _, _, _, _⟩) (B := bx + 1) elU8 rfl _ _ rfl rfl rfl ((H9.out.drew).alloc _) (Rd.newAt (xs := [_]) rfl rfl) rfl ?_ ?_ ?_; ((simp only [List.length_append, List.length_cons, List.length_nil]; omega)); ((simp <;> omega)); intro A10 n10 c10 w10 h10; have H10 := Lib.hid h10.1; have HB10 := Lib.hid (((HB9.out.drew).alloc (by simp; omega) _).trans (h10.2.2.1.mono (by omega))); have HK10 := Lib.hid (Blk.below (Blk.alloc (Blk.drew HK9.out) _) h10.2.2.1 (by omega)); have hz10 : bx < w10.heap.size := by { have := Blk.lt HK10.out; omega }; clear h10)
    refine MixQ.class HK10.out ?_
    refine mixS_cons ?_
    refine wpQuiet_nil ?_
    show wpList _ _ _ [_] _ _
    go_wp2_with (at_builtin; refine wpList_app (o := ⟨some 74, _, _, _, _, _⟩) (B := bx + 1) elU8 rfl _ _ rfl rfl rfl (H10.out) (R2.out.below HB10.out (Nat.le_refl _)) rfl ?_ ?_ ?_; ((simp only [List.length_append, List.length_cons, List.length_nil]; omega)); (exact hz10); intro A11 n11 c11 w11 h11; have H11 := Lib.hid h11.1; have HB11 := Lib.hid (HB10.out.trans (h11.2.2.1.mono (by omega))); have HK11 := Lib.hid (Blk.below (HK10.out) h11.2.2.1 (by omega)); have hz11 : bx < w11.heap.size := by { have := Blk.lt HK11.out; omega }; clear h11)
    refine MixQ.class HK11.out ?_
    refine mixS_nil ?_
    repeat (show wpQuiet _ _ _ _ (_ :: _) _; go_big_quiet_step (fail))
    refine wpQuiet_nil ?_
    refine NoPanic.normal ?_
    clear hcl hS10 hne
    obtain ⟨p0, p1, p2, p3, p4, p5, p6⟩ := hv_facts HK11.out
    go_wp2_with fail
    have O11 := Lib.hid (H11.out.alloc (.cells #[.int .u64 ((k : Int) + n)] 24))
    have hlen11 := H11.out.len
    refine Calls.mono (by rw [hlen11]; exact vappend_any A11 c11 _ (some ⟨w11.heap.size, 0, none⟩) 1 ((k : Int) + n) _ O11.out.rd ((Rd.newAt (xs := [(k : Int) + n]) rfl rfl).mono (by simp)) (by omega) (by omega) (by unfold vcls; split <;> (try split) <;> (try split) <;> (try split) <;> omega) (by simp only [List.length_append, List.length_cons, List.length_nil]; omega)) ?_
    rintro e w12 ⟨A12, n12, c12, rfl, ho12, hb12⟩
    have H12 := Lib.hid (ho12.mono (show bx + 1 ≤ _ by simp; omega))
    have HB12 := Lib.hid ((HB11.out.alloc (by omega) _).trans (hb12.mono (by simp; omega)))
    have HK12 := Lib.hid (Blk.below (Blk.alloc HK11.out _) hb12 (by simp; omega))
    have hz12 : bx < w12.heap.size := by have := Blk.lt HK12.out; omega
    clear ho12 hb12 hlen11
    clear p0 p1 p2 p3 p4 p5 p6
    obtain ⟨p0, p1, p2, p3, p4, p5, p6⟩ := hv_facts HK12.out
    go_wp2_with fail
    refine (number_any pn k _ (by omega) (by omega) (by omega)).mono ?_
    rintro e w16 ⟨A16, n16, c16, rfl, ho16, hb16⟩
    have H16 := Lib.hid (H12.out.below hb16)
    have HB16 := Lib.hid (HB12.out.trans (hb16.mono (by omega)))
    have hz16 : bx < w16.heap.size := by have := hb16.size; omega
    have R16 := Lib.hid ho16.rd
    have N16 := ho16.len
    rw [beL_len] at N16
    subst N16
    clear ho16 hb16
    go_wp2_with (at_builtin; refine wpList_app (o := ⟨some 109, _, _, _, _, _⟩) (B := bx + 1) elU8 rfl _ _ rfl rfl rfl H16.out R16.out (beL_len _ _).symm ?_ ?_ ?_; (rw [beL_len]; simp only [List.length_append, List.length_cons, List.length_nil, vput_len]; (have h1 := HV1.out; have h2 := HV2.out; omega)); exact hz16; intro A17 n17 c17 w17 h17; have H17 := Lib.hid h17.1; have HB17 := Lib.hid (HB16.out.trans (h17.2.2.1.mono (by omega))); clear h17)
    go_ret2
    refine ⟨A17, n17, c17, rfl, ?_, by rw [HBX.out]; exact HB17.out⟩
    rw [HBX.out]
    refine (Own.cast H17.out ?_).mono (by omega)
    rw [HL.out]
    unfold HD.put HD.first HD.rest
    simp
    omega
end Go.Proofs.Ytlefnddhmpgijaa
