/- Layer 3: heads; the reference's: contracts. Conditions: as each theorem states them. -/
import Derived.Test.YthpacdondnenmaaJHa
import Derived.Test.YthpacdondnenmaaBZ
import Derived.Test.YthpacdondnenmaaBO
/- Contracts (layer 3): May, Put. Conditions: as each theorem states them. -/
namespace Go.Proofs.Ythpacdondnenmaa
open Go.RowKit
/-- a head as a value -/
def HV (h : HD) (A1 : Option Addr) (c1 : Nat) (A2 : Option Addr) (c2 : Nat) (A3 : Option Addr) (c3 : Nat) : Array Value :=
  #[.int .u8 h.space, .slice A1 h.dst.length c1, .slice A2 h.src.length c2, .slice A3 h.tok.length c3, .bool h.phase, .int .u64 h.pn, .int .i64 h.pb]
instance (h : HD) : Decidable h.May := by unfold HD.May; infer_instance
theorem may_eq (h : HD) : decide h.May = (decide (h.space ≤ 2) && decide (h.dst.length ≤ 20) && decide (h.src.length ≤ 20) && decide (1 ≤ h.pb) && decide (h.pb ≤ 4) && decide (h.pn ≤ 4611686018427387903) && (decide (h.space = 0) || decide (h.tok.length = 0)) && (if h.space = 2 then decide (h.src.length = 0) else !h.phase)) := by
  rw [Bool.eq_iff_iff]
  simp only [decide_eq_true_eq, Bool.and_eq_true, Bool.or_eq_true]
  unfold HD.May
  by_cases h2 : h.space = 2
  · simp only [h2, if_true, decide_eq_true_eq]
    constructor
    · rintro ⟨a1, a2, a3, a4, a5, a6, a7, a8, a9⟩
      exact ⟨⟨⟨⟨⟨⟨⟨a1, a2⟩, a3⟩, a4⟩, a5⟩, a6⟩, .inr (a7 (by decide))⟩, a8 trivial⟩
    · rintro ⟨⟨⟨⟨⟨⟨⟨a1, a2⟩, a3⟩, a4⟩, a5⟩, a6⟩, a7⟩, a8⟩
      exact ⟨a1, a2, a3, a4, a5, a6, fun _ => a7.resolve_left (by decide), fun _ => a8, fun h => absurd rfl h⟩
  · rw [if_neg h2]
    constructor
    · rintro ⟨a1, a2, a3, a4, a5, a6, a7, a8, a9⟩
      refine ⟨⟨⟨⟨⟨⟨⟨a1, a2⟩, a3⟩, a4⟩, a5⟩, a6⟩, ?_⟩, by rw [a9 h2]; rfl⟩
      by_cases h0 : h.space = 0
      · exact .inl h0
      · exact .inr (a7 h0)
    · rintro ⟨⟨⟨⟨⟨⟨⟨a1, a2⟩, a3⟩, a4⟩, a5⟩, a6⟩, a7⟩, a8⟩
      exact ⟨a1, a2, a3, a4, a5, a6, fun h0 => a7.resolve_left h0, fun h => absurd h h2, fun _ => by simpa using a8⟩
set_option maxRecDepth 100000 in
set_option maxHeartbeats 4000000 in
theorem may_any (h : HD) (A1 : Option Addr) (c1 : Nat) (A2 : Option Addr) (c2 : Nat) (A3 : Option Addr) (c3 : Nat) (w : World) (hf : h.Fit) :
    Calls Try.prog 9 #[.agg (HV h A1 c1 A2 c2 A3 c3)] w fun e w' => e = .returned (.bool (decide h.May)) ∧ Below w.heap.size w w' := by
  rw [may_eq]
  unfold HV
  obtain ⟨f1, f2, _, _, _, f6, f7⟩ := hf
  obtain ⟨sp, d, s, t, ph, pn, pb⟩ := h
  simp only at *
  generalize d.length = dl at *
  generalize s.length = sl at *
  generalize t.length = tl at *
  obtain ⟨R, hR⟩ : ∃ R, (decide (sp ≤ 2) && decide (dl ≤ 20) && decide (sl ≤ 20) && decide (1 ≤ pb) && decide (pb ≤ 4) && decide (pn ≤ 4611686018427387903) && (decide (sp = 0) || decide (tl = 0)) && (if sp = 2 then decide (sl = 0) else !ph)) = R := ⟨_, rfl⟩
  rw [hR]
  have HR := Lib.hid hR
  clear hR
  have fin : ∀ (b : Bool) (w' : World), b = R → Below w.heap.size w w' → Ending.returned (.bool b) = .returned (.bool R) ∧ Below w.heap.size w w' := fun b w' h1 h2 => ⟨by rw [h1], h2⟩
  have FIN := Lib.hid fin
  clear fin
  by_cases g1 : 2 < sp
  · go_enter Try.func9, Try.ntmps9
    go_wp2_with fail
    all_goals
      go_ret
      exact FIN.out _ _ (by rw [← HR.out]; simp; omega) ((Below.refl _ _).alloc (Nat.le_refl _) _)
  have g1' : decide (2 < sp) = false := by simp; omega
  by_cases g2 : (20 : Int) < (dl : Int)
  · go_enter Try.func9, Try.ntmps9
    go_wp2_with fail
    all_goals
      go_ret
      exact FIN.out _ _ (by rw [← HR.out]; simp; omega) ((Below.refl _ _).alloc (Nat.le_refl _) _)
  have g2' : decide ((20 : Int) < (dl : Int)) = false := by simp; omega
  by_cases g3 : (20 : Int) < (sl : Int)
  · go_enter Try.func9, Try.ntmps9
    go_wp2_with fail
    all_goals
      go_ret
      exact FIN.out _ _ (by rw [← HR.out]; simp; omega) ((Below.refl _ _).alloc (Nat.le_refl _) _)
  have g3' : decide ((20 : Int) < (sl : Int)) = false := by simp; omega
  by_cases g4 : pb < 1
  · go_enter Try.func9, Try.ntmps9
    go_wp2_with fail
    all_goals
      go_ret
      exact FIN.out _ _ (by rw [← HR.out]; simp; omega) ((Below.refl _ _).alloc (Nat.le_refl _) _)
  have g4' : decide (pb < 1) = false := by simp; omega
  by_cases g5 : 4 < pb
  · go_enter Try.func9, Try.ntmps9
    go_wp2_with fail
    all_goals
      go_ret
      exact FIN.out _ _ (by rw [← HR.out]; simp; omega) ((Below.refl _ _).alloc (Nat.le_refl _) _)
  have g5' : decide (4 < pb) = false := by simp; omega
  by_cases g6 : 4611686018427387903 < pn
  · go_enter Try.func9, Try.ntmps9
    go_wp2_with fail
    all_goals
      go_ret
      exact FIN.out _ _ (by rw [← HR.out]; simp; omega) ((Below.refl _ _).alloc (Nat.le_refl _) _)
  have g6' : decide (4611686018427387903 < pn) = false := by simp; omega
  by_cases g7 : sp = 0
  · have HE : Hid (R = !ph) := Lib.hid (by rw [← HR.out, if_neg (by omega)]; simp; omega)
    subst g7
    go_enter Try.func9, Try.ntmps9
    go_wp2_with fail
    all_goals
      go_ret
      exact FIN.out _ _ (HE.out.symm) ((Below.refl _ _).alloc (Nat.le_refl _) _)
  have g7' : decide (sp = 0) = false := by simp [g7]
  by_cases g8 : (0 : Int) < (tl : Int)
  · have HE : Hid (R = false) := Lib.hid (by rw [← HR.out, show decide (sp = 0) = false by simp [g7], show decide (tl = 0) = false by simp; omega]; simp)
    go_enter Try.func9, Try.ntmps9
    go_wp2_with fail
    all_goals
      go_ret
      exact FIN.out _ _ (by first | exact HE.out.symm | (exfalso; simp_all; done) | (exfalso; omega)) ((Below.refl _ _).alloc (Nat.le_refl _) _)
  have g8' : decide ((0 : Int) < (tl : Int)) = false := by simp; omega
  by_cases g9 : sp = 2
  · have HE : Hid (R = decide (sl = 0)) := Lib.hid (by rw [← HR.out, if_pos g9]; simp; omega)
    subst g9
    by_cases g10 : sl = 0
    · subst g10
      go_enter Try.func9, Try.ntmps9
      go_wp2_with fail
      all_goals
        go_ret
        exact FIN.out _ _ (by rw [HE.out]; rfl) ((Below.refl _ _).alloc (Nat.le_refl _) _)
    · go_enter Try.func9, Try.ntmps9
      go_wp2_with fail
      all_goals
        go_ret
        exact FIN.out _ _ (by rw [HE.out]; first | rfl | (rw [Bool.eq_iff_iff, beq_iff_eq, decide_eq_true_eq]; omega) | (simp; omega)) ((Below.refl _ _).alloc (Nat.le_refl _) _)
  · have g9' : decide (sp = 2) = false := by simp [g9]
    have HE : Hid (R = !ph) := Lib.hid (by rw [← HR.out, if_neg g9]; simp; omega)
    go_enter Try.func9, Try.ntmps9
    go_wp2_with fail
    all_goals
      go_ret
      exact FIN.out _ _ (HE.out.symm) ((Below.refl _ _).alloc (Nat.le_refl _) _)
end Go.Proofs.Ythpacdondnenmaa
/- Contract (layer 3): Put. Conditions: as each theorem states them. -/
namespace Go.Proofs.Ythpacdondnenmaa
open Go.RowKit
theorem orK (k : Nat) (h1 : 1 ≤ k) (h4 : k ≤ 4) : bits .or .u8 ((k : Int) - 1) 4 = k + 3 ∧ bits .or .u8 ((k : Int) + 3) 64 = k + 67 ∧ bits .or .u8 ((k : Int) - 1) 64 = k + 63 ∧ bits .or .u8 ((k : Int) - 1) 128 = k + 127 ∧ bits .or .u8 ((k : Int) + 127) 64 = k + 191 ∧ bits .or .u8 ((k : Int) + 191) 0 = k + 191 ∧ bits .or .u8 ((k : Int) + 191) 32 = k + 223 := by
  rcases (show k = 1 ∨ k = 2 ∨ k = 3 ∨ k = 4 by omega) with rfl | rfl | rfl | rfl <;> decide
theorem vlen8 (n : Int) (h : vcls n < 4) : 2 ^ vcls n ≤ 8 := by
  rcases (show vcls n = 0 ∨ vcls n = 1 ∨ vcls n = 2 ∨ vcls n = 3 by omega) with h | h | h | h <;> rw [h] <;> decide
theorem hv_facts {w : World} {g : Nat} {t : TypeId} {c0 c1 c2 c3 c4 c5 c6 : Value} (h : Blk w g t #[c0, c1, c2, c3, c4, c5, c6]) : w.cell? ⟨g, 0, none⟩ = some c0 ∧ w.cell? ⟨g, 1, none⟩ = some c1 ∧ w.cell? ⟨g, 2, none⟩ = some c2 ∧ w.cell? ⟨g, 3, none⟩ = some c3 ∧ w.cell? ⟨g, 4, none⟩ = some c4 ∧ w.cell? ⟨g, 5, none⟩ = some c5 ∧ w.cell? ⟨g, 6, none⟩ = some c6 :=
  ⟨Blk.cell h 0, Blk.cell h 1, Blk.cell h 2, Blk.cell h 3, Blk.cell h 4, Blk.cell h 5, Blk.cell h 6⟩
/-- the head's block reads as it did -/
def HvS (bx : Nat) (cs : Array Value) (w' : World) : Prop := Blk w' bx 30 cs

theorem put_no (h : HD) (A1 : Option Addr) (c1 : Nat) (A2 : Option Addr) (c2 : Nat) (A3 : Option Addr) (c3 : Nat) (n : Int) (w : World) (hf : h.Fit) (hno : ¬ (h.May ∧ 0 ≤ n ∧ n ≤ 65536)) :
    Calls Try.prog 24 #[.agg (HV h A1 c1 A2 c2 A3 c3), .int .i64 n] w fun e w' => e = .returned (.tuple #[.slice none 0 0, .int .i64 2]) ∧ Below w.heap.size w w' := by
  have hm := Lib.hid (fun w => may_any h A1 c1 A2 c2 A3 c3 w hf)
  generalize hd : decide h.May = b at hm
  have hb : b = false ∨ n < 0 ∨ 65536 < n := by
    cases b with
    | false => exact .inl rfl
    | true =>
      have hmm := of_decide_eq_true hd
      have hn2 : ¬ (0 ≤ n ∧ n ≤ 65536) := fun hx => hno ⟨hmm, hx⟩
      right; omega
  unfold HV at *
  clear hd hno hf
  go_enter Try.func24, Try.ntmps24
  go_wp2_with fail
  refine (hm.out _).mono ?_
  rintro e w2 ⟨rfl, hb2⟩
  have HB2 : Hid (Below w.heap.size w w2) := Lib.hid (((Below.refl w.heap.size w).alloc (Nat.le_refl _) _).trans (hb2.mono (by simp)))
  clear hb2
  rcases hb with rfl | hb | hb
  · go_wp2_with fail
    go_ret2
    exact ⟨rfl, HB2.out⟩
  · cases b
    all_goals
      go_wp2_with fail
      go_ret2
      exact ⟨rfl, HB2.out⟩
  · have hb0 : decide (n < 0) = false := by simp; omega
    cases b
    all_goals
      go_wp2_with fail
      go_ret2
      exact ⟨rfl, HB2.out⟩

set_option maxRecDepth 100000 in
set_option maxHeartbeats 6000000 in
theorem put_yes (h : HD) (A1 : Option Addr) (c1 : Nat) (A2 : Option Addr) (c2 : Nat) (A3 : Option Addr) (c3 : Nat) (n : Int) (w : World) (hf : h.Fit) (hm : h.May) (hn0 : 0 ≤ n) (hn1 : n ≤ 65536)
    (r1 : Rd w.heap.size .u8 w A1 h.dst) (r2 : Rd w.heap.size .u8 w A2 h.src) (r3 : Rd w.heap.size .u8 w A3 h.tok) (htok : h.tok.length ≤ 100000000000) :
    Calls Try.prog 24 #[.agg (HV h A1 c1 A2 c2 A3 c3), .int .i64 n] w (RetOwn2 5 .u8 (h.put n) (.int .i64 0) w) := by
  have hmay := fun w => may_any h A1 c1 A2 c2 A3 c3 w hf
  rw [decide_eq_true hm] at hmay
  have HM := Lib.hid hmay
  clear hmay
  obtain ⟨L, hL⟩ : ∃ L, L = h.put n := ⟨_, rfl⟩
  rw [← hL]
  unfold HV at *
  obtain ⟨sp, d, s, t, ph, pn, pb⟩ := h
  obtain ⟨f1, f2, f3, f4, f5, f6, f7⟩ := hf
  obtain ⟨m1, m2, m3, m4, m5, m6, m7, m8, m9⟩ := hm
  simp only at *
  obtain ⟨k, rfl⟩ := Int.eq_ofNat_of_zero_le (show 0 ≤ pb by omega)
  obtain ⟨o1, o2, o3, o4, o5, o6, o7⟩ := orK k (by omega) (by omega)
  have HL := Lib.hid hL
  have R1 := Lib.hid r1
  have R2 := Lib.hid r2
  have R3 := Lib.hid r3
  have M7 := Lib.hid m7
  have M8 := Lib.hid m8
  have M9 := Lib.hid m9
  have hk1 : 1 ≤ k := by omega
  have hk4 : k ≤ 4 := by omega
  have hnn0 : decide (n < 0) = false := by simp; omega
  have hnn1 : decide (65536 < n) = false := by simp; omega
  have ht12 : t.length ≤ 100000000000 := htok
  clear hL r1 r2 r3 m7 m8 m9 f3 f4 f5
  generalize hbx : w.heap.size = bx at *
  have HBX := Lib.hid hbx
  have HK0 : Hid (Blk (w.alloc (.cells #[.int .u8 sp, .slice A1 d.length c1, .slice A2 s.length c2, .slice A3 t.length c3, .bool ph, .int .u64 pn, .int .i64 (k : Nat)] 30)) bx 30 #[.int .u8 sp, .slice A1 d.length c1, .slice A2 s.length c2, .slice A3 t.length c3, .bool ph, .int .u64 pn, .int .i64 (k : Nat)]) := Lib.hid (by rw [← hbx]; exact Blk.new _ _ _)
  have hsz0 : (w.alloc (.cells #[.int .u8 sp, .slice A1 d.length c1, .slice A2 s.length c2, .slice A3 t.length c3, .bool ph, .int .u64 pn, .int .i64 (k : Nat)] 30)).heap.size = bx + 1 := by simp [hbx]
  have HSZ0 := Lib.hid hsz0
  have HB0 : Hid (Below bx w (w.alloc (.cells #[.int .u8 sp, .slice A1 d.length c1, .slice A2 s.length c2, .slice A3 t.length c3, .bool ph, .int .u64 pn, .int .i64 (k : Nat)] 30))) := Lib.hid ((Below.refl bx w).alloc (by omega) _)
  clear hsz0 hbx
  go_enter Try.func24, Try.ntmps24
  go_wp2_with fail
  rw [HBX.out]
  refine (HM.out _).mono ?_
  rintro e w2 ⟨rfl, hb2⟩
  have HK2 := Lib.hid (Blk.below HK0.out hb2 (Blk.lt HK0.out))
  have HB2 := Lib.hid (HB0.out.trans (hb2.mono (by rw [HSZ0.out]; omega)))
  have hz2 : bx < w2.heap.size := by have := hb2.size; rw [HSZ0.out] at this; exact this
  obtain ⟨p0, p1, p2, p3, p4, p5, p6⟩ := hv_facts HK2.out
  clear hb2 HK0 HB0
  have hvb1 := vlen8 (t.length : Nat) (by unfold vcls; split <;> (try split) <;> (try split) <;> (try split) <;> omega)
  have hvb2 := vlen8 ((k : Int) + n) (by unfold vcls; split <;> (try split) <;> (try split) <;> (try split) <;> omega)
  have HV1 := Lib.hid hvb1
  have HV2 := Lib.hid hvb2
  clear hvb1 hvb2
  by_cases hs : sp = 2
  · subst hs
    cases ph
    all_goals
      go_wp2_with (at_builtin; refine wpList_app (o := ⟨some 36, _, _, _, _, _⟩) (B := bx + 1) elUh rfl _ _ rfl rfl rfl (Own.litAt (xs := [_]) rfl rfl rfl (by omega) (by simp [maxLen])) (R1.out.below (HB2.out.alloc (by omega) _) (Nat.le_refl _)) rfl ?_ ?_ ?_; ((simp <;> omega)); ((simp <;> omega)); intro A5 n5 c5 w5 h5; have H5 := Lib.hid h5.1; have HB5 := Lib.hid ((HB2.out.alloc (by omega) _).trans (h5.2.2.1.mono (by omega))); have HK5 := Lib.hid (Blk.below (Blk.alloc HK2.out _) h5.2.2.1 (by omega)); have hz5 : bx < w5.heap.size := by { have := Blk.lt HK5.out; omega }; clear h5; obtain ⟨p0, p1, p2, p3, p4, p5, p6⟩ := hv_facts HK5.out)
      refine (number_any pn k _ (by omega) (by omega) (by omega)).mono ?_
      rintro e w6 ⟨A6, n6, c6, rfl, ho6, hb6⟩
      have H5' := Lib.hid (H5.out.below hb6)
      have HB6 := Lib.hid (HB5.out.trans (hb6.mono (by omega)))
      have HK6 := Lib.hid (Blk.below HK5.out hb6 (Blk.lt HK5.out))
      have hz6 : bx < w6.heap.size := by have := hb6.size; omega
      have R6 := Lib.hid ho6.rd
      have N6 := ho6.len
      rw [beL_len] at N6
      subst N6
      clear ho6 hb6
      go_wp2_with (at_builtin; refine wpList_app (o := ⟨some 43, _, _, _, _, _⟩) (B := bx + 1) elUh rfl _ _ rfl rfl rfl H5'.out R6.out (beL_len _ _).symm ?_ ?_ ?_; (rw [beL_len]; simp <;> omega); exact hz6; intro A7 n7 c7 w7 h7; have H7 := Lib.hid h7.1; have HB7 := Lib.hid (HB6.out.trans (h7.2.2.1.mono (by omega))); clear h7)
      go_ret2
      refine ⟨A7, n7, c7, rfl, ?_, by rw [HBX.out]; exact HB7.out⟩
      rw [HBX.out]
      refine (Own.cast H7.out ?_).mono (by omega)
      rw [HL.out]
      unfold HD.put HD.first HD.rest
      simp
      omega
  have hsp : sp = 0 ∨ sp = 1 := by omega
  have hsp2 : decide (sp = 2) = false := by simp [hs]
  clear hs
  rcases hsp with rfl | rfl
  · skip
    go_wp2_with (go_at_call 53; refine (types_any _ _).mono ?_; rintro e w4 ⟨rfl, rfl⟩)
    refine (number_any 1 4 _ (by omega) (by omega) (by omega)).mono ?_
    rintro e w6 ⟨A6, n6, c6, rfl, ho6, hb6⟩
    have O0 := Lib.hid ((Own.litAt (e := 5) (k := .u8) (w := w2) (B := bx + 1) (g := w2.heap.size) (n := 1) (cs := #[.int .u8 ((k : Int) + 191)]) (xs := [(k : Int) + 191]) rfl rfl rfl (by omega) (by simp [maxLen])).below hb6)
    have HB6 := Lib.hid ((HB2.out.alloc (by omega) _).trans (hb6.mono (by simp; omega)))
    have HK6 := Lib.hid (Blk.below (Blk.alloc HK2.out _) hb6 (by have := Blk.lt HK2.out; simp; omega))
    have hz6 : bx < w6.heap.size := by have := Blk.lt HK6.out; omega
    have R6 := Lib.hid ho6.rd
    have N6 := ho6.len
    rw [beL_len] at N6
    subst N6
    rw [be14] at R6
    clear ho6 hb6
    clear p0 p1 p2 p3 p4 p5 p6
    go_wp2_with (at_builtin; refine wpList_app (o := ⟨some 54, _, _, _, _, _⟩) (B := bx + 1) elUh rfl _ _ rfl rfl rfl (O0.out) (R6.out) rfl ?_ ?_ ?_; ((simp)); (exact hz6); intro A7 n7 c7 w7 h7; have H7 := Lib.hid h7.1; have HB7 := Lib.hid (HB6.out.trans (h7.2.2.1.mono (by omega))); have HK7 := Lib.hid (Blk.below (HK6.out) h7.2.2.1 (by omega)); have hz7 : bx < w7.heap.size := by { have := Blk.lt HK7.out; omega }; clear h7)
    have hS8 : HvS bx #[.int .u8 0, .slice A1 d.length c1, .slice A2 s.length c2, .slice A3 t.length c3, .bool ph, .int .u64 pn, .int .i64 (k : Nat)] w7.drew := Blk.drew HK7.out
    have hne : Nonempty (CW (HvS bx #[.int .u8 0, .slice A1 d.length c1, .slice A2 s.length c2, .slice A3 t.length c3, .bool ph, .int .u64 pn, .int .i64 (k : Nat)])) := CW.inh hS8
    have hcl : ∀ r : CW (HvS bx #[.int .u8 0, .slice A1 d.length c1, .slice A2 s.length c2, .slice A3 t.length c3, .bool ph, .int .u64 pn, .int .i64 (k : Nat)]), r.world.cell? ⟨bx, 1, none⟩ = some (.slice A1 d.length c1) := fun r => Blk.cell r.holds 1
    refine wp_region_mix_class (HvS bx #[.int .u8 0, .slice A1 d.length c1, .slice A2 s.length c2, .slice A3 t.length c3, .bool ph, .int .u64 pn, .int .i64 (k : Nat)]) [([0, 1, 2, 3, 4, 7, 8], 5), ([], 6), ([], 9)] [10] (by kernel_rfl) (by kernel_rfl) (by kernel_rfl) (by kernel_rfl) hS8 ?_
    simp only [pickL, List.map_cons, List.map_nil, List.filterMap_cons, List.filterMap_nil, List.getElem?_cons_succ, List.getElem?_cons_zero]
    refine mixS_cons ?_
    repeat (show wpQuiet _ _ _ _ (_ :: _) _; go_big_quiet_step (fail))
    refine wpQuiet_nil ?_
    show wpList _ _ _ [_] _ _
    go_wp2_with fail
    refine MixQ.class (Blk.alloc (Blk.drew HK7.out) _) ?_
    refine mixS_cons ?_
    refine wpQuiet_nil ?_
    show wpList _ _ _ [_] _ _
    go_wp2_with (at_builtin; refine wpList_app (o := ⟨some 61, _, _, _, _, _⟩) (B := bx + 1) elUh rfl _ _ rfl rfl rfl ((H7.out.drew).alloc _) (Rd.newAt (xs := [_]) rfl rfl) rfl ?_ ?_ ?_; ((simp only [List.length_append, List.length_cons, List.length_nil]; omega)); ((simp <;> omega)); intro A8 n8 c8 w8 h8; have H8 := Lib.hid h8.1; have HB8 := Lib.hid (((HB7.out.drew).alloc (by simp; omega) _).trans (h8.2.2.1.mono (by omega))); have HK8 := Lib.hid (Blk.below (Blk.alloc (Blk.drew HK7.out) _) h8.2.2.1 (by omega)); have hz8 : bx < w8.heap.size := by { have := Blk.lt HK8.out; omega }; clear h8)
    refine MixQ.class HK8.out ?_
    refine mixS_cons ?_
    refine wpQuiet_nil ?_
    show wpList _ _ _ [_] _ _
    go_wp2_with (at_builtin; refine wpList_app (o := ⟨some 64, _, _, _, _, _⟩) (B := bx + 1) elUh rfl _ _ rfl rfl rfl (H8.out) (R1.out.below HB8.out (Nat.le_refl _)) rfl ?_ ?_ ?_; ((simp only [List.length_append, List.length_cons, List.length_nil]; omega)); (exact hz8); intro A9 n9 c9 w9 h9; have H9 := Lib.hid h9.1; have HB9 := Lib.hid (HB8.out.trans (h9.2.2.1.mono (by omega))); have HK9 := Lib.hid (Blk.below (HK8.out) h9.2.2.1 (by omega)); have hz9 : bx < w9.heap.size := by { have := Blk.lt HK9.out; omega }; clear h9)
    refine MixQ.class HK9.out ?_
    refine mixS_nil ?_
    repeat (show wpQuiet _ _ _ _ (_ :: _) _; go_big_quiet_step (fail))
    refine wpQuiet_nil ?_
    refine NoPanic.normal ?_
    clear hcl hS8 hne
    go_wp2_with fail
    have hS10 : HvS bx #[.int .u8 0, .slice A1 d.length c1, .slice A2 s.length c2, .slice A3 t.length c3, .bool ph, .int .u64 pn, .int .i64 (k : Nat)] w9.drew := Blk.drew HK9.out
    have hne : Nonempty (CW (HvS bx #[.int .u8 0, .slice A1 d.length c1, .slice A2 s.length c2, .slice A3 t.length c3, .bool ph, .int .u64 pn, .int .i64 (k : Nat)])) := CW.inh hS10
    have hcl : ∀ r : CW (HvS bx #[.int .u8 0, .slice A1 d.length c1, .slice A2 s.length c2, .slice A3 t.length c3, .bool ph, .int .u64 pn, .int .i64 (k : Nat)]), r.world.cell? ⟨bx, 2, none⟩ = some (.slice A2 s.length c2) := fun r => Blk.cell r.holds 2
    refine wp_region_mix_class (HvS bx #[.int .u8 0, .slice A1 d.length c1, .slice A2 s.length c2, .slice A3 t.length c3, .bool ph, .int .u64 pn, .int .i64 (k : Nat)]) [([0, 1, 2, 3, 4, 7, 8], 5), ([], 6), ([], 9)] [10] (by kernel_rfl) (by kernel_rfl) (by kernel_rfl) (by kernel_rfl) hS10 ?_
    simp only [pickL, List.map_cons, List.map_nil, List.filterMap_cons, List.filterMap_nil, List.getElem?_cons_succ, List.getElem?_cons_zero]
    refine mixS_cons ?_
    repeat (show wpQuiet _ _ _ _ (_ :: _) _; go_big_quiet_step (fail))
    refine wpQuiet_nil ?_
    show wpList _ _ _ [_] _ _
    go_wp2_with fail
    refine MixQ.class (Blk.alloc (Blk.drew HK9.out) _) ?_
    refine mixS_cons ?_
    refine wpQuiet_nil ?_
    show wpList _ _ _ [_] _ _
    go_wp2_with (at_builtin; refine wpList_app (o := ⟨some 71, _, _, _, _, _⟩) (B := bx + 1) elUh rfl _ _ rfl rfl rfl ((H9.out.drew).alloc _) (Rd.newAt (xs := [_]) rfl rfl) rfl ?_ ?_ ?_; ((simp only [List.length_append, List.length_cons, List.length_nil]; omega)); ((simp <;> omega)); intro A10 n10 c10 w10 h10; have H10 := Lib.hid h10.1; have HB10 := Lib.hid (((HB9.out.drew).alloc (by simp; omega) _).trans (h10.2.2.1.mono (by omega))); have HK10 := Lib.hid (Blk.below (Blk.alloc (Blk.drew HK9.out) _) h10.2.2.1 (by omega)); have hz10 : bx < w10.heap.size := by { have := Blk.lt HK10.out; omega }; clear h10)
    refine MixQ.class HK10.out ?_
    refine mixS_cons ?_
    refine wpQuiet_nil ?_
    show wpList _ _ _ [_] _ _
    go_wp2_with (at_builtin; refine wpList_app (o := ⟨some 74, _, _, _, _, _⟩) (B := bx + 1) elUh rfl _ _ rfl rfl rfl (H10.out) (R2.out.below HB10.out (Nat.le_refl _)) rfl ?_ ?_ ?_; ((simp only [List.length_append, List.length_cons, List.length_nil]; omega)); (exact hz10); intro A11 n11 c11 w11 h11; have H11 := Lib.hid h11.1; have HB11 := Lib.hid (HB10.out.trans (h11.2.2.1.mono (by omega))); have HK11 := Lib.hid (Blk.below (HK10.out) h11.2.2.1 (by omega)); have hz11 : bx < w11.heap.size := by { have := Blk.lt HK11.out; omega }; clear h11)
    refine MixQ.class HK11.out ?_
    refine mixS_nil ?_
    repeat (show wpQuiet _ _ _ _ (_ :: _) _; go_big_quiet_step (fail))
    refine wpQuiet_nil ?_
    refine NoPanic.normal ?_
    clear hcl hS10 hne
    obtain ⟨p0, p1, p2, p3, p4, p5, p6⟩ := hv_facts HK11.out
    go_wp2_with fail
    have O11 := Lib.hid (H11.out.alloc (.cells #[.int .u64 (t.length : Nat)] 25))
    have hlen11 := H11.out.len
    refine Calls.mono (by rw [hlen11]; exact vappend_any A11 c11 _ (some ⟨w11.heap.size, 0, none⟩) 1 (t.length : Nat) _ O11.out.rd ((Rd.newAt (xs := [((t.length : Nat) : Int)]) rfl rfl).mono (by simp)) (by omega) (by omega) (by unfold vcls; split <;> (try split) <;> (try split) <;> (try split) <;> omega) (by simp only [List.length_append, List.length_cons, List.length_nil]; omega)) ?_
    rintro e w12 ⟨A12, n12, c12, rfl, ho12, hb12⟩
    have H12 := Lib.hid (ho12.mono (show bx + 1 ≤ _ by simp; omega))
    have HB12 := Lib.hid ((HB11.out.alloc (by omega) _).trans (hb12.mono (by simp; omega)))
    have HK12 := Lib.hid (Blk.below (Blk.alloc HK11.out _) hb12 (by simp; omega))
    have hz12 : bx < w12.heap.size := by have := Blk.lt HK12.out; omega
    clear ho12 hb12 hlen11
    clear p0 p1 p2 p3 p4 p5 p6
    obtain ⟨p0, p1, p2, p3, p4, p5, p6⟩ := hv_facts HK12.out
    go_wp2_with (at_builtin; refine wpList_app (o := ⟨some 91, _, _, _, _, _⟩) (B := bx + 1) elUh rfl _ _ rfl rfl rfl (H12.out) (R3.out.below HB12.out (Nat.le_refl _)) rfl ?_ ?_ ?_; ((simp only [List.length_append, List.length_cons, List.length_nil, vput_len]; (have h1 := HV1.out; have h2 := HV2.out; omega))); (exact hz12); intro A13 n13 c13 w13 h13; have H13 := Lib.hid h13.1; have HB13 := Lib.hid (HB12.out.trans (h13.2.2.1.mono (by omega))); have HK13 := Lib.hid (Blk.below (HK12.out) h13.2.2.1 (by omega)); have hz13 : bx < w13.heap.size := by { have := Blk.lt HK13.out; omega }; clear h13; obtain ⟨p0, p1, p2, p3, p4, p5, p6⟩ := hv_facts HK13.out)
    have O13 := Lib.hid (H13.out.alloc (.cells #[.int .u64 ((k : Int) + n)] 25))
    have hlen13 := H13.out.len
    refine Calls.mono (by rw [hlen13]; exact vappend_any A13 c13 _ (some ⟨w13.heap.size, 0, none⟩) 1 ((k : Int) + n) _ O13.out.rd ((Rd.newAt (xs := [(k : Int) + n]) rfl rfl).mono (by simp)) (by omega) (by omega) (by unfold vcls; split <;> (try split) <;> (try split) <;> (try split) <;> omega) (by simp only [List.length_append, List.length_cons, List.length_nil, vput_len]; (have h1 := HV1.out; have h2 := HV2.out; omega))) ?_
    rintro e w14 ⟨A14, n14, c14, rfl, ho14, hb14⟩
    have H14 := Lib.hid (ho14.mono (show bx + 1 ≤ _ by simp; omega))
    have HB14 := Lib.hid ((HB13.out.alloc (by omega) _).trans (hb14.mono (by simp; omega)))
    have HK14 := Lib.hid (Blk.below (Blk.alloc HK13.out _) hb14 (by simp; omega))
    have hz14 : bx < w14.heap.size := by have := Blk.lt HK14.out; omega
    clear ho14 hb14 hlen13
    clear p0 p1 p2 p3 p4 p5 p6
    obtain ⟨p0, p1, p2, p3, p4, p5, p6⟩ := hv_facts HK14.out
    go_wp2_with fail
    refine (number_any pn k _ (by omega) (by omega) (by omega)).mono ?_
    rintro e w16 ⟨A16, n16, c16, rfl, ho16, hb16⟩
    have H16 := Lib.hid (H14.out.below hb16)
    have HB16 := Lib.hid (HB14.out.trans (hb16.mono (by omega)))
    have hz16 : bx < w16.heap.size := by have := hb16.size; omega
    have R16 := Lib.hid ho16.rd
    have N16 := ho16.len
    rw [beL_len] at N16
    subst N16
    clear ho16 hb16
    go_wp2_with (at_builtin; refine wpList_app (o := ⟨some 109, _, _, _, _, _⟩) (B := bx + 1) elUh rfl _ _ rfl rfl rfl H16.out R16.out (beL_len _ _).symm ?_ ?_ ?_; (rw [beL_len]; simp only [List.length_append, List.length_cons, List.length_nil, vput_len]; (have h1 := HV1.out; have h2 := HV2.out; omega)); exact hz16; intro A17 n17 c17 w17 h17; have H17 := Lib.hid h17.1; have HB17 := Lib.hid (HB16.out.trans (h17.2.2.1.mono (by omega))); clear h17)
    go_ret2
    refine ⟨A17, n17, c17, rfl, ?_, by rw [HBX.out]; exact HB17.out⟩
    rw [HBX.out]
    refine (Own.cast H17.out ?_).mono (by omega)
    rw [HL.out]
    unfold HD.put HD.first HD.rest
    simp
    omega
  · skip
    go_wp2_with (go_at_call 53; refine (types_any _ _).mono ?_; rintro e w4 ⟨rfl, rfl⟩)
    refine (number_any 1 4 _ (by omega) (by omega) (by omega)).mono ?_
    rintro e w6 ⟨A6, n6, c6, rfl, ho6, hb6⟩
    have O0 := Lib.hid ((Own.litAt (e := 5) (k := .u8) (w := w2) (B := bx + 1) (g := w2.heap.size) (n := 1) (cs := #[.int .u8 ((k : Int) + 223)]) (xs := [(k : Int) + 223]) rfl rfl rfl (by omega) (by simp [maxLen])).below hb6)
    have HB6 := Lib.hid ((HB2.out.alloc (by omega) _).trans (hb6.mono (by simp; omega)))
    have HK6 := Lib.hid (Blk.below (Blk.alloc HK2.out _) hb6 (by have := Blk.lt HK2.out; simp; omega))
    have hz6 : bx < w6.heap.size := by have := Blk.lt HK6.out; omega
    have R6 := Lib.hid ho6.rd
    have N6 := ho6.len
    rw [beL_len] at N6
    subst N6
    rw [be14] at R6
    clear ho6 hb6
    clear p0 p1 p2 p3 p4 p5 p6
    go_wp2_with (at_builtin; refine wpList_app (o := ⟨some 54, _, _, _, _, _⟩) (B := bx + 1) elUh rfl _ _ rfl rfl rfl (O0.out) (R6.out) rfl ?_ ?_ ?_; ((simp)); (exact hz6); intro A7 n7 c7 w7 h7; have H7 := Lib.hid h7.1; have HB7 := Lib.hid (HB6.out.trans (h7.2.2.1.mono (by omega))); have HK7 := Lib.hid (Blk.below (HK6.out) h7.2.2.1 (by omega)); have hz7 : bx < w7.heap.size := by { have := Blk.lt HK7.out; omega }; clear h7)
    have hS8 : HvS bx #[.int .u8 1, .slice A1 d.length c1, .slice A2 s.length c2, .slice A3 t.length c3, .bool ph, .int .u64 pn, .int .i64 (k : Nat)] w7.drew := Blk.drew HK7.out
    have hne : Nonempty (CW (HvS bx #[.int .u8 1, .slice A1 d.length c1, .slice A2 s.length c2, .slice A3 t.length c3, .bool ph, .int .u64 pn, .int .i64 (k : Nat)])) := CW.inh hS8
    have hcl : ∀ r : CW (HvS bx #[.int .u8 1, .slice A1 d.length c1, .slice A2 s.length c2, .slice A3 t.length c3, .bool ph, .int .u64 pn, .int .i64 (k : Nat)]), r.world.cell? ⟨bx, 1, none⟩ = some (.slice A1 d.length c1) := fun r => Blk.cell r.holds 1
    refine wp_region_mix_class (HvS bx #[.int .u8 1, .slice A1 d.length c1, .slice A2 s.length c2, .slice A3 t.length c3, .bool ph, .int .u64 pn, .int .i64 (k : Nat)]) [([0, 1, 2, 3, 4, 7, 8], 5), ([], 6), ([], 9)] [10] (by kernel_rfl) (by kernel_rfl) (by kernel_rfl) (by kernel_rfl) hS8 ?_
    simp only [pickL, List.map_cons, List.map_nil, List.filterMap_cons, List.filterMap_nil, List.getElem?_cons_succ, List.getElem?_cons_zero]
    refine mixS_cons ?_
    repeat (show wpQuiet _ _ _ _ (_ :: _) _; go_big_quiet_step (fail))
    refine wpQuiet_nil ?_
    show wpList _ _ _ [_] _ _
    go_wp2_with fail
    refine MixQ.class (Blk.alloc (Blk.drew HK7.out) _) ?_
    refine mixS_cons ?_
    refine wpQuiet_nil ?_
    show wpList _ _ _ [_] _ _
    go_wp2_with (at_builtin; refine wpList_app (o := ⟨some 61, _, _, _, _, _⟩) (B := bx + 1) elUh rfl _ _ rfl rfl rfl ((H7.out.drew).alloc _) (Rd.newAt (xs := [_]) rfl rfl) rfl ?_ ?_ ?_; ((simp only [List.length_append, List.length_cons, List.length_nil]; omega)); ((simp <;> omega)); intro A8 n8 c8 w8 h8; have H8 := Lib.hid h8.1; have HB8 := Lib.hid (((HB7.out.drew).alloc (by simp; omega) _).trans (h8.2.2.1.mono (by omega))); have HK8 := Lib.hid (Blk.below (Blk.alloc (Blk.drew HK7.out) _) h8.2.2.1 (by omega)); have hz8 : bx < w8.heap.size := by { have := Blk.lt HK8.out; omega }; clear h8)
    refine MixQ.class HK8.out ?_
    refine mixS_cons ?_
    refine wpQuiet_nil ?_
    show wpList _ _ _ [_] _ _
    go_wp2_with (at_builtin; refine wpList_app (o := ⟨some 64, _, _, _, _, _⟩) (B := bx + 1) elUh rfl _ _ rfl rfl rfl (H8.out) (R1.out.below HB8.out (Nat.le_refl _)) rfl ?_ ?_ ?_; ((simp only [List.length_append, List.length_cons, List.length_nil]; omega)); (exact hz8); intro A9 n9 c9 w9 h9; have H9 := Lib.hid h9.1; have HB9 := Lib.hid (HB8.out.trans (h9.2.2.1.mono (by omega))); have HK9 := Lib.hid (Blk.below (HK8.out) h9.2.2.1 (by omega)); have hz9 : bx < w9.heap.size := by { have := Blk.lt HK9.out; omega }; clear h9)
    refine MixQ.class HK9.out ?_
    refine mixS_nil ?_
    repeat (show wpQuiet _ _ _ _ (_ :: _) _; go_big_quiet_step (fail))
    refine wpQuiet_nil ?_
    refine NoPanic.normal ?_
    clear hcl hS8 hne
    go_wp2_with fail
    have hS10 : HvS bx #[.int .u8 1, .slice A1 d.length c1, .slice A2 s.length c2, .slice A3 t.length c3, .bool ph, .int .u64 pn, .int .i64 (k : Nat)] w9.drew := Blk.drew HK9.out
    have hne : Nonempty (CW (HvS bx #[.int .u8 1, .slice A1 d.length c1, .slice A2 s.length c2, .slice A3 t.length c3, .bool ph, .int .u64 pn, .int .i64 (k : Nat)])) := CW.inh hS10
    have hcl : ∀ r : CW (HvS bx #[.int .u8 1, .slice A1 d.length c1, .slice A2 s.length c2, .slice A3 t.length c3, .bool ph, .int .u64 pn, .int .i64 (k : Nat)]), r.world.cell? ⟨bx, 2, none⟩ = some (.slice A2 s.length c2) := fun r => Blk.cell r.holds 2
    refine wp_region_mix_class (HvS bx #[.int .u8 1, .slice A1 d.length c1, .slice A2 s.length c2, .slice A3 t.length c3, .bool ph, .int .u64 pn, .int .i64 (k : Nat)]) [([0, 1, 2, 3, 4, 7, 8], 5), ([], 6), ([], 9)] [10] (by kernel_rfl) (by kernel_rfl) (by kernel_rfl) (by kernel_rfl) hS10 ?_
    simp only [pickL, List.map_cons, List.map_nil, List.filterMap_cons, List.filterMap_nil, List.getElem?_cons_succ, List.getElem?_cons_zero]
    refine mixS_cons ?_
    repeat (show wpQuiet _ _ _ _ (_ :: _) _; go_big_quiet_step (fail))
    refine wpQuiet_nil ?_
    show wpList _ _ _ [_] _ _
    go_wp2_with fail
    refine MixQ.class (Blk.alloc (Blk.drew HK9.out) _) ?_
    refine mixS_cons ?_
    refine wpQuiet_nil ?_
    show wpList _ _ _ [_] _ _
    go_wp2_with (at_builtin; refine wpList_app (o := ⟨some 71, _, _, _, _, _⟩) (B := bx + 1) elUh rfl _ _ rfl rfl rfl ((H9.out.drew).alloc _) (Rd.newAt (xs := [_]) rfl rfl) rfl ?_ ?_ ?_; ((simp only [List.length_append, List.length_cons, List.length_nil]; omega)); ((simp <;> omega)); intro A10 n10 c10 w10 h10; have H10 := Lib.hid h10.1; have HB10 := Lib.hid (((HB9.out.drew).alloc (by simp; omega) _).trans (h10.2.2.1.mono (by omega))); have HK10 := Lib.hid (Blk.below (Blk.alloc (Blk.drew HK9.out) _) h10.2.2.1 (by omega)); have hz10 : bx < w10.heap.size := by { have := Blk.lt HK10.out; omega }; clear h10)
    refine MixQ.class HK10.out ?_
    refine mixS_cons ?_
    refine wpQuiet_nil ?_
    show wpList _ _ _ [_] _ _
    go_wp2_with (at_builtin; refine wpList_app (o := ⟨some 74, _, _, _, _, _⟩) (B := bx + 1) elUh rfl _ _ rfl rfl rfl (H10.out) (R2.out.below HB10.out (Nat.le_refl _)) rfl ?_ ?_ ?_; ((simp only [List.length_append, List.length_cons, List.length_nil]; omega)); (exact hz10); intro A11 n11 c11 w11 h11; have H11 := Lib.hid h11.1; have HB11 := Lib.hid (HB10.out.trans (h11.2.2.1.mono (by omega))); have HK11 := Lib.hid (Blk.below (HK10.out) h11.2.2.1 (by omega)); have hz11 : bx < w11.heap.size := by { have := Blk.lt HK11.out; omega }; clear h11)
    refine MixQ.class HK11.out ?_
    refine mixS_nil ?_
    repeat (show wpQuiet _ _ _ _ (_ :: _) _; go_big_quiet_step (fail))
    refine wpQuiet_nil ?_
    refine NoPanic.normal ?_
    clear hcl hS10 hne
    obtain ⟨p0, p1, p2, p3, p4, p5, p6⟩ := hv_facts HK11.out
    go_wp2_with fail
    have O11 := Lib.hid (H11.out.alloc (.cells #[.int .u64 ((k : Int) + n)] 25))
    have hlen11 := H11.out.len
    refine Calls.mono (by rw [hlen11]; exact vappend_any A11 c11 _ (some ⟨w11.heap.size, 0, none⟩) 1 ((k : Int) + n) _ O11.out.rd ((Rd.newAt (xs := [(k : Int) + n]) rfl rfl).mono (by simp)) (by omega) (by omega) (by unfold vcls; split <;> (try split) <;> (try split) <;> (try split) <;> omega) (by simp only [List.length_append, List.length_cons, List.length_nil]; omega)) ?_
    rintro e w12 ⟨A12, n12, c12, rfl, ho12, hb12⟩
    have H12 := Lib.hid (ho12.mono (show bx + 1 ≤ _ by simp; omega))
    have HB12 := Lib.hid ((HB11.out.alloc (by omega) _).trans (hb12.mono (by simp; omega)))
    have HK12 := Lib.hid (Blk.below (Blk.alloc HK11.out _) hb12 (by simp; omega))
    have hz12 : bx < w12.heap.size := by have := Blk.lt HK12.out; omega
    clear ho12 hb12 hlen11
    clear p0 p1 p2 p3 p4 p5 p6
    obtain ⟨p0, p1, p2, p3, p4, p5, p6⟩ := hv_facts HK12.out
    go_wp2_with fail
    refine (number_any pn k _ (by omega) (by omega) (by omega)).mono ?_
    rintro e w16 ⟨A16, n16, c16, rfl, ho16, hb16⟩
    have H16 := Lib.hid (H12.out.below hb16)
    have HB16 := Lib.hid (HB12.out.trans (hb16.mono (by omega)))
    have hz16 : bx < w16.heap.size := by have := hb16.size; omega
    have R16 := Lib.hid ho16.rd
    have N16 := ho16.len
    rw [beL_len] at N16
    subst N16
    clear ho16 hb16
    go_wp2_with (at_builtin; refine wpList_app (o := ⟨some 109, _, _, _, _, _⟩) (B := bx + 1) elUh rfl _ _ rfl rfl rfl H16.out R16.out (beL_len _ _).symm ?_ ?_ ?_; (rw [beL_len]; simp only [List.length_append, List.length_cons, List.length_nil, vput_len]; (have h1 := HV1.out; have h2 := HV2.out; omega)); exact hz16; intro A17 n17 c17 w17 h17; have H17 := Lib.hid h17.1; have HB17 := Lib.hid (HB16.out.trans (h17.2.2.1.mono (by omega))); clear h17)
    go_ret2
    refine ⟨A17, n17, c17, rfl, ?_, by rw [HBX.out]; exact HB17.out⟩
    rw [HBX.out]
    refine (Own.cast H17.out ?_).mono (by omega)
    rw [HL.out]
    unfold HD.put HD.first HD.rest
    simp
    omega
end Go.Proofs.Ythpacdondnenmaa
/- Contract: the law's own known (layer 3). Conditions: as each theorem states them. -/
namespace Go.Proofs.Ythpacdondnenmaa
open Go.RowKit
theorem putA : HD.put ⟨0, [1, 2], [], [], false, 2, 4⟩ 1162 = [195, 0, 0, 0, 1, 2, 1, 2, 0, 0, 68, 142, 0, 0, 0, 2] := by decide
theorem putB : HD.put ⟨2, [5], [], [], true, 258, 1⟩ 9 = [68, 5, 2] := by decide
theorem strA : strOfNums [195, 0, 0, 0, 1, 2, 1, 2, 0, 0, 68, 142, 0, 0, 0, 2] = ⟨#[195, 0, 0, 0, 1, 2, 1, 2, 0, 0, 68, 142, 0, 0, 0, 2]⟩ := by kernel_rfl
theorem strB : strOfNums [68, 5, 2] = ⟨#[68, 5, 2]⟩ := by kernel_rfl
theorem spl1 : splitL ([65] ++ List.replicate 20 0) 1 = none := by kernel_rfl
theorem spl2 : splitL ([65] ++ List.replicate 20 0) 0 = some ⟨2, [], [], [], 1, 21⟩ := by kernel_rfl
theorem spl3 : splitL (List.replicate 31 0) 0 = none := by kernel_rfl
theorem spl4 : splitL ([211, 0, 0, 0, 1] ++ List.replicate 30 0) 0 = none := by kernel_rfl
theorem make31 (W : World) : (Instr.makeSlice 28 (.int .i64 31) (.int .i64 31)).run Try.prog W = .ok (.slice (some ⟨W.heap.size, 0, none⟩) 31 31) (W.alloc (.cells ((List.replicate 31 (0 : Int)).map (Value.int .u8)).toArray 5)) := by kernel_rfl
theorem byt_rep (n : Nat) : Byt (List.replicate n 0) := fun x hx => by rw [(List.mem_replicate.1 hx).2]; decide
theorem byt_short : Byt ([65] ++ List.replicate 20 0) := Byt.append (by intro x hx; simp at hx; omega) (byt_rep 20)
theorem byt_four : Byt ([211, 0, 0, 0, 1] ++ List.replicate 30 0) := Byt.append (by intro x hx; simp at hx; omega) (byt_rep 30)
def LA : List Int := [195, 0, 0, 0, 1, 2, 1, 2, 0, 0, 68, 142, 0, 0, 0, 2]
def LB2 : List Int := [68, 5, 2]
def LS : List Int := [65] ++ List.replicate 20 0
def L31 : List Int := List.replicate 31 0
def LF : List Int := [211, 0, 0, 0, 1] ++ List.replicate 30 0
theorem LA_str : strOfNums LA = ⟨#[195, 0, 0, 0, 1, 2, 1, 2, 0, 0, 68, 142, 0, 0, 0, 2]⟩ := strA
theorem LB_str : strOfNums LB2 = ⟨#[68, 5, 2]⟩ := strB
theorem LS_len : LS.length = 21 := rfl
theorem L31_len : L31.length = 31 := rfl
theorem LF_len : LF.length = 35 := rfl
theorem L31_make (W : World) : (Instr.makeSlice 28 (.int .i64 31) (.int .i64 31)).run Try.prog W = .ok (.slice (some ⟨W.heap.size, 0, none⟩) 31 31) (W.alloc (.cells (L31.map (Value.int .u8)).toArray 5)) := make31 W
attribute [irreducible] LA LB2 LS L31 LF
theorem split_len (A : Option Addr) (n c : Nat) (b : List Int) (own : Int) (w : World) (hr : Rd w.heap.size .u8 w A b) (hby : Byt b) (hn : n = b.length) (hc : n ≤ c) (hl : n ≤ 1000000000000) (ho0 : -9223372036854775808 ≤ own) (ho1 : own ≤ 9223372036854775807) :
    Calls Try.prog 10 #[.slice A n c, .int .i64 own] w (SplitPost b own w) := by
  subst hn; exact split_any A c b own w hr hby hc hl ho0 ho1

end Go.Proofs.Ythpacdondnenmaa
namespace Go.Proofs.Ythpacdondnenmaa
open Go.Joins Go.ChangeShapes Go.WideShapes Go.RowKit Go.Deep
section
variable {H : Type} {enc : TypeId × Value → H} {P : Program} {w : World} {base : Nat} {spare : Nat → Bool} {held : Bool}
theorem open_agg7 {r : Reach} {b0 : Nat} {t : TypeId} {f0 f1 f2 f3 f4 f5 f6 : Field} {v : Value} {d : DataW H} {p : List MemPlace} (hs : P.underlying t = some (.struct #[f0, f1, f2, f3, f4, f5, f6])) (hone : oneCellFields P #[f0, f1, f2, f3, f4, f5, f6] = true) (hC : P.cellsOf t = 7)
    (hv : Value.okWide P w r b0 t v) (h : DataW.Trod enc P w base spare held t v d p) :
    ∃ (v0 v1 v2 v3 v4 v5 v6 : Value) (y0 y1 y2 y3 y4 y5 y6 : DataW H × List MemPlace) (n : Nat), v = .agg #[v0, v1, v2, v3, v4, v5, v6] ∧ d = .agg [y0.1, y1.1, y2.1, y3.1, y4.1, y5.1, y6.1] ∧
      DataW.trod enc P w base spare held n f0.type [v0] = some y0 ∧ DataW.trod enc P w base spare held n f1.type [v1] = some y1 ∧ DataW.trod enc P w base spare held n f2.type [v2] = some y2 ∧ DataW.trod enc P w base spare held n f3.type [v3] = some y3 ∧ DataW.trod enc P w base spare held n f4.type [v4] = some y4 ∧ DataW.trod enc P w base spare held n f5.type [v5] = some y5 ∧ DataW.trod enc P w base spare held n f6.type [v6] = some y6 := by
  obtain ⟨cs, rfl, hsz⟩ := okWide_struct hs hv
  obtain ⟨l⟩ := cs
  match l, hsz.trans hC with
  | [c0, c1, c2, c3, c4, c5, c6], _ =>
    obtain ⟨fuel, hf⟩ := h
    obtain ⟨xs, n, _, hx, _, hlen, hg⟩ := DataW.trod_struct hs hf
    obtain ⟨o0, k0⟩ := hone_of hone 0 f0 rfl
    obtain ⟨o1, k1⟩ := hone_of hone 1 f1 rfl
    obtain ⟨o2, k2⟩ := hone_of hone 2 f2 rfl
    obtain ⟨o3, k3⟩ := hone_of hone 3 f3 rfl
    obtain ⟨o4, k4⟩ := hone_of hone 4 f4 rfl
    obtain ⟨o5, k5⟩ := hone_of hone 5 f5 rfl
    obtain ⟨o6, k6⟩ := hone_of hone 6 f6 rfl
    match xs, hlen with
    | [y0, y1, y2, y3, y4, y5, y6], _ =>
      simp only [Prod.mk.injEq] at hx
      exact ⟨c0, c1, c2, c3, c4, c5, c6, y0, y1, y2, y3, y4, y5, y6, n, rfl, by simpa using hx.1, by simpa [Value.cells, o0, k0] using hg 0 f0 rfl, by simpa [Value.cells, o1, k1] using hg 1 f1 rfl, by simpa [Value.cells, o2, k2] using hg 2 f2 rfl, by simpa [Value.cells, o3, k3] using hg 3 f3 rfl, by simpa [Value.cells, o4, k4] using hg 4 f4 rfl, by simpa [Value.cells, o5, k5] using hg 5 f5 rfl, by simpa [Value.cells, o6, k6] using hg 6 f6 rfl⟩
end
/-- a head that is handed in -/
structure HeadIn (w : World) (v : Value) (h : HD) (A1 : Option Addr) (c1 : Nat) (A2 : Option Addr) (c2 : Nat) (A3 : Option Addr) (c3 : Nat) : Prop where
  val : v = .agg (HV h A1 c1 A2 c2 A3 c3)
  fit : h.Fit
  r1 : Rd w.heap.size .u8 w A1 h.dst
  r2 : Rd w.heap.size .u8 w A2 h.src
  r3 : Rd w.heap.size .u8 w A3 h.tok
  k1 : h.dst.length ≤ c1
  k2 : h.src.length ≤ c2
  k3 : h.tok.length ≤ c3
  l1 : h.dst.length ≤ 140737488351232
  l2 : h.src.length ≤ 140737488351232
  l3 : h.tok.length ≤ 140737488351232
  pb0 : -9223372036854775808 ≤ h.pb
  pb1 : h.pb ≤ 9223372036854775807
set_option maxRecDepth 100000 in
theorem head_open {H : Type} {enc : TypeId × Value → H} {w : World} {base : Nat} {held : Bool} {r : Reach} {b0 : Nat} {v : Value} {d : DataW H} {p : List MemPlace} (hv : Value.okWide Try.prog w r b0 30 v)
    (h : DataW.Trod enc Try.prog w base (fun _ => true) held 30 v d p) (hL : Light Try.prog 30 d) : ∃ hd A1 c1 A2 c2 A3 c3, HeadIn w v hd A1 c1 A2 c2 A3 c3 := by
  obtain ⟨u0, u1, u2, u3, u4, u5, u6, y0, y1, y2, y3, y4, y5, y6, n, rfl, rfl, t0, t1, t2, t3, t4, t5, t6⟩ := open_agg7 Try.underlying30 (by kernel_rfl) (by kernel_rfl) hv h
  obtain ⟨sp, e0, _, w0⟩ := DataW.trod_int Try.underlying5 t0
  obtain ⟨A1, c1, d1, rfl, q1, m1, x1, z1⟩ := rd_of_trod Try.underlying28 Try.underlying5 (by kernel_rfl) (of_decide_eq_true (by kernel_rfl)) t1 (hL.field (j := 1) Try.underlying30 rfl rfl)
  obtain ⟨A2, c2, d2, rfl, q2, m2, x2, z2⟩ := rd_of_trod Try.underlying28 Try.underlying5 (by kernel_rfl) (of_decide_eq_true (by kernel_rfl)) t2 (hL.field (j := 2) Try.underlying30 rfl rfl)
  obtain ⟨A3, c3, d3, rfl, q3, m3, x3, z3⟩ := rd_of_trod Try.underlying28 Try.underlying5 (by kernel_rfl) (of_decide_eq_true (by kernel_rfl)) t3 (hL.field (j := 3) Try.underlying30 rfl rfl)
  obtain ⟨ph, e4, _⟩ := DataW.trod_bool Try.underlying4 t4
  obtain ⟨pn, e5, _, w5⟩ := DataW.trod_int Try.underlying25 t5
  obtain ⟨pb, e6, _, w6⟩ := DataW.trod_int Try.underlying3 t6
  simp only [List.cons.injEq, and_true] at e0 e4 e5 e6
  subst e0
  subst e4
  subst e5
  subst e6
  have b0 := bounds_u8 w0
  have b5 := bounds_u64 w5
  have b6 := bounds_i64 w6
  exact ⟨⟨sp, d1, d2, d3, ph, pn, pb⟩, A1, c1, A2, c2, A3, c3, rfl, ⟨by simp only; omega, by simp only; omega, byt_wf x1, byt_wf x2, byt_wf x3, by simp only; omega, by simp only; omega⟩, q1, q2, q3, m1, m2, m3, z1, z2, z3, by simp only; omega, by simp only; omega⟩
end Go.Proofs.Ythpacdondnenmaa
/- Contracts of the references (layers 1 and 3): low, Size, Bytes, Short. Conditions: as each theorem states them. -/
namespace Go.Proofs.Ythpacdondnenmaa
open Go.RowKit
theorem make8 (k : Nat) (h1 : 1 ≤ k) (h8 : k ≤ 8) (W : World) : (Instr.makeSlice 28 (.int .i64 (k : Nat)) (.int .i64 (k : Nat))).run Try.prog W = .ok (.slice (some ⟨W.heap.size, 0, none⟩) k k) (W.alloc (.cells ((List.replicate k (0 : Int)).map (Value.int .u8)).toArray 5)) := by
  rcases (show k = 1 ∨ k = 2 ∨ k = 3 ∨ k = 4 ∨ k = 5 ∨ k = 6 ∨ k = 7 ∨ k = 8 by omega) with rfl | rfl | rfl | rfl | rfl | rfl | rfl | rfl <;> kernel_rfl
set_option maxRecDepth 100000 in
set_option maxHeartbeats 2000000 in
theorem low_any (n : Int) (k : Nat) (w : World) (h0 : 0 ≤ n) (h1 : n < 18446744073709551616) (hk1 : 1 ≤ k) (hk : k ≤ 8) : Calls Try.prog 59 #[.int .u64 n, .int .i64 (k : Nat)] w (RetOwn 5 .u8 (beL n k) w) := by
  have mk := make8 k hk1 hk
  go_enter Try.func59, Try.ntmps59
  go_wp2_with fail
  clear mk
  go_loopw [0, 6] (fun nv i wr => ∃ (r : Nat) (x m : Int), r ≤ k ∧ i = .int .i64 x ∧ x = (r : Int) - 1 ∧ nv = .int .u64 m ∧ 0 ≤ m ∧ m < 18446744073709551616 ∧ Hid (m = n / 256 ^ (k - r)) ∧ Hid (Own w.heap.size 5 .u8 wr (some ⟨w.heap.size, 0, none⟩) k k (List.replicate r 0 ++ beL n (k - r))) ∧ Hid (Below w.heap.size w wr)) (fun _ i _ => (intOf i + 1).toNat)
  case atStart => exact ⟨k, k - 1, n, by omega, rfl, rfl, rfl, h0, h1, Lib.hid (by rw [Nat.sub_self]; simp), Lib.hid (Own.cast (Own.litAt (xs := List.replicate k 0) rfl (by simp) (by simp) (Nat.le_refl _) (by simp [maxLen]; omega)) (by rw [Nat.sub_self]; simp [beL])), Lib.hid ((Below.refl _ _).alloc (Nat.le_refl _) _)⟩
  case round =>
    obtain ⟨r, x, m, hr, rfl, hx, rfl, hm0, hm1, HM, HO, HB⟩ := hrel
    cases r with
    | zero =>
      obtain rfl : x = -1 := by omega
      clear hx
      have HOE : Hid (Own w.heap.size 5 .u8 wr (some ⟨w.heap.size, 0, none⟩) k k (beL n k)) := Lib.hid (Own.cast HO.out (by simp))
      clear HO HM
      go_wp2_with fail
      go_ret
      exact ⟨_, _, _, rfl, HOE.out, HB.out⟩
    | succ r =>
      obtain rfl : x = (r : Int) := by omega
      clear hx
      have HN : Hid (List.replicate (r + 1) 0 ++ beL n (k - (r + 1)) = List.replicate r 0 ++ 0 :: beL n (k - (r + 1))) := Lib.hid (by rw [List.replicate_succ']; simp)
      rw [HN.out] at HO
      have hkr : Hid (k - r = (k - (r + 1)) + 1) := Lib.hid (by omega)
      have d0 := HO.out.cell0 (i := r) (by simp)
      have f0 := HO.out.frozen r
      have hget : (List.replicate r 0 ++ 0 :: beL n (k - (r + 1))).getD r 0 = 0 := by
        have := getD_mid (List.replicate r 0) (beL n (k - (r + 1))) 0
        rwa [List.length_replicate] at this
      rw [hget] at d0
      have d1 := d0
      have f1 := f0
      rw [← add_zero_addr2] at d1 f1
      clear hget
      have hset : ∀ y, (List.replicate r 0 ++ 0 :: beL n (k - (r + 1))).set r y = List.replicate r 0 ++ y :: beL n (k - (r + 1)) := fun y => by
        have := set_mid (List.replicate r 0) (beL n (k - (r + 1))) 0 y
        rwa [List.length_replicate] at this
      have HSET := Lib.hid hset
      clear hset
      have hm2 : 0 ≤ m / 256 ∧ m / 256 < 18446744073709551616 := by omega
      obtain ⟨hm2, hm3⟩ := hm2
      have HDIV : Hid (m / 256 = n / 256 ^ (k - r)) := Lib.hid (by rw [HM.out, hkr.out, Int.pow_succ, Int.ediv_ediv_of_nonneg (Int.le_of_lt (pow_pos256 _))])
      go_wp2_with fail
      go_roundw
      case rel => exact ⟨r, _, _, by omega, rfl, by omega, rfl, hm2, hm3, HDIV, Lib.hid (Own.cast (HO.out.set_ r _) (by rw [HSET.out, HM.out, hkr.out]; rfl)), Lib.hid (HB.out.setCell (by simp) _)⟩
      case measure => simp [intOf]

theorem size_any (n : Int) (w : World) (hc : vcls n < 4) : Calls Try.prog 84 #[.int .u64 n] w fun e w' => e = .returned (.int .i64 ((2 ^ vcls n : Nat) : Int)) ∧ w = w' := by
  have hg := vcls_gt n
  generalize vcls n = v at *
  obtain ⟨g0, g1, g2, g3⟩ := hg
  rcases (show v = 0 ∨ v = 1 ∨ v = 2 ∨ v = 3 by omega) with rfl | rfl | rfl | rfl
  · have h : n < 64 := by omega
    clear g0 g1 g2 g3
    go_enter Try.func84, Try.ntmps84
    go_wp2_with fail
    go_ret
    exact ⟨rfl, rfl⟩
  · have h : decide (n < 64) = false := by simp; omega
    have h' : n < 16384 := by omega
    clear g0 g1 g2 g3
    go_enter Try.func84, Try.ntmps84
    go_wp2_with fail
    go_ret
    exact ⟨rfl, rfl⟩
  · have h : decide (n < 64) = false := by simp; omega
    have h2 : decide (n < 16384) = false := by simp; omega
    have h' : n < 1073741824 := by omega
    clear g0 g1 g2 g3
    go_enter Try.func84, Try.ntmps84
    go_wp2_with fail
    go_ret
    exact ⟨rfl, rfl⟩
  · have h : decide (n < 64) = false := by simp; omega
    have h2 : decide (n < 16384) = false := by simp; omega
    have h3 : decide (n < 1073741824) = false := by simp; omega
    have h' : n < 4611686018427387904 := by omega
    clear g0 g1 g2 g3
    go_enter Try.func84, Try.ntmps84
    go_wp2_with fail
    go_ret
    exact ⟨rfl, rfl⟩
set_option maxRecDepth 100000 in
set_option maxHeartbeats 4000000 in
theorem bytes_any (n : Int) (w : World) (h0 : 0 ≤ n) (h1 : n < 18446744073709551616) (hc : vcls n < 4) : Calls Try.prog 85 #[.int .u64 n, .int .i64 ((2 ^ vcls n : Nat) : Int)] w (RetOwn 5 .u8 (vput n) w) := by
  have ht := vtop h0 hc
  have hq4 : (vcls n = 0 ∧ (2 : Nat) ^ vcls n = 1) ∨ (vcls n = 1 ∧ (2 : Nat) ^ vcls n = 2) ∨ (vcls n = 2 ∧ (2 : Nat) ^ vcls n = 4) ∨ (vcls n = 3 ∧ (2 : Nat) ^ vcls n = 8) := by
    rcases (show vcls n = 0 ∨ vcls n = 1 ∨ vcls n = 2 ∨ vcls n = 3 by omega) with h | h | h | h <;> rw [h] <;> simp
  have hbe : beL n (2 ^ vcls n) = (n / 256 ^ (2 ^ vcls n - 1) % 256) :: beL n (2 ^ vcls n - 1) := by
    have e : 2 ^ vcls n = (2 ^ vcls n - 1) + 1 := by omega
    rw [e]; rfl
  have hV2 : vput n = (n / 256 ^ (2 ^ vcls n - 1) % 256 + 64 * (vcls n : Int)) :: beL n (2 ^ vcls n - 1) := rfl
  have ht0 : 0 ≤ n / 256 ^ (2 ^ vcls n - 1) % 256 ∧ n / 256 ^ (2 ^ vcls n - 1) % 256 < 64 := by
    have := Int.ediv_nonneg h0 (Int.le_of_lt (pow_pos256 (2 ^ vcls n - 1)))
    omega
  generalize hvn : vput n = V at *
  generalize n / 256 ^ (2 ^ vcls n - 1) % 256 = t at *
  generalize (2 : Nat) ^ vcls n = k at *
  generalize vcls n = c at *
  have HV2 := Lib.hid hV2
  have HBE := Lib.hid hbe
  have HQ := Lib.hid hq4
  have hk18 : 1 ≤ k ∧ k ≤ 8 := by omega
  obtain ⟨hk1, hk⟩ := hk18
  obtain ⟨ht0, ht1⟩ := ht0
  clear hV2 hbe hvn ht hq4
  have mk := make8 k hk1 hk
  go_enter Try.func85, Try.ntmps85
  go_wp2_with fail
  clear mk
  go_loopw [0, 6] (fun nv i wr => ∃ (r : Nat) (x m : Int), r ≤ k ∧ i = .int .i64 x ∧ x = (r : Int) - 1 ∧ nv = .int .u64 m ∧ 0 ≤ m ∧ m < 18446744073709551616 ∧ Hid (m = n / 256 ^ (k - r)) ∧ Hid (Own w.heap.size 5 .u8 wr (some ⟨w.heap.size, 0, none⟩) k k (List.replicate r 0 ++ beL n (k - r))) ∧ Hid (Below w.heap.size w wr)) (fun _ i _ => (intOf i + 1).toNat)
  case atStart => exact ⟨k, k - 1, n, by omega, rfl, rfl, rfl, h0, h1, Lib.hid (by rw [Nat.sub_self]; simp), Lib.hid (Own.cast (Own.litAt (xs := List.replicate k 0) rfl (by simp) (by simp) (Nat.le_refl _) (by simp [maxLen]; omega)) (by rw [Nat.sub_self]; simp [beL])), Lib.hid ((Below.refl _ _).alloc (Nat.le_refl _) _)⟩
  case round =>
    obtain ⟨r, x, m, hr, rfl, hx, rfl, hm0, hm1, HM, HO, HB⟩ := hrel
    cases r with
    | zero =>
      obtain rfl : x = -1 := by omega
      clear hx
      have HOE : Hid (Own w.heap.size 5 .u8 wr (some ⟨w.heap.size, 0, none⟩) k k (beL n k)) := Lib.hid (Own.cast HO.out (by simp))
      clear HO HM
      rw [HBE.out] at HOE
      go_wp2_with fail
      have hzz : w.heap.size < wr.heap.size := (HOE.out.block _ rfl).2
      go_loop [7, 8] (fun cv kv => ∃ j : Nat, j ≤ c ∧ cv = .int .i64 (j : Nat) ∧ kv = .int .i64 ((2 ^ j : Nat) : Int)) (fun cv _ => 4 - (intOf cv).toNat)
      case atStart => exact ⟨0, by omega, rfl, rfl⟩
      case round =>
        obtain ⟨j, hj, rfl, rfl⟩ := hrel
        have HT : Hid (∀ v : Int, v = t + 64 * (c : Int) → Own w.heap.size 5 .u8 (wr.setCell ⟨w.heap.size, 0, none⟩ (.int .u8 v)) (some ⟨w.heap.size, 0, none⟩) k k V) := Lib.hid (fun v hv => Own.cast (HOE.out.set_ 0 _) (by rw [HV2.out, hv]; rfl))
        have HBE2 : Hid (∀ v : Int, Below w.heap.size w (wr.setCell ⟨w.heap.size, 0, none⟩ (.int .u8 v))) := Lib.hid (fun v => HB.out.setCell (by simp) _)
        have d0 := HOE.out.cell0 (i := 0) (by simp)
        have f0 := HOE.out.frozen 0
        rw [List.getD_cons_zero] at d0
        have hq := HQ.out
        rcases hq with ⟨rfl, rfl⟩ | ⟨rfl, rfl⟩ | ⟨rfl, rfl⟩ | ⟨rfl, rfl⟩
        · rcases (show j = 0 by omega) with rfl
          · go_wp2_with fail
            go_ret
            exact ⟨_, _, _, rfl, HT.out _ (by omega), HBE2.out _⟩
        · rcases (show j = 0 ∨ j = 1 by omega) with rfl | rfl
          · go_wp2_with fail
            go_round
            case rel => exact ⟨1, by omega, rfl, rfl⟩
            case measure => simp [intOf]
          · go_wp2_with fail
            go_ret
            exact ⟨_, _, _, rfl, HT.out _ (by omega), HBE2.out _⟩
        · rcases (show j = 0 ∨ j = 1 ∨ j = 2 by omega) with rfl | rfl | rfl
          · go_wp2_with fail
            go_round
            case rel => exact ⟨1, by omega, rfl, rfl⟩
            case measure => simp [intOf]
          · go_wp2_with fail
            go_round
            case rel => exact ⟨2, by omega, rfl, rfl⟩
            case measure => simp [intOf]
          · go_wp2_with fail
            go_ret
            exact ⟨_, _, _, rfl, HT.out _ (by omega), HBE2.out _⟩
        · rcases (show j = 0 ∨ j = 1 ∨ j = 2 ∨ j = 3 by omega) with rfl | rfl | rfl | rfl
          · go_wp2_with fail
            go_round
            case rel => exact ⟨1, by omega, rfl, rfl⟩
            case measure => simp [intOf]
          · go_wp2_with fail
            go_round
            case rel => exact ⟨2, by omega, rfl, rfl⟩
            case measure => simp [intOf]
          · go_wp2_with fail
            go_round
            case rel => exact ⟨3, by omega, rfl, rfl⟩
            case measure => simp [intOf]
          · go_wp2_with fail
            go_ret
            exact ⟨_, _, _, rfl, HT.out _ (by omega), HBE2.out _⟩
    | succ r =>
      obtain rfl : x = (r : Int) := by omega
      clear hx
      have HN : Hid (List.replicate (r + 1) 0 ++ beL n (k - (r + 1)) = List.replicate r 0 ++ 0 :: beL n (k - (r + 1))) := Lib.hid (by rw [List.replicate_succ']; simp)
      rw [HN.out] at HO
      have hkr : Hid (k - r = (k - (r + 1)) + 1) := Lib.hid (by omega)
      have d0 := HO.out.cell0 (i := r) (by simp)
      have f0 := HO.out.frozen r
      have hget : (List.replicate r 0 ++ 0 :: beL n (k - (r + 1))).getD r 0 = 0 := by
        have := getD_mid (List.replicate r 0) (beL n (k - (r + 1))) 0
        rwa [List.length_replicate] at this
      rw [hget] at d0
      have d1 := d0
      have f1 := f0
      rw [← add_zero_addr2] at d1 f1
      clear hget
      have hset : ∀ y, (List.replicate r 0 ++ 0 :: beL n (k - (r + 1))).set r y = List.replicate r 0 ++ y :: beL n (k - (r + 1)) := fun y => by
        have := set_mid (List.replicate r 0) (beL n (k - (r + 1))) 0 y
        rwa [List.length_replicate] at this
      have HSET := Lib.hid hset
      clear hset
      have hm2 : 0 ≤ m / 256 ∧ m / 256 < 18446744073709551616 := by omega
      obtain ⟨hm2, hm3⟩ := hm2
      have HDIV : Hid (m / 256 = n / 256 ^ (k - r)) := Lib.hid (by rw [HM.out, hkr.out, Int.pow_succ, Int.ediv_ediv_of_nonneg (Int.le_of_lt (pow_pos256 _))])
      go_wp2_with fail
      go_roundw
      case rel => exact ⟨r, _, _, by omega, rfl, by omega, rfl, hm2, hm3, HDIV, Lib.hid (Own.cast (HO.out.set_ r _) (by rw [HSET.out, HM.out, hkr.out]; rfl)), Lib.hid (HB.out.setCell (by simp) _)⟩
      case measure => simp [intOf]

theorem short_any (n : Int) (w : World) (h0 : 0 ≤ n) (h1 : n < 18446744073709551616) (hc : vcls n < 4) : Calls Try.prog 60 #[.int .u64 n] w (RetOwn 5 .u8 (vput n) w) := by
  have HS := Lib.hid (fun w => size_any n w hc)
  have HBY := Lib.hid (fun w => bytes_any n w h0 h1 hc)
  have hp := Nat.two_pow_pos (vcls n)
  generalize (2 : Nat) ^ vcls n = k at *
  have hk : decide ((k : Int) = 0) = false := by simp; omega
  go_enter Try.func60, Try.ntmps60
  go_wp2_with fail
  refine (HS.out _).mono ?_
  rintro e w' ⟨rfl, rfl⟩
  go_wp2_with fail
  refine (HBY.out _).mono ?_
  rintro e w' ⟨A, m, c, rfl, ho, hb⟩
  have HO := Lib.hid ho
  have HB := Lib.hid hb
  clear ho hb
  go_wp2_with fail
  go_ret
  exact ⟨A, m, c, rfl, HO.out, HB.out⟩
end Go.Proofs.Ythpacdondnenmaa
/- Contracts of the references (layer 3): May, Put. Conditions: as each theorem states them. -/
namespace Go.Proofs.Ythpacdondnenmaa
open Go.RowKit
set_option maxRecDepth 100000 in
set_option maxHeartbeats 4000000 in
theorem rmay_any (h : HD) (A1 : Option Addr) (c1 : Nat) (A2 : Option Addr) (c2 : Nat) (A3 : Option Addr) (c3 : Nat) (w : World) (hf : h.Fit) :
    Calls Try.prog 29 #[.agg (HV h A1 c1 A2 c2 A3 c3)] w fun e w' => e = .returned (.bool (decide h.May)) ∧ Below w.heap.size w w' := by
  rw [may_eq]
  unfold HV
  obtain ⟨f1, f2, _, _, _, f6, f7⟩ := hf
  obtain ⟨sp, d, s, t, ph, pn, pb⟩ := h
  simp only at *
  generalize d.length = dl at *
  generalize s.length = sl at *
  generalize t.length = tl at *
  obtain ⟨R, hR⟩ : ∃ R, (decide (sp ≤ 2) && decide (dl ≤ 20) && decide (sl ≤ 20) && decide (1 ≤ pb) && decide (pb ≤ 4) && decide (pn ≤ 4611686018427387903) && (decide (sp = 0) || decide (tl = 0)) && (if sp = 2 then decide (sl = 0) else !ph)) = R := ⟨_, rfl⟩
  rw [hR]
  have HR := Lib.hid hR
  clear hR
  have fin : ∀ (b : Bool) (w' : World), b = R → Below w.heap.size w w' → Ending.returned (.bool b) = .returned (.bool R) ∧ Below w.heap.size w w' := fun b w' h1 h2 => ⟨by rw [h1], h2⟩
  have FIN := Lib.hid fin
  clear fin
  by_cases g0 : sp ≤ 2
  case neg =>
    have HE : Hid (R = false) := Lib.hid (by rw [← HR.out, show decide (sp ≤ 2) = false by simp; omega]; simp)
    have g0' : decide (sp ≤ 2) = false := by simp; omega
    go_enter Try.func29, Try.ntmps29
    go_wp2_with fail
    all_goals
      go_ret
      exact FIN.out _ _ (HE.out.symm) ((Below.refl _ _).alloc (Nat.le_refl _) _)
  by_cases g1 : (dl : Int) ≤ 20
  case neg =>
    have HE : Hid (R = false) := Lib.hid (by rw [← HR.out, show decide (dl ≤ 20) = false by simp; omega]; simp)
    have g1' : decide ((dl : Int) ≤ 20) = false := by simp; omega
    go_enter Try.func29, Try.ntmps29
    go_wp2_with fail
    all_goals
      go_ret
      exact FIN.out _ _ (HE.out.symm) ((Below.refl _ _).alloc (Nat.le_refl _) _)
  by_cases g2 : (sl : Int) ≤ 20
  case neg =>
    have HE : Hid (R = false) := Lib.hid (by rw [← HR.out, show decide (sl ≤ 20) = false by simp; omega]; simp)
    have g2' : decide ((sl : Int) ≤ 20) = false := by simp; omega
    go_enter Try.func29, Try.ntmps29
    go_wp2_with fail
    all_goals
      go_ret
      exact FIN.out _ _ (HE.out.symm) ((Below.refl _ _).alloc (Nat.le_refl _) _)
  by_cases g3 : 1 ≤ pb
  case neg =>
    have HE : Hid (R = false) := Lib.hid (by rw [← HR.out, show decide (1 ≤ pb) = false by simp; omega]; simp)
    have g3' : decide (1 ≤ pb) = false := by simp; omega
    go_enter Try.func29, Try.ntmps29
    go_wp2_with fail
    all_goals
      go_ret
      exact FIN.out _ _ (HE.out.symm) ((Below.refl _ _).alloc (Nat.le_refl _) _)
  by_cases g4 : pb ≤ 4
  case neg =>
    have HE : Hid (R = false) := Lib.hid (by rw [← HR.out, show decide (pb ≤ 4) = false by simp; omega]; simp)
    have g4' : decide (pb ≤ 4) = false := by simp; omega
    go_enter Try.func29, Try.ntmps29
    go_wp2_with fail
    all_goals
      go_ret
      exact FIN.out _ _ (HE.out.symm) ((Below.refl _ _).alloc (Nat.le_refl _) _)
  by_cases g5 : pn ≤ 4611686018427387903
  case neg =>
    have HE : Hid (R = false) := Lib.hid (by rw [← HR.out, show decide (pn ≤ 4611686018427387903) = false by simp; omega]; simp)
    have g5' : decide (pn ≤ 4611686018427387903) = false := by simp; omega
    go_enter Try.func29, Try.ntmps29
    go_wp2_with fail
    all_goals
      go_ret
      exact FIN.out _ _ (HE.out.symm) ((Below.refl _ _).alloc (Nat.le_refl _) _)
  by_cases g7 : sp = 2
  · have HE : Hid (R = (decide (tl = 0) && decide (sl = 0))) := Lib.hid (by rw [← HR.out, if_pos g7, show decide (sp = 0) = false by simp; omega, Bool.eq_iff_iff]; simp; omega)
    subst g7
    by_cases g8 : sl = 0
    · subst g8
      by_cases g9 : tl = 0
      · subst g9
        go_enter Try.func29, Try.ntmps29
        go_wp2_with fail
        all_goals
          go_ret
          exact FIN.out _ _ (by rw [HE.out]; rfl) ((Below.refl _ _).alloc (Nat.le_refl _) _)
      · have g9' : decide ((tl : Int) = 0) = false := by simp; omega
        go_enter Try.func29, Try.ntmps29
        go_wp2_with fail
        all_goals
          go_ret
          exact FIN.out _ _ (by rw [HE.out, show decide (tl = 0) = false by simp [g9]]; first | rfl | (rw [beq_eq_false_iff_ne]; omega) | (simp; omega)) ((Below.refl _ _).alloc (Nat.le_refl _) _)
    · have g8' : decide ((sl : Int) = 0) = false := by simp; omega
      go_enter Try.func29, Try.ntmps29
      go_wp2_with fail
      all_goals
        go_ret
        exact FIN.out _ _ (by rw [HE.out, show decide (sl = 0) = false by simp [g8]]; simp; done) ((Below.refl _ _).alloc (Nat.le_refl _) _)
  · have g7' : decide (sp = 2) = false := by simp [g7]
    have HE : Hid (R = (!ph && (decide (sp = 0) || decide (tl = 0)))) := Lib.hid (by rw [← HR.out, if_neg g7, Bool.eq_iff_iff]; cases ph <;> simp <;> omega)
    cases ph with
    | true =>
      go_enter Try.func29, Try.ntmps29
      go_wp2_with fail
      all_goals
        go_ret
        exact FIN.out _ _ (by rw [HE.out]; rfl) ((Below.refl _ _).alloc (Nat.le_refl _) _)
    | false =>
      by_cases g8 : sp = 0
      · subst g8
        go_enter Try.func29, Try.ntmps29
        go_wp2_with fail
        all_goals
          go_ret
          exact FIN.out _ _ (by rw [HE.out]; rfl) ((Below.refl _ _).alloc (Nat.le_refl _) _)
      · have g8' : decide (sp = 0) = false := by simp [g8]
        by_cases g9 : tl = 0
        · subst g9
          go_enter Try.func29, Try.ntmps29
          go_wp2_with fail
          all_goals
            go_ret
            exact FIN.out _ _ (by rw [HE.out]; simp) ((Below.refl _ _).alloc (Nat.le_refl _) _)
        · have g9' : decide ((tl : Int) = 0) = false := by simp; omega
          go_enter Try.func29, Try.ntmps29
          go_wp2_with fail
          all_goals
            go_ret
            exact FIN.out _ _ (by rw [HE.out, show decide (tl = 0) = false by simp [g9], show decide (sp = 0) = false by simp [g8]]; first | rfl | (simp; done) | (simp; omega)) ((Below.refl _ _).alloc (Nat.le_refl _) _)
end Go.Proofs.Ythpacdondnenmaa
/- Contract of the reference (layer 3): Put. Conditions: as each theorem states them. -/
namespace Go.Proofs.Ythpacdondnenmaa
open Go.RowKit
set_option maxRecDepth 100000 in
set_option maxHeartbeats 6000000 in
theorem rput_yes (h : HD) (A1 : Option Addr) (c1 : Nat) (A2 : Option Addr) (c2 : Nat) (A3 : Option Addr) (c3 : Nat) (n : Int) (w : World) (hf : h.Fit) (hm : h.May) (hn0 : 0 ≤ n) (hn1 : n ≤ 65536)
    (r1 : Rd w.heap.size .u8 w A1 h.dst) (r2 : Rd w.heap.size .u8 w A2 h.src) (r3 : Rd w.heap.size .u8 w A3 h.tok) (htok : h.tok.length ≤ 100000000000) :
    Calls Try.prog 30 #[.agg (HV h A1 c1 A2 c2 A3 c3), .int .i64 n] w (RetOwn 5 .u8 (h.put n) w) := by
  obtain ⟨L, hL⟩ : ∃ L, L = h.put n := ⟨_, rfl⟩
  rw [← hL]
  unfold HV at *
  obtain ⟨sp, d, s, t, ph, pn, pb⟩ := h
  obtain ⟨f1, f2, f3, f4, f5, f6, f7⟩ := hf
  obtain ⟨m1, m2, m3, m4, m5, m6, m7, m8, m9⟩ := hm
  simp only at *
  obtain ⟨k, rfl⟩ := Int.eq_ofNat_of_zero_le (show 0 ≤ pb by omega)
  have HL := Lib.hid hL
  have R1 := Lib.hid r1
  have R2 := Lib.hid r2
  have R3 := Lib.hid r3
  have M7 := Lib.hid m7
  have M8 := Lib.hid m8
  have M9 := Lib.hid m9
  have hk1 : 1 ≤ k := by omega
  have hk4 : k ≤ 4 := by omega
  have ht12 : t.length ≤ 100000000000 := htok
  clear hL r1 r2 r3 m7 m8 m9 f3 f4 f5
  generalize hbx : w.heap.size = bx at *
  have HBX := Lib.hid hbx
  have HK0 : Hid (Blk (w.alloc (.cells #[.int .u8 sp, .slice A1 d.length c1, .slice A2 s.length c2, .slice A3 t.length c3, .bool ph, .int .u64 pn, .int .i64 (k : Nat)] 30)) bx 30 #[.int .u8 sp, .slice A1 d.length c1, .slice A2 s.length c2, .slice A3 t.length c3, .bool ph, .int .u64 pn, .int .i64 (k : Nat)]) := Lib.hid (by rw [← hbx]; exact Blk.new _ _ _)
  have hsz0 : (w.alloc (.cells #[.int .u8 sp, .slice A1 d.length c1, .slice A2 s.length c2, .slice A3 t.length c3, .bool ph, .int .u64 pn, .int .i64 (k : Nat)] 30)).heap.size = bx + 1 := by simp [hbx]
  have HSZ0 := Lib.hid hsz0
  have HB0 : Hid (Below bx w (w.alloc (.cells #[.int .u8 sp, .slice A1 d.length c1, .slice A2 s.length c2, .slice A3 t.length c3, .bool ph, .int .u64 pn, .int .i64 (k : Nat)] 30))) := Lib.hid ((Below.refl bx w).alloc (by omega) _)
  clear hsz0 hbx
  obtain ⟨wz, hwz⟩ : ∃ x : World, x = w.alloc (.cells #[.int .u8 sp, .slice A1 d.length c1, .slice A2 s.length c2, .slice A3 t.length c3, .bool ph, .int .u64 pn, .int .i64 (k : Nat)] 30) := ⟨_, rfl⟩
  rw [← hwz] at HK0 HSZ0 HB0
  have HWZ := Lib.hid hwz
  clear hwz
  have hz2 : bx < wz.heap.size := by rw [HSZ0.out]; omega
  have hvb1 := vlen8 (t.length : Nat) (by unfold vcls; split <;> (try split) <;> (try split) <;> (try split) <;> omega)
  have hvb2 := vlen8 ((k : Int) + n) (by unfold vcls; split <;> (try split) <;> (try split) <;> (try split) <;> omega)
  have HV1 := Lib.hid hvb1
  have HV2 := Lib.hid hvb2
  clear hvb1 hvb2
  have HK0' := Lib.hid (show Blk (w.alloc (.cells #[.int .u8 sp, .slice A1 d.length c1, .slice A2 s.length c2, .slice A3 t.length c3, .bool ph, .int .u64 pn, .int .i64 (k : Nat)] 30)) bx 30 _ by rw [← HWZ.out]; exact HK0.out)
  by_cases hs : sp = 2
  · subst hs
    cases ph with
    | false =>
      go_enter Try.func30, Try.ntmps30
      go_wp2_with fail
      rw [HBX.out, ← HWZ.out]
      have hS8 : HvS bx #[.int .u8 2, .slice A1 d.length c1, .slice A2 s.length c2, .slice A3 t.length c3, .bool false, .int .u64 pn, .int .i64 (k : Nat)] wz.drew := Blk.drew HK0.out
      have hne : Nonempty (CW (HvS bx #[.int .u8 2, .slice A1 d.length c1, .slice A2 s.length c2, .slice A3 t.length c3, .bool false, .int .u64 pn, .int .i64 (k : Nat)])) := CW.inh hS8
      have hc1 := fun r : CW (HvS bx #[.int .u8 2, .slice A1 d.length c1, .slice A2 s.length c2, .slice A3 t.length c3, .bool false, .int .u64 pn, .int .i64 (k : Nat)]) => Blk.cell r.holds 1
      have hc5 := fun r : CW (HvS bx #[.int .u8 2, .slice A1 d.length c1, .slice A2 s.length c2, .slice A3 t.length c3, .bool false, .int .u64 pn, .int .i64 (k : Nat)]) => Blk.cell r.holds 5
      have hc6 := fun r : CW (HvS bx #[.int .u8 2, .slice A1 d.length c1, .slice A2 s.length c2, .slice A3 t.length c3, .bool false, .int .u64 pn, .int .i64 (k : Nat)]) => Blk.cell r.holds 6
      simp only [List.getElem?_toArray, List.getElem?_cons_succ, List.getElem?_cons_zero] at hc1 hc5 hc6
      refine wp_region_mix_class (HvS bx #[.int .u8 2, .slice A1 d.length c1, .slice A2 s.length c2, .slice A3 t.length c3, .bool false, .int .u64 pn, .int .i64 (k : Nat)]) [([0, 2, 3, 5, 6, 7, 8], 1), ([], 4), ([], 9), ([], 10)] [11] (by kernel_rfl) (by kernel_rfl) (by kernel_rfl) (by kernel_rfl) hS8 ?_
      simp only [pickL, List.map_cons, List.map_nil, List.filterMap_cons, List.filterMap_nil, List.getElem?_cons_succ, List.getElem?_cons_zero]
      refine mixS_cons ?_
      repeat (show wpQuiet _ _ _ _ (_ :: _) _; go_big_quiet_step (fail))
      refine wpQuiet_nil ?_
      show wpList _ _ _ [_] _ _
      go_wp2_with fail
      refine MixQ.class (Blk.alloc (Blk.drew HK0.out) _) ?_
      refine mixS_cons ?_
      refine wpQuiet_nil ?_
      show wpList _ _ _ [_] _ _
      go_wp2_with (at_builtin; refine wpList_app (o := ⟨some 24, _, _, _, _, _⟩) (B := bx + 1) elUh rfl _ _ rfl rfl rfl (Own.litAt (xs := [_]) rfl rfl rfl (by first | omega | (simp; omega)) (by simp [maxLen])) (R1.out.below ((HB0.out.drew).alloc (by first | omega | (simp; omega)) _) (Nat.le_refl _)) rfl ?_ ?_ ?_; ((simp <;> omega)); ((simp <;> omega)); intro A5 n5 c5 w5 h5; have H5 := Lib.hid h5.1; have HB5 := Lib.hid (((HB0.out.drew).alloc (by first | omega | (simp; omega)) _).trans (h5.2.2.1.mono (by omega))); have HK5 := Lib.hid (Blk.below (Blk.alloc (Blk.drew HK0.out) _) h5.2.2.1 (by omega)); have hz5 : bx < w5.heap.size := by { have := Blk.lt HK5.out; omega }; clear h5)
      refine MixQ.class HK5.out ?_
      refine mixS_cons ?_
      refine wpQuiet_nil ?_
      show wpList _ _ _ [_] _ _
      go_wp2_with fail
      refine Calls.mono (low_any pn k _ (by omega) (by omega) (by omega) (by omega)) ?_
      rintro e w6 ⟨A6, n6, c6, rfl, ho6, hb6⟩
      have H5' := Lib.hid (H5.out.below hb6)
      have HB6 := Lib.hid (HB5.out.trans (hb6.mono (by omega)))
      have HK6 := Lib.hid (Blk.below HK5.out hb6 (Blk.lt HK5.out))
      have hz6 : bx < w6.heap.size := by have := hb6.size; omega
      have R6 := Lib.hid ho6.rd
      have N6 := ho6.len
      rw [beL_len] at N6
      subst N6
      clear ho6 hb6
      go_wp2_with fail
      refine MixQ.class HK6.out ?_
      refine mixS_cons ?_
      refine wpQuiet_nil ?_
      show wpList _ _ _ [_] _ _
      go_wp2_with (at_builtin; refine wpList_app (o := ⟨some 30, _, _, _, _, _⟩) (B := bx + 1) elUh rfl _ _ rfl rfl rfl H5'.out R6.out (beL_len _ _).symm ?_ ?_ ?_; (rw [beL_len]; simp <;> omega); exact hz6; intro A7 n7 c7 w7 h7; have H7 := Lib.hid h7.1; have HB7 := Lib.hid (HB6.out.trans (h7.2.2.1.mono (by omega))); have HK7 := Lib.hid (Blk.below HK6.out h7.2.2.1 (by omega)); clear h7)
      refine MixQ.class HK7.out ?_
      refine mixS_nil ?_
      repeat (show wpQuiet _ _ _ _ (_ :: _) _; go_big_quiet_step (fail))
      refine wpQuiet_nil ?_
      refine NoPanic.normal ?_
      go_wp2_with fail
      go_ret
      refine ⟨A7, n7, c7, rfl, ?_, by rw [HBX.out]; exact HB7.out⟩
      rw [HBX.out]
      refine (Own.cast H7.out ?_).mono (by omega)
      rw [HL.out]
      unfold HD.put HD.first HD.rest
      simp
      omega
    | true =>
      go_enter Try.func30, Try.ntmps30
      go_wp2_with fail
      rw [HBX.out, ← HWZ.out]
      have hS8 : HvS bx #[.int .u8 2, .slice A1 d.length c1, .slice A2 s.length c2, .slice A3 t.length c3, .bool true, .int .u64 pn, .int .i64 (k : Nat)] wz.drew := Blk.drew HK0.out
      have hne : Nonempty (CW (HvS bx #[.int .u8 2, .slice A1 d.length c1, .slice A2 s.length c2, .slice A3 t.length c3, .bool true, .int .u64 pn, .int .i64 (k : Nat)])) := CW.inh hS8
      have hc1 := fun r : CW (HvS bx #[.int .u8 2, .slice A1 d.length c1, .slice A2 s.length c2, .slice A3 t.length c3, .bool true, .int .u64 pn, .int .i64 (k : Nat)]) => Blk.cell r.holds 1
      have hc5 := fun r : CW (HvS bx #[.int .u8 2, .slice A1 d.length c1, .slice A2 s.length c2, .slice A3 t.length c3, .bool true, .int .u64 pn, .int .i64 (k : Nat)]) => Blk.cell r.holds 5
      have hc6 := fun r : CW (HvS bx #[.int .u8 2, .slice A1 d.length c1, .slice A2 s.length c2, .slice A3 t.length c3, .bool true, .int .u64 pn, .int .i64 (k : Nat)]) => Blk.cell r.holds 6
      simp only [List.getElem?_toArray, List.getElem?_cons_succ, List.getElem?_cons_zero] at hc1 hc5 hc6
      refine wp_region_mix_class (HvS bx #[.int .u8 2, .slice A1 d.length c1, .slice A2 s.length c2, .slice A3 t.length c3, .bool true, .int .u64 pn, .int .i64 (k : Nat)]) [([0, 2, 3, 5, 6, 7, 8], 1), ([], 4), ([], 9), ([], 10)] [11] (by kernel_rfl) (by kernel_rfl) (by kernel_rfl) (by kernel_rfl) hS8 ?_
      simp only [pickL, List.map_cons, List.map_nil, List.filterMap_cons, List.filterMap_nil, List.getElem?_cons_succ, List.getElem?_cons_zero]
      refine mixS_cons ?_
      repeat (show wpQuiet _ _ _ _ (_ :: _) _; go_big_quiet_step (fail))
      refine wpQuiet_nil ?_
      show wpList _ _ _ [_] _ _
      go_wp2_with fail
      refine MixQ.class (Blk.alloc (Blk.drew HK0.out) _) ?_
      refine mixS_cons ?_
      refine wpQuiet_nil ?_
      show wpList _ _ _ [_] _ _
      go_wp2_with (at_builtin; refine wpList_app (o := ⟨some 24, _, _, _, _, _⟩) (B := bx + 1) elUh rfl _ _ rfl rfl rfl (Own.litAt (xs := [_]) rfl rfl rfl (by first | omega | (simp; omega)) (by simp [maxLen])) (R1.out.below ((HB0.out.drew).alloc (by first | omega | (simp; omega)) _) (Nat.le_refl _)) rfl ?_ ?_ ?_; ((simp <;> omega)); ((simp <;> omega)); intro A5 n5 c5 w5 h5; have H5 := Lib.hid h5.1; have HB5 := Lib.hid (((HB0.out.drew).alloc (by first | omega | (simp; omega)) _).trans (h5.2.2.1.mono (by omega))); have HK5 := Lib.hid (Blk.below (Blk.alloc (Blk.drew HK0.out) _) h5.2.2.1 (by omega)); have hz5 : bx < w5.heap.size := by { have := Blk.lt HK5.out; omega }; clear h5)
      refine MixQ.class HK5.out ?_
      refine mixS_cons ?_
      refine wpQuiet_nil ?_
      show wpList _ _ _ [_] _ _
      go_wp2_with fail
      refine Calls.mono (low_any pn k _ (by omega) (by omega) (by omega) (by omega)) ?_
      rintro e w6 ⟨A6, n6, c6, rfl, ho6, hb6⟩
      have H5' := Lib.hid (H5.out.below hb6)
      have HB6 := Lib.hid (HB5.out.trans (hb6.mono (by omega)))
      have HK6 := Lib.hid (Blk.below HK5.out hb6 (Blk.lt HK5.out))
      have hz6 : bx < w6.heap.size := by have := hb6.size; omega
      have R6 := Lib.hid ho6.rd
      have N6 := ho6.len
      rw [beL_len] at N6
      subst N6
      clear ho6 hb6
      go_wp2_with fail
      refine MixQ.class HK6.out ?_
      refine mixS_cons ?_
      refine wpQuiet_nil ?_
      show wpList _ _ _ [_] _ _
      go_wp2_with (at_builtin; refine wpList_app (o := ⟨some 30, _, _, _, _, _⟩) (B := bx + 1) elUh rfl _ _ rfl rfl rfl H5'.out R6.out (beL_len _ _).symm ?_ ?_ ?_; (rw [beL_len]; simp <;> omega); exact hz6; intro A7 n7 c7 w7 h7; have H7 := Lib.hid h7.1; have HB7 := Lib.hid (HB6.out.trans (h7.2.2.1.mono (by omega))); have HK7 := Lib.hid (Blk.below HK6.out h7.2.2.1 (by omega)); clear h7)
      refine MixQ.class HK7.out ?_
      refine mixS_nil ?_
      repeat (show wpQuiet _ _ _ _ (_ :: _) _; go_big_quiet_step (fail))
      refine wpQuiet_nil ?_
      refine NoPanic.normal ?_
      go_wp2_with fail
      go_ret
      refine ⟨A7, n7, c7, rfl, ?_, by rw [HBX.out]; exact HB7.out⟩
      rw [HBX.out]
      refine (Own.cast H7.out ?_).mono (by omega)
      rw [HL.out]
      unfold HD.put HD.first HD.rest
      simp
      omega
  have hsp : sp = 0 ∨ sp = 1 := by omega
  have hsp2 : decide (sp = 2) = false := by simp [hs]
  clear hs
  rcases hsp with rfl | rfl
  · go_enter Try.func30, Try.ntmps30
    have HBz := Lib.hid (show Below bx w (w.alloc (.cells #[.int .u8 0, .slice A1 d.length c1, .slice A2 s.length c2, .slice A3 t.length c3, .bool ph, .int .u64 pn, .int .i64 (k : Nat)] 30)) by rw [← HWZ.out]; exact HB0.out)
    have HKz := Lib.hid (show Blk (w.alloc (.cells #[.int .u8 0, .slice A1 d.length c1, .slice A2 s.length c2, .slice A3 t.length c3, .bool ph, .int .u64 pn, .int .i64 (k : Nat)] 30)) bx 30 #[.int .u8 0, .slice A1 d.length c1, .slice A2 s.length c2, .slice A3 t.length c3, .bool ph, .int .u64 pn, .int .i64 (k : Nat)] by rw [← HWZ.out]; exact HK0.out)
    have hbxw : w.heap.size ≤ bx := by rw [HBX.out]; omega
    have hbxw2 : bx ≤ w.heap.size := by rw [HBX.out]; omega
    go_wp2_with (at_builtin; refine wpList_app (o := ⟨some 49, _, _, _, _, _⟩) (B := bx + 1) elUh rfl _ _ rfl rfl rfl (Own.litAt (xs := [_, _, _, _, _, _]) (by simp) rfl rfl (by omega) (by simp [maxLen])) (R1.out.below (HBz.out.alloc (by simp; omega) _) (Nat.le_refl _)) rfl ?_ ?_ ?_; ((simp <;> omega)); ((simp <;> omega)); intro A7 n7 c7 w7 h7; have H7 := Lib.hid h7.1; have HB7 := Lib.hid ((HBz.out.alloc (by simp; omega) _).trans (h7.2.2.1.mono (by omega))); have HK7 := Lib.hid (Blk.below (Blk.alloc HKz.out _) h7.2.2.1 (by omega)); have hz7 : bx < w7.heap.size := by { have := Blk.lt HK7.out; omega }; clear h7)
    rw [HBX.out]
    have hS8 : HvS bx #[.int .u8 0, .slice A1 d.length c1, .slice A2 s.length c2, .slice A3 t.length c3, .bool ph, .int .u64 pn, .int .i64 (k : Nat)] w7.drew := Blk.drew HK7.out
    have hne : Nonempty (CW (HvS bx #[.int .u8 0, .slice A1 d.length c1, .slice A2 s.length c2, .slice A3 t.length c3, .bool ph, .int .u64 pn, .int .i64 (k : Nat)])) := CW.inh hS8
    have hcl : ∀ r : CW (HvS bx #[.int .u8 0, .slice A1 d.length c1, .slice A2 s.length c2, .slice A3 t.length c3, .bool ph, .int .u64 pn, .int .i64 (k : Nat)]), r.world.cell? ⟨bx, 2, none⟩ = some (.slice A2 s.length c2) := fun r => Blk.cell r.holds 2
    refine wp_region_mix_class (HvS bx #[.int .u8 0, .slice A1 d.length c1, .slice A2 s.length c2, .slice A3 t.length c3, .bool ph, .int .u64 pn, .int .i64 (k : Nat)]) [([0, 1, 2, 3, 4, 7, 8], 5), ([], 6), ([], 9)] [10] (by kernel_rfl) (by kernel_rfl) (by kernel_rfl) (by kernel_rfl) hS8 ?_
    simp only [pickL, List.map_cons, List.map_nil, List.filterMap_cons, List.filterMap_nil, List.getElem?_cons_succ, List.getElem?_cons_zero]
    refine mixS_cons ?_
    repeat (show wpQuiet _ _ _ _ (_ :: _) _; go_big_quiet_step (fail))
    refine wpQuiet_nil ?_
    show wpList _ _ _ [_] _ _
    go_wp2_with fail
    refine MixQ.class (Blk.alloc (Blk.drew HK7.out) _) ?_
    refine mixS_cons ?_
    refine wpQuiet_nil ?_
    show wpList _ _ _ [_] _ _
    go_wp2_with (at_builtin; refine wpList_app (o := ⟨some 56, _, _, _, _, _⟩) (B := bx + 1) elUh rfl _ _ rfl rfl rfl ((H7.out.drew).alloc _) (Rd.newAt (xs := [_]) rfl rfl) rfl ?_ ?_ ?_; ((simp only [List.length_append, List.length_cons, List.length_nil]; omega)); ((simp <;> omega)); intro A8 n8 c8 w8 h8; have H8 := Lib.hid h8.1; have HB8 := Lib.hid (((HB7.out.drew).alloc (by simp; omega) _).trans (h8.2.2.1.mono (by omega))); have HK8 := Lib.hid (Blk.below (Blk.alloc (Blk.drew HK7.out) _) h8.2.2.1 (by omega)); have hz8 : bx < w8.heap.size := by { have := Blk.lt HK8.out; omega }; clear h8)
    refine MixQ.class HK8.out ?_
    refine mixS_cons ?_
    refine wpQuiet_nil ?_
    show wpList _ _ _ [_] _ _
    go_wp2_with (at_builtin; refine wpList_app (o := ⟨some 59, _, _, _, _, _⟩) (B := bx + 1) elUh rfl _ _ rfl rfl rfl (H8.out) (R2.out.below HB8.out (Nat.le_refl _)) rfl ?_ ?_ ?_; ((simp only [List.length_append, List.length_cons, List.length_nil]; omega)); (exact hz8); intro A9 n9 c9 w9 h9; have H9 := Lib.hid h9.1; have HB9 := Lib.hid (HB8.out.trans (h9.2.2.1.mono (by omega))); have HK9 := Lib.hid (Blk.below (HK8.out) h9.2.2.1 (by omega)); have hz9 : bx < w9.heap.size := by { have := Blk.lt HK9.out; omega }; clear h9)
    refine MixQ.class HK9.out ?_
    refine mixS_nil ?_
    repeat (show wpQuiet _ _ _ _ (_ :: _) _; go_big_quiet_step (fail))
    refine wpQuiet_nil ?_
    refine NoPanic.normal ?_
    clear hcl hS8 hne
    obtain ⟨p0, p1, p2, p3, p4, p5, p6⟩ := hv_facts HK9.out
    go_wp2_with fail
    have hS12 : HvS bx #[.int .u8 0, .slice A1 d.length c1, .slice A2 s.length c2, .slice A3 t.length c3, .bool ph, .int .u64 pn, .int .i64 (k : Nat)] w9.drew := Blk.drew HK9.out
    have hne : Nonempty (CW (HvS bx #[.int .u8 0, .slice A1 d.length c1, .slice A2 s.length c2, .slice A3 t.length c3, .bool ph, .int .u64 pn, .int .i64 (k : Nat)])) := CW.inh hS12
    have hcl : ∀ r : CW (HvS bx #[.int .u8 0, .slice A1 d.length c1, .slice A2 s.length c2, .slice A3 t.length c3, .bool ph, .int .u64 pn, .int .i64 (k : Nat)]), r.world.cell? ⟨bx, 3, none⟩ = some (.slice A3 t.length c3) := fun r => Blk.cell r.holds 3
    refine wp_region_mix_class (HvS bx #[.int .u8 0, .slice A1 d.length c1, .slice A2 s.length c2, .slice A3 t.length c3, .bool ph, .int .u64 pn, .int .i64 (k : Nat)]) [([0, 1, 2, 3, 4, 7, 8], 5), ([], 6), ([], 9)] [10] (by kernel_rfl) (by kernel_rfl) (by kernel_rfl) (by kernel_rfl) hS12 ?_
    simp only [pickL, List.map_cons, List.map_nil, List.filterMap_cons, List.filterMap_nil, List.getElem?_cons_succ, List.getElem?_cons_zero]
    refine mixS_cons ?_
    repeat (show wpQuiet _ _ _ _ (_ :: _) _; go_big_quiet_step (fail))
    refine wpQuiet_nil ?_
    show wpList _ _ _ [_] _ _
    go_wp2_with fail
    refine Calls.mono (short_any (t.length : Nat) _ (by omega) (by omega) (by unfold vcls; split <;> (try split) <;> (try split) <;> (try split) <;> omega)) ?_
    rintro e w10 ⟨A10, n10, c10, rfl, ho10, hb10⟩
    have H9' := Lib.hid (H9.out.drew.below hb10)
    have HB10 := Lib.hid (HB9.out.drew.trans (hb10.mono (by simp; omega)))
    have HK10 := Lib.hid (Blk.below (Blk.drew HK9.out) hb10 (by simp; omega))
    have hz10 : bx < w10.heap.size := by have := Blk.lt HK10.out; omega
    have R10 := Lib.hid ho10.rd
    have N10 := Lib.hid ho10.len
    clear ho10 hb10 p0 p1 p2 p3 p4 p5 p6
    go_wp2_with fail
    refine MixQ.class HK10.out ?_
    refine mixS_cons ?_
    refine wpQuiet_nil ?_
    show wpList _ _ _ [_] _ _
    go_wp2_with (at_builtin; refine wpList_app (o := ⟨some 69, _, _, _, _, _⟩) (B := bx + 1) elUh rfl _ _ rfl rfl rfl (H9'.out) (R10.out) N10.out ?_ ?_ ?_; ((simp only [List.length_append, List.length_cons, List.length_nil, vput_len]; (have h1 := HV1.out; have h2 := HV2.out; omega))); (exact hz10); intro A11 n11 c11 w11 h11; have H11 := Lib.hid h11.1; have HB11 := Lib.hid (HB10.out.trans (h11.2.2.1.mono (by omega))); have HK11 := Lib.hid (Blk.below (HK10.out) h11.2.2.1 (by omega)); have hz11 : bx < w11.heap.size := by { have := Blk.lt HK11.out; omega }; clear h11)
    refine MixQ.class HK11.out ?_
    refine mixS_cons ?_
    refine wpQuiet_nil ?_
    show wpList _ _ _ [_] _ _
    go_wp2_with (at_builtin; refine wpList_app (o := ⟨some 72, _, _, _, _, _⟩) (B := bx + 1) elUh rfl _ _ rfl rfl rfl (H11.out) (R3.out.below HB11.out (Nat.le_refl _)) rfl ?_ ?_ ?_; ((simp only [List.length_append, List.length_cons, List.length_nil, vput_len]; (have h1 := HV1.out; have h2 := HV2.out; omega))); (exact hz11); intro A12 n12 c12 w12 h12; have H12 := Lib.hid h12.1; have HB12 := Lib.hid (HB11.out.trans (h12.2.2.1.mono (by omega))); have HK12 := Lib.hid (Blk.below (HK11.out) h12.2.2.1 (by omega)); have hz12 : bx < w12.heap.size := by { have := Blk.lt HK12.out; omega }; clear h12)
    refine MixQ.class HK12.out ?_
    refine mixS_nil ?_
    repeat (show wpQuiet _ _ _ _ (_ :: _) _; go_big_quiet_step (fail))
    refine wpQuiet_nil ?_
    refine NoPanic.normal ?_
    clear hcl hS12 hne
    obtain ⟨p0, p1, p2, p3, p4, p5, p6⟩ := hv_facts HK12.out
    go_wp2_with fail
    refine Calls.mono (short_any ((k : Int) + n) _ (by omega) (by omega) (by unfold vcls; split <;> (try split) <;> (try split) <;> (try split) <;> omega)) ?_
    rintro e w14 ⟨A14, n14, c14, rfl, ho14, hb14⟩
    have Hx := Lib.hid (H12.out.below hb14)
    have HB14 := Lib.hid (HB12.out.trans (hb14.mono (by omega)))
    have HK14 := Lib.hid (Blk.below HK12.out hb14 (by omega))
    have hz14 : bx < w14.heap.size := by have := Blk.lt HK14.out; omega
    have R14 := Lib.hid ho14.rd
    have N14 := Lib.hid ho14.len
    clear ho14 hb14 p0 p1 p2 p3 p4 p5 p6
    go_wp2_with (at_builtin; refine wpList_app (o := ⟨some 80, _, _, _, _, _⟩) (B := bx + 1) elUh rfl _ _ rfl rfl rfl (Hx.out) (R14.out) N14.out ?_ ?_ ?_; ((simp only [List.length_append, List.length_cons, List.length_nil, vput_len]; (have h1 := HV1.out; have h2 := HV2.out; omega))); (exact hz14); intro A15 n15 c15 w15 h15; have H15 := Lib.hid h15.1; have HB15 := Lib.hid (HB14.out.trans (h15.2.2.1.mono (by omega))); have HK15 := Lib.hid (Blk.below (HK14.out) h15.2.2.1 (by omega)); have hz15 : bx < w15.heap.size := by { have := Blk.lt HK15.out; omega }; clear h15; obtain ⟨p0, p1, p2, p3, p4, p5, p6⟩ := hv_facts HK15.out)
    refine (low_any pn k _ (by omega) (by omega) (by omega) (by omega)).mono ?_
    rintro e w16 ⟨A16, n16, c16, rfl, ho16, hb16⟩
    have H16 := Lib.hid (H15.out.below hb16)
    have HB16 := Lib.hid (HB15.out.trans (hb16.mono (by omega)))
    have hz16 : bx < w16.heap.size := by have := hb16.size; omega
    have R16 := Lib.hid ho16.rd
    have N16 := ho16.len
    rw [beL_len] at N16
    subst N16
    clear ho16 hb16
    go_wp2_with (at_builtin; refine wpList_app (o := ⟨some 87, _, _, _, _, _⟩) (B := bx + 1) elUh rfl _ _ rfl rfl rfl H16.out R16.out (beL_len _ _).symm ?_ ?_ ?_; (rw [beL_len]; simp only [List.length_append, List.length_cons, List.length_nil, vput_len]; (have h1 := HV1.out; have h2 := HV2.out; omega)); exact hz16; intro A17 n17 c17 w17 h17; have H17 := Lib.hid h17.1; have HB17 := Lib.hid (HB16.out.trans (h17.2.2.1.mono (by omega))); clear h17)
    go_ret
    refine ⟨A17, n17, c17, rfl, ?_, by rw [HBX.out]; exact HB17.out⟩
    rw [HBX.out]
    refine (Own.cast H17.out ?_).mono (by omega)
    rw [HL.out]
    unfold HD.put HD.first HD.rest
    simp
    omega
  · go_enter Try.func30, Try.ntmps30
    have HBz := Lib.hid (show Below bx w (w.alloc (.cells #[.int .u8 1, .slice A1 d.length c1, .slice A2 s.length c2, .slice A3 t.length c3, .bool ph, .int .u64 pn, .int .i64 (k : Nat)] 30)) by rw [← HWZ.out]; exact HB0.out)
    have HKz := Lib.hid (show Blk (w.alloc (.cells #[.int .u8 1, .slice A1 d.length c1, .slice A2 s.length c2, .slice A3 t.length c3, .bool ph, .int .u64 pn, .int .i64 (k : Nat)] 30)) bx 30 #[.int .u8 1, .slice A1 d.length c1, .slice A2 s.length c2, .slice A3 t.length c3, .bool ph, .int .u64 pn, .int .i64 (k : Nat)] by rw [← HWZ.out]; exact HK0.out)
    have hbxw : w.heap.size ≤ bx := by rw [HBX.out]; omega
    have hbxw2 : bx ≤ w.heap.size := by rw [HBX.out]; omega
    go_wp2_with (at_builtin; refine wpList_app (o := ⟨some 49, _, _, _, _, _⟩) (B := bx + 1) elUh rfl _ _ rfl rfl rfl (Own.litAt (xs := [_, _, _, _, _, _]) (by simp) rfl rfl (by omega) (by simp [maxLen])) (R1.out.below (HBz.out.alloc (by simp; omega) _) (Nat.le_refl _)) rfl ?_ ?_ ?_; ((simp <;> omega)); ((simp <;> omega)); intro A7 n7 c7 w7 h7; have H7 := Lib.hid h7.1; have HB7 := Lib.hid ((HBz.out.alloc (by simp; omega) _).trans (h7.2.2.1.mono (by omega))); have HK7 := Lib.hid (Blk.below (Blk.alloc HKz.out _) h7.2.2.1 (by omega)); have hz7 : bx < w7.heap.size := by { have := Blk.lt HK7.out; omega }; clear h7)
    rw [HBX.out]
    have hS8 : HvS bx #[.int .u8 1, .slice A1 d.length c1, .slice A2 s.length c2, .slice A3 t.length c3, .bool ph, .int .u64 pn, .int .i64 (k : Nat)] w7.drew := Blk.drew HK7.out
    have hne : Nonempty (CW (HvS bx #[.int .u8 1, .slice A1 d.length c1, .slice A2 s.length c2, .slice A3 t.length c3, .bool ph, .int .u64 pn, .int .i64 (k : Nat)])) := CW.inh hS8
    have hcl : ∀ r : CW (HvS bx #[.int .u8 1, .slice A1 d.length c1, .slice A2 s.length c2, .slice A3 t.length c3, .bool ph, .int .u64 pn, .int .i64 (k : Nat)]), r.world.cell? ⟨bx, 2, none⟩ = some (.slice A2 s.length c2) := fun r => Blk.cell r.holds 2
    refine wp_region_mix_class (HvS bx #[.int .u8 1, .slice A1 d.length c1, .slice A2 s.length c2, .slice A3 t.length c3, .bool ph, .int .u64 pn, .int .i64 (k : Nat)]) [([0, 1, 2, 3, 4, 7, 8], 5), ([], 6), ([], 9)] [10] (by kernel_rfl) (by kernel_rfl) (by kernel_rfl) (by kernel_rfl) hS8 ?_
    simp only [pickL, List.map_cons, List.map_nil, List.filterMap_cons, List.filterMap_nil, List.getElem?_cons_succ, List.getElem?_cons_zero]
    refine mixS_cons ?_
    repeat (show wpQuiet _ _ _ _ (_ :: _) _; go_big_quiet_step (fail))
    refine wpQuiet_nil ?_
    show wpList _ _ _ [_] _ _
    go_wp2_with fail
    refine MixQ.class (Blk.alloc (Blk.drew HK7.out) _) ?_
    refine mixS_cons ?_
    refine wpQuiet_nil ?_
    show wpList _ _ _ [_] _ _
    go_wp2_with (at_builtin; refine wpList_app (o := ⟨some 56, _, _, _, _, _⟩) (B := bx + 1) elUh rfl _ _ rfl rfl rfl ((H7.out.drew).alloc _) (Rd.newAt (xs := [_]) rfl rfl) rfl ?_ ?_ ?_; ((simp only [List.length_append, List.length_cons, List.length_nil]; omega)); ((simp <;> omega)); intro A8 n8 c8 w8 h8; have H8 := Lib.hid h8.1; have HB8 := Lib.hid (((HB7.out.drew).alloc (by simp; omega) _).trans (h8.2.2.1.mono (by omega))); have HK8 := Lib.hid (Blk.below (Blk.alloc (Blk.drew HK7.out) _) h8.2.2.1 (by omega)); have hz8 : bx < w8.heap.size := by { have := Blk.lt HK8.out; omega }; clear h8)
    refine MixQ.class HK8.out ?_
    refine mixS_cons ?_
    refine wpQuiet_nil ?_
    show wpList _ _ _ [_] _ _
    go_wp2_with (at_builtin; refine wpList_app (o := ⟨some 59, _, _, _, _, _⟩) (B := bx + 1) elUh rfl _ _ rfl rfl rfl (H8.out) (R2.out.below HB8.out (Nat.le_refl _)) rfl ?_ ?_ ?_; ((simp only [List.length_append, List.length_cons, List.length_nil]; omega)); (exact hz8); intro A9 n9 c9 w9 h9; have H9 := Lib.hid h9.1; have HB9 := Lib.hid (HB8.out.trans (h9.2.2.1.mono (by omega))); have HK9 := Lib.hid (Blk.below (HK8.out) h9.2.2.1 (by omega)); have hz9 : bx < w9.heap.size := by { have := Blk.lt HK9.out; omega }; clear h9)
    refine MixQ.class HK9.out ?_
    refine mixS_nil ?_
    repeat (show wpQuiet _ _ _ _ (_ :: _) _; go_big_quiet_step (fail))
    refine wpQuiet_nil ?_
    refine NoPanic.normal ?_
    clear hcl hS8 hne
    obtain ⟨p0, p1, p2, p3, p4, p5, p6⟩ := hv_facts HK9.out
    go_wp2_with fail
    refine Calls.mono (short_any ((k : Int) + n) _ (by omega) (by omega) (by unfold vcls; split <;> (try split) <;> (try split) <;> (try split) <;> omega)) ?_
    rintro e w14 ⟨A14, n14, c14, rfl, ho14, hb14⟩
    have Hx := Lib.hid (H9.out.below hb14)
    have HB14 := Lib.hid (HB9.out.trans (hb14.mono (by omega)))
    have HK14 := Lib.hid (Blk.below HK9.out hb14 (by omega))
    have hz14 : bx < w14.heap.size := by have := Blk.lt HK14.out; omega
    have R14 := Lib.hid ho14.rd
    have N14 := Lib.hid ho14.len
    clear ho14 hb14 p0 p1 p2 p3 p4 p5 p6
    go_wp2_with (at_builtin; refine wpList_app (o := ⟨some 80, _, _, _, _, _⟩) (B := bx + 1) elUh rfl _ _ rfl rfl rfl (Hx.out) (R14.out) N14.out ?_ ?_ ?_; ((simp only [List.length_append, List.length_cons, List.length_nil, vput_len]; (have h1 := HV1.out; have h2 := HV2.out; omega))); (exact hz14); intro A15 n15 c15 w15 h15; have H15 := Lib.hid h15.1; have HB15 := Lib.hid (HB14.out.trans (h15.2.2.1.mono (by omega))); have HK15 := Lib.hid (Blk.below (HK14.out) h15.2.2.1 (by omega)); have hz15 : bx < w15.heap.size := by { have := Blk.lt HK15.out; omega }; clear h15; obtain ⟨p0, p1, p2, p3, p4, p5, p6⟩ := hv_facts HK15.out)
    refine (low_any pn k _ (by omega) (by omega) (by omega) (by omega)).mono ?_
    rintro e w16 ⟨A16, n16, c16, rfl, ho16, hb16⟩
    have H16 := Lib.hid (H15.out.below hb16)
    have HB16 := Lib.hid (HB15.out.trans (hb16.mono (by omega)))
    have hz16 : bx < w16.heap.size := by have := hb16.size; omega
    have R16 := Lib.hid ho16.rd
    have N16 := ho16.len
    rw [beL_len] at N16
    subst N16
    clear ho16 hb16
    go_wp2_with (at_builtin; refine wpList_app (o := ⟨some 87, _, _, _, _, _⟩) (B := bx + 1) elUh rfl _ _ rfl rfl rfl H16.out R16.out (beL_len _ _).symm ?_ ?_ ?_; (rw [beL_len]; simp only [List.length_append, List.length_cons, List.length_nil, vput_len]; (have h1 := HV1.out; have h2 := HV2.out; omega)); exact hz16; intro A17 n17 c17 w17 h17; have H17 := Lib.hid h17.1; have HB17 := Lib.hid (HB16.out.trans (h17.2.2.1.mono (by omega))); clear h17)
    go_ret
    refine ⟨A17, n17, c17, rfl, ?_, by rw [HBX.out]; exact HB17.out⟩
    rw [HBX.out]
    refine (Own.cast H17.out ?_).mono (by omega)
    rw [HL.out]
    unfold HD.put HD.first HD.rest
    simp
    omega
end Go.Proofs.Ythpacdondnenmaa
