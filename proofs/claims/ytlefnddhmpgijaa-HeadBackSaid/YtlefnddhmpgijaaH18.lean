/- The law HeadPuts (layer 3): its walk. Conditions: as each theorem states them. -/
import Derived.Test.YtlefnddhmpgijaaH17
namespace Go.Proofs.Ytlefnddhmpgijaa
open Go.RowKit
theorem load_hv {w : World} {g : Nat} {c0 c1 c2 c3 c4 c5 c6 : Value} (h : Blk w g 59 #[c0, c1, c2, c3, c4, c5, c6]) :
    (Instr.loadAt 59 (.pointer (some ⟨g, 0, none⟩))).run Try.prog w = .ok (.agg #[c0, c1, c2, c3, c4, c5, c6]) w := by
  obtain ⟨a0, a1, a2, a3, a4, a5, a6⟩ := hv_facts h
  simp [go_sem, a0, a1, a2, a3, a4, a5, a6]
set_option maxRecDepth 100000 in
set_option maxHeartbeats 4000000 in
theorem puts_walk (h : HD) (A1 : Option Addr) (c1 : Nat) (A2 : Option Addr) (c2 : Nat) (A3 : Option Addr) (c3 : Nat) (n : Int) (w : World) (hf : h.Fit)
    (r1 : Rd w.heap.size .u8 w A1 h.dst) (r2 : Rd w.heap.size .u8 w A2 h.src) (r3 : Rd w.heap.size .u8 w A3 h.tok) :
    Calls Try.prog 5 #[.agg (HV h A1 c1 A2 c2 A3 c3), .int .i64 n] w fun e w' => e = .returned (.bool true) ∧ Below w.heap.size w w' := by
  have HMY := Lib.hid (fun w => may_any h A1 c1 A2 c2 A3 c3 w hf)
  have HRM := Lib.hid (fun w => rmay_any h A1 c1 A2 c2 A3 c3 w hf)
  have R1 := Lib.hid r1
  have R2 := Lib.hid r2
  have R3 := Lib.hid r3
  have HPY := Lib.hid (fun (w' : World) (hm : h.May) (hn0 : 0 ≤ n) (hn1 : n ≤ 65536) (htok : h.tok.length ≤ 100000000000) (a1 : Rd w'.heap.size .u8 w' A1 h.dst) (a2 : Rd w'.heap.size .u8 w' A2 h.src) (a3 : Rd w'.heap.size .u8 w' A3 h.tok) => put_yes h A1 c1 A2 c2 A3 c3 n w' hf hm hn0 hn1 a1 a2 a3 htok)
  have HRP := Lib.hid (fun (w' : World) (hm : h.May) (hn0 : 0 ≤ n) (hn1 : n ≤ 65536) (htok : h.tok.length ≤ 100000000000) (a1 : Rd w'.heap.size .u8 w' A1 h.dst) (a2 : Rd w'.heap.size .u8 w' A2 h.src) (a3 : Rd w'.heap.size .u8 w' A3 h.tok) => rput_yes h A1 c1 A2 c2 A3 c3 n w' hf hm hn0 hn1 a1 a2 a3 htok)
  have HPN := Lib.hid (fun (w' : World) (hno : ¬ (h.May ∧ 0 ≤ n ∧ n ≤ 65536)) => put_no h A1 c1 A2 c2 A3 c3 n w' hf hno)
  have HLB := Lib.hid (fun (hm : h.May) (hn0 : 0 ≤ n) (hn1 : n ≤ 65536) (htok : h.tok.length ≤ 4611686018427387903) => put_byt hf hm n hn0 hn1 htok)
  obtain ⟨mb, hmb⟩ : ∃ b, decide h.May = b := ⟨_, rfl⟩
  rw [hmb] at HMY HRM
  have HMB := Lib.hid hmb
  clear hmb hf r1 r2 r3
  unfold HV at *
  obtain ⟨dl, hdl⟩ : ∃ x, h.dst.length = x := ⟨_, rfl⟩
  obtain ⟨sl, hsl⟩ : ∃ x, h.src.length = x := ⟨_, rfl⟩
  obtain ⟨tl, htl⟩ : ∃ x, h.tok.length = x := ⟨_, rfl⟩
  have HTL := Lib.hid htl
  go_enter Try.func5, Try.ntmps5
  rw [hdl, hsl, htl] at HMY HRM HPY HRP HPN ⊢
  clear hdl hsl htl
  obtain ⟨sp, hsp⟩ : ∃ x, h.space = x := ⟨_, rfl⟩
  obtain ⟨pb, hpbe⟩ : ∃ x, h.pb = x := ⟨_, rfl⟩
  obtain ⟨ph, hph⟩ : ∃ x, h.phase = x := ⟨_, rfl⟩
  obtain ⟨pn, hpn⟩ : ∃ x, h.pn = x := ⟨_, rfl⟩
  rw [hsp, hpbe, hph, hpn] at HMY HRM HPY HRP HPN ⊢
  clear hsp hpbe hph hpn
  go_wp2_with fail
  refine (known03_any _).mono ?_
  rintro e w2 ⟨rfl, hb2⟩
  have HK2 : Hid (Blk w2 w.heap.size 59 #[.int .u8 sp, .slice A1 dl c1, .slice A2 sl c2, .slice A3 tl c3, .bool ph, .int .u64 pn, .int .i64 pb]) := Lib.hid (Blk.below (Blk.new _ _ _) hb2 (by simp))
  have HB2 : Hid (Below w.heap.size w w2) := Lib.hid (((Below.refl w.heap.size w).alloc (Nat.le_refl _) _).trans (hb2.mono (by simp)))
  obtain ⟨p0, p1, p2, p3, p4, p5, p6⟩ := hv_facts HK2.out
  have hz2 : w.heap.size < w2.heap.size := Blk.lt HK2.out
  clear hb2
  by_cases g1 : (300 : Int) < (dl : Int)
  · go_wp2_with fail
    go_ret
    exact ⟨rfl, HB2.out⟩
  have g1' : decide ((300 : Int) < (dl : Int)) = false := by simp; omega
  by_cases g2 : (300 : Int) < (sl : Int)
  · go_wp2_with fail
    go_ret
    exact ⟨rfl, HB2.out⟩
  have g2' : decide ((300 : Int) < (sl : Int)) = false := by simp; omega
  by_cases g3 : (3000 : Int) < (tl : Int)
  · go_wp2_with fail
    go_ret
    exact ⟨rfl, HB2.out⟩
  have g3' : decide ((3000 : Int) < (tl : Int)) = false := by simp; omega
  have ht2 : tl ≤ 3000 := by omega
  by_cases hok : h.May ∧ 0 ≤ n ∧ n ≤ 65536
  · obtain ⟨hm, hn0, hn1⟩ := hok
    have hmt : mb = true := by rw [← HMB.out]; exact decide_eq_true hm
    subst hmt
    have hnn0 : decide (n < 0) = false := by simp; omega
    have hnn1 : decide (65536 < n) = false := by simp; omega
    have HM := Lib.hid hm
    have HLY := Lib.hid (HLB.out hm hn0 hn1 (by rw [HTL.out]; omega))
    clear hm
    go_wp2_with fail
    refine (HPY.out _ HM.out hn0 hn1 (by omega) ((R1.out.below HB2.out (Nat.le_refl _)).mono HB2.out.size) ((R2.out.below HB2.out (Nat.le_refl _)).mono HB2.out.size) ((R3.out.below HB2.out (Nat.le_refl _)).mono HB2.out.size)).mono ?_
    rintro e w3 ⟨A5, n5, c5, rfl, ho5, hb5⟩
    have O5 := Lib.hid ho5
    have HB3 := Lib.hid (HB2.out.trans (hb5.mono HB2.out.size))
    have HK3 := Lib.hid (Blk.below HK2.out hb5 (Blk.lt HK2.out))
    have hz3 : w.heap.size < w3.heap.size := Blk.lt HK3.out
    clear ho5 hb5 p0 p1 p2 p3 p4 p5 p6
    obtain ⟨p0, p1, p2, p3, p4, p5, p6⟩ := hv_facts HK3.out
    go_wp2_with fail
    refine (HRM.out _).mono ?_
    rintro e w4 ⟨rfl, hb4⟩
    have HK4 := Lib.hid (Blk.below HK3.out hb4 (Blk.lt HK3.out))
    have HB4 := Lib.hid (HB3.out.trans (hb4.mono (by omega)))
    replace O5 := Lib.hid (O5.out.below hb4)
    have hz4 : w.heap.size < w4.heap.size := Blk.lt HK4.out
    clear hb4 p0 p1 p2 p3 p4 p5 p6
    obtain ⟨p0, p1, p2, p3, p4, p5, p6⟩ := hv_facts HK4.out
    go_wp2_with fail
    refine (HMY.out _).mono ?_
    rintro e w5 ⟨rfl, hb5⟩
    have HK5 := Lib.hid (Blk.below HK4.out hb5 (Blk.lt HK4.out))
    have HB5 := Lib.hid (HB4.out.trans (hb5.mono (by omega)))
    replace O5 := Lib.hid (O5.out.below hb5)
    have hz5 : w.heap.size < w5.heap.size := Blk.lt HK5.out
    clear hb5 p0 p1 p2 p3 p4 p5 p6
    go_wp2_with fail
    generalize h.put n = L at *
    have hcv5 : ∀ r : BW w5.heap.size w5, (convert 25 9 (.slice A5 n5 c5)).run Try.prog r.world = .ok (.string (strOfNums L)) r.world := fun r => conv_own elU8 Try.underlying9 (O5.out.below r.below)
    have HLD : ∀ r : BW w5.heap.size w5, (Instr.loadAt 59 (.pointer (some ⟨w.heap.size, 0, none⟩))).run Try.prog r.world = .ok (.agg #[.int .u8 sp, .slice A1 dl c1, .slice A2 sl c2, .slice A3 tl c3, .bool ph, .int .u64 pn, .int .i64 pb]) r.world := fun r => load_hv (Blk.below HK5.out r.below (Blk.lt HK5.out))
    refine wp_region_mixN w5.heap.size [([0, 1, 2, 3], 4)] [5, 6, 7, 8, 9, 10, 11] (by kernel_rfl) (by kernel_rfl) (by kernel_rfl) (by kernel_rfl) ?_
    simp only [pickL, List.map_cons, List.map_nil, List.filterMap_cons, List.filterMap_nil, List.getElem?_cons_succ, List.getElem?_cons_zero]
    refine mixN_cons ?_
    show wpQuiet _ _ _ _ (_ :: _) _
    go_big_quiet_step (fail)
    show wpQuiet _ _ _ _ (_ :: _) _
    go_big_quiet_step (fail)
    show wpQuiet _ _ _ _ (_ :: _) _
    refine wpQuiet_loadV (o := ⟨some 57, _, _, _, _, _⟩) rfl _ rfl rfl (fun w' hw' => by obtain ⟨r, rfl⟩ := hw'; exact HLD r) ?_
    simp only [Act.put, List.setIfInBounds_toArray, List.set_cons_zero, List.set_cons_succ]
    repeat (show wpQuiet _ _ _ _ (_ :: _) _; go_big_quiet_step (fail))
    refine wpQuiet_nil ?_
    show wpList _ _ _ [_] _ _
    go_wp2_with fail
    refine Calls.mono (HRP.out _ HM.out hn0 hn1 (by omega) ((R1.out.below HB5.out.drew (Nat.le_refl _)).mono (by simp; omega)) ((R2.out.below HB5.out.drew (Nat.le_refl _)).mono (by simp; omega)) ((R3.out.below HB5.out.drew (Nat.le_refl _)).mono (by simp; omega))) ?_
    rintro e w6 ⟨A6, n6, c6, rfl, ho6, hb6⟩
    have B56 : Hid (Below w5.heap.size w5 w6) := Lib.hid ((Below.refl w5.heap.size w5).drew.trans hb6)
    have hcv6 : ∀ r : BW w6.heap.size w6, (convert 25 9 (.slice A6 n6 c6)).run Try.prog r.world = .ok (.string (strOfNums L)) r.world := fun r => conv_own elU8 Try.underlying9 (ho6.below r.below)
    have HB6 := Lib.hid (HB5.out.trans (B56.out.mono (by omega)))
    clear hb6 hcv5 HLD
    generalize strOfNums L = sa at *
    go_wp2_with fail
    refine MixN.narrow B56.out B56.out.size ?_
    refine mixN_nil ?_
    repeat (show wpQuiet _ _ _ _ (_ :: _) _; go_big_quiet_step (fail))
    refine wpQuiet_nil ?_
    refine NoPanic.normal ?_
    clear hcv6 ho6
    go_wp2_with fail
    go_ret
    exact ⟨rfl, HB6.out⟩
  · have HNO := Lib.hid hok
    have hb3 : mb = false ∨ n < 0 ∨ 65536 < n := by
      cases mb with
      | false => exact .inl rfl
      | true =>
        have hmm := of_decide_eq_true HMB.out
        have hn2 : ¬ (0 ≤ n ∧ n ≤ 65536) := fun hx => hok ⟨hmm, hx⟩
        right; omega
    clear hok
    go_wp2_with fail
    refine (HPN.out _ HNO.out).mono ?_
    rintro e w3 ⟨rfl, hb5⟩
    have HB3 := Lib.hid (HB2.out.trans (hb5.mono HB2.out.size))
    have HK3 := Lib.hid (Blk.below HK2.out hb5 (Blk.lt HK2.out))
    have hz3 : w.heap.size < w3.heap.size := Blk.lt HK3.out
    clear hb5 p0 p1 p2 p3 p4 p5 p6
    obtain ⟨p0, p1, p2, p3, p4, p5, p6⟩ := hv_facts HK3.out
    go_wp2_with fail
    refine (HRM.out _).mono ?_
    rintro e w4 ⟨rfl, hb4⟩
    have HK4 := Lib.hid (Blk.below HK3.out hb4 (Blk.lt HK3.out))
    have HB4 := Lib.hid (HB3.out.trans (hb4.mono (by omega)))
    have hz4 : w.heap.size < w4.heap.size := Blk.lt HK4.out
    clear hb4 p0 p1 p2 p3 p4 p5 p6
    obtain ⟨p0, p1, p2, p3, p4, p5, p6⟩ := hv_facts HK4.out
    go_wp2_with fail
    refine (HMY.out _).mono ?_
    rintro e w5 ⟨rfl, hb5⟩
    have HK5 := Lib.hid (Blk.below HK4.out hb5 (Blk.lt HK4.out))
    have HB5 := Lib.hid (HB4.out.trans (hb5.mono (by omega)))
    have hz5 : w.heap.size < w5.heap.size := Blk.lt HK5.out
    clear hb5 p0 p1 p2 p3 p4 p5 p6
    rcases hb3 with rfl | hb | hb
    · go_wp2_with fail
      go_ret
      exact ⟨rfl, HB5.out⟩
    · cases mb
      all_goals
        go_wp2_with fail
        go_ret
        exact ⟨rfl, HB5.out⟩
    · have hnn0 : decide (n < 0) = false := by simp; omega
      cases mb
      all_goals
        go_wp2_with fail
        go_ret
        exact ⟨rfl, HB5.out⟩
end Go.Proofs.Ytlefnddhmpgijaa
