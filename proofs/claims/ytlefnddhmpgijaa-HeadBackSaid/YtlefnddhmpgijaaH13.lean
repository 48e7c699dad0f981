/- The law HeadCut (layer 3): its walk. Conditions: as each theorem states them. -/
import Derived.Test.YtlefnddhmpgijaaH12
namespace Go.Proofs.Ytlefnddhmpgijaa
open Go.RowKit
set_option maxRecDepth 100000 in
set_option maxHeartbeats 4000000 in
theorem cut_walk (h : HD) (A1 : Option Addr) (c1 : Nat) (A2 : Option Addr) (c2 : Nat) (A3 : Option Addr) (c3 : Nat) (A4 : Option Addr) (c4 : Nat) (load : List Int) (cut : Int) (w : World) (hf : h.Fit) (hl : Byt load)
    (r1 : Rd w.heap.size .u8 w A1 h.dst) (r2 : Rd w.heap.size .u8 w A2 h.src) (r3 : Rd w.heap.size .u8 w A3 h.tok) (r4 : Rd w.heap.size .u8 w A4 load) (hc0 : -9223372036854775808 ≤ cut) (hc1 : cut ≤ 9223372036854775807) :
    Calls Try.prog 6 #[.agg (HV h A1 c1 A2 c2 A3 c3), .slice A4 load.length c4, .int .i64 cut] w fun e w' => e = .returned (.bool true) ∧ Below w.heap.size w w' := by
  have HMY := Lib.hid (fun w => may_any h A1 c1 A2 c2 A3 c3 w hf)
  have HF := Lib.hid hf
  have HLB := Lib.hid hl
  have R1 := Lib.hid r1
  have R2 := Lib.hid r2
  have R3 := Lib.hid r3
  have R4 := Lib.hid r4
  have HPY := Lib.hid (fun (n : Int) (w' : World) (hm : h.May) (hn0 : 0 ≤ n) (hn1 : n ≤ 65536) (htok : h.tok.length ≤ 100000000000) (a1 : Rd w'.heap.size .u8 w' A1 h.dst) (a2 : Rd w'.heap.size .u8 w' A2 h.src) (a3 : Rd w'.heap.size .u8 w' A3 h.tok) => put_yes h A1 c1 A2 c2 A3 c3 n w' hf hm hn0 hn1 a1 a2 a3 htok)
  have HCL := Lib.hid (fun (hm : h.May) (hs : h.space ≠ 2) (h20 : 20 ≤ h.pb + load.length) (hlen : load.length ≤ 65536) (htok : h.tok.length ≤ 4611686018427387903) (cut : Nat) (hc : cut < (h.put load.length ++ load).length) => cut_long hf hm hs load hl h20 hlen htok 8 cut hc (put_byt hf hm load.length (by omega) (by omega) htok))
  have HPB := Lib.hid (fun (hm : h.May) (hlen : load.length ≤ 65536) (htok : h.tok.length ≤ 4611686018427387903) => put_byt hf hm load.length (by omega) (by omega) htok)
  have hdm : Hid (∀ b : Bool, decide h.May = b → b = true → h.May) := Lib.hid (fun b h1 h2 => of_decide_eq_true (h1.trans h2))
  have hpb : Hid (h.May → 1 ≤ h.pb ∧ h.pb ≤ 4 ∧ h.dst.length ≤ 20 ∧ h.src.length ≤ 20) := Lib.hid (fun hm => ⟨hm.2.2.2.1, hm.2.2.2.2.1, hm.2.1, hm.2.2.1⟩)
  clear r1 r2 r3 r4 hl
  unfold HV at *
  obtain ⟨mb, hmb⟩ : ∃ b, decide h.May = b := ⟨_, rfl⟩
  rw [hmb] at HMY
  have HMB := Lib.hid hmb
  clear hmb hf
  obtain ⟨sp, hsp⟩ : ∃ x, h.space = x := ⟨_, rfl⟩
  obtain ⟨pb, hpbe⟩ : ∃ x, h.pb = x := ⟨_, rfl⟩
  obtain ⟨tl, htl⟩ : ∃ x, h.tok.length = x := ⟨_, rfl⟩
  have HSP := Lib.hid hsp
  have HPE := Lib.hid hpbe
  have HTL := Lib.hid htl
  go_enter Try.func6, Try.ntmps6
  rw [hsp, hpbe, htl] at HMY HPY ⊢
  clear hsp hpbe htl
  go_wp2_with fail
  refine (known03_any _).mono ?_
  rintro e w2 ⟨rfl, hb2⟩
  have HK2 : Hid (Blk w2 w.heap.size 59 #[.int .u8 sp, .slice A1 h.dst.length c1, .slice A2 h.src.length c2, .slice A3 tl c3, .bool h.phase, .int .u64 h.pn, .int .i64 pb]) := Lib.hid (Blk.below (Blk.new _ _ _) hb2 (by simp))
  have HB2 : Hid (Below w.heap.size w w2) := Lib.hid (((Below.refl w.heap.size w).alloc (Nat.le_refl _) _).trans (hb2.mono (by simp)))
  obtain ⟨p0, p1, p2, p3, p4, p5, p6⟩ := hv_facts HK2.out
  have hz2 : w.heap.size < w2.heap.size := Blk.lt HK2.out
  clear hb2
  go_wp2_with fail
  refine (HMY.out _).mono ?_
  rintro e w3 ⟨rfl, hb3⟩
  have HK3 := Lib.hid (Blk.below HK2.out hb3 (Blk.lt HK2.out))
  have HB3 := Lib.hid (HB2.out.trans (hb3.mono (by omega)))
  have hz3 : w.heap.size < w3.heap.size := Blk.lt HK3.out
  clear hb3 p0 p1 p2 p3 p4 p5 p6
  obtain ⟨p0, p1, p2, p3, p4, p5, p6⟩ := hv_facts HK3.out
  cases mb with
  | false =>
    go_wp2_with fail
    go_ret
    exact ⟨rfl, HB3.out⟩
  | true =>
    have hm := hdm.out true HMB.out rfl
    obtain ⟨m1, m2, m3, m4⟩ := hpb.out hm
    rw [HPE.out] at m1 m2
    have HM := Lib.hid hm
    clear hm
    by_cases g1 : sp = 2
    · subst g1
      go_wp2_with fail
      go_ret
      exact ⟨rfl, HB3.out⟩
    have g1' : decide (sp = 2) = false := by simp [g1]
    by_cases g2 : (2000 : Int) < (load.length : Int)
    · go_wp2_with fail
      go_ret
      exact ⟨rfl, HB3.out⟩
    have g2' : decide ((2000 : Int) < (load.length : Int)) = false := by simp; omega
    by_cases g3 : (3000 : Int) < (tl : Int)
    · go_wp2_with fail
      go_ret
      exact ⟨rfl, HB3.out⟩
    have g3' : decide ((3000 : Int) < (tl : Int)) = false := by simp; omega
    by_cases g4 : pb + load.length < 20
    · go_wp2_with fail
      go_ret
      exact ⟨rfl, HB3.out⟩
    have g4' : decide (pb + load.length < 20) = false := by simp; omega
    have hl2 : load.length ≤ 2000 := by omega
    have ht2 : tl ≤ 3000 := by omega
    go_wp2_with fail
    refine (HPY.out load.length _ HM.out (by omega) (by omega) (by omega) ((R1.out.below HB3.out (Nat.le_refl _)).mono HB3.out.size) ((R2.out.below HB3.out (Nat.le_refl _)).mono HB3.out.size) ((R3.out.below HB3.out (Nat.le_refl _)).mono HB3.out.size)).mono ?_
    rintro e w4 ⟨A5, n5, c5, rfl, ho5, hb5⟩
    have O5 := Lib.hid (ho5.mono HB3.out.size)
    have HB4 := Lib.hid (HB3.out.trans (hb5.mono HB3.out.size))
    have hz4 := HB4.out.size
    have hpl : Hid ((h.put load.length).length ≤ 10000) := Lib.hid (by
      have h1 := vlen8 (h.tok.length : Nat) (by rw [HTL.out]; unfold vcls; split <;> (try split) <;> (try split) <;> (try split) <;> omega)
      have h2 := vlen8 (h.pb + load.length) (by rw [HPE.out]; unfold vcls; split <;> (try split) <;> (try split) <;> (try split) <;> omega)
      unfold HD.put HD.rest
      rw [HSP.out, if_neg g1, HPE.out] at *
      have h3 := HTL.out
      split <;> simp only [List.length_append, List.length_cons, List.length_nil, vput_len, beL_len] <;> omega)
    have HNB := Lib.hid (HPB.out HM.out (by omega) (by rw [HTL.out]; omega))
    have HCUT := Lib.hid (HCL.out HM.out (by rw [HSP.out]; exact g1) (by rw [HPE.out]; omega) (by omega) (by rw [HTL.out]; omega))
    clear ho5 hb5 p0 p1 p2 p3 p4 p5 p6
    generalize h.put load.length = P at *
    have HQB : Hid (Byt (P ++ load)) := Lib.hid (HNB.out.append HLB.out)
    have HQL : Hid ((P ++ load).length ≤ 12000) := Lib.hid (by have := hpl.out; rw [List.length_append]; omega)
    obtain ⟨Q, hQ⟩ : ∃ Q, P ++ load = Q := ⟨_, rfl⟩
    rw [hQ] at HQB HQL HCUT
    have HQE := Lib.hid hQ
    clear hQ HNB
    have hql := HQL.out
    by_cases k1 : cut < 0
    · go_wp2_with (at_builtin; refine wpList_app (o := ⟨some 51, _, _, _, _, _⟩) elU8 rfl _ _ rfl rfl rfl O5.out (R4.out.below HB4.out (Nat.le_refl _)) rfl ?_ ?_ ?_; (have := hpl.out; omega); exact hz4; intro A6 n6 c6 w6 h6; have H6 := Lib.hid (Own.cast h6.1 HQE.out); have HB6 := Lib.hid (HB4.out.trans h6.2.2.1); have hz6 := HB6.out.size; have cap6 := H6.out.cap.1; obtain rfl := H6.out.len; clear h6)
      go_ret
      exact ⟨rfl, HB6.out⟩
    have k1' : decide (cut < 0) = false := by simp; omega
    by_cases k2 : (Q.length : Int) ≤ cut
    · go_wp2_with (at_builtin; refine wpList_app (o := ⟨some 51, _, _, _, _, _⟩) elU8 rfl _ _ rfl rfl rfl O5.out (R4.out.below HB4.out (Nat.le_refl _)) rfl ?_ ?_ ?_; (have := hpl.out; omega); exact hz4; intro A6 n6 c6 w6 h6; have H6 := Lib.hid (Own.cast h6.1 HQE.out); have HB6 := Lib.hid (HB4.out.trans h6.2.2.1); have hz6 := HB6.out.size; have cap6 := H6.out.cap.1; obtain rfl := H6.out.len; clear h6)
      go_ret
      exact ⟨rfl, HB6.out⟩
    obtain ⟨m, rfl⟩ := Int.eq_ofNat_of_zero_le (show 0 ≤ cut by omega)
    have HNO := Lib.hid (HCUT.out m (by omega))
    have k2'' : m < Q.length := by omega
    go_wp2_with (at_builtin; refine wpList_app (o := ⟨some 51, _, _, _, _, _⟩) elU8 rfl _ _ rfl rfl rfl O5.out (R4.out.below HB4.out (Nat.le_refl _)) rfl ?_ ?_ ?_; (have := hpl.out; omega); exact hz4; intro A6 n6 c6 w6 h6; have H6 := Lib.hid (Own.cast h6.1 HQE.out); have HB6 := Lib.hid (HB4.out.trans h6.2.2.1); have hz6 := HB6.out.size; have cap6 := H6.out.cap.1; obtain rfl := H6.out.len; clear h6; obtain ⟨A7, c7, hc7, _, r7, l7, run7⟩ := slice_h elU8 H6.out.rd cap6 (m : Int) m (by omega) rfl; have R7 := Lib.hid r7; have L7 := Lib.hid l7; clear r7 l7)
    refine (split_len A7 m c7 (Q.take m) 8 w6 R7.out (HQB.out.take m) L7.out.symm hc7 (by omega) (by decide) (by decide)).mono ?_
    rintro e w8 hp
    obtain ⟨rfl, hb8⟩ := hp.2 HNO.out
    have HB8 := Lib.hid (HB6.out.trans (hb8.mono hz6))
    have hz8 := HB8.out.size
    clear hp hb8 run7
    go_wp2_with fail
    go_ret
    exact ⟨rfl, (by (repeat (first | with_reducible exact HB8.out | with_reducible refine Below.alloc ?_ (by first | omega | (simp <;> omega)) _ | with_reducible refine Below.setCell ?_ (by first | (simp; done) | (simp <;> omega)) _)))⟩
end Go.Proofs.Ytlefnddhmpgijaa
