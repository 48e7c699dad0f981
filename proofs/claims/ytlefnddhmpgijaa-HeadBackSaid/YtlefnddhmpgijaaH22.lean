/- The law HeadBack (layer 3): its walk. Conditions: as each theorem states them. -/
import Derived.Test.YtlefnddhmpgijaaH21
import Derived.Test.YtlefnddhmpgijaaH18
import Derived.Test.YtlefnddhmpgijaaQO
namespace Go.Proofs.Ytlefnddhmpgijaa
open Go.RowKit
theorem conv_z {w : World} {B : Nat} {A : Option Addr} {n c : Nat} {L : List Int} (hr : Rd B .u8 w A L) (hn : n = L.length) (hc : n ≤ c) (hB : B ≤ w.heap.size) (m : Nat) : (convert 25 9 (.slice A n c)).run Try.prog (w.drewN m) = .ok (.string (strOfNums L)) (w.drewN m) :=
  conv_sl ⟨A, n, c, rfl, hn, hc, (hr.mono hB).drewN m⟩
theorem hdv_parts {w : World} {v : Value} {h : HD} {sp pn pb : Int} {ph : Bool} (hv : HdV w v h) (e1 : h.space = sp) (e2 : h.phase = ph) (e3 : h.pn = pn) (e4 : h.pb = pb) : ∃ B1 n1 d1 B2 n2 d2 B3 n3 d3, v = .agg #[.int .u8 sp, .slice B1 n1 d1, .slice B2 n2 d2, .slice B3 n3 d3, .bool ph, .int .u64 pn, .int .i64 pb] := by
  subst e1 e2 e3 e4
  obtain ⟨v1, v2, v3, rfl, t1, t2, t3⟩ := hv
  obtain ⟨A1, n1, c1, rfl⟩ := t1.form
  obtain ⟨A2, n2, c2, rfl⟩ := t2.form
  obtain ⟨A3, n3, c3, rfl⟩ := t3.form
  exact ⟨_, _, _, _, _, _, _, _, _, rfl⟩
theorem hdv_mk {w : World} {h : HD} {sp pn pb : Int} {ph : Bool} {v1 v2 v3 : Value} (e1 : h.space = sp) (e2 : h.phase = ph) (e3 : h.pn = pn) (e4 : h.pb = pb) (s1 : Sl w v1 h.dst) (s2 : Sl w v2 h.src) (s3 : Sl w v3 h.tok) : HdV w (.agg #[.int .u8 sp, v1, v2, v3, .bool ph, .int .u64 pn, .int .i64 pb]) h := by
  subst e1 e2 e3 e4
  exact ⟨_, _, _, rfl, s1, s2, s3⟩
theorem byt_set {P : List Int} {v : Int} (h : Byt P) (h0 : 0 ≤ v) (h1 : v < 256) : Byt (P.set 0 v) := by
  cases P with
  | nil => exact h
  | cons x P => exact Byt.cons ⟨h0, h1⟩ (fun y hy => h y (List.mem_cons_of_mem _ hy))
theorem getD_set0 {P : List Int} {v : Int} (h : 0 < P.length) : (P.set 0 v).getD 0 0 = v := by
  cases P with
  | nil => simp at h
  | cons x P => rfl
theorem set_app {P L : List Int} {v : Int} (h : 0 < P.length) : (P ++ L).set 0 v = P.set 0 v ++ L := by
  cases P with
  | nil => simp at h
  | cons x P => rfl
theorem set_tail {P L : List Int} {v : Int} (h : 0 < P.length) : (((P ++ L).set 0 v).take (P.length + L.length)).drop P.length = L := by
  rw [set_app h, List.take_of_length_le (by simp), List.drop_left' (by simp)]
theorem set_tail2 {P L M : List Int} {v : Int} (h : 0 < P.length) : (((P ++ L ++ M).set 0 v).take (P.length + L.length)).drop P.length = L := by
  rw [List.append_assoc, set_app h, ← List.append_assoc, List.take_left' (by simp), List.drop_left' (by simp)]
theorem set_drop {P L M : List Int} {v : Int} (h : 0 < P.length) : ((P ++ L ++ M).set 0 v).drop (P.length + L.length) = M := by
  rw [List.append_assoc, set_app h, ← List.append_assoc, List.drop_left' (by simp)]
theorem set_dropE {P : List Int} {v : Int} {n : Nat} (h : P.length ≤ n) : (P.set 0 v).drop n = [] := List.drop_of_length_le (by simpa using h)
theorem getD0_append {P L : List Int} (h : 0 < P.length) : (P ++ L).getD 0 0 = P.getD 0 0 := by
  cases P with
  | nil => simp at h
  | cons x P => rfl
/-- a slice beside the one that is appended to -/
theorem apd_beside {B N : Nat} {e : TypeId} {k : IntKind} {w w' : World} {A A' : Option Addr} {zs L : List Int} {n n' c c' gb : Nat} (hN : Own N e k w A n c L) (h : Apd B e k w (some ⟨gb, 0, none⟩) zs A' n' c' w') (hne : ∀ ad, A = some ad → ad.block ≠ gb) :
    Own N e k w' A n c L ∧ ∀ g, A' = some ⟨g, 0, none⟩ → ∀ ad, A = some ad → ad.block ≠ g := by
  refine ⟨hN.kept h.2.1 (fun ad hA e => hne ad hA (by injection e)), fun g hg ad hA => ?_⟩
  have hlt := (hN.block ad hA).2
  rcases h.2.2.2 with h | ⟨b, h, hb⟩
  · rw [h] at hg; injection hg with hg; injection hg with hg; subst hg; exact hne ad hA
  · rw [h] at hg; injection hg with hg; subst hg; simp at hb; omega
theorem put_long_pb {h : HD} (hm : h.May) (n : Int) : h.pb ≤ (h.put n).length := by
  obtain ⟨m1, m2, m3, m4, m5, m6, m7, m8, m9⟩ := hm
  obtain ⟨q, hq⟩ := rest_end h n
  have e : h.put n = (h.first :: q) ++ beL h.pn h.pb.toNat := by unfold HD.put; rw [hq]; rfl
  rw [e, List.length_append, beL_len]; omega
set_option maxRecDepth 100000 in
set_option maxHeartbeats 8000000 in
theorem back_walk (h : HD) (A1 : Option Addr) (c1 : Nat) (A2 : Option Addr) (c2 : Nat) (A3 : Option Addr) (c3 : Nat) (A4 : Option Addr) (c4 : Nat) (load : List Int) (A5 : Option Addr) (c5 : Nat) (behind : List Int) (m : Int) (w : World) (hf : h.Fit) (hl : Byt load) (hl5 : Byt behind) (hc1 : h.dst.length ≤ c1) (hc2 : h.src.length ≤ c2) (hc3 : h.tok.length ≤ c3)
    (r1 : Rd w.heap.size .u8 w A1 h.dst) (r2 : Rd w.heap.size .u8 w A2 h.src) (r3 : Rd w.heap.size .u8 w A3 h.tok) (r4 : Rd w.heap.size .u8 w A4 load) (hc4 : load.length ≤ c4) (r5 : Rd w.heap.size .u8 w A5 behind) (hc5 : behind.length ≤ c5) (hm0 : 0 ≤ m) (hm1 : m < 256) :
    Calls Try.prog 7 #[.agg (HV h A1 c1 A2 c2 A3 c3), .slice A4 load.length c4, .slice A5 behind.length c5, .int .u8 m] w fun e w' => e = .returned (.bool true) ∧ Below w.heap.size w w' := by
  have HMY := Lib.hid (fun w => may_any h A1 c1 A2 c2 A3 c3 w hf)
  have HF := Lib.hid hf
  have HLB := Lib.hid hl
  have HB5' := Lib.hid hl5
  have R1 := Lib.hid r1
  have R2 := Lib.hid r2
  have R3 := Lib.hid r3
  have R4 := Lib.hid r4
  have R5 := Lib.hid r5
  have K1 := Lib.hid hc1
  have K2 := Lib.hid hc2
  have K3 := Lib.hid hc3
  have K4 := Lib.hid hc4
  have K5 := Lib.hid hc5
  have HPY := Lib.hid (fun (n : Int) (w' : World) (hm : h.May) (hn0 : 0 ≤ n) (hn1 : n ≤ 65536) (htok : h.tok.length ≤ 100000000000) (a1 : Rd w'.heap.size .u8 w' A1 h.dst) (a2 : Rd w'.heap.size .u8 w' A2 h.src) (a3 : Rd w'.heap.size .u8 w' A3 h.tok) => put_yes h A1 c1 A2 c2 A3 c3 n w' hf hm hn0 hn1 a1 a2 a3 htok)
  have HPB := Lib.hid (fun (hm : h.May) (hlen : load.length ≤ 65536) (htok : h.tok.length ≤ 4611686018427387903) => put_byt hf hm load.length (by omega) (by omega) htok)
  have HBK := Lib.hid (fun (hm : h.May) (h20 : 20 ≤ h.pb + load.length) (hlen : load.length ≤ 65536) (htok : h.tok.length ≤ 4611686018427387903) (at_ : Nat) (hat : (at_ : Int) = (h.put load.length).length - h.pb) => put_back hf hm hm0 hm1 load behind h20 hlen htok at_ hat)
  have HNU := Lib.hid (fun (hm : h.May) (at_ : Nat) (hat : (at_ : Int) = (h.put load.length).length - h.pb) => put_number hm load.length at_ hat)
  have HMR := Lib.hid (fun (hm : h.May) => masked_rng hm hm0 hm1)
  have HFR := Lib.hid (fun (hm : h.May) => first_rng hm)
  have HBC := Lib.hid (fun (hm : h.May) => bare_cut hf hm)
  have HP0 : Hid (0 < (h.put load.length).length ∧ (h.put load.length).getD 0 0 = h.first) := Lib.hid ⟨by unfold HD.put; simp, rfl⟩
  have HMD : Hid (h.masked m = bits .xor .u8 h.first (bits .and .u8 m (bitsV h.space))) := Lib.hid rfl
  have HPN : Hid (0 ≤ h.pn ∧ h.pn < 18446744073709551616) := Lib.hid ⟨hf.2.2.2.2.2.1, hf.2.2.2.2.2.2⟩
  have hdm : Hid (∀ b : Bool, decide h.May = b → b = true → h.May) := Lib.hid (fun b h1 h2 => of_decide_eq_true (h1.trans h2))
  have hpb : Hid (h.May → 1 ≤ h.pb ∧ h.pb ≤ 4 ∧ h.dst.length ≤ 20 ∧ h.src.length ≤ 20) := Lib.hid (fun hm => ⟨hm.2.2.2.1, hm.2.2.2.2.1, hm.2.1, hm.2.2.1⟩)
  have HM01 := Lib.hid (And.intro hm0 hm1)
  clear r1 r2 r3 r4 r5 hl hl5 hc1 hc2 hc3 hc4 hc5 hm0 hm1
  unfold HV at *
  obtain ⟨mb, hmb⟩ : ∃ b, decide h.May = b := ⟨_, rfl⟩
  rw [hmb] at HMY
  have HMB := Lib.hid hmb
  clear hmb hf
  obtain ⟨sp, hsp⟩ : ∃ x, h.space = x := ⟨_, rfl⟩
  obtain ⟨pb, hpbe⟩ : ∃ x, h.pb = x := ⟨_, rfl⟩
  obtain ⟨tl, htl⟩ : ∃ x, h.tok.length = x := ⟨_, rfl⟩
  obtain ⟨dl, hdl⟩ : ∃ x, h.dst.length = x := ⟨_, rfl⟩
  obtain ⟨sl, hsl⟩ : ∃ x, h.src.length = x := ⟨_, rfl⟩
  obtain ⟨ph, hph⟩ : ∃ x, h.phase = x := ⟨_, rfl⟩
  obtain ⟨pn, hpn⟩ : ∃ x, h.pn = x := ⟨_, rfl⟩
  have HSP := Lib.hid hsp
  have HPE := Lib.hid hpbe
  have HTL := Lib.hid htl
  have HDL := Lib.hid hdl
  have HSL := Lib.hid hsl
  have HPH := Lib.hid hph
  have HPNE := Lib.hid hpn
  go_enter Try.func7, Try.ntmps7
  rw [hsp, hpbe, htl, hdl, hsl, hph, hpn] at HMY HPY ⊢
  clear hsp hpbe htl hdl hsl hph hpn
  go_wp2_with fail
  refine (known03_any _).mono ?_
  rintro e w2 ⟨rfl, hb2⟩
  have HK2 : Hid (Blk w2 w.heap.size 59 #[.int .u8 sp, .slice A1 dl c1, .slice A2 sl c2, .slice A3 tl c3, .bool ph, .int .u64 pn, .int .i64 pb]) := Lib.hid (Blk.below (Blk.new _ _ _) hb2 (by simp))
  have HB2 : Hid (Below w.heap.size w w2) := Lib.hid (((Below.refl w.heap.size w).alloc (Nat.le_refl _) _).trans (hb2.mono (by simp)))
  obtain ⟨p0, p1, p2, p3, p4, p5, p6⟩ := hv_facts HK2.out
  have hz2 : w.heap.size < w2.heap.size := Blk.lt HK2.out
  clear hb2
  go_wp2_with fail
  refine (HMY.out _).mono ?_
  rintro e w3 ⟨rfl, hb3⟩
  have HK3 := Lib.hid (Blk.below HK2.out hb3 (Blk.lt HK2.out))
  have HB3 := Lib.hid (HB2.out.trans (hb3.mono (by omega)))
  have hz3 : w.heap.size < w3.heap.size := Blk.lt HK3.out
  clear hb3 p0 p1 p2 p3 p4 p5 p6
  obtain ⟨p0, p1, p2, p3, p4, p5, p6⟩ := hv_facts HK3.out
  cases mb with
  | false =>
    go_wp2_with fail
    go_ret
    exact ⟨rfl, HB3.out⟩
  | true =>
    have hm := hdm.out true HMB.out rfl
    obtain ⟨m1, m2, m3, m4⟩ := hpb.out hm
    rw [HPE.out] at m1 m2
    rw [HDL.out] at m3
    rw [HSL.out] at m4
    have HM := Lib.hid hm
    clear hm
    by_cases g2 : (2000 : Int) < (load.length : Int)
    · go_wp2_with fail
      go_ret
      exact ⟨rfl, HB3.out⟩
    have g2' : decide ((2000 : Int) < (load.length : Int)) = false := by simp; omega
    by_cases g5 : (2000 : Int) < (behind.length : Int)
    · go_wp2_with fail
      go_ret
      exact ⟨rfl, HB3.out⟩
    have g5' : decide ((2000 : Int) < (behind.length : Int)) = false := by simp; omega
    by_cases g3 : (3000 : Int) < (tl : Int)
    · go_wp2_with fail
      go_ret
      exact ⟨rfl, HB3.out⟩
    have g3' : decide ((3000 : Int) < (tl : Int)) = false := by simp; omega
    by_cases g4 : pb + load.length < 20
    · go_wp2_with fail
      go_ret
      exact ⟨rfl, HB3.out⟩
    have g4' : decide (pb + load.length < 20) = false := by simp; omega
    have hl2 : load.length ≤ 2000 := by omega
    have hl5 : behind.length ≤ 2000 := by omega
    have ht2 : tl ≤ 3000 := by omega
    go_wp2_with fail
    refine (HPY.out load.length _ HM.out (by omega) (by omega) (by omega) ((R1.out.below HB3.out (Nat.le_refl _)).mono HB3.out.size) ((R2.out.below HB3.out (Nat.le_refl _)).mono HB3.out.size) ((R3.out.below HB3.out (Nat.le_refl _)).mono HB3.out.size)).mono ?_
    rintro e w4 ⟨A5', n5, c5', rfl, ho5, hb5⟩
    have O5 := Lib.hid (ho5.mono hz3)
    have HB4 := Lib.hid (HB3.out.trans (hb5.mono HB3.out.size))
    have HK4 := Lib.hid (Blk.below HK3.out hb5 (Blk.lt HK3.out))
    have hz4 : w.heap.size < w4.heap.size := Blk.lt HK4.out
    have hpl : Hid ((h.put load.length).length ≤ 10000) := Lib.hid (by
      have h1 := vlen8 (h.tok.length : Nat) (by rw [HTL.out]; unfold vcls; split <;> (try split) <;> (try split) <;> (try split) <;> omega)
      have h2 := vlen8 (h.pb + load.length) (by rw [HPE.out]; unfold vcls; split <;> (try split) <;> (try split) <;> (try split) <;> omega)
      have h3 := HTL.out
      have h4 := HPE.out
      have h5 := HDL.out
      have h6 := HSL.out
      unfold HD.put HD.rest
      split
      · simp only [List.length_append, List.length_cons, beL_len]; omega
      · split <;> simp only [List.length_append, List.length_cons, List.length_nil, vput_len, beL_len] <;> omega)
    have HNB := Lib.hid (HPB.out HM.out (by omega) (by rw [HTL.out]; omega))
    have HSPL := Lib.hid (HBK.out HM.out (by rw [HPE.out]; omega) (by omega) (by rw [HTL.out]; omega))
    have HNUM := Lib.hid (HNU.out HM.out)
    have hpbl : pb ≤ ((h.put load.length).length : Int) := by rw [← HPE.out]; exact put_long_pb HM.out _
    clear ho5 hb5 p0 p1 p2 p3 p4 p5 p6
    obtain ⟨hp0, hp00⟩ := HP0.out
    generalize h.put load.length = P at *
    have HP00 := Lib.hid hp00
    clear hp00
    obtain rfl := O5.out.len
    obtain ⟨p0, p1, p2, p3, p4, p5, p6⟩ := hv_facts HK4.out
    obtain ⟨gb, hgb, hgb1, hgb2⟩ := O5.out.addr hp0
    subst hgb
    obtain ⟨at_, hat⟩ : ∃ a : Nat, (a : Int) = (P.length : Int) - pb := ⟨P.length - pb.toNat, by omega⟩
    have HATS : Hid ((P.length : Int) - pb = (at_ : Int)) := Lib.hid hat.symm
    have hple := hpl.out
    have HAT := Lib.hid hat
    have HNL := Lib.hid ((HNUM.out at_ (by rw [HPE.out]; exact hat)).1)
    have HSPL2 := Lib.hid (HSPL.out at_ (by rw [HPE.out]; exact hat))
    have hatl : at_ < P.length := by omega
    have hpbn : pb.toNat = P.length - at_ := by omega
    clear hat HSPL HNUM
    have hcap := O5.out.cap.1
    obtain ⟨A7, c7, k71, k72, r7, l7, run7⟩ := slice_l elU8 O5.out.rd hcap (at_ : Int) (P.length - at_) (by omega) (by omega) (by omega)
    rw [Int.toNat_natCast, HNL.out] at r7 l7
    have R7 := Lib.hid r7
    have L7 := Lib.hid l7.symm
    clear r7 l7
    go_wp2_with fail
    rw [HATS.out]
    have hb0 : ∀ r : BW w4.heap.size w4, r.world.cell? ⟨gb, 0, none⟩ = some (.int .u8 h.first) := fun r => by have hh := (O5.out.below r.below).cell0 hp0; rw [HP00.out] at hh; exact hh
    refine wp_region_mix_below w4.heap.size [([0, 1, 2, 4, 5, 6], 3), ([], 7)] [8, 9] (by kernel_rfl) (by kernel_rfl) (by kernel_rfl) (by kernel_rfl) ?_
    simp only [pickL, List.map_cons, List.map_nil, List.filterMap_cons, List.filterMap_nil, List.getElem?_cons_succ, List.getElem?_cons_zero]
    refine mixS_cons ?_
    repeat (show wpQuiet _ _ _ _ (_ :: _) _; go_big_quiet_step (fail))
    refine wpQuiet_nil ?_
    show wpList _ _ _ [_] _ _
    go_wp2_with fail
    have HBa : Hid (Below w4.heap.size w4 (w4.alloc (.cells #[] 5)).drew) := Lib.hid (((Below.refl _ _).alloc (Nat.le_refl _) _).drew)
    have HE : Hid (Own w4.heap.size 5 .u8 (w4.alloc (.cells #[] 5)).drew (some ⟨w4.heap.size, 0, none⟩) 0 0 []) := Lib.hid (Own.litAt rfl rfl rfl (Nat.le_refl _) (by decide)).drew
    have hza : w4.heap.size < (w4.alloc (.cells #[] 5)).drew.heap.size := by simp
    generalize (w4.alloc (.cells #[] 5)).drew = wa at *
    refine MixQ.below HBa.out ?_
    refine mixS_cons ?_
    refine wpQuiet_nil ?_
    show wpList _ _ _ [_] _ _
    go_wp2_with (at_builtin; refine wpList_app (o := ⟨some 68, _, _, _, _, _⟩) (B := w4.heap.size) elU8 rfl _ _ rfl rfl rfl HE.out (R7.out.below HBa.out (Nat.le_refl _)) L7.out ?_ ?_ ?_; (rw [← L7.out]; simp <;> omega); (exact Nat.le_of_lt hza); intro A8 n8 c8 w8 h8; have H8 := Lib.hid (Own.cast h8.1 (List.nil_append _)); have HB8' := Lib.hid (HBa.out.trans h8.2.2.1); clear h8)
    refine MixQ.below HB8'.out ?_
    refine mixS_nil ?_
    repeat (show wpQuiet _ _ _ _ (_ :: _) _; go_big_quiet_step (fail))
    refine wpQuiet_nil ?_
    refine NoPanic.normal ?_
    obtain rfl := H8.out.len
    have HB8 := Lib.hid (HB4.out.trans (HB8'.out.mono (by omega)))
    have HK8 := Lib.hid (Blk.below HK4.out HB8'.out hz4)
    have O8 := Lib.hid (O5.out.below HB8'.out)
    have hz8 : w.heap.size < w8.heap.size := Blk.lt HK8.out
    have hz48 := HB8'.out.size
    clear hb0 HBa HE hza HB8' p0 p1 p2 p3 p4 p5 p6 run7
    obtain ⟨p0, p1, p2, p3, p4, p5, p6⟩ := hv_facts HK8.out
    have DN8 : Hid (∀ ad, A8 = some ad → ad.block ≠ gb) := Lib.hid (fun ad hA => by have := (H8.out.block ad hA).1; omega)
    have hpl0 : 0 < (P ++ load).length := by simp only [List.length_append]; omega
    by_cases g1 : sp = 2
    · subst g1
      go_wp2_with (at_builtin; refine wpList_app (o := ⟨some 71, _, _, _, _, _⟩) elU8 rfl _ _ rfl rfl rfl O8.out (R4.out.below HB8.out (Nat.le_refl _)) rfl ?_ ?_ ?_; omega; exact hz8; intro A9 n9 c9 w9 h9; have N9 := Lib.hid (apd_beside H8.out h9 DN8.out); have H9 := Lib.hid h9.1; have HB9 := Lib.hid (HB8.out.trans (h9.2.2.1.mono (Nat.le_succ _))); have HK9 := Lib.hid (Blk.below HK8.out h9.2.2.1 (Nat.lt_succ_self _)); have hz9 : w.heap.size < w9.heap.size := Blk.lt HK9.out; clear h9 p0 p1 p2 p3 p4 p5 p6; obtain ⟨p0, p1, p2, p3, p4, p5, p6⟩ := hv_facts HK9.out; have hn9 : 0 < n9 ∧ n9 ≤ 20000 := (by have := H9.out.len; rw [List.length_append] at this; omega); obtain ⟨hn91, hn92⟩ := hn9; obtain ⟨g9, hg9, hg91, hg92⟩ := H9.out.addr hn91; subst hg9; have D9 := Lib.hid (N9.out.2 g9 rfl); have U9 := Lib.hid N9.out.1; clear N9)
      have OQ := Lib.hid H9.out
      have HYY : Hid ((P ++ load) ++ (if h.space = 2 then [] else behind) = P ++ load) := Lib.hid (by rw [HSP.out, if_pos rfl, List.append_nil])
      have HY0 : Hid ((P ++ load).getD 0 0 = h.first) := Lib.hid (by rw [getD0_append hp0]; exact HP00.out)
      have hY1 : 0 < (P ++ load).length := by simp only [List.length_append]; omega
      have HYL : Hid ((P ++ load).length = P.length + load.length + 0) := Lib.hid (by simp only [List.length_append] <;> omega)
      have HYB : Hid (Byt (P ++ load)) := Lib.hid (HNB.out.append HLB.out)
      generalize hYE : P ++ load = Y at *
      have HYE := Lib.hid hYE
      clear hYE
      have hs0 : ∀ r : BW w9.heap.size w9, r.world.cell? ⟨w.heap.size, 0, none⟩ = some (.int .u8 2) := fun r => Blk.cell (Blk.below HK9.out r.below (Blk.lt HK9.out)) 0
      have hb0 : ∀ r : BW w9.heap.size w9, r.world.cell? ⟨g9, 0, none⟩ = some (.int .u8 h.first) := fun r => by have hh := (OQ.out.below r.below).cell0 hY1; rw [HY0.out] at hh; exact hh
      refine wp_region_mixO (fun w' => ∃ r : BW w9.heap.size w9, w' = r.world) [([0, 1, 2, 3, 4, 5], 6), ([7, 8, 9], 10)] (by kernel_rfl) (by kernel_rfl) (by kernel_rfl) (by kernel_rfl) (by kernel_rfl) ⟨BW.mk' (Below.drew (Below.refl _ _)), rfl⟩ ?_
      simp only [pickL, List.map_cons, List.map_nil, List.filterMap_cons, List.filterMap_nil, List.getElem?_cons_succ, List.getElem?_cons_zero]
      refine mixO_cons ?_
      repeat (show wpQuiet _ _ _ _ (_ :: _) _; go_big_quiet_step (fail))
      refine wpQuiet_nil ?_
      show wpList _ _ _ [_] _ _
      go_wp2_with (go_at_call 28; refine (bits_any _ _).mono ?_; rintro e w99 ⟨rfl, rfl⟩)
      clear hb0
      have OR := Lib.hid OQ.out.drew
      have HKR := Lib.hid HK9.out.drew
      have HBR := Lib.hid HB9.out.drew
      have UR := Lib.hid U9.out.drew
      have BRR : Hid (Below w9.heap.size w9 w9.drew) := Lib.hid (Below.drew (Below.refl _ _))
      generalize hwr : w9.drew = wr at *
      have fr0 := Own.frozen OR.out 0
      have fc0 := OR.out.cell0 hY1
      clear hwr
      have hgne : w.heap.size ≠ (⟨g9, 0, none⟩ : Addr).block := by show w.heap.size ≠ g9; omega
      have HVM : Hid (bits .xor .u8 h.first (bits .and .u8 m (bitsV 2)) = h.masked m) := Lib.hid (by rw [HMD.out, HSP.out])
      have HSX : Hid (splitL (Y.set 0 (h.masked m)) (dl : Int) = some ⟨h.space, h.dst, h.src, h.tok, at_, P.length + load.length⟩) := Lib.hid (by have := HSPL2.out; rw [HYY.out, HDL.out] at this; exact this)
      refine MixO.narrow (S' := fun w' => ∃ r : BW w9.heap.size w9, w' = r.world) (fun v hv => hv) ⟨BW.mk' BRR.out, rfl⟩ ?_
      refine mixO_cons ?_
      repeat (show wpQuiet _ _ _ _ (_ :: _) _; go_big_quiet_step (fail))
      refine wpQuiet_nil ?_
      show wpList _ _ _ [_] _ _
      go_wp2_with fail
      refine MixO.last ?_
      refine mixO_nil ?_
      refine wpQuiet_nil ?_
      refine NoPanic.normal ?_
      rw [HVM.out]
      have OX := Lib.hid (OR.out.set_ 0 (h.masked m))
      have HKX := Lib.hid (Blk.far HKR.out (p := ⟨g9, 0, none⟩) (hgne) (.int .u8 (h.masked m)))
      have HBX : Hid (Below w.heap.size w (wr.setCell ⟨g9, 0, none⟩ (.int .u8 (h.masked m)))) := Lib.hid (HBR.out.setCell (by simp; omega) _)
      have UX := Lib.hid (UR.out.farA (p := ⟨g9, 0, none⟩) (fun ad hA => D9.out ad hA) (.int .u8 (h.masked m)))
      generalize wr.setCell ⟨g9, 0, none⟩ (.int .u8 (h.masked m)) = wx at *
      clear fr0 fc0 hs0 p0 p1 p2 p3 p4 p5 p6
      obtain ⟨p0, p1, p2, p3, p4, p5, p6⟩ := hv_facts HKX.out
      have hzx : w.heap.size < wx.heap.size := Blk.lt HKX.out
      have HXL : Hid ((Y.set 0 (h.masked m)).length = P.length + load.length + 0) := Lib.hid (by rw [List.length_set]; exact HYL.out)
      have HXB : Hid (Byt (Y.set 0 (h.masked m))) := Lib.hid (byt_set HYB.out (HMR.out HM.out).1 (HMR.out HM.out).2.1)
      have HXD : Hid ((Y.set 0 (h.masked m)).drop (P.length + load.length) = []) := Lib.hid (by rw [← HYE.out]; exact set_dropE (by simp only [List.length_append]; omega))
      have HXT : Hid (((Y.set 0 (h.masked m)).take (P.length + load.length)).drop P.length = load) := Lib.hid (by rw [← HYE.out]; exact set_tail hp0)
      have HX0 : Hid (((Y.set 0 (h.masked m)).take (P.length + load.length)).getD 0 0 = h.masked m) := Lib.hid (by rw [getD_take (by omega)]; exact getD_set0 hY1)
      generalize Y.set 0 (h.masked m) = X at *
      clear HYL HYB HY0
      go_wp2_with fail
      refine (split_len (some ⟨g9, 0, none⟩) n9 c9 X (dl : Int) wx OX.out.rd HXB.out OX.out.len OX.out.cap.1 (by omega) (by omega) (by omega)).mono ?_
      rintro e ws hp
      have hp1 := hp.1 _ HSX.out
      clear hp
      dsimp only [SplitYes] at hp1
      rw [HSP.out] at hp1
      obtain ⟨vd, vs, vt, vb, vr, rfl, sd, ss, st, sb, sr, hbs⟩ := hp1
      have HKS := Lib.hid (Blk.below HKX.out hbs hzx)
      have HBS := Lib.hid (HBX.out.trans (hbs.mono (by omega)))
      have US := Lib.hid (UX.out.below hbs)
      obtain ⟨Ad, nd, cd, rfl, ld, kd, rd⟩ := sd
      obtain ⟨As, ns, cs, rfl, ls, ks, rs⟩ := ss
      obtain ⟨At, nt, ct, rfl, lt, kt, rt⟩ := st
      obtain ⟨Ab, nb, cb, rfl, lb, kb, rb⟩ := sb
      obtain ⟨Ar, nr, cr, rfl, lr, kr, rr⟩ := sr
      have hlb : (X.take (P.length + load.length)).length = P.length + load.length := by rw [List.length_take, HXL.out]; omega
      rw [HXD.out] at lr rr
      have HX0' := Lib.hid HX0.out
      have HXT' := Lib.hid HXT.out
      generalize X.take (P.length + load.length) = Lb at *
      clear HX0 HXT HXD HXL HXB HSX OX
      have hzs : w.heap.size < ws.heap.size := Blk.lt HKS.out
      obtain ⟨gz, hgz⟩ : ∃ g, ws.heap.size = g := ⟨_, rfl⟩
      have HPT : Hid (Blk (ws.alloc (.cells #[.int .u8 2, .slice Ad nd cd, .slice As ns cs, .slice At nt ct, .int .i64 (at_ : Nat), .slice Ab nb cb] 67)) gz 67 #[.int .u8 2, .slice Ad nd cd, .slice As ns cs, .slice At nt ct, .int .i64 (at_ : Nat), .slice Ab nb cb]) := Lib.hid (by rw [← hgz]; exact Blk.new _ _ _)
      have hbz : Below ws.heap.size ws (ws.alloc (.cells #[.int .u8 2, .slice Ad nd cd, .slice As ns cs, .slice At nt ct, .int .i64 (at_ : Nat), .slice Ab nb cb] 67)) := (Below.refl _ _).alloc (Nat.le_refl _) _
      have BZ := Lib.hid hbz
      have HKZ := Lib.hid (Blk.below HKS.out hbz hzs)
      have HBZ := Lib.hid (HBS.out.trans (hbz.mono (by omega)))
      have UZ := Lib.hid (US.out.below hbz)
      have RDz := Lib.hid ((rd.below hbz (Nat.le_refl _)).mono hbz.size)
      have RSz := Lib.hid ((rs.below hbz (Nat.le_refl _)).mono hbz.size)
      have RTz := Lib.hid ((rt.below hbz (Nat.le_refl _)).mono hbz.size)
      have RBz := Lib.hid ((rb.below hbz (Nat.le_refl _)).mono hbz.size)
      have RRz := Lib.hid ((rr.below hbz (Nat.le_refl _)).mono hbz.size)
      have LD := Lib.hid (And.intro ld kd)
      have LS' := Lib.hid (And.intro ls ks)
      have LT := Lib.hid (And.intro lt kt)
      subst lb
      have KB := Lib.hid kb
      have LR := Lib.hid (And.intro lr kr)
      have LBL := Lib.hid hlb
      clear hbz rd rs rt rb rr ld kd ls ks lt kt kb lr kr hlb hbs p0 p1 p2 p3 p4 p5 p6
      go_wp2_with fail
      generalize ws.alloc (.cells #[.int .u8 2, .slice Ad nd cd, .slice As ns cs, .slice At nt ct, .int .i64 (at_ : Nat), .slice Ab Lb.length cb] 67) = wy at *
      obtain ⟨p0, p1, p2, p3, p4, p5, p6⟩ := hv_facts HKZ.out
      have hzy : w.heap.size < wy.heap.size := Blk.lt HKZ.out
      have u0 := Blk.cell HPT.out 0
      have u1 := Blk.cell HPT.out 1
      have u2 := Blk.cell HPT.out 2
      have u3 := Blk.cell HPT.out 3
      have u4 := Blk.cell HPT.out 4
      have u5 := Blk.cell HPT.out 5
      have k1 := conv_z RDz.out LD.out.1 LD.out.2 (Nat.le_refl _)
      have k2 := conv_z RSz.out LS'.out.1 LS'.out.2 (Nat.le_refl _)
      have k3 := conv_z RTz.out LT.out.1 LT.out.2 (Nat.le_refl _)
      have l1 := conv_z (R1.out.below HBZ.out (Nat.le_refl _)) HDL.out.symm (by rw [← HDL.out]; exact K1.out) HBZ.out.size
      have l2 := conv_z (R2.out.below HBZ.out (Nat.le_refl _)) HSL.out.symm (by rw [← HSL.out]; exact K2.out) HBZ.out.size
      have l3 := conv_z (R3.out.below HBZ.out (Nat.le_refl _)) HTL.out.symm (by rw [← HTL.out]; exact K3.out) HBZ.out.size
      have l4 := conv_z (R4.out.below HBZ.out (Nat.le_refl _)) rfl K4.out HBZ.out.size
      obtain ⟨A6, c6, k61, k62, r6, l6, run6⟩ := slice_l elU8 RBz.out KB.out ((at_ : Int) + pb) load.length (by omega) (by rw [LBL.out]; have := HATS.out; omega) (by rw [LBL.out]; have := HATS.out; omega)
      rw [show ((at_ : Int) + pb).toNat = P.length by have := HATS.out; omega, HXT'.out] at r6 l6
      have k6 := conv_z r6 l6.symm k61 (Nat.le_refl _)
      clear r6 l6
      generalize strOfNums h.dst = x1 at *
      generalize strOfNums h.src = x2 at *
      generalize strOfNums h.tok = x3 at *
      generalize strOfNums load = x4 at *
      go_quiet (fail)
      clear k1 k2 k3 l1 l2 l3 l4 k6 run6 p0 p1 p2 p3 p4 p5 p6 u0 u1 u2 u3 u4 u5
      have hbq : Below wy.heap.size wy (wy.drewN nq) := below_drewN (Below.refl _ _) nq
      generalize wy.drewN nq = wz at *
      have HKq := Lib.hid (Blk.below HKZ.out hbq hzy)
      have HPq := Lib.hid (Blk.below HPT.out hbq (Blk.lt HPT.out))
      have HBq := Lib.hid (HBZ.out.trans (hbq.mono (by omega)))
      have Uq := Lib.hid (UZ.out.below hbq)
      have RDq : Hid (Sl wz (.slice Ad nd cd) h.dst) := Lib.hid ⟨Ad, nd, cd, rfl, LD.out.1, LD.out.2, (RDz.out.below hbq (Nat.le_refl _)).mono hbq.size⟩
      have RSq : Hid (Sl wz (.slice As ns cs) h.src) := Lib.hid ⟨As, ns, cs, rfl, LS'.out.1, LS'.out.2, (RSz.out.below hbq (Nat.le_refl _)).mono hbq.size⟩
      have RTq : Hid (Sl wz (.slice At nt ct) h.tok) := Lib.hid ⟨At, nt, ct, rfl, LT.out.1, LT.out.2, (RTz.out.below hbq (Nat.le_refl _)).mono hbq.size⟩
      have RBq : Hid (Sl wz (.slice Ab Lb.length cb) Lb) := Lib.hid ⟨Ab, Lb.length, cb, rfl, rfl, KB.out, (RBz.out.below hbq (Nat.le_refl _)).mono hbq.size⟩
      obtain ⟨p0, p1, p2, p3, p4, p5, p6⟩ := hv_facts HKq.out
      have u0 := Blk.cell HPq.out 0
      have u1 := Blk.cell HPq.out 1
      have u2 := Blk.cell HPq.out 2
      have u3 := Blk.cell HPq.out 3
      have u4 := Blk.cell HPq.out 4
      have u5 := Blk.cell HPq.out 5
      obtain rfl : nr = 0 := LR.out.1
      clear hbq
      go_wp2_with fail
      have HFF := Lib.hid (HFR.out HM.out)
      have HMM := Lib.hid (HMR.out HM.out)
      refine (bare_yes 2 (at_ : Int) (.slice Ad nd cd) (.slice As ns cs) (.slice At nt ct) (.slice Ab Lb.length cb) _ h.dst h.src h.tok Lb (beL h.pn h.pb.toNat) h.first wz RDq.out RSq.out RTq.out RBq.out (Sl.own Uq.out) (beL_byt _ _) HFF.out.1 HFF.out.2.1 (by rw [LBL.out]; omega) (by have hh := HMM.out.2.2.1; rw [HSP.out] at hh; rw [HX0'.out]; exact hh) (by have hh := HMM.out.2.2.2; rw [HSP.out] at hh; exact hh) (by rw [HFF.out.2.2.1, beL_len]; have := HPE.out; omega) ⟨by rw [HDL.out]; omega, by rw [HSL.out]; omega, by rw [HTL.out]; omega, by rw [LBL.out]; omega, by rw [beL_len]; have := HPE.out; omega⟩).mono ?_
      rintro e wb ⟨v, rfl, hv, hbb⟩
      have hbc := HBC.out HM.out
      rw [HSP.out] at hbc
      rw [hbc] at hv
      clear hbc u0 u1 u2 u3 u4 u5 p0 p1 p2 p3 p4 p5 p6
      obtain ⟨pc, hpc⟩ : ∃ x, h.cut.pn = x := ⟨_, rfl⟩
      obtain ⟨B1, n1, d1, B2, n2, d2, B3, n3, d3, rfl⟩ := hdv_parts hv (show h.cut.space = 2 from HSP.out) (show h.cut.phase = ph from HPH.out) hpc (show h.cut.pb = pb from HPE.out)
      have HPC := Lib.hid hpc
      have HKb := Lib.hid (Blk.below HKq.out hbb (Blk.lt HKq.out))
      have hzb : w.heap.size < wb.heap.size := Blk.lt HKb.out
      have HBb := Lib.hid (HBq.out.trans (hbb.mono (by have := HBq.out.size; omega)))
      have HPN2 : Hid (0 ≤ pn ∧ pn < 18446744073709551616) := Lib.hid (by rw [← HPNE.out]; exact HPN.out)
      clear hpc hbb
      obtain ⟨p0, p1, p2, p3, p4, p5, p6⟩ := hv_facts HKb.out
      obtain ⟨gc, hgc⟩ : ∃ g, wb.heap.size = g := ⟨_, rfl⟩
      have HGC := Lib.hid hgc
      have hbz : Below wb.heap.size wb ((wb.alloc (.cells #[.int .u8 2, .slice B1 n1 d1, .slice B2 n2 d2, .slice B3 n3 d3, .bool ph, .int .u64 pc, .int .i64 pb] 59)).alloc (.cells #[.int .u8 2, .slice A1 dl c1, .slice A2 sl c2, .slice A3 tl c3, .bool ph, .int .u64 pn, .int .i64 pb] 59)) := ((Below.refl _ _).alloc (Nat.le_refl _) _).alloc (by simp) _
      have HC1 : Hid (Blk ((wb.alloc (.cells #[.int .u8 2, .slice B1 n1 d1, .slice B2 n2 d2, .slice B3 n3 d3, .bool ph, .int .u64 pc, .int .i64 pb] 59)).alloc (.cells #[.int .u8 2, .slice A1 dl c1, .slice A2 sl c2, .slice A3 tl c3, .bool ph, .int .u64 pn, .int .i64 pb] 59)) gc 59 #[.int .u8 2, .slice B1 n1 d1, .slice B2 n2 d2, .slice B3 n3 d3, .bool ph, .int .u64 pc, .int .i64 pb]) := Lib.hid (by rw [← hgc]; exact Blk.alloc (Blk.new _ _ _) _)
      have HC2 : Hid (Blk ((wb.alloc (.cells #[.int .u8 2, .slice B1 n1 d1, .slice B2 n2 d2, .slice B3 n3 d3, .bool ph, .int .u64 pc, .int .i64 pb] 59)).alloc (.cells #[.int .u8 2, .slice A1 dl c1, .slice A2 sl c2, .slice A3 tl c3, .bool ph, .int .u64 pn, .int .i64 pb] 59)) (gc + 1) 59 #[.int .u8 2, .slice A1 dl c1, .slice A2 sl c2, .slice A3 tl c3, .bool ph, .int .u64 pn, .int .i64 pb]) := Lib.hid (by
        have hh := Blk.new (wb.alloc (.cells #[.int .u8 2, .slice B1 n1 d1, .slice B2 n2 d2, .slice B3 n3 d3, .bool ph, .int .u64 pc, .int .i64 pb] 59)) 59 #[.int .u8 2, .slice A1 dl c1, .slice A2 sl c2, .slice A3 tl c3, .bool ph, .int .u64 pn, .int .i64 pb]
        rwa [show (wb.alloc (.cells #[.int .u8 2, .slice B1 n1 d1, .slice B2 n2 d2, .slice B3 n3 d3, .bool ph, .int .u64 pc, .int .i64 pb] 59)).heap.size = gc + 1 by simp [hgc]] at hh)
      have HKc := Lib.hid (Blk.below HKb.out hbz hzb)
      have HBc := Lib.hid (HBb.out.trans (hbz.mono (by omega)))
      have BBc := Lib.hid hbz
      have HVb := Lib.hid hv
      clear hbz hv hgc
      go_wp2_with fail
      rw [HGC.out]
      generalize ((wb.alloc (.cells #[.int .u8 2, .slice B1 n1 d1, .slice B2 n2 d2, .slice B3 n3 d3, .bool ph, .int .u64 pc, .int .i64 pb] 59)).alloc (.cells #[.int .u8 2, .slice A1 dl c1, .slice A2 sl c2, .slice A3 tl c3, .bool ph, .int .u64 pn, .int .i64 pb] 59)) = wc at *
      clear p0 p1 p2 p3 p4 p5 p6
      have hn0 := HPN2.out.1
      have hn1 := HPN2.out.2
      have hcn : ∀ r : BW wc.heap.size wc, r.world.cell? ⟨gc + 1, 5, none⟩ = some (.int .u64 pn) := fun r => Blk.cell (Blk.below HC2.out r.below (Blk.lt HC2.out)) 5
      have hcb : ∀ r : BW wc.heap.size wc, r.world.cell? ⟨w.heap.size, 6, none⟩ = some (.int .i64 pb) := fun r => Blk.cell (Blk.below HKc.out r.below (Blk.lt HKc.out)) 6
      have hzc : gc + 1 < wc.heap.size := Blk.lt HC2.out
      have hgw : w.heap.size < gc := by rw [← HGC.out]; exact hzb
      have HC1e : Hid (Blk wc.drew gc 59 #[.int .u8 2, .slice B1 n1 d1, .slice B2 n2 d2, .slice B3 n3 d3, .bool ph, .int .u64 pc, .int .i64 pb]) := Lib.hid HC1.out.drew
      have HC2e : Hid (Blk wc.drew (gc + 1) 59 #[.int .u8 2, .slice A1 dl c1, .slice A2 sl c2, .slice A3 tl c3, .bool ph, .int .u64 pn, .int .i64 pb]) := Lib.hid HC2.out.drew
      have HBe := Lib.hid HBc.out.drew
      have BBe : Hid (Below wb.heap.size wb wc.drew) := Lib.hid BBc.out.drew
      have HPM : Hid (pn % 256 ^ pb.toNat = pc) := Lib.hid (by have hh := HPC.out; unfold HD.cut at hh; dsimp only at hh; rw [HPNE.out, HPE.out] at hh; exact hh)
      rcases (show pb = 1 ∨ pb = 2 ∨ pb = 3 ∨ pb = 4 by omega) with rfl | rfl | rfl | rfl
      all_goals
        refine wp_region_mixO (fun w' => ∃ r : BW wc.heap.size wc, w' = r.world) [([0, 1, 2, 3, 4, 5, 6, 7], 8)] (by kernel_rfl) (by kernel_rfl) (by kernel_rfl) (by kernel_rfl) (by kernel_rfl) ⟨BW.mk' (Below.drew (Below.refl _ _)), rfl⟩ ?_
        simp only [pickL, List.map_cons, List.map_nil, List.filterMap_cons, List.filterMap_nil, List.getElem?_cons_succ, List.getElem?_cons_zero]
        refine mixO_cons ?_
        repeat (show wpQuiet _ _ _ _ (_ :: _) _; go_big_quiet_step (fail))
        refine wpQuiet_nil ?_
        clear hcn hcb
        generalize wc.drew = we at *
        have fr5 : we.frozen? ⟨gc + 1, 5, none⟩ = false := Blk.frozen HC2e.out 5
        have ce5 := Blk.cell HC2e.out 5
        show wpList _ _ _ [_] _ _
        go_wp2_with fail
        refine MixO.last ?_
        refine mixO_nil ?_
        refine wpQuiet_nil ?_
        refine NoPanic.normal ?_
        clear fr5 ce5
        have hpm := HPM.out
        first
          | rw [show (256 : Int) ^ (1 : Int).toNat = 256 from rfl] at hpm
          | rw [show (256 : Int) ^ (2 : Int).toNat = 65536 from rfl] at hpm
          | rw [show (256 : Int) ^ (3 : Int).toNat = 16777216 from rfl] at hpm
          | rw [show (256 : Int) ^ (4 : Int).toNat = 4294967296 from rfl] at hpm
        rw [hpm]
        clear hpm
        have HC1f := Lib.hid (Blk.far HC1e.out (p := ⟨gc + 1, 5, none⟩) (show gc ≠ gc + 1 by omega) (.int .u64 pc))
        have HC2f : Hid (Blk (we.setCell ⟨gc + 1, 5, none⟩ (.int .u64 pc)) (gc + 1) 59 #[.int .u8 2, .slice A1 dl c1, .slice A2 sl c2, .slice A3 tl c3, .bool ph, .int .u64 pc, .int .i64 _]) := Lib.hid (Blk.cast (Blk.set_ HC2e.out 5 _) (by simp <;> rfl))
        have HBf : Hid (Below w.heap.size w (we.setCell ⟨gc + 1, 5, none⟩ (.int .u64 pc))) := Lib.hid (HBe.out.setCell (by simp; omega) _)
        have HVf := Lib.hid (HdV.below HVb.out (BBe.out.setCell (p := ⟨gc + 1, 5, none⟩) (by rw [HGC.out]; simp) (.int .u64 pc)))
        generalize we.setCell ⟨gc + 1, 5, none⟩ (.int .u64 pc) = wf at *
        have HWf := Lib.hid (hdv_mk (w := wf) (h := h.cut) (sp := 2) (ph := ph) (pn := pc) HSP.out HPH.out HPC.out HPE.out (⟨A1, dl, c1, rfl, HDL.out.symm, by rw [← HDL.out]; exact K1.out, (R1.out.below HBf.out (Nat.le_refl _)).mono HBf.out.size⟩ : Sl wf (.slice A1 dl c1) h.cut.dst) (⟨A2, sl, c2, rfl, HSL.out.symm, by rw [← HSL.out]; exact K2.out, (R2.out.below HBf.out (Nat.le_refl _)).mono HBf.out.size⟩ : Sl wf (.slice A2 sl c2) h.cut.src) (⟨A3, tl, c3, rfl, HTL.out.symm, by rw [← HTL.out]; exact K3.out, (R3.out.below HBf.out (Nat.le_refl _)).mono HBf.out.size⟩ : Sl wf (.slice A3 tl c3) h.cut.tok))
        obtain ⟨x0, x1', x2', x3', x4', x5', x6'⟩ := hv_facts HC1f.out
        obtain ⟨y0, y1', y2', y3', y4', y5', y6'⟩ := hv_facts HC2f.out
        go_wp2_with fail
        refine (same_yes _ _ h.cut wf HVf.out HWf.out).mono ?_
        rintro e wg ⟨rfl, hbg⟩
        have HBg := Lib.hid (HBf.out.trans (hbg.mono HBf.out.size))
        clear hbg
        go_wp2_with fail
        go_ret
        exact ⟨rfl, HBg.out⟩
    · have g1' : decide (sp = 2) = false := by simp [g1]
      go_wp2_with (first | (at_builtin; refine wpList_app (o := ⟨some 71, _, _, _, _, _⟩) elU8 rfl _ _ rfl rfl rfl O8.out (R4.out.below HB8.out (Nat.le_refl _)) rfl ?_ ?_ ?_; omega; exact hz8; intro A9 n9 c9 w9 h9; have N9 := Lib.hid (apd_beside H8.out h9 DN8.out); have H9 := Lib.hid h9.1; have HB9 := Lib.hid (HB8.out.trans (h9.2.2.1.mono (Nat.le_succ _))); have HK9 := Lib.hid (Blk.below HK8.out h9.2.2.1 (Nat.lt_succ_self _)); have hz9 : w.heap.size < w9.heap.size := Blk.lt HK9.out; clear h9 p0 p1 p2 p3 p4 p5 p6; obtain ⟨p0, p1, p2, p3, p4, p5, p6⟩ := hv_facts HK9.out; have hn9 : 0 < n9 ∧ n9 ≤ 20000 := (by have := H9.out.len; rw [List.length_append] at this; omega); obtain ⟨hn91, hn92⟩ := hn9; obtain ⟨g9, hg9, hg91, hg92⟩ := H9.out.addr hn91; subst hg9; have D9 := Lib.hid (N9.out.2 g9 rfl); have U9 := Lib.hid N9.out.1; clear N9) | (at_builtin; refine wpList_app (o := ⟨some 77, _, _, _, _, _⟩) elU8 rfl _ _ rfl rfl rfl H9.out (R5.out.below HB9.out (Nat.le_refl _)) rfl ?_ ?_ ?_; (simp only [List.length_append]; omega); exact hz9; intro A10 n10 c10 w10 h10; have N10 := Lib.hid (apd_beside U9.out h10 D9.out); have H10 := Lib.hid h10.1; have HB10 := Lib.hid (HB9.out.trans (h10.2.2.1.mono (Nat.le_succ _))); have HK10 := Lib.hid (Blk.below HK9.out h10.2.2.1 (Nat.lt_succ_self _)); have hz10 : w.heap.size < w10.heap.size := Blk.lt HK10.out; clear h10 p0 p1 p2 p3 p4 p5 p6; obtain ⟨p0, p1, p2, p3, p4, p5, p6⟩ := hv_facts HK10.out; have hn10 : 0 < n10 ∧ n10 ≤ 20000 := (by have := H10.out.len; simp only [List.length_append] at this; omega); obtain ⟨hn101, hn102⟩ := hn10; obtain ⟨g10, hg10, hg101, hg102⟩ := H10.out.addr hn101; subst hg10; have D10 := Lib.hid (N10.out.2 g10 rfl); have U10 := Lib.hid N10.out.1; clear N10))
      have OQ := Lib.hid H10.out
      have HYY : Hid ((P ++ load) ++ (if h.space = 2 then [] else behind) = P ++ load ++ behind) := Lib.hid (by rw [HSP.out, if_neg g1])
      have HY0 : Hid ((P ++ load ++ behind).getD 0 0 = h.first) := Lib.hid (by rw [List.append_assoc, getD0_append hp0]; exact HP00.out)
      have hY1 : 0 < (P ++ load ++ behind).length := by simp only [List.length_append]; omega
      have HYL : Hid ((P ++ load ++ behind).length = P.length + load.length + behind.length) := Lib.hid (by simp only [List.length_append] <;> omega)
      have HYB : Hid (Byt (P ++ load ++ behind)) := Lib.hid ((HNB.out.append HLB.out).append HB5'.out)
      generalize hYE : P ++ load ++ behind = Y at *
      have HYE := Lib.hid hYE
      clear hYE
      have hs0 : ∀ r : BW w10.heap.size w10, r.world.cell? ⟨w.heap.size, 0, none⟩ = some (.int .u8 sp) := fun r => Blk.cell (Blk.below HK10.out r.below (Blk.lt HK10.out)) 0
      have hb0 : ∀ r : BW w10.heap.size w10, r.world.cell? ⟨g10, 0, none⟩ = some (.int .u8 h.first) := fun r => by have hh := (OQ.out.below r.below).cell0 hY1; rw [HY0.out] at hh; exact hh
      refine wp_region_mixO (fun w' => ∃ r : BW w10.heap.size w10, w' = r.world) [([0, 1, 2, 3, 4, 5], 6), ([7, 8, 9], 10)] (by kernel_rfl) (by kernel_rfl) (by kernel_rfl) (by kernel_rfl) (by kernel_rfl) ⟨BW.mk' (Below.drew (Below.refl _ _)), rfl⟩ ?_
      simp only [pickL, List.map_cons, List.map_nil, List.filterMap_cons, List.filterMap_nil, List.getElem?_cons_succ, List.getElem?_cons_zero]
      refine mixO_cons ?_
      repeat (show wpQuiet _ _ _ _ (_ :: _) _; go_big_quiet_step (fail))
      refine wpQuiet_nil ?_
      show wpList _ _ _ [_] _ _
      go_wp2_with (go_at_call 28; refine (bits_any _ _).mono ?_; rintro e w99 ⟨rfl, rfl⟩)
      clear hb0
      have OR := Lib.hid OQ.out.drew
      have HKR := Lib.hid HK10.out.drew
      have HBR := Lib.hid HB10.out.drew
      have UR := Lib.hid U10.out.drew
      have BRR : Hid (Below w10.heap.size w10 w10.drew) := Lib.hid (Below.drew (Below.refl _ _))
      generalize hwr : w10.drew = wr at *
      have fr0 := Own.frozen OR.out 0
      have fc0 := OR.out.cell0 hY1
      clear hwr
      have hgne : w.heap.size ≠ (⟨g10, 0, none⟩ : Addr).block := by show w.heap.size ≠ g10; omega
      have HVM : Hid (bits .xor .u8 h.first (bits .and .u8 m (bitsV sp)) = h.masked m) := Lib.hid (by rw [HMD.out, HSP.out])
      have HSX : Hid (splitL (Y.set 0 (h.masked m)) (dl : Int) = some ⟨h.space, h.dst, h.src, h.tok, at_, P.length + load.length⟩) := Lib.hid (by have := HSPL2.out; rw [HYY.out, HDL.out] at this; exact this)
      refine MixO.narrow (S' := fun w' => ∃ r : BW w10.heap.size w10, w' = r.world) (fun v hv => hv) ⟨BW.mk' BRR.out, rfl⟩ ?_
      refine mixO_cons ?_
      repeat (show wpQuiet _ _ _ _ (_ :: _) _; go_big_quiet_step (fail))
      refine wpQuiet_nil ?_
      show wpList _ _ _ [_] _ _
      go_wp2_with fail
      refine MixO.last ?_
      refine mixO_nil ?_
      refine wpQuiet_nil ?_
      refine NoPanic.normal ?_
      rw [HVM.out]
      have OX := Lib.hid (OR.out.set_ 0 (h.masked m))
      have HKX := Lib.hid (Blk.far HKR.out (p := ⟨g10, 0, none⟩) (hgne) (.int .u8 (h.masked m)))
      have HBX : Hid (Below w.heap.size w (wr.setCell ⟨g10, 0, none⟩ (.int .u8 (h.masked m)))) := Lib.hid (HBR.out.setCell (by simp; omega) _)
      have UX := Lib.hid (UR.out.farA (p := ⟨g10, 0, none⟩) (fun ad hA => D10.out ad hA) (.int .u8 (h.masked m)))
      generalize wr.setCell ⟨g10, 0, none⟩ (.int .u8 (h.masked m)) = wx at *
      clear fr0 fc0 hs0 p0 p1 p2 p3 p4 p5 p6
      obtain ⟨p0, p1, p2, p3, p4, p5, p6⟩ := hv_facts HKX.out
      have hzx : w.heap.size < wx.heap.size := Blk.lt HKX.out
      have HXL : Hid ((Y.set 0 (h.masked m)).length = P.length + load.length + behind.length) := Lib.hid (by rw [List.length_set]; exact HYL.out)
      have HXB : Hid (Byt (Y.set 0 (h.masked m))) := Lib.hid (byt_set HYB.out (HMR.out HM.out).1 (HMR.out HM.out).2.1)
      have HXD : Hid ((Y.set 0 (h.masked m)).drop (P.length + load.length) = behind) := Lib.hid (by rw [← HYE.out]; exact set_drop hp0)
      have HXT : Hid (((Y.set 0 (h.masked m)).take (P.length + load.length)).drop P.length = load) := Lib.hid (by rw [← HYE.out]; exact set_tail2 hp0)
      have HX0 : Hid (((Y.set 0 (h.masked m)).take (P.length + load.length)).getD 0 0 = h.masked m) := Lib.hid (by rw [getD_take (by omega)]; exact getD_set0 hY1)
      generalize Y.set 0 (h.masked m) = X at *
      clear HYL HYB HY0
      go_wp2_with fail
      refine (split_len (some ⟨g10, 0, none⟩) n10 c10 X (dl : Int) wx OX.out.rd HXB.out OX.out.len OX.out.cap.1 (by omega) (by omega) (by omega)).mono ?_
      rintro e ws hp
      have hp1 := hp.1 _ HSX.out
      clear hp
      dsimp only [SplitYes] at hp1
      rw [HSP.out] at hp1
      obtain ⟨vd, vs, vt, vb, vr, rfl, sd, ss, st, sb, sr, hbs⟩ := hp1
      have HKS := Lib.hid (Blk.below HKX.out hbs hzx)
      have HBS := Lib.hid (HBX.out.trans (hbs.mono (by omega)))
      have US := Lib.hid (UX.out.below hbs)
      obtain ⟨Ad, nd, cd, rfl, ld, kd, rd⟩ := sd
      obtain ⟨As, ns, cs, rfl, ls, ks, rs⟩ := ss
      obtain ⟨At, nt, ct, rfl, lt, kt, rt⟩ := st
      obtain ⟨Ab, nb, cb, rfl, lb, kb, rb⟩ := sb
      obtain ⟨Ar, nr, cr, rfl, lr, kr, rr⟩ := sr
      have hlb : (X.take (P.length + load.length)).length = P.length + load.length := by rw [List.length_take, HXL.out]; omega
      rw [HXD.out] at lr rr
      have HX0' := Lib.hid HX0.out
      have HXT' := Lib.hid HXT.out
      generalize X.take (P.length + load.length) = Lb at *
      clear HX0 HXT HXD HXL HXB HSX OX
      have hzs : w.heap.size < ws.heap.size := Blk.lt HKS.out
      obtain ⟨gz, hgz⟩ : ∃ g, ws.heap.size = g := ⟨_, rfl⟩
      have HPT : Hid (Blk (ws.alloc (.cells #[.int .u8 sp, .slice Ad nd cd, .slice As ns cs, .slice At nt ct, .int .i64 (at_ : Nat), .slice Ab nb cb] 67)) gz 67 #[.int .u8 sp, .slice Ad nd cd, .slice As ns cs, .slice At nt ct, .int .i64 (at_ : Nat), .slice Ab nb cb]) := Lib.hid (by rw [← hgz]; exact Blk.new _ _ _)
      have hbz : Below ws.heap.size ws (ws.alloc (.cells #[.int .u8 sp, .slice Ad nd cd, .slice As ns cs, .slice At nt ct, .int .i64 (at_ : Nat), .slice Ab nb cb] 67)) := (Below.refl _ _).alloc (Nat.le_refl _) _
      have BZ := Lib.hid hbz
      have HKZ := Lib.hid (Blk.below HKS.out hbz hzs)
      have HBZ := Lib.hid (HBS.out.trans (hbz.mono (by omega)))
      have UZ := Lib.hid (US.out.below hbz)
      have RDz := Lib.hid ((rd.below hbz (Nat.le_refl _)).mono hbz.size)
      have RSz := Lib.hid ((rs.below hbz (Nat.le_refl _)).mono hbz.size)
      have RTz := Lib.hid ((rt.below hbz (Nat.le_refl _)).mono hbz.size)
      have RBz := Lib.hid ((rb.below hbz (Nat.le_refl _)).mono hbz.size)
      have RRz := Lib.hid ((rr.below hbz (Nat.le_refl _)).mono hbz.size)
      have LD := Lib.hid (And.intro ld kd)
      have LS' := Lib.hid (And.intro ls ks)
      have LT := Lib.hid (And.intro lt kt)
      subst lb
      have KB := Lib.hid kb
      have LR := Lib.hid (And.intro lr kr)
      have LBL := Lib.hid hlb
      clear hbz rd rs rt rb rr ld kd ls ks lt kt kb lr kr hlb hbs p0 p1 p2 p3 p4 p5 p6
      go_wp2_with fail
      generalize ws.alloc (.cells #[.int .u8 sp, .slice Ad nd cd, .slice As ns cs, .slice At nt ct, .int .i64 (at_ : Nat), .slice Ab Lb.length cb] 67) = wy at *
      obtain ⟨p0, p1, p2, p3, p4, p5, p6⟩ := hv_facts HKZ.out
      have hzy : w.heap.size < wy.heap.size := Blk.lt HKZ.out
      have u0 := Blk.cell HPT.out 0
      have u1 := Blk.cell HPT.out 1
      have u2 := Blk.cell HPT.out 2
      have u3 := Blk.cell HPT.out 3
      have u4 := Blk.cell HPT.out 4
      have u5 := Blk.cell HPT.out 5
      have k1 := conv_z RDz.out LD.out.1 LD.out.2 (Nat.le_refl _)
      have k2 := conv_z RSz.out LS'.out.1 LS'.out.2 (Nat.le_refl _)
      have k3 := conv_z RTz.out LT.out.1 LT.out.2 (Nat.le_refl _)
      have l1 := conv_z (R1.out.below HBZ.out (Nat.le_refl _)) HDL.out.symm (by rw [← HDL.out]; exact K1.out) HBZ.out.size
      have l2 := conv_z (R2.out.below HBZ.out (Nat.le_refl _)) HSL.out.symm (by rw [← HSL.out]; exact K2.out) HBZ.out.size
      have l3 := conv_z (R3.out.below HBZ.out (Nat.le_refl _)) HTL.out.symm (by rw [← HTL.out]; exact K3.out) HBZ.out.size
      have l4 := conv_z (R4.out.below HBZ.out (Nat.le_refl _)) rfl K4.out HBZ.out.size
      obtain ⟨A6, c6, k61, k62, r6, l6, run6⟩ := slice_l elU8 RBz.out KB.out ((at_ : Int) + pb) load.length (by omega) (by rw [LBL.out]; have := HATS.out; omega) (by rw [LBL.out]; have := HATS.out; omega)
      rw [show ((at_ : Int) + pb).toNat = P.length by have := HATS.out; omega, HXT'.out] at r6 l6
      have k6 := conv_z r6 l6.symm k61 (Nat.le_refl _)
      clear r6 l6
      generalize strOfNums h.dst = x1 at *
      generalize strOfNums h.src = x2 at *
      generalize strOfNums h.tok = x3 at *
      generalize strOfNums load = x4 at *
      go_quiet (fail)
      clear k1 k2 k3 l1 l2 l3 l4 k6 run6 p0 p1 p2 p3 p4 p5 p6 u0 u1 u2 u3 u4 u5
      have hbq : Below wy.heap.size wy (wy.drewN nq) := below_drewN (Below.refl _ _) nq
      generalize wy.drewN nq = wz at *
      have HKq := Lib.hid (Blk.below HKZ.out hbq hzy)
      have HPq := Lib.hid (Blk.below HPT.out hbq (Blk.lt HPT.out))
      have HBq := Lib.hid (HBZ.out.trans (hbq.mono (by omega)))
      have Uq := Lib.hid (UZ.out.below hbq)
      have RDq : Hid (Sl wz (.slice Ad nd cd) h.dst) := Lib.hid ⟨Ad, nd, cd, rfl, LD.out.1, LD.out.2, (RDz.out.below hbq (Nat.le_refl _)).mono hbq.size⟩
      have RSq : Hid (Sl wz (.slice As ns cs) h.src) := Lib.hid ⟨As, ns, cs, rfl, LS'.out.1, LS'.out.2, (RSz.out.below hbq (Nat.le_refl _)).mono hbq.size⟩
      have RTq : Hid (Sl wz (.slice At nt ct) h.tok) := Lib.hid ⟨At, nt, ct, rfl, LT.out.1, LT.out.2, (RTz.out.below hbq (Nat.le_refl _)).mono hbq.size⟩
      have RBq : Hid (Sl wz (.slice Ab Lb.length cb) Lb) := Lib.hid ⟨Ab, Lb.length, cb, rfl, rfl, KB.out, (RBz.out.below hbq (Nat.le_refl _)).mono hbq.size⟩
      obtain ⟨p0, p1, p2, p3, p4, p5, p6⟩ := hv_facts HKq.out
      have u0 := Blk.cell HPq.out 0
      have u1 := Blk.cell HPq.out 1
      have u2 := Blk.cell HPq.out 2
      have u3 := Blk.cell HPq.out 3
      have u4 := Blk.cell HPq.out 4
      have u5 := Blk.cell HPq.out 5
      have k5 := conv_sl (w := wz) ⟨Ar, nr, cr, rfl, LR.out.1, LR.out.2, (RRz.out.below hbq (Nat.le_refl _)).mono hbq.size⟩
      have l5 := conv_sl (w := wz) ⟨A5, behind.length, c5, rfl, rfl, K5.out, (R5.out.below HBq.out (Nat.le_refl _)).mono HBq.out.size⟩
      generalize strOfNums behind = x5 at *
      clear hbq
      go_wp2_with fail
      have HFF := Lib.hid (HFR.out HM.out)
      have HMM := Lib.hid (HMR.out HM.out)
      refine (bare_yes sp (at_ : Int) (.slice Ad nd cd) (.slice As ns cs) (.slice At nt ct) (.slice Ab Lb.length cb) _ h.dst h.src h.tok Lb (beL h.pn h.pb.toNat) h.first wz RDq.out RSq.out RTq.out RBq.out (Sl.own Uq.out) (beL_byt _ _) HFF.out.1 HFF.out.2.1 (by rw [LBL.out]; omega) (by have hh := HMM.out.2.2.1; rw [HSP.out] at hh; rw [HX0'.out]; exact hh) (by have hh := HMM.out.2.2.2; rw [HSP.out] at hh; exact hh) (by rw [HFF.out.2.2.1, beL_len]; have := HPE.out; omega) ⟨by rw [HDL.out]; omega, by rw [HSL.out]; omega, by rw [HTL.out]; omega, by rw [LBL.out]; omega, by rw [beL_len]; have := HPE.out; omega⟩).mono ?_
      rintro e wb ⟨v, rfl, hv, hbb⟩
      have hbc := HBC.out HM.out
      rw [HSP.out] at hbc
      rw [hbc] at hv
      clear hbc u0 u1 u2 u3 u4 u5 p0 p1 p2 p3 p4 p5 p6
      obtain ⟨pc, hpc⟩ : ∃ x, h.cut.pn = x := ⟨_, rfl⟩
      obtain ⟨B1, n1, d1, B2, n2, d2, B3, n3, d3, rfl⟩ := hdv_parts hv (show h.cut.space = sp from HSP.out) (show h.cut.phase = ph from HPH.out) hpc (show h.cut.pb = pb from HPE.out)
      have HPC := Lib.hid hpc
      have HKb := Lib.hid (Blk.below HKq.out hbb (Blk.lt HKq.out))
      have hzb : w.heap.size < wb.heap.size := Blk.lt HKb.out
      have HBb := Lib.hid (HBq.out.trans (hbb.mono (by have := HBq.out.size; omega)))
      have HPN2 : Hid (0 ≤ pn ∧ pn < 18446744073709551616) := Lib.hid (by rw [← HPNE.out]; exact HPN.out)
      clear hpc hbb
      obtain ⟨p0, p1, p2, p3, p4, p5, p6⟩ := hv_facts HKb.out
      obtain ⟨gc, hgc⟩ : ∃ g, wb.heap.size = g := ⟨_, rfl⟩
      have HGC := Lib.hid hgc
      have hbz : Below wb.heap.size wb ((wb.alloc (.cells #[.int .u8 sp, .slice B1 n1 d1, .slice B2 n2 d2, .slice B3 n3 d3, .bool ph, .int .u64 pc, .int .i64 pb] 59)).alloc (.cells #[.int .u8 sp, .slice A1 dl c1, .slice A2 sl c2, .slice A3 tl c3, .bool ph, .int .u64 pn, .int .i64 pb] 59)) := ((Below.refl _ _).alloc (Nat.le_refl _) _).alloc (by simp) _
      have HC1 : Hid (Blk ((wb.alloc (.cells #[.int .u8 sp, .slice B1 n1 d1, .slice B2 n2 d2, .slice B3 n3 d3, .bool ph, .int .u64 pc, .int .i64 pb] 59)).alloc (.cells #[.int .u8 sp, .slice A1 dl c1, .slice A2 sl c2, .slice A3 tl c3, .bool ph, .int .u64 pn, .int .i64 pb] 59)) gc 59 #[.int .u8 sp, .slice B1 n1 d1, .slice B2 n2 d2, .slice B3 n3 d3, .bool ph, .int .u64 pc, .int .i64 pb]) := Lib.hid (by rw [← hgc]; exact Blk.alloc (Blk.new _ _ _) _)
      have HC2 : Hid (Blk ((wb.alloc (.cells #[.int .u8 sp, .slice B1 n1 d1, .slice B2 n2 d2, .slice B3 n3 d3, .bool ph, .int .u64 pc, .int .i64 pb] 59)).alloc (.cells #[.int .u8 sp, .slice A1 dl c1, .slice A2 sl c2, .slice A3 tl c3, .bool ph, .int .u64 pn, .int .i64 pb] 59)) (gc + 1) 59 #[.int .u8 sp, .slice A1 dl c1, .slice A2 sl c2, .slice A3 tl c3, .bool ph, .int .u64 pn, .int .i64 pb]) := Lib.hid (by
        have hh := Blk.new (wb.alloc (.cells #[.int .u8 sp, .slice B1 n1 d1, .slice B2 n2 d2, .slice B3 n3 d3, .bool ph, .int .u64 pc, .int .i64 pb] 59)) 59 #[.int .u8 sp, .slice A1 dl c1, .slice A2 sl c2, .slice A3 tl c3, .bool ph, .int .u64 pn, .int .i64 pb]
        rwa [show (wb.alloc (.cells #[.int .u8 sp, .slice B1 n1 d1, .slice B2 n2 d2, .slice B3 n3 d3, .bool ph, .int .u64 pc, .int .i64 pb] 59)).heap.size = gc + 1 by simp [hgc]] at hh)
      have HKc := Lib.hid (Blk.below HKb.out hbz hzb)
      have HBc := Lib.hid (HBb.out.trans (hbz.mono (by omega)))
      have BBc := Lib.hid hbz
      have HVb := Lib.hid hv
      clear hbz hv hgc
      go_wp2_with fail
      rw [HGC.out]
      generalize ((wb.alloc (.cells #[.int .u8 sp, .slice B1 n1 d1, .slice B2 n2 d2, .slice B3 n3 d3, .bool ph, .int .u64 pc, .int .i64 pb] 59)).alloc (.cells #[.int .u8 sp, .slice A1 dl c1, .slice A2 sl c2, .slice A3 tl c3, .bool ph, .int .u64 pn, .int .i64 pb] 59)) = wc at *
      clear p0 p1 p2 p3 p4 p5 p6
      have hn0 := HPN2.out.1
      have hn1 := HPN2.out.2
      have hcn : ∀ r : BW wc.heap.size wc, r.world.cell? ⟨gc + 1, 5, none⟩ = some (.int .u64 pn) := fun r => Blk.cell (Blk.below HC2.out r.below (Blk.lt HC2.out)) 5
      have hcb : ∀ r : BW wc.heap.size wc, r.world.cell? ⟨w.heap.size, 6, none⟩ = some (.int .i64 pb) := fun r => Blk.cell (Blk.below HKc.out r.below (Blk.lt HKc.out)) 6
      have hzc : gc + 1 < wc.heap.size := Blk.lt HC2.out
      have hgw : w.heap.size < gc := by rw [← HGC.out]; exact hzb
      have HC1e : Hid (Blk wc.drew gc 59 #[.int .u8 sp, .slice B1 n1 d1, .slice B2 n2 d2, .slice B3 n3 d3, .bool ph, .int .u64 pc, .int .i64 pb]) := Lib.hid HC1.out.drew
      have HC2e : Hid (Blk wc.drew (gc + 1) 59 #[.int .u8 sp, .slice A1 dl c1, .slice A2 sl c2, .slice A3 tl c3, .bool ph, .int .u64 pn, .int .i64 pb]) := Lib.hid HC2.out.drew
      have HBe := Lib.hid HBc.out.drew
      have BBe : Hid (Below wb.heap.size wb wc.drew) := Lib.hid BBc.out.drew
      have HPM : Hid (pn % 256 ^ pb.toNat = pc) := Lib.hid (by have hh := HPC.out; unfold HD.cut at hh; dsimp only at hh; rw [HPNE.out, HPE.out] at hh; exact hh)
      rcases (show pb = 1 ∨ pb = 2 ∨ pb = 3 ∨ pb = 4 by omega) with rfl | rfl | rfl | rfl
      all_goals
        refine wp_region_mixO (fun w' => ∃ r : BW wc.heap.size wc, w' = r.world) [([0, 1, 2, 3, 4, 5, 6, 7], 8)] (by kernel_rfl) (by kernel_rfl) (by kernel_rfl) (by kernel_rfl) (by kernel_rfl) ⟨BW.mk' (Below.drew (Below.refl _ _)), rfl⟩ ?_
        simp only [pickL, List.map_cons, List.map_nil, List.filterMap_cons, List.filterMap_nil, List.getElem?_cons_succ, List.getElem?_cons_zero]
        refine mixO_cons ?_
        repeat (show wpQuiet _ _ _ _ (_ :: _) _; go_big_quiet_step (fail))
        refine wpQuiet_nil ?_
        clear hcn hcb
        generalize wc.drew = we at *
        have fr5 : we.frozen? ⟨gc + 1, 5, none⟩ = false := Blk.frozen HC2e.out 5
        have ce5 := Blk.cell HC2e.out 5
        show wpList _ _ _ [_] _ _
        go_wp2_with fail
        refine MixO.last ?_
        refine mixO_nil ?_
        refine wpQuiet_nil ?_
        refine NoPanic.normal ?_
        clear fr5 ce5
        have hpm := HPM.out
        first
          | rw [show (256 : Int) ^ (1 : Int).toNat = 256 from rfl] at hpm
          | rw [show (256 : Int) ^ (2 : Int).toNat = 65536 from rfl] at hpm
          | rw [show (256 : Int) ^ (3 : Int).toNat = 16777216 from rfl] at hpm
          | rw [show (256 : Int) ^ (4 : Int).toNat = 4294967296 from rfl] at hpm
        rw [hpm]
        clear hpm
        have HC1f := Lib.hid (Blk.far HC1e.out (p := ⟨gc + 1, 5, none⟩) (show gc ≠ gc + 1 by omega) (.int .u64 pc))
        have HC2f : Hid (Blk (we.setCell ⟨gc + 1, 5, none⟩ (.int .u64 pc)) (gc + 1) 59 #[.int .u8 sp, .slice A1 dl c1, .slice A2 sl c2, .slice A3 tl c3, .bool ph, .int .u64 pc, .int .i64 _]) := Lib.hid (Blk.cast (Blk.set_ HC2e.out 5 _) (by simp <;> rfl))
        have HBf : Hid (Below w.heap.size w (we.setCell ⟨gc + 1, 5, none⟩ (.int .u64 pc))) := Lib.hid (HBe.out.setCell (by simp; omega) _)
        have HVf := Lib.hid (HdV.below HVb.out (BBe.out.setCell (p := ⟨gc + 1, 5, none⟩) (by rw [HGC.out]; simp) (.int .u64 pc)))
        generalize we.setCell ⟨gc + 1, 5, none⟩ (.int .u64 pc) = wf at *
        have HWf := Lib.hid (hdv_mk (w := wf) (h := h.cut) (sp := sp) (ph := ph) (pn := pc) HSP.out HPH.out HPC.out HPE.out (⟨A1, dl, c1, rfl, HDL.out.symm, by rw [← HDL.out]; exact K1.out, (R1.out.below HBf.out (Nat.le_refl _)).mono HBf.out.size⟩ : Sl wf (.slice A1 dl c1) h.cut.dst) (⟨A2, sl, c2, rfl, HSL.out.symm, by rw [← HSL.out]; exact K2.out, (R2.out.below HBf.out (Nat.le_refl _)).mono HBf.out.size⟩ : Sl wf (.slice A2 sl c2) h.cut.src) (⟨A3, tl, c3, rfl, HTL.out.symm, by rw [← HTL.out]; exact K3.out, (R3.out.below HBf.out (Nat.le_refl _)).mono HBf.out.size⟩ : Sl wf (.slice A3 tl c3) h.cut.tok))
        obtain ⟨x0, x1', x2', x3', x4', x5', x6'⟩ := hv_facts HC1f.out
        obtain ⟨y0, y1', y2', y3', y4', y5', y6'⟩ := hv_facts HC2f.out
        go_wp2_with fail
        refine (same_yes _ _ h.cut wf HVf.out HWf.out).mono ?_
        rintro e wg ⟨rfl, hbg⟩
        have HBg := Lib.hid (HBf.out.trans (hbg.mono HBf.out.size))
        clear hbg
        go_wp2_with fail
        go_ret
        exact ⟨rfl, HBg.out⟩
end Go.Proofs.Ytlefnddhmpgijaa
