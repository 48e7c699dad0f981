/- Layer 33, the reference's: contract of Take, of bytes that it reads as a packet's. Conditions: as each theorem states them. -/
import Derived.Test.YtieabfifaigjdaaF26
namespace Go.Proofs.Ytieabfifaigjdaa
open Go.RowKit
theorem rpacket_n (first : Int) (E1 E2 E3 E4 : Option Addr) (n1 n2 n3 n4 c1 c2 c3 c4 : Nat) (dst src tok orig : List Int) (w : World) (h1 : dst.length = n1) (h2 : src.length = n2) (h3 : tok.length = n3) (h4 : orig.length = n4) (f0 : 0 ≤ first) (f1 : first < 256) (r1 : Rd w.heap.size .u8 w E1 dst) (r2 : Rd w.heap.size .u8 w E2 src) (r3 : Rd w.heap.size .u8 w E3 tok) (r4 : Rd w.heap.size .u8 w E4 orig)
    (b1 : Byt dst) (b2 : Byt src) (b3 : Byt tok) (b4 : Byt orig) (l1 : dst.length ≤ 20) (l2 : src.length ≤ 20) (l3 : tok.length ≤ 1000) (l4 : orig.length ≤ 20) :
    Calls Try.prog 10 #[.int .u8 first, .slice E1 n1 c1, .slice E2 n2 c2, .slice E3 n3 c3, .slice E4 n4 c4] w (RetOwn 5 .u8 (pktL first dst src tok orig) w) := by
  subst h1 h2 h3 h4; exact rpacket_any first E1 E2 E3 E4 c1 c2 c3 c4 dst src tok orig w f0 f1 r1 r2 r3 r4 b1 b2 b3 b4 l1 l2 l3 l4
attribute [local irreducible] pktL pkDst pkSrc pkTok
set_option maxRecDepth 100000 in
set_option maxHeartbeats 8000000 in
theorem rtake_rk (A1 A2 : Option Addr) (n1 n2 c1 c2 : Nat) (b orig : List Int) (d s : Nat) (w : World) (hn1 : b.length = n1) (hn2 : orig.length = n2) (hr1 : Rd w.heap.size .u8 w A1 b) (hr2 : Rd w.heap.size .u8 w A2 orig) (hb1 : Byt b) (hb2 : Byt orig) (hl1 : n1 ≤ 1000) (hl2 : n2 ≤ 20) (hc1 : n1 ≤ c1) (h : RkOk b d s) :
    Calls Try.prog 12 #[.slice A1 n1 c1, .slice A2 n2 c2] w (fun e w' => (PkOk b orig d s → RtYes b d s w e w') ∧ (¬ PkOk b orig d s → RtNo w e w')) := by
  have HIF := Lib.hid (rk_iff (orig := orig) hb1 h)
  obtain ⟨p1, p2, p3⟩ := pk_lens h
  have HE1 : Hid ((b.drop 6).take d = pkDst b d) := Lib.hid (by unfold pkDst; rfl)
  have HE2 : Hid ((b.drop (7 + d)).take s = pkSrc b d s) := Lib.hid (by unfold pkSrc; rfl)
  have HE3 : Hid ((b.drop (7 + d + s)).take (b.length - 16 - (7 + d + s)) = pkTok b d s) := Lib.hid (by unfold pkTok; rfl)
  have BD : Hid (Byt (pkDst b d)) := Lib.hid (by rw [← HE1.out]; exact (hb1.drop _).take _)
  have BS : Hid (Byt (pkSrc b d s)) := Lib.hid (by rw [← HE2.out]; exact (hb1.drop _).take _)
  have BT : Hid (Byt (pkTok b d s)) := Lib.hid (by rw [← HE3.out]; exact (hb1.drop _).take _)
  obtain ⟨l23, q0, hd, d20, dl, hs, s20, sl⟩ := h
  rw [← hn1] at hc1
  obtain ⟨B1, e1, s11, s12, s13, s14, s15⟩ := slice_lh elC hr1 hc1 6 (6 + (d : Int)) d (by decide) (by omega) (by omega) (by omega)
  obtain ⟨B2, e2, s21, s22, s23, s24, s25⟩ := slice_lh elC hr1 hc1 (7 + (d : Int)) (7 + (d : Int) + s) s (by omega) (by omega) (by omega) (by omega)
  obtain ⟨B3, e3, s31, s32, s33, s34, s35⟩ := slice_lh elC hr1 hc1 (7 + (d : Int) + s) ((n1 : Int) - 16) (n1 - 16 - (7 + d + s)) (by omega) (by omega) (by omega) (by omega)
  have z1 : (6 : Int).toNat = 6 := rfl
  have z2 : (7 + (d : Int)).toNat = 7 + d := by omega
  have z3 : (7 + (d : Int) + s).toNat = 7 + d + s := by omega
  rw [z1, HE1.out] at s13 s14
  rw [z2, HE2.out] at s23 s24
  rw [hn1] at HE3
  rw [z3, HE3.out] at s33 s34
  rw [hn1] at s15 s25 s35 hc1 dl sl p3
  obtain ⟨ad, hA, hlt, hc0⟩ := hr1 0 (by omega)
  obtain ⟨ad5, hA5, -, hc5⟩ := hr1 5 (by omega)
  rw [hA] at hA5
  injection hA5 with hA5
  subst hA5
  obtain ⟨ad6, hA6, -, hc6⟩ := hr1 (6 + d) (by omega)
  rw [hA] at hA6
  injection hA6 with hA6
  subst hA6
  have g0 := hb1.getD 0
  obtain ⟨x0, hx0⟩ : ∃ z, b.getD 0 0 = z := ⟨_, rfl⟩
  rw [hx0] at hc0 g0 q0 HIF
  rw [hd] at hc5
  rw [hs] at hc6
  obtain ⟨g00, g01⟩ := g0
  have c0 : w.cell? ad = some (.int .u8 x0) := by simpa [Addr.add] using hc0
  have c5 : w.cell? ⟨ad.block, ad.off + 5, none⟩ = some (.int .u8 d) := by simpa [Addr.add] using hc5
  have C0 := Lib.hid c0
  have hltb : ad.block < w.heap.size := hlt
  have d23 : decide ((n1 : Int) < 23) = false := decide_eq_false (by omega)
  have d0 : decide (x0 < 240) = false := decide_eq_false (by omega)
  have d2 : decide ((20 : Int) < (n2 : Int)) = false := decide_eq_false (by omega)
  have d5 : decide ((20 : Int) < (d : Int)) = false := decide_eq_false (by omega)
  have d6 : decide ((n1 : Int) - 16 ≤ 6 + (d : Int)) = false := decide_eq_false (by omega)
  have d7 : decide ((20 : Int) < (s : Int)) = false := decide_eq_false (by omega)
  have d8 : decide ((n1 : Int) - 16 ≤ 7 + (d : Int) + (s : Int)) = false := decide_eq_false (by omega)
  have R1 := Lib.hid hr1
  have R2 := Lib.hid hr2
  have HB1 := Lib.hid hb1
  have HB2 := Lib.hid hb2
  have N1 := Lib.hid hn1
  have N2 := Lib.hid hn2
  have M1 := Lib.hid s13
  have L1 := Lib.hid s14
  have M2 := Lib.hid s23
  have L2 := Lib.hid s24
  have M3 := Lib.hid s33
  have L3 := Lib.hid s34
  subst hA
  clear hr1 hr2 hb1 hb2 hn1 hn2 s13 s14 s23 s24 s33 s34 hc0 hc5 hlt hx0 hd hs z1 z2 z3 HE1 HE2 HE3 p1 p2 p3
  go_enter Try.func12, Try.ntmps12
  go_wp2_with (first
    | (at_builtin; (have _g := O74; clear _g); go_loud (refine wpList_app (o := ⟨some 83, _, _, _, _, _⟩) elC rfl _ _ rfl rfl rfl (Own.litAt (B := w74.heap.size) (xs := []) (by simp) rfl rfl (Nat.le_refl _) (by simp)) ((M3.out.below W74.out (Nat.le_refl _)).alloc W74.out.size _) L3.out.symm ?_ ?_ ?_); (rw [L3.out, List.length_nil]; omega); (simp); intro A83 n83 c83 w83 h83; have O83 := Lib.hid (Own.cast h83.1 (List.nil_append _)); have X83 : Hid (Below w74.heap.size w74 w83) := Lib.hid (((Below.refl w74.heap.size w74).alloc (Nat.le_refl _) _).trans h83.2.2.1); clear h83)
    | (at_builtin; (have _g := O64; clear _g); go_loud (refine wpList_app (o := ⟨some 74, _, _, _, _, _⟩) elC rfl _ _ rfl rfl rfl (Own.litAt (B := w64.heap.size) (xs := []) (by simp) rfl rfl (Nat.le_refl _) (by simp)) ((M2.out.below W64.out (Nat.le_refl _)).alloc W64.out.size _) L2.out.symm ?_ ?_ ?_); (rw [L2.out, List.length_nil]; omega); (simp); intro A74 n74 c74 w74 h74; have O74 := Lib.hid (Own.cast h74.1 (List.nil_append _)); have X74 : Hid (Below w64.heap.size w64 w74) := Lib.hid (((Below.refl w64.heap.size w64).alloc (Nat.le_refl _) _).trans h74.2.2.1); have W74 := Lib.hid (W64.out.trans (X74.out.mono W64.out.size)); clear h74)
    | (at_builtin; go_loud (refine wpList_app (o := ⟨some 64, _, _, _, _, _⟩) elC rfl _ _ rfl rfl rfl (Own.litAt (B := w.heap.size) (xs := []) (by simp) rfl rfl (Nat.le_refl _) (by simp)) (M1.out.alloc (Nat.le_refl _) _) L1.out.symm ?_ ?_ ?_); (rw [L1.out, List.length_nil]; omega); (simp); intro A64 n64 c64 w64 h64; have O64 := Lib.hid (Own.cast h64.1 (List.nil_append _)); have W64 : Hid (Below w.heap.size w w64) := Lib.hid (((Below.refl w.heap.size w).alloc (Nat.le_refl _) _).trans h64.2.2.1); clear h64))
  have W83 := Lib.hid (W74.out.trans (X83.out.mono W74.out.size))
  have Q64 := Lib.hid ((O64.out.below X74.out).below X83.out)
  have Q74 := Lib.hid (O74.out.below X83.out)
  have hz8 := W83.out.size
  clear O64 O74 W64 W74 X74 X83 M1 M2 M3 c0 c5 hc6 d23 d0 d2 d5 d6 d7 d8 s15 s25 s35
  have N64 := Lib.hid Q64.out.len
  have N74 := Lib.hid Q74.out.len
  have N83 := Lib.hid O83.out.len
  have b0 : ∀ r : BW w83.heap.size w83, r.world.cell? ad = some (.int .u8 x0) := fun r => by
    have h := Below.cell_some W83.out C0.out hltb
    exact Below.cell_some r.below h (Nat.lt_of_lt_of_le hltb hz8)
  have hcvt : ∀ r : BW w83.heap.size w83, (convert 22 9 (.slice (some ad) n1 c1)).run Try.prog r.world = .ok (.string (strOfNums b)) r.world := fun r => by
    have h := conv_rd elC Try.underlying9 ((R1.out.below W83.out (Nat.le_refl _)).below r.below hz8) c1
    rw [N1.out] at h
    exact h
  refine wp_region_mixN w83.heap.size [([0, 1, 2, 3, 4, 5, 6, 9, 10], 7)] [8, 11] (by kernel_rfl) (by kernel_rfl) (by kernel_rfl) (by kernel_rfl) ?_
  try (rw [put_none])
  simp only [pickL, List.map_cons, List.map_nil, List.filterMap_cons, List.filterMap_nil, List.getElem?_cons_succ, List.getElem?_cons_zero]
  refine mixN_cons ?_
  repeat (show wpQuiet _ _ _ _ (_ :: _) _; go_big_quiet_step (fail))
  refine wpQuiet_nil ?_
  show wpList _ _ _ [_] _ _
  go_wp2_with fail
  clear b0 hcvt
  have BDR : Hid (Below w83.heap.size w83 w83.drew) := Lib.hid (Below.refl w83.heap.size w83).drew
  refine Calls.mono (rpacket_n x0 A64 A74 A83 A2 n64 n74 n83 n2 c64 c74 c83 c2 (pkDst b d) (pkSrc b d s) (pkTok b d s) orig w83.drew N64.out.symm N74.out.symm N83.out.symm N2.out g00 g01 Q64.out.drew.rd Q74.out.drew.rd O83.out.drew.rd ((R2.out.below W83.out (Nat.le_refl _)).drew.mono hz8) BD.out BS.out BT.out HB2.out (by rw [L1.out]; exact d20) (by rw [L2.out]; exact s20) (by rw [L3.out]; omega) (by rw [N2.out]; exact hl2)) ?_
  have HLB : Hid (Byt (pktL x0 (pkDst b d) (pkSrc b d s) (pkTok b d s) orig)) := Lib.hid (by unfold pktL; exact (pkB_byt g00 g01 BD.out BS.out BT.out (by rw [L1.out]; omega) (by rw [L2.out]; omega)).append (tagP_byt _ _))
  generalize pktL x0 (pkDst b d) (pkSrc b d s) (pkTok b d s) orig = LL at *
  rintro e w9 ⟨A9, n9, c9, rfl, o9, b9⟩
  have B89 : Hid (Below w83.heap.size w83 w9) := Lib.hid (BDR.out.trans b9)
  have hcv6 : ∀ r : BW w9.heap.size w9, (convert 22 9 (.slice A9 n9 c9)).run Try.prog r.world = .ok (.string (strOfNums LL)) r.world := fun r => conv_own elC Try.underlying9 (o9.below r.below)
  have W9 := Lib.hid (W83.out.trans (B89.out.mono hz8))
  have U64 := Lib.hid (Q64.out.below B89.out)
  have U74 := Lib.hid (Q74.out.below B89.out)
  have U83 := Lib.hid (O83.out.below B89.out)
  have hse := str_eq HLB.out HB1.out
  clear o9 b9 Q64 Q74 O83 W83 BDR
  go_wp2_with fail
  refine MixN.narrow B89.out B89.out.size ?_
  refine mixN_nil ?_
  by_cases hm : LL = b
  · rw [decide_eq_true hm] at hse
    have HM : Hid (PkOk b orig d s) := Lib.hid (HIF.out.1 hm)
    generalize strOfNums LL = sa at *
    generalize strOfNums b = sb at *
    have hsn : (sa.toList != sb.toList) = false := by rw [show (sa.toList != sb.toList) = !(sa.toList == sb.toList) from rfl, hse]; rfl
    clear hm HIF HLB
    repeat (show wpQuiet _ _ _ _ (_ :: _) _; go_big_quiet_step (fail))
    refine wpQuiet_nil ?_
    refine NoPanic.normal ?_
    clear hcv6 hse hsn
    go_wp2_with fail
    have e1 := N64.out.trans L1.out
    have e2 := N74.out.trans L2.out
    refine bodyPost_ret (results_tmp4 rfl _ _ _) rfl ⟨fun _ => ?_, fun q => absurd HM.out q⟩
    subst e1 e2
    exact ⟨A64, c64, A74, c74, A83, n83, c83, rfl, U64.out.rd, U74.out.rd, U83.out.rd, N83.out, W9.out⟩
  · rw [decide_eq_false hm] at hse
    have HM : Hid (¬ PkOk b orig d s) := Lib.hid (fun q => hm (HIF.out.2 q))
    generalize strOfNums LL = sa at *
    generalize strOfNums b = sb at *
    have hsn : (sa.toList != sb.toList) = true := by rw [show (sa.toList != sb.toList) = !(sa.toList == sb.toList) from rfl, hse]; rfl
    clear hm HIF HLB
    repeat (show wpQuiet _ _ _ _ (_ :: _) _; go_big_quiet_step (fail))
    refine wpQuiet_nil ?_
    refine NoPanic.normal ?_
    clear hcv6 hse hsn
    go_wp2_with fail
    exact bodyPost_ret (results_tmp4 rfl _ _ _) rfl ⟨fun q => absurd q HM.out, fun _ => ⟨rfl, W9.out⟩⟩
end Go.Proofs.Ytieabfifaigjdaa
