/- Walk: the law RetryProves. Conditions: as each theorem states them. -/
import Derived.Test.YtieabfifaigjdaaF18
import Derived.Test.YtieabfifaigjdaaF14
namespace Go.Proofs.Ytieabfifaigjdaa
open Go.RowKit
theorem max3_none {n1 n2 n3 : Nat} (h1 : n1 ≤ 20) (h2 : n2 ≤ 20) (h3 : n3 ≤ 20) : decide ((20 : Int) < (n1 : Int)) = false ∧ decide ((20 : Int) < (n2 : Int)) = false ∧ decide ((20 : Int) < (n3 : Int)) = false :=
  ⟨decide_eq_false (by omega), decide_eq_false (by omega), decide_eq_false (by omega)⟩
attribute [local irreducible] chkL tknL pktL
set_option maxRecDepth 100000 in
set_option maxHeartbeats 8000000 in
theorem proves_in (sec : List Int) (life addr at_ later : Int) (A1 A2 A3 : Option Addr) (n1 n2 n3 c1 c2 c3 : Nat) (orig dst src : List Int) (w : World) (hs : sec.length = 32) (hsb : Byt sec) (hr1 : Rd w.heap.size .u8 w A1 orig) (hb1 : Byt orig) (hc1 : n1 ≤ c1) (hn1 : orig.length = n1)
    (hr2 : Rd w.heap.size .u8 w A2 dst) (hb2 : Byt dst) (hc2 : n2 ≤ c2) (hn2 : dst.length = n2) (hr3 : Rd w.heap.size .u8 w A3 src) (hb3 : Byt src) (hc3 : n3 ≤ c3) (hn3 : src.length = n3)
    (i0 : 0 ≤ life) (i1 : life ≤ 1152921504606846976) (a0 : 0 ≤ addr) (a1 : addr < 4294967296) (t0 : 0 ≤ at_) (t1 : at_ ≤ 1152921504606846976) (s0 : 0 ≤ later) (s1 : later < 18446744073709551616) (m1 : n1 ≤ 20) (m2 : n2 ≤ 20) (m3 : n3 ≤ 20) :
    Calls Try.prog 7 #[.agg (cellsL .u8 sec), .int .u64 life, .int .u32 addr, .slice A1 n1 c1, .slice A2 n2 c2, .slice A3 n3 c3, .int .u64 at_, .int .u64 later] w fun e w' => e = .returned (.bool true) ∧ Below w.heap.size w w' := by
  have HS := Lib.hid hs
  have HSB := Lib.hid hsb
  have R1 := Lib.hid hr1
  have R2 := Lib.hid hr2
  have R3 := Lib.hid hr3
  have HB1 := Lib.hid hb1
  have HB2 := Lib.hid hb2
  have HB3 := Lib.hid hb3
  have N1 := Lib.hid hn1
  have N2 := Lib.hid hn2
  have N3 := Lib.hid hn3
  have C1 := Lib.hid hc1
  have C2 := Lib.hid hc2
  have C3 := Lib.hid hc3
  have M1 := Lib.hid m1
  have M2 := Lib.hid m2
  have M3 := Lib.hid m3
  have HO20 : Hid (orig.length ≤ 20) := Lib.hid (by omega)
  have Z0 : Hid (Arr (w.alloc (.cells (cellsL .u8 sec) 35)) w.heap.size 35 .u8 sec) := Lib.hid (Arr.newAt rfl rfl)
  have B0 := Lib.hid ((Below.refl w.heap.size w).alloc (Nat.le_refl _) (.cells (cellsL .u8 sec) 35))
  obtain ⟨TK, hTK⟩ : ∃ z, tknL sec addr at_ orig = z := ⟨_, rfl⟩
  have hTL : TK.length = 29 + n1 := by rw [← hTK, tknL_len, hn1]
  have hTB : Byt TK := by rw [← hTK]; exact tknL_byt hb1 (by omega)
  obtain ⟨PK, hPK⟩ : ∃ z, pktL 255 dst src TK orig = z := ⟨_, rfl⟩
  have hOK : PkOk PK orig n2 n3 := by rw [← hPK, ← hn2, ← hn3]; exact pkOk_made _ _ _ _ (by omega) (by omega) (by omega)
  have hPL : PK.length = 23 + n2 + n3 + (29 + n1) := by rw [← hPK, pktL_len_]; omega
  have hPB : Byt PK := by rw [← hPK]; exact pktL_byt_ _ hb2 hb3 hTB (by omega) (by omega)
  have hpd : ((PK.take (PK.length - 16)).drop 6).take n2 = dst := by rw [← hPK, ← hn2]; exact pkt_dst _ _ _ _
  have hps : ((PK.take (PK.length - 16)).drop (7 + n2)).take n3 = src := by rw [← hPK, ← hn2, ← hn3]; exact pkt_src _ _ _ _
  have hpt : (PK.take (PK.length - 16)).drop (7 + n2 + n3) = TK := by rw [← hPK, ← hn2, ← hn3]; exact pkt_tok _ _ _ _
  have hch : ∀ (a t : Int), chkL sec life TK a t = if addr ≠ a then ([], 5) else if t < at_ ∨ life < t - at_ then ([], 8) else (orig, 0) := fun a t => by
    rw [← hTK]; exact chk_made a0 a1 t0 (by omega) (by omega)
  have hq0 : 0 ≤ later % (life + 1) := Int.emod_nonneg _ (by omega)
  have hq1 : later % (life + 1) < life + 1 := Int.emod_lt_of_pos _ (by omega)
  obtain ⟨q, hq⟩ : ∃ z, later % (life + 1) = z := ⟨_, rfl⟩
  rw [hq] at hq0 hq1
  have E1 : Hid (chkL sec life TK addr (at_ + q) = (orig, 0)) := Lib.hid (by rw [hch, if_neg (by simp), if_neg (by omega)])
  have E2 : Hid (chkL sec life TK addr (at_ + life + 1) = ([], 8)) := Lib.hid (by rw [hch, if_neg (by simp), if_pos (by omega)])
  have E3 : Hid (chkL sec life TK ((addr + 1) % 4294967296) at_ = ([], 5)) := Lib.hid (by rw [hch, if_pos (by omega)])
  have E4 : Hid (chkL sec life TK addr (at_ - 1) = ([], 8)) := Lib.hid (by rw [hch, if_neg (by simp), if_pos (by omega)])
  have HTK := Lib.hid hTK
  have TL := Lib.hid hTL
  have TB := Lib.hid hTB
  have HPK := Lib.hid hPK
  have POK := Lib.hid hOK
  have PL := Lib.hid hPL
  have PB := Lib.hid hPB
  have PD := Lib.hid hpd
  have PS := Lib.hid hps
  have PT := Lib.hid hpt
  have HQ := Lib.hid hq
  obtain ⟨d1, d2, d3⟩ := max3_none m1 m2 m3
  have d4 : decide ((1152921504606846976 : Int) < life) = false := decide_eq_false (by omega)
  have d5 : decide ((1152921504606846976 : Int) < at_) = false := decide_eq_false (by omega)
  have HZ0 := Lib.hid B0.out.size
  clear hs hsb hr1 hr2 hr3 hb1 hb2 hb3 hn1 hn2 hn3 hc1 hc2 hc3 hTK hTL hTB hPK hOK hPL hPB hpd hps hpt hch hq
  go_enter Try.func7, Try.ntmps7
  go_wp2_with ((with_reducible (show wpList _ _ _ (⟨some 45, .load _ _, _, _, _, _⟩ :: _) _ _)); refine wpList_loadV (o := ⟨some 45, .load _ _, _, _, _, _⟩) rfl _ rfl rfl (arr_load Z0.out Try.underlying35 size35 HS.out.symm) ?_)
  all_goals generalize w.alloc (.cells (cellsL .u8 sec) 35) = w0 at *
  all_goals
    clear d1 d2 d3 d4 d5
    refine Calls.mono (new_any sec life w0 HS.out) ?_
    rintro e w1 ⟨g, rfl, hk, hg, b1⟩
    have K1 := Lib.hid hk
    have Z1 := Lib.hid (Z0.out.below b1 Z0.out.lt)
    have BA := Lib.hid (B0.out.trans (b1.mono B0.out.size))
    clear hk b1 Z0 B0
    go_wp2_with fail
    have hz1 := BA.out.size
    refine Calls.mono (make_any_ g sec life addr at_ A1 n1 c1 orig w1 K1.out HS.out HSB.out N1.out ((R1.out.below BA.out (Nat.le_refl _)).mono hz1) HB1.out M1.out C1.out a0 a1 t0 (by omega)) ?_
    rw [HTK.out]
    rintro e w2 ⟨A4, n4, c4, rfl, o4, b2⟩
    have O4 := Lib.hid o4
    have N4 := Lib.hid o4.len
    have Z2 := Lib.hid (Z1.out.below b2 Z1.out.lt)
    have BB := Lib.hid (BA.out.trans (b2.mono hz1))
    clear o4 b2 K1 Z1 BA
    go_wp2_with fail
    have hz2 := BB.out.size
    have hn4 : n4 ≤ 60 := by rw [N4.out, TL.out]; have := M1.out; omega
    refine Calls.mono (put_yes A2 A3 A4 A1 n2 n3 n4 n1 c2 c3 c4 c1 dst src TK orig w2 N2.out N3.out N4.out.symm N1.out ((R2.out.below BB.out (Nat.le_refl _)).mono hz2) ((R3.out.below BB.out (Nat.le_refl _)).mono hz2) O4.out.rd ((R1.out.below BB.out (Nat.le_refl _)).mono hz2) HB2.out HB3.out TB.out HB1.out M2.out M3.out M1.out (by rw [N4.out, TL.out]; omega) (by omega) C2.out C3.out O4.out.cap.1 C1.out) ?_
    rw [HPK.out]
    rintro e w3 ⟨A5, n5, c5, rfl, o5, b3⟩
    have O5 := Lib.hid o5
    have N5 := Lib.hid o5.len
    have O43 := Lib.hid (O4.out.below b3)
    have Z3 := Lib.hid (Z2.out.below b3 Z2.out.lt)
    have BC := Lib.hid (BB.out.trans (b3.mono hz2))
    clear o5 b3 O4 Z2 BB
    go_wp2_with fail
    have hz3 := BC.out.size
    have hn5 : n5 ≤ 300 := by rw [N5.out, PL.out]; have := M1.out; have := M2.out; have := M3.out; omega
    refine Calls.mono (take_yes A5 A1 n5 n1 c5 c1 PK orig n2 n3 w3 N5.out.symm N1.out O5.out.rd ((R1.out.below BC.out (Nat.le_refl _)).mono hz3) PB.out HB1.out (by omega) M1.out O5.out.cap.1 C1.out POK.out) ?_
    rintro e w4 ⟨A6, k6, A7, k7, A8, k8, n8, rfl, r6, r7, r8, h8, k6', k7', k8', b4⟩
    rw [PD.out] at r6
    rw [PS.out] at r7
    rw [PT.out] at r8
    have R6 := Lib.hid r6
    have R7 := Lib.hid r7
    have R8 := Lib.hid r8
    have L8 : Hid (n8 = TK.length) := Lib.hid (by rw [h8, PL.out, TL.out]; omega)
    have K8' := Lib.hid k8'
    have O44 := Lib.hid (O43.out.below b4)
    have Z4 := Lib.hid (Z3.out.below b4 Z3.out.lt)
    have BD := Lib.hid (BC.out.trans (b4.mono hz3))
    clear r6 r7 r8 h8 k6' k7' k8' b4 O43 Z3 BC O5 N5
    have hz4 := BD.out.size
    go_wp2_with first
      | (refine wpList_storeBlk (g := w4.heap.size) (t := 24) (vs := [.slice A6 n2 k6, .slice A7 n3 k7, .slice A8 n8 k8]) rfl _ _ rfl rfl rfl (Blk.new _ _ _) rfl (one3 rfl rfl rfl) size3p ?_; intro w5 k5 g5; have KA := Lib.hid k5; have GA := Lib.hid g5; clear k5 g5; have cf0 := (pk_facts KA.out).1; have cf1 := (pk_facts KA.out).2.1; have cf2 := (pk_facts KA.out).2.2; have EA : Hid (Below w4.heap.size w4 w5) := Lib.hid (((Below.refl w4.heap.size w4).alloc (Nat.le_refl _) _).trans (below_of_only GA.out (Nat.le_refl _) (by simp))); have BE := Lib.hid (BD.out.trans (EA.out.mono hz4)); have cv0 := conv_n_ (R6.out.below EA.out (Nat.le_refl _)) N2.out.symm k6; have cv1 := conv_n_ (R7.out.below EA.out (Nat.le_refl _)) N3.out.symm k7; have cv2 := conv_n_ (R8.out.below EA.out (Nat.le_refl _)) L8.out k8; have cv3 := conv_n_ (R2.out.below BE.out (Nat.le_refl _)) N2.out.symm c2; have cv4 := conv_n_ (R3.out.below BE.out (Nat.le_refl _)) N3.out.symm c3; have cv5 := conv_n_ (O44.out.below EA.out).rd N4.out c4)
      | ((have _g := EA; clear _g); ((with_reducible (show wpList _ _ _ (⟨some 99, .load _ _, _, _, _, _⟩ :: _) _ _)); refine wpList_loadV (o := ⟨some 99, .load _ _, _, _, _, _⟩) rfl _ rfl rfl (arr_load (Z4.out.below EA.out Z4.out.lt) Try.underlying35 size35 HS.out.symm) ?_))
    clear cv0 cv1 cv2 cv3 cv4 cv5 cf0 cf1 cf2 R6 R7
    have hz5 := BE.out.size
    refine Calls.mono (new_any sec life w5 HS.out) ?_
    rintro e w6 ⟨g2, rfl, hk2, hg2, b6⟩
    have K6 := Lib.hid hk2
    have BF := Lib.hid (BE.out.trans (b6.mono hz5))
    have hz6 := BF.out.size
    have EB := Lib.hid (EA.out.trans (b6.mono EA.out.size))
    have KB := Lib.hid (KA.out.below b6 KA.out.lt)
    have O46 := Lib.hid (O44.out.below EB.out)
    have R86 := Lib.hid (R8.out.below EB.out (Nat.le_refl _))
    clear hk2 hg2 b6 R8 O44 Z4 BD BE EA KA GA
    go_wp2_with fail
    have pc2 : ∀ r : BW w6.heap.size w6, r.world.cell? ⟨w4.heap.size, 2, none⟩ = some (.slice A8 n8 k8) := fun r => (pk_facts (KB.out.below r.below KB.out.lt)).2.2
    refine wp_region_mixN w6.heap.size [([0, 1, 2, 3, 4, 5, 6, 7, 8, 9], 10)] [11, 12, 13, 14, 15] (by kernel_rfl) (by kernel_rfl) (by kernel_rfl) (by kernel_rfl) ?_
    try (rw [put_none])
    simp only [pickL, List.map_cons, List.map_nil, List.filterMap_cons, List.filterMap_nil, List.getElem?_cons_succ, List.getElem?_cons_zero]
    refine mixN_cons ?_
    repeat (show wpQuiet _ _ _ _ (_ :: _) _; go_big_quiet_step (fail))
    refine wpQuiet_nil ?_
    show wpList _ _ _ [_] _ _
    go_wp2_with fail
    clear pc2
    have BG : Hid (Below w.heap.size w w6.drew) := Lib.hid BF.out.drew
    rw [HQ.out, show IntKind.u64.wrap (at_ + q) = at_ + q by rw [IntKind.wrap_u64]; omega]
    have K6d : Hid (Kp w6.drew g2 sec life) := Lib.hid (Blk.drew K6.out)
    have O4d : Hid (Own w1.heap.size 5 .u8 w6.drew A4 n4 c4 TK) := Lib.hid O46.out.drew
    have RD8 : Hid (Rd w6.drew.heap.size .u8 w6.drew A8 TK) := Lib.hid (R86.out.drew.mono (Nat.le_trans EB.out.size (Nat.le_refl _)))
    clear K6 O46 R86 BF KB EB
    have BX : Hid (Below w6.heap.size w6 w6.drew) := Lib.hid (Below.refl w6.heap.size w6).drew
    generalize w6.drew = wd at *
    refine Calls.mono (check_any_ g2 sec life addr (at_ + q) A8 n8 k8 TK wd K6d.out HS.out HSB.out L8.out.symm RD8.out TB.out (by rw [L8.out, TL.out]; have := M1.out; omega) K8'.out a0 a1 (by omega) (by omega)) ?_
    rw [E1.out]
    rintro e w7 ⟨A9, n9, c9, rfl, r9, l9, m9, b7, f9⟩
    have BY := Lib.hid (BX.out.trans (b7.mono BX.out.size))
    have BH := Lib.hid (BG.out.trans (b7.mono BG.out.size))
    have hz7 := BH.out.size
    have K7 := Lib.hid (show Kp w7 g2 sec life from Blk.below K6d.out b7 (Blk.lt K6d.out))
    have O47 := Lib.hid (O4d.out.below b7)
    have RD9 : Hid (Rd w7.heap.size .u8 w7 A9 orig) := Lib.hid r9
    have L9 : Hid (n9 = orig.length) := Lib.hid l9
    clear r9 l9 m9 b7 f9 K6d O4d RD8 BG L8 K8' E1
    go_wp2_with fail
    refine MixN.narrow BY.out BY.out.size ?_
    refine mixN_nil ?_
    repeat (show wpQuiet _ _ _ _ (_ :: _) _; go_big_quiet_step (fail))
    refine wpQuiet_nil ?_
    refine NoPanic.normal ?_
    have cv6 := conv_n_ RD9.out L9.out c9
    have cv7 := conv_n_ (R1.out.below BH.out (Nat.le_refl _)) N1.out.symm c1
    generalize strOfNums orig = sa at *
    clear BX BY
    go_wp2_with fail
    clear cv6 cv7 RD9 L9
    refine Calls.mono (check_any_ g2 sec life addr (at_ + life + 1) A4 n4 c4 TK w7 K7.out HS.out HSB.out N4.out.symm (O47.out.rd.mono (Nat.le_refl _)) TB.out (by omega) O47.out.cap.1 a0 a1 (by omega) (by omega)) ?_
    rw [E2.out]
    rintro e w8 ⟨AX, nX, cX, rfl, -, -, -, b8, -⟩
    have BI := Lib.hid (BH.out.trans (b8.mono hz7))
    have K8 := Lib.hid (show Kp w8 g2 sec life from Blk.below K7.out b8 (Blk.lt K7.out))
    have O48 := Lib.hid (O47.out.below b8)
    clear b8 K7 O47 BH E2
    go_wp2_with fail
    have hz8 := BI.out.size
    refine Calls.mono (check_any_ g2 sec life ((addr + 1) % 4294967296) at_ A4 n4 c4 TK w8 K8.out HS.out HSB.out N4.out.symm (O48.out.rd.mono (Nat.le_refl _)) TB.out (by omega) O48.out.cap.1 (by omega) (by omega) t0 (by omega)) ?_
    rw [E3.out]
    rintro e w9 ⟨AY, nY, cY, rfl, -, -, -, b9, -⟩
    have BJ := Lib.hid (BI.out.trans (b9.mono hz8))
    have K9 := Lib.hid (show Kp w9 g2 sec life from Blk.below K8.out b9 (Blk.lt K8.out))
    have O49 := Lib.hid (O48.out.below b9)
    clear b9 K8 O48 BI E3
    have hz9 := BJ.out.size
    by_cases h0 : at_ = 0
    · subst h0
      go_wp2_with fail
      refine Calls.mono (works_any _) ?_
      rintro e w10 ⟨rfl, bz⟩
      have BK := Lib.hid (BJ.out.trans (bz.mono hz9))
      clear bz
      go_wp2_with fail
      go_ret
      exact ⟨rfl, BK.out⟩
    · have h1 : (at_ == 0) = false := beq_eq_false_iff_ne.mpr h0
      go_wp2_with fail
      refine Calls.mono (early_yes g2 sec life addr (at_ - 1) A4 n4 c4 TK w9 K9.out HS.out HSB.out N4.out.symm (O49.out.rd.mono (Nat.le_refl _)) TB.out (by omega) O49.out.cap.1 a0 a1 (by omega) (by omega) E4.out) ?_
      rintro e w10 ⟨rfl, by_⟩
      have BK := Lib.hid (BJ.out.trans (by_.mono hz9))
      clear by_
      have hz10 := BK.out.size
      go_wp2_with fail
      refine Calls.mono (works_any _) ?_
      rintro e w11 ⟨rfl, bz⟩
      have BL := Lib.hid (BK.out.trans (bz.mono hz10))
      clear bz
      go_wp2_with fail
      go_ret
      exact ⟨rfl, BL.out⟩
end Go.Proofs.Ytieabfifaigjdaa
