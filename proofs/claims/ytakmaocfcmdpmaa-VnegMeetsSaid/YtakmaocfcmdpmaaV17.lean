/- Walk: the law VnegMeets, where it does its work. Conditions: as each theorem states them. -/
import Derived.Test.YtakmaocfcmdpmaaV16
namespace Go.Proofs.Ytakmaocfcmdpmaa
open Go.RowKit
theorem byt_putL {ds ss vs : List Int} (hd : Byt ds) (hs : Byt ss) (hv : Wrd vs) : Byt (putL 192 ds ss vs) := by
  unfold putL bgn
  refine Byt.append (Byt.append (Byt.append (Byt.append (Byt.append ?_ ?_) hd) ?_) hs) ?_
  · intro x hx; simp at hx; omega
  · intro x hx; simp at hx; omega
  · intro x hx; simp at hx; omega
  · intro x hx
    obtain ⟨v, hv', hx⟩ := List.mem_flatMap.1 hx
    have := hv v hv'
    simp [w4] at hx
    omega
theorem putL_vers (ds ss vs : List Int) : versL (((putL 192 ds ss vs).length - (7 + ds.length + ss.length)) / 4) ((putL 192 ds ss vs).drop (7 + ds.length + ss.length)) = vs := by
  have h1 : ((putL 192 ds ss vs).length - (7 + ds.length + ss.length)) / 4 = vs.length := by unfold putL; rw [List.length_append, bgn_len, w4_len]; omega
  have h2 : (putL 192 ds ss vs).drop (7 + ds.length + ss.length) = vs.flatMap w4 := bgn_rest _ _ _ _ _
  rw [h1, h2, versL_w4]
set_option maxRecDepth 100000 in
set_option maxHeartbeats 8000000 in
theorem meets_good (A0 A1 A3 A4 A5 : Option Addr) (c0 c1 c3 c4 c5 : Nat) (x0 x1 : List Int) (tried : Int) (x3 x4 x5 : List Int) (w : World)
    (s0 : Rd w.heap.size .u32 w A0 x0) (s1 : Rd w.heap.size .u32 w A1 x1) (s3 : Rd w.heap.size .u8 w A3 x3) (s4 : Rd w.heap.size .u8 w A4 x4) (s5 : Rd w.heap.size .u8 w A5 x5)
    (f1 : Wrd x1) (f3 : Byt x3) (f4 : Byt x4) (f5 : Byt x5) (hv0 : 0 ≤ tried) (hv1 : tried < 4294967296)
    (b0 : x0.length ≤ 64) (b1 : x1.length ≤ 64) (b2 : 1 ≤ x1.length) (b3a : x3.length ≤ 255) (b3b : x4.length ≤ 255) (b5 : x5.length ≤ 1000) (b6 : tried ≠ 0) (b7 : tried ∉ x1) :
    Calls Try.prog 7 #[.slice A0 x0.length c0, .slice A1 x1.length c1, .int .u32 tried, .slice A3 x3.length c3, .slice A4 x4.length c4, .slice A5 x5.length c5] w fun e w' => e = .returned (.bool true) ∧ Below w.heap.size w w' := by
  have HC := Lib.hid (contains_any A1 c1 x1 tried w s1 (by omega))
  rw [decide_eq_false b7] at HC
  have e1 : IntKind.u8.wrap (tried / 65536) = tried / 65536 % 256 := wrapu8 _
  have e2 : IntKind.u8.wrap (tried / 256) = tried / 256 % 256 := wrapu8 _
  have e3 : IntKind.u8.wrap tried = tried % 256 := wrapu8 _
  have e4 : IntKind.u8.wrap (x3.length : Int) = x3.length % 256 := wrapu8 _
  have e5 : IntKind.u8.wrap (x4.length : Int) = x4.length % 256 := wrapu8 _
  have v2 : ((x1.length : Int) == 0) = false := by rw [beq_eq_false_iff_ne]; omega
  have v6 : (tried == 0) = false := by rw [beq_eq_false_iff_ne]; exact b6
  have O1 : Hid (Own w.heap.size 5 .u8 (w.alloc (.cells #[.int .u8 195, .int .u8 (tried / 16777216), .int .u8 (tried / 65536 % 256), .int .u8 (tried / 256 % 256), .int .u8 (tried % 256), .int .u8 ((x3.length : Int) % 256)] 5)) (some ⟨w.heap.size, 0, none⟩) 6 6 [195, tried / 16777216, tried / 65536 % 256, tried / 256 % 256, tried % 256, (x3.length : Int) % 256]) :=
    Lib.hid (Own.lit w 5 .u8 [195, tried / 16777216, tried / 65536 % 256, tried / 256 % 256, tried % 256, (x3.length : Int) % 256] (Nat.le_refl _) (by simp [maxLen]))
  have BY : Hid (Byt (helloL tried x3 x4 x5)) := Lib.hid (by
    unfold helloL bgn
    refine Byt.append (Byt.append (Byt.append (Byt.append (Byt.append ?_ ?_) f3) ?_) f4) (Byt.append f5 ?_)
    · intro x hx; simp at hx; omega
    · intro x hx; simp at hx; omega
    · intro x hx; simp at hx; omega
    · intro x hx; rw [(List.mem_replicate.1 hx).2]; decide)
  have HL0 : (helloL tried x3 x4 x5).length = 1207 + x3.length + x4.length + x5.length := by unfold helloL; rw [List.length_append, List.length_append, List.length_replicate, bgn_len]; omega
  have HSP : Hid (spl (helloL tried x3 x4 x5) = some (x3.length, x4.length)) := Lib.hid (bgn_spl _ _ _ _ _ (by decide) b3a b3b)
  have HVE : Hid (ver (helloL tried x3 x4 x5) = tried) := Lib.hid (bgn_ver _ _ _ _ _)
  have HDS : Hid (dstL (helloL tried x3 x4 x5) x3.length = x3) := Lib.hid (bgn_dst _ _ _ _ _)
  have HSR : Hid (srcL (helloL tried x3 x4 x5) x3.length x4.length = x4) := Lib.hid (bgn_src _ _ _ _ _)
  have HE : Hid ([195, tried / 16777216, tried / 65536 % 256, tried / 256 % 256, tried % 256, (x3.length : Int) % 256] ++ x3 ++ [(x4.length : Int) % 256] ++ x4 ++ x5 ++ List.replicate 1200 0 = helloL tried x3 x4 x5) := Lib.hid (by unfold helloL bgn; simp only [List.append_assoc, List.cons_append, List.nil_append])
  have HL := Lib.hid HL0
  generalize helloL tried x3 x4 x5 = b at *
  have S0 := Lib.hid s0
  have S1 := Lib.hid s1
  have S3 := Lib.hid s3
  have S4 := Lib.hid s4
  have S5 := Lib.hid s5
  have F1 := Lib.hid f1
  have F3 := Lib.hid f3
  have F4 := Lib.hid f4
  have B6 := Lib.hid b6
  have B7 := Lib.hid b7
  clear s0 s1 s3 s4 s5 f1 f3 f4 f5 HL0 b6 b7
  have d0 : decide (64 < (x0.length : Int)) = false := by simp; omega
  have d1 : decide (64 < (x1.length : Int)) = false := by simp; omega
  have d3 : decide (255 < (x3.length : Int)) = false := by simp; omega
  have d4 : decide (255 < (x4.length : Int)) = false := by simp; omega
  have d5 : decide (1000 < (x5.length : Int)) = false := by simp; omega
  by_cases hmx : x3.length < x4.length
  all_goals
    go_enter Try.func7, Try.ntmps7
    go_wp2_with (first
      | (go_at_call 22; refine HC.out.mono ?_; rintro e w' ⟨rfl, rfl⟩)
      | (at_builtin; (have _g := H4; clear _g); refine wpList_appz (o := ⟨some 84, _, _, _, _, _⟩) (B := w.heap.size) elU8 Try.underlying3 rfl _ _ rfl rfl rfl H4.out.1 (by decide : 0 < 1200) ?_ ?_ ?_; (simp <;> omega); exact B4.out.size; intro A15 n15 c15 w5 h5; have H5 := Lib.hid h5.1; have B5 := Lib.hid (B4.out.trans h5.2.2.1); clear h5)
      | (at_builtin; (have _g := H3; clear _g); refine wpList_app (o := ⟨some 83, _, _, _, _, _⟩) elU8 rfl _ _ rfl rfl rfl H3.out.1 (S5.out.below B3.out (Nat.le_refl _)) rfl ?_ ?_ ?_; (simp <;> omega); exact B3.out.size; intro A14 n14 c14 wx4 h4; have H4 := Lib.hid h4; have B4 := Lib.hid (B3.out.trans h4.2.2.1); clear h4)
      | (at_builtin; (have _g := H2; clear _g); refine wpList_app (o := ⟨some 80, _, _, _, _, _⟩) elU8 rfl _ _ rfl rfl rfl H2.out.1 (S4.out.below B2.out (Nat.le_refl _)) rfl ?_ ?_ ?_; (simp <;> omega); exact B2.out.size; intro A13 n13 c13 w3 h3; have H3 := Lib.hid h3; have B3 := Lib.hid (B2.out.trans h3.2.2.1); clear h3)
      | (at_builtin; (have _g := H1; clear _g); refine wpList_app (o := ⟨some 78, _, _, _, _, _⟩) elU8 rfl _ _ rfl rfl rfl (H1.out.1.alloc _) (Rd.newAt (xs := [(x4.length : Int) % 256]) rfl rfl) rfl ?_ ?_ ?_; (simp <;> omega); (have := B1.out.size; simp; omega); intro A12 n12 c12 w2 h2; have H2 := Lib.hid h2; have B2 := Lib.hid ((B1.out.alloc B1.out.size _).trans h2.2.2.1); clear h2)
      | (at_builtin; refine wpList_app (o := ⟨some 73, _, _, _, _, _⟩) elU8 rfl _ _ rfl rfl rfl O1.out (S3.out.alloc (Nat.le_refl _) _) rfl ?_ ?_ ?_; (simp <;> omega); (simp <;> omega); intro A11 n11 c11 w1 h1; have H1 := Lib.hid h1; have B1 := Lib.hid (((Below.refl w.heap.size w).alloc (Nat.le_refl _) _).trans h1.2.2.1); clear h1))
    clear H1 H2 H3 H4 B1 B2 B3 B4 O1 e1 e2 e3 e4 e5
    rw [HE.out] at H5
    have hn15 := H5.out.len
    have hc15 := H5.out.cap.1
    subst hn15
    have HRY := Lib.hid (reply_some A15 A1 c15 c1 b x1 x3.length x4.length w5 H5.out.rd ((S1.out.below B5.out (Nat.le_refl _)).mono B5.out.size) BY.out F1.out (by have := HL.out; omega) hc15 (by omega) HSP.out (by have := HL.out; omega) (by rw [HVE.out]; exact B6.out) (by rw [HVE.out]; exact B7.out))
    refine HRY.out.mono ?_
    rintro e w6 ⟨h6, -⟩
    obtain ⟨A6, n6, c6, rfl, o6, hb6⟩ := h6 ⟨b2, b1⟩
    rw [HDS.out, HSR.out] at o6
    have hok : okPut x4 x3 x1 := ⟨b3b, b3a, b2, b1⟩
    have HTK : Hid (tk (putL 192 x4 x3 x1) = some (x4.length, x3.length)) := Lib.hid (tk_putL hok)
    have HRB : Hid (Byt (putL 192 x4 x3 x1)) := Lib.hid (byt_putL F4.out F3.out F1.out)
    have HRL : Hid ((putL 192 x4 x3 x1).length = 7 + x4.length + x3.length + 4 * x1.length) := Lib.hid (by unfold putL; rw [List.length_append, bgn_len, w4_len])
    have HRD : Hid (dstL (putL 192 x4 x3 x1) x4.length = x4) := Lib.hid (bgn_dst _ _ _ _ _)
    have HRS : Hid (srcL (putL 192 x4 x3 x1) x4.length x3.length = x3) := Lib.hid (bgn_src _ _ _ _ _)
    have HRV := Lib.hid (putL_vers x4 x3 x1)
    generalize putL 192 x4 x3 x1 = R at *
    have O6 := Lib.hid o6
    have B6' : Hid (Below w.heap.size w w6) := Lib.hid (B5.out.trans (hb6.mono B5.out.size))
    have hz6 := B6'.out.size
    clear HRY h6 o6 hb6 H5 B5 HE
    have hn6 := O6.out.len
    have hc6 := O6.out.cap.1
    subst hn6
    go_wp2_with fail
    refine (take_yes A6 c6 R x4.length x3.length w6 O6.out.rd HRB.out (by have := HRL.out; omega) hc6 HTK.out).mono ?_
    rintro e w7 ⟨A7, n7, c7, A8, n8, c8, A9, n9, c9, rfl, o7, o8, o9, hb7⟩
    rw [HRD.out] at o7
    rw [HRS.out] at o8
    rw [HRV.out] at o9
    have B7' : Hid (Below w.heap.size w w7) := Lib.hid (B6'.out.trans (hb7.mono hz6))
    have hz7 := B7'.out.size
    have hn7 := o7.len
    have hn8 := o8.len
    have hn9 := o9.len
    subst hn7 hn8 hn9
    have O7 := Lib.hid o7
    have O8 := Lib.hid o8
    have O9 := Lib.hid o9
    clear o7 o8 o9 hb7
    have PN := Blk.new w7 32 #[.slice A7 x4.length c7, .slice A8 x3.length c8, .slice A9 x1.length c9]
    obtain ⟨q0, q1, q2⟩ := pk_facts PN
    clear PN
    have K7 := conv_own elU8 Try.underlying9 (O7.out.alloc (.cells #[.slice A7 x4.length c7, .slice A8 x3.length c8, .slice A9 x1.length c9] 32))
    have K8 := conv_own elU8 Try.underlying9 (O8.out.alloc (.cells #[.slice A7 x4.length c7, .slice A8 x3.length c8, .slice A9 x1.length c9] 32))
    have T3 := S3.out.below B7'.out (Nat.le_refl _)
    have T4 := S4.out.below B7'.out (Nat.le_refl _)
    have K4 := conv_rd elU8 Try.underlying9 (T4.alloc hz7 (.cells #[.slice A7 x4.length c7, .slice A8 x3.length c8, .slice A9 x1.length c9] 32)) c4
    have K3 := conv_rd elU8 Try.underlying9 (T3.alloc hz7 (.cells #[.slice A7 x4.length c7, .slice A8 x3.length c8, .slice A9 x1.length c9] 32)) c3
    have T0 := Lib.hid ((S0.out.below B7'.out (Nat.le_refl _)).alloc hz7 (.cells #[.slice A7 x4.length c7, .slice A8 x3.length c8, .slice A9 x1.length c9] 32))
    have T1 := Lib.hid ((S1.out.below B7'.out (Nat.le_refl _)).alloc hz7 (.cells #[.slice A7 x4.length c7, .slice A8 x3.length c8, .slice A9 x1.length c9] 32))
    replace T3 := Lib.hid (T3.alloc hz7 (.cells #[.slice A7 x4.length c7, .slice A8 x3.length c8, .slice A9 x1.length c9] 32))
    replace T4 := Lib.hid (T4.alloc hz7 (.cells #[.slice A7 x4.length c7, .slice A8 x3.length c8, .slice A9 x1.length c9] 32))
    have P7 := Lib.hid (O7.out.alloc (.cells #[.slice A7 x4.length c7, .slice A8 x3.length c8, .slice A9 x1.length c9] 32))
    have P8 := Lib.hid (O8.out.alloc (.cells #[.slice A7 x4.length c7, .slice A8 x3.length c8, .slice A9 x1.length c9] 32))
    have P9 := Lib.hid (O9.out.alloc (.cells #[.slice A7 x4.length c7, .slice A8 x3.length c8, .slice A9 x1.length c9] 32))
    have BX := Lib.hid (B7'.out.alloc hz7 (.cells #[.slice A7 x4.length c7, .slice A8 x3.length c8, .slice A9 x1.length c9] 32))
    clear O7 O8 O9
    go_wp2_with fail
    refine (equal32_any A9 A1 c9 c1 x1 x1 _ P9.out.rd (T1.out.mono BX.out.size) (by omega) (by omega)).mono ?_
    rintro e w8 ⟨rfl, nq, rfl⟩
    rw [decide_eq_true (rfl : x1 = x1)]
    have r0 := q0
    have r1 := q1
    have r2 := q2
    have hwx : w.heap.size ≤ ((w7.alloc (.cells #[.slice A7 x4.length c7, .slice A8 x3.length c8, .slice A9 x1.length c9] 32)).drewN nq).heap.size := BX.out.size
    have U0 : Hid (Rd w.heap.size .u32 ((w7.alloc (.cells #[.slice A7 x4.length c7, .slice A8 x3.length c8, .slice A9 x1.length c9] 32)).drewN nq) A0 x0) := Lib.hid (T0.out.drewN nq)
    have U1 : Hid (Rd w.heap.size .u32 ((w7.alloc (.cells #[.slice A7 x4.length c7, .slice A8 x3.length c8, .slice A9 x1.length c9] 32)).drewN nq) A1 x1) := Lib.hid (T1.out.drewN nq)
    have HNX := Lib.hid (next_any A7 A8 A9 A3 A4 A0 c7 c8 c9 c3 c4 c0 x4 x3 x1 x3 x4 tried x0 ((w7.alloc (.cells #[.slice A7 x4.length c7, .slice A8 x3.length c8, .slice A9 x1.length c9] 32)).drewN nq)
      (P7.out.rd.drewN nq) (P8.out.rd.drewN nq) (P9.out.rd.drewN nq) ((T3.out.mono BX.out.size).drewN nq) ((T4.out.mono BX.out.size).drewN nq) ((T0.out.mono BX.out.size).drewN nq) F4.out F3.out F3.out F4.out (by omega) (by omega))
    rw [nextMeet x3 x4 x1 tried x0 B7.out] at HNX
    have BY8 : Hid (Below w.heap.size w ((w7.alloc (.cells #[.slice A7 x4.length c7, .slice A8 x3.length c8, .slice A9 x1.length c9] 32)).drewN nq)) := Lib.hid (below_drewN BX.out nq)
    have z0 : ((w7.alloc (.cells #[.slice A7 x4.length c7, .slice A8 x3.length c8, .slice A9 x1.length c9] 32)).drewN nq).cell? ⟨w7.heap.size, 0, none⟩ = some (.slice A7 x4.length c7) := r0
    have z1 : ((w7.alloc (.cells #[.slice A7 x4.length c7, .slice A8 x3.length c8, .slice A9 x1.length c9] 32)).drewN nq).cell? ⟨w7.heap.size, 1, none⟩ = some (.slice A8 x3.length c8) := r1
    have z2 : ((w7.alloc (.cells #[.slice A7 x4.length c7, .slice A8 x3.length c8, .slice A9 x1.length c9] 32)).drewN nq).cell? ⟨w7.heap.size, 2, none⟩ = some (.slice A9 x1.length c9) := r2
    clear q0 q1 q2 r0 r1 r2 K7 K8 K3 K4 T0 T1 T3 T4 P7 P8 P9 BX
    generalize (w7.alloc (.cells #[.slice A7 x4.length c7, .slice A8 x3.length c8, .slice A9 x1.length c9] 32)).drewN nq = W8 at *
    rcases hch : chs x0 x1 with _ | v
    · rw [hch] at HNX
      have HCH := Lib.hid hch
      clear hch
      go_wp2_with fail
      refine HNX.out.mono ?_
      rintro e W9 ⟨rfl, hb9⟩
      have V0 := Lib.hid (U0.out.below hb9 hwx)
      have V1 := Lib.hid ((U1.out.below hb9 hwx).mono (Nat.le_trans hwx hb9.size))
      have B9 := Lib.hid (BY8.out.trans (hb9.mono hwx))
      clear HNX hb9 z0 z1 z2
      go_wp2_with fail
      have HC9 := Lib.hid (fun v => contains_any A1 c1 x1 v W9 V1.out (by omega))
      go_loop [134] (fun i => ∃ k : Nat, k ≤ x0.length ∧ i = .int .i64 k ∧ Hid (∀ x ∈ x0.take k, okv x1 x = false)) (fun i => x0.length - (intOf i).toNat)
      case atStart => exact ⟨0, by omega, rfl, Lib.hid (by simp)⟩
      case round =>
        obtain ⟨k, hk, rfl, HN⟩ := hrel
        by_cases hlt : k < x0.length
        · obtain ⟨ad, x, rfl, hb, hc, HX⟩ := V0.out.hx hlt
          by_cases g1 : x = 0
          · have HF := Lib.hid (chs_snoc hlt HN.out (by rw [HX.out]; simp [okv, g1]))
            have g1' : (x != 0) = false := by simp [g1]
            clear g1
            go_wp2_with fail
            go_round
            case rel => exact ⟨k + 1, by omega, by go_num, HF⟩
            case measure => simp [intOf]; omega
          have g1' : (x != 0) = true := by simp [g1]
          rcases g2 : rsv x with _ | _
          rotate_left
          · have HF := Lib.hid (chs_snoc hlt HN.out (by rw [HX.out]; simp [okv, g2]))
            clear g1
            go_wp2_with (first | (go_at_call 11; refine (reserved_any _ _).mono ?_; rintro e w' ⟨rfl, rfl⟩) | (go_at_call 22; refine (HC9.out _).mono ?_; rintro e w' ⟨rfl, rfl⟩) | (go_at_call 8; refine (works_any _).mono ?_; rintro e w10 ⟨rfl, hb10⟩))
            go_round
            case rel => exact ⟨k + 1, by omega, by go_num, HF⟩
            case measure => simp [intOf]; omega
          rcases g3 : decide (x ∈ x1) with _ | _
          · have HF := Lib.hid (chs_snoc hlt HN.out (by rw [HX.out]; simp only [okv, g1', g2, g3]; rfl))
            clear g1
            go_wp2_with (first | (go_at_call 11; refine (reserved_any _ _).mono ?_; rintro e w' ⟨rfl, rfl⟩) | (go_at_call 22; refine (HC9.out _).mono ?_; rintro e w' ⟨rfl, rfl⟩) | (go_at_call 8; refine (works_any _).mono ?_; rintro e w10 ⟨rfl, hb10⟩))
            go_round
            case rel => exact ⟨k + 1, by omega, by go_num, HF⟩
            case measure => simp [intOf]; omega
          · exact absurd (chs_at hlt HN.out (by rw [HX.out]; simp only [okv, g1', g2, g3]; rfl)) (by rw [HCH.out]; simp)
        ·
          have HF := B9.out
          go_wp2_with (first | (go_at_call 11; refine (reserved_any _ _).mono ?_; rintro e w' ⟨rfl, rfl⟩) | (go_at_call 22; refine (HC9.out _).mono ?_; rintro e w' ⟨rfl, rfl⟩) | (go_at_call 8; refine (works_any _).mono ?_; rintro e w10 ⟨rfl, hb10⟩))
          go_ret
          exact ⟨rfl, HF.trans (hb10.mono B9.out.size)⟩
    · rw [hch] at HNX
      have HCH := Lib.hid hch
      clear hch
      go_wp2_with fail
      refine HNX.out.mono ?_
      rintro e W9 ⟨rfl, hb9⟩
      have V0 := Lib.hid (U0.out.below hb9 hwx)
      have V1 := Lib.hid ((U1.out.below hb9 hwx).mono (Nat.le_trans hwx hb9.size))
      have B9 := Lib.hid (BY8.out.trans (hb9.mono hwx))
      clear HNX hb9 z0 z1 z2
      go_wp2_with fail
      have HC9 := Lib.hid (fun v => contains_any A1 c1 x1 v W9 V1.out (by omega))
      go_loop [134] (fun i => ∃ k : Nat, k ≤ x0.length ∧ i = .int .i64 k ∧ Hid (∀ x ∈ x0.take k, okv x1 x = false)) (fun i => x0.length - (intOf i).toNat)
      case atStart => exact ⟨0, by omega, rfl, Lib.hid (by simp)⟩
      case round =>
        obtain ⟨k, hk, rfl, HN⟩ := hrel
        by_cases hlt : k < x0.length
        · obtain ⟨ad, x, rfl, hb, hc, HX⟩ := V0.out.hx hlt
          by_cases g1 : x = 0
          · have HF := Lib.hid (chs_snoc hlt HN.out (by rw [HX.out]; simp [okv, g1]))
            have g1' : (x != 0) = false := by simp [g1]
            clear g1
            go_wp2_with fail
            go_round
            case rel => exact ⟨k + 1, by omega, by go_num, HF⟩
            case measure => simp [intOf]; omega
          have g1' : (x != 0) = true := by simp [g1]
          rcases g2 : rsv x with _ | _
          rotate_left
          · have HF := Lib.hid (chs_snoc hlt HN.out (by rw [HX.out]; simp [okv, g2]))
            clear g1
            go_wp2_with (first | (go_at_call 11; refine (reserved_any _ _).mono ?_; rintro e w' ⟨rfl, rfl⟩) | (go_at_call 22; refine (HC9.out _).mono ?_; rintro e w' ⟨rfl, rfl⟩) | (go_at_call 8; refine (works_any _).mono ?_; rintro e w10 ⟨rfl, hb10⟩))
            go_round
            case rel => exact ⟨k + 1, by omega, by go_num, HF⟩
            case measure => simp [intOf]; omega
          rcases g3 : decide (x ∈ x1) with _ | _
          · have HF := Lib.hid (chs_snoc hlt HN.out (by rw [HX.out]; simp only [okv, g1', g2, g3]; rfl))
            clear g1
            go_wp2_with (first | (go_at_call 11; refine (reserved_any _ _).mono ?_; rintro e w' ⟨rfl, rfl⟩) | (go_at_call 22; refine (HC9.out _).mono ?_; rintro e w' ⟨rfl, rfl⟩) | (go_at_call 8; refine (works_any _).mono ?_; rintro e w10 ⟨rfl, hb10⟩))
            go_round
            case rel => exact ⟨k + 1, by omega, by go_num, HF⟩
            case measure => simp [intOf]; omega
          · have hf := chs_at hlt HN.out (by rw [HX.out]; simp only [okv, g1', g2, g3]; rfl)
            rw [HCH.out, HX.out] at hf
            injection hf with hf
            subst hf
            clear g1
            go_wp2_with (first | (go_at_call 11; refine (reserved_any _ _).mono ?_; rintro e w' ⟨rfl, rfl⟩) | (go_at_call 22; refine (HC9.out _).mono ?_; rintro e w' ⟨rfl, rfl⟩) | (go_at_call 8; refine (works_any _).mono ?_; rintro e w10 ⟨rfl, hb10⟩))
            go_ret
            exact ⟨rfl, B9.out.trans (hb10.mono B9.out.size)⟩
        ·
          have hf := HN.out
          rw [List.take_of_length_le (by omega)] at hf
          have h2 := chs_none hf
          rw [HCH.out] at h2
          cases h2
theorem meets_walk (A0 A1 A3 A4 A5 : Option Addr) (c0 c1 c3 c4 c5 : Nat) (x0 x1 : List Int) (tried : Int) (x3 x4 x5 : List Int) (w : World)
    (s0 : Rd w.heap.size .u32 w A0 x0) (s1 : Rd w.heap.size .u32 w A1 x1) (s3 : Rd w.heap.size .u8 w A3 x3) (s4 : Rd w.heap.size .u8 w A4 x4) (s5 : Rd w.heap.size .u8 w A5 x5)
    (f1 : Wrd x1) (f3 : Byt x3) (f4 : Byt x4) (f5 : Byt x5) (g0 : x0.length ≤ 140737488351232) (g1 : x1.length ≤ 140737488351232) (g3 : x3.length ≤ 140737488351232) (g4 : x4.length ≤ 140737488351232) (g5 : x5.length ≤ 140737488351232) (hv : 0 ≤ tried ∧ tried < 4294967296) :
    Calls Try.prog 7 #[.slice A0 x0.length c0, .slice A1 x1.length c1, .int .u32 tried, .slice A3 x3.length c3, .slice A4 x4.length c4, .slice A5 x5.length c5] w fun e w' => e = .returned (.bool true) ∧ Below w.heap.size w w' := by
  by_cases hbad : 64 < x0.length ∨ 64 < x1.length ∨ x1.length = 0 ∨ 255 < x3.length ∨ 255 < x4.length ∨ 1000 < x5.length ∨ tried = 0 ∨ tried ∈ x1
  · exact meets_bad A0 A1 A3 A4 A5 c0 c1 c3 c4 c5 x0 x1 tried x3 x4 x5 w s1 g0 g1 g3 g4 g5 hbad
  · simp only [not_or] at hbad
    obtain ⟨h0, h1, h2, h3, h4, h5, h6, h7⟩ := hbad
    exact meets_good A0 A1 A3 A4 A5 c0 c1 c3 c4 c5 x0 x1 tried x3 x4 x5 w s0 s1 s3 s4 s5 f1 f3 f4 f5 hv.1 hv.2 (by omega) (by omega) (by omega) (by omega) (by omega) (by omega) h6 h7
end Go.Proofs.Ytakmaocfcmdpmaa
