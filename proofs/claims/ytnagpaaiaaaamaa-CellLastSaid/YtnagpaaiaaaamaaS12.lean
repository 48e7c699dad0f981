
/- Contract of the reference's Sum. Conditions: as each theorem states them. -/
import Derived.Test.YtnagpaaiaaaamaaS11
import Derived.Test.YtnagpaaiaaaamaaS6
namespace Go.Proofs.Ytnagpaaiaaaamaa
open Go.RowKit

theorem pad_div (L : List Int) : (L ++ padL L.length).length = 64 * shaN L := by
  rw [List.length_append, padL_len]
  unfold shaN padN
  omega
theorem shaL_eq (L : List Int) : shaL L = outL (comps (shaN L) hL (L ++ padL L.length)) := by unfold shaL; rfl
theorem b4_get {x : Int} (h : U32 x) {j : Nat} (hj : j < 4) : (b4 x).getD j 0 = hlf (24 - 8 * j) x % 256 := by
  unfold U32 at h
  match j, hj with
  | 0, _ | 1, _ | 2, _ | 3, _ => simp [b4, hlf]; try omega

set_option maxRecDepth 100000 in
set_option maxHeartbeats 8000000 in
theorem rsum_any (A : Option Addr) (c : Nat) (L : List Int) (w : World) (hr : Rd w.heap.size .u8 w A L) (hb : Byt L) (hl : L.length ≤ 1000000000000) :
    Calls Try.prog 27 #[.slice A L.length c] w (ShaPost L w) := by
  have HR := Lib.hid hr
  have HBY := Lib.hid hb
  clear hr hb
  go_enter Try.func27, Try.ntmps27
  go_wp2_with fail
  refine (rfirst_any _).mono ?_
  rintro e w1 ⟨A1, n1, c1, rfl, ho1, hb1⟩
  have RB1 := Lib.hid (Blk.below (Blk.new w 56 _) hb1 (by simp))
  have B1 := Lib.hid (((Below.refl w.heap.size w).alloc (Nat.le_refl _) _).trans (hb1.mono (by simp)))
  have hn1 : n1 = 8 := ho1.len
  subst hn1
  obtain ⟨gh, rfl, hgh0, hgh1⟩ := ho1.addr (by omega)
  have H1 := Lib.hid ho1
  simp at hgh0
  clear hb1 ho1
  go_wp2_with fail
  refine (rconstants_any _).mono ?_
  rintro e w2 ⟨A2, n2, c2, rfl, ho2, hb2⟩
  have RB2 := Lib.hid (Blk.below RB1.out hb2 (Blk.lt RB1.out))
  have B2 := Lib.hid (B1.out.trans (hb2.mono B1.out.size))
  have hn2 : n2 = 64 := by have := ho2.len; rw [kL_len] at this; exact this
  subst hn2
  obtain ⟨gk, rfl, hgk0, hgk1⟩ := ho2.addr (by omega)
  have H2 := Lib.hid (H1.out.below hb2)
  have K2 := Lib.hid ho2
  clear hb2 ho2 RB1 B1 H1
  go_wp2_with fail
  refine Calls.mono (blocks_any _ _ L _ ((HR.out.below B2.out (Nat.le_refl _)).mono B2.out.size) hl) ?_
  rintro e w3 ⟨A3, n3, c3, rfl, ho3, hb3⟩
  have RB3 := Lib.hid (Blk.below RB2.out hb3 (Blk.lt RB2.out))
  have B3 := Lib.hid (B2.out.trans (hb3.mono B2.out.size))
  have H3 := Lib.hid (H2.out.below hb3)
  have K3 := Lib.hid (K2.out.below hb3)
  have hYL := pad_div L
  have hYB : Byt (L ++ padL L.length) := HBY.out.append (byt_pad _)
  have hSE := shaL_eq L
  have hNB : shaN L ≤ 20000000000 := by unfold shaN padN; omega
  generalize L ++ padL L.length = Y at *
  generalize shaN L = NB at *
  obtain rfl := ho3.len
  have Y3 := Lib.hid ho3
  have HYL := Lib.hid hYL
  have HYB := Lib.hid hYB
  have HSE := Lib.hid hSE
  clear hb3 ho3 RB2 B2 H2 K2 hYL hYB hSE HR HBY
  have hY3 : ∀ ad, A3 = some ad → ad.block ≠ gh := fun ad hA => by have := (Y3.out.block ad hA).1; omega
  have HY3 := Lib.hid hY3
  clear hY3
  generalize hz32 : #[Value.int .u8 0, .int .u8 0, .int .u8 0, .int .u8 0, .int .u8 0, .int .u8 0, .int .u8 0, .int .u8 0, .int .u8 0, .int .u8 0, .int .u8 0, .int .u8 0, .int .u8 0, .int .u8 0, .int .u8 0, .int .u8 0, .int .u8 0, .int .u8 0, .int .u8 0, .int .u8 0, .int .u8 0, .int .u8 0, .int .u8 0, .int .u8 0, .int .u8 0, .int .u8 0, .int .u8 0, .int .u8 0, .int .u8 0, .int .u8 0, .int .u8 0, .int .u8 0] = zz at *
  have hzz : Hid (zz.size = 32) := Lib.hid (by rw [← hz32]; rfl)
  clear hz32
  have hyl : Y.length ≤ 1280000000000 := by have := HYL.out; omega
  go_wp2_with fail
  go_loopw [6] (fun i wr => ∃ m : Nat, m ≤ NB ∧ i = .int .i64 ((64 * m : Nat) : Int) ∧ Hid (Own w.heap.size 70 .u32 wr (some ⟨gh, 0, none⟩) 8 c1 (comps m hL Y).l) ∧ Hid (Own w1.heap.size 70 .u32 wr (some ⟨gk, 0, none⟩) 64 c2 kL) ∧ Hid (Own w2.heap.size 5 .u8 wr A3 Y.length c3 Y) ∧ Hid (Blk wr w.heap.size 56 zz) ∧ Hid (Below w.heap.size w wr)) (fun i _ => Y.length - (intOf i).toNat)
  case atStart => exact ⟨0, by omega, rfl, Lib.hid (by rw [comps_zero]; exact (H3.out.mono (by simp))), K3, Y3, RB3, B3⟩
  case round =>
    clear H3 K3 Y3 RB3 B3
    obtain ⟨m, hm, rfl, HH, HK, HY, RB, HB⟩ := hrel
    have hyc := HY.out.cap
    by_cases hlt : m < NB
    · have hly : 64 * m + 64 ≤ Y.length := by have := HYL.out; omega
      obtain ⟨A4, c4, p1, p2, p3, p4, p5⟩ := slice_lh elU8 HY.out.rd HY.out.cap.1 ((64 * m : Nat) : Int) (((64 * m : Nat) : Int) + 64) 64 (by omega) (by omega) (by omega) (by omega)
      rw [Int.toNat_natCast] at p3 p4
      have HP3 := Lib.hid p3
      have HP4 := Lib.hid p4
      have HBS := Lib.hid ((HYB.out.drop (64 * m)).take 64)
      have HST := Lib.hid (comps_step (k := m) (s := hL) (Y := Y))
      have HOK := Lib.hid (comps_ok hL_ok m Y)
      clear p3 p4
      generalize (Y.drop (64 * m)).take 64 = bs at *
      generalize comps m hL Y = S at *
      have hly' : ((64 * m : Nat) : Int) < Y.length := by omega
      generalize hat : ((64 * m : Nat) : Int) = at_ at *
      have h_at : 0 ≤ at_ ∧ at_ ≤ 1280000000000 := by omega
      obtain ⟨hat0, hat1⟩ := h_at
      have HAT := Lib.hid hat
      clear hat
      go_wp2_with fail
      refine Calls.mono (words_any A4 c4 bs _ HP3.out HBS.out HP4.out) ?_
      rintro e w4 ⟨A5, n5, c5, rfl, ho5, hb5⟩
      have hn5 : n5 = 64 := by have := ho5.len; rw [words_len] at this; exact this
      subst hn5
      obtain ⟨gw, rfl, hgw0, hgw1⟩ := ho5.addr (by omega)
      have W4 := Lib.hid ho5
      have H4 := Lib.hid (HH.out.below hb5)
      have K4 := Lib.hid (HK.out.below hb5)
      have Y4 := Lib.hid (HY.out.below hb5)
      have RB4 := Lib.hid (Blk.below RB.out hb5 (Blk.lt RB.out))
      have B4 := Lib.hid (HB.out.trans (hb5.mono HB.out.size))
      have HWL := Lib.hid (words_len bs)
      have HCE := Lib.hid (comp_eq S bs)
      clear ho5 hb5 HH HK HY RB HB p5 HP3 HP4
      generalize hWW : wordsL bs = WW at *
      clear hWW
      have O4 : Hid (Own w4.heap.size 70 .u32 (w4.alloc (.cells #[] 70)) (some ⟨w4.heap.size, 0, none⟩) 0 0 []) := Lib.hid (Own.litAt rfl rfl rfl (Nat.le_refl _) (Nat.zero_le _))
      have R4 := Lib.hid (H4.out.rd.alloc (Nat.le_refl _) (.cells #[] 70))
      go_wp2_with (at_builtin; refine wpList_app (o := ⟨some 35, _, _, _, _, _⟩) elU32 rfl _ _ rfl rfl rfl O4.out R4.out rfl ?_ ?_ ?_; (simp only [List.length_nil, S8.l, List.length_cons]; omega); (simp); intro A6 n6 c6 w5 q6; have H6 := Lib.hid q6.1; have B6 := Lib.hid (((Below.refl w4.heap.size w4).alloc (Nat.le_refl _) _).trans q6.2.2.1); clear q6)
      clear O4 R4
      have hn6 : n6 = 8 := H6.out.len
      subst hn6
      have hw45 := B6.out.size
      go_loopw [8, 9] (fun v i wr => ∃ (t gv cv : Nat), t ≤ 64 ∧ i = .int .i64 t ∧ v = .slice (some ⟨gv, 0, none⟩) 8 cv ∧ Hid (Own w4.heap.size 70 .u32 wr (some ⟨gv, 0, none⟩) 8 cv (rnds S WW t).l) ∧ Hid (Below w4.heap.size w4 wr)) (fun _ i _ => 64 - (intOf i).toNat)
      case atStart =>
        obtain ⟨gv, rfl, _, _⟩ := H6.out.addr (by omega)
        exact ⟨0, gv, c6, by omega, rfl, rfl, Lib.hid (by rw [rnds_zero]; exact H6.out), B6⟩
      case round =>
        clear H6 B6 hw45
        obtain ⟨t, gv, cv, ht, rfl, rfl, HV, HC⟩ := hrel
        by_cases hlt2 : t < 64
        · have HOk := Lib.hid (rnds_ok HOK.out WW t)
          have HNX := Lib.hid (rnds_succ S WW t)
          have ck := (K4.out.below HC.out).cell0 (i := t) (by rw [kL_len]; omega)
          have cw := (W4.out.below HC.out).cell0 (i := t) (by rw [HWL.out]; omega)
          generalize rnds S WW t = v at *
          generalize WW.getD t 0 = xw at *
          generalize kL.getD t 0 = xk at *
          obtain ⟨va, vb, vc, vd, ve, vf, vg, vh⟩ := v
          have hou := HOk.out
          unfold S8.Ok at hou
          simp only at hou
          obtain ⟨o1, o2, o3, o4, o5, o6, o7, o8⟩ := hou
          have UA := Lib.hid o1
          have UE := Lib.hid o5
          unfold U32 at o1 o5
          have a0 := HV.out.cell0 (i := 0) (by simp [S8.l])
          have a1 := HV.out.cell0 (i := 1) (by simp [S8.l])
          have a2 := HV.out.cell0 (i := 2) (by simp [S8.l])
          have a4 := HV.out.cell0 (i := 4) (by simp [S8.l])
          have a5 := HV.out.cell0 (i := 5) (by simp [S8.l])
          have a6 := HV.out.cell0 (i := 6) (by simp [S8.l])
          have a7 := HV.out.cell0 (i := 7) (by simp [S8.l])
          simp [S8.l] at a0 a1 a2 a4 a5 a6 a7
          obtain ⟨o10, o11⟩ := o1
          obtain ⟨o50, o51⟩ := o5
          clear o2 o3 o4 o6 o7 o8
          have hcv := HV.out.cap
          go_wp2_with fail
          go_quiet (fail)
          go_wp2_with fail
          obtain ⟨n0, rfl⟩ : ∃ n0 : Nat, n0 = nq := ⟨_, rfl⟩
          go_quiet (fail)
          simp only [World.drewN_drewN]
          generalize n0 + nq = n1
          go_wp2_with fail
          go_quiet ((go_at_call 40; first | (with_reducible exact quiet_add_same (rturn_i ve _ 6 rfl (by decide) _ UE.out)) | (with_reducible exact quiet_add_same (rturn_i ve _ 11 rfl (by decide) _ UE.out)) | (with_reducible exact quiet_add_same (rturn_i ve _ 25 rfl (by decide) _ UE.out))))
          simp only [World.drewN_drewN]
          generalize n1 + nq = n2
          go_wp2_with fail
          go_quiet ((go_at_call 40; first | (with_reducible exact quiet_add_same (rturn_i va _ 2 rfl (by decide) _ UA.out)) | (with_reducible exact quiet_add_same (rturn_i va _ 13 rfl (by decide) _ UA.out)) | (with_reducible exact quiet_add_same (rturn_i va _ 22 rfl (by decide) _ UA.out))))
          simp only [World.drewN_drewN]
          generalize n2 + nq = n3
          clear a0 a1 a2 a4 a5 a6 a7 ck cw
          have V6 := Lib.hid (HV.out.drewN n3)
          have C6 := Lib.hid (below_drewN HC.out n3)
          clear HV HC
          generalize wr.drewN n3 = w6 at *
          obtain ⟨A7, c7, p1', p2', p3, p4, p5⟩ := slice_h elU32 V6.out.rd hcv.1 (7 : Int) 7 (by simp [S8.l]) rfl
          have P6 : Hid (Rd w6.heap.size .u32 w6 A7 [va, vb, vc, vd, ve, vf, vg]) := Lib.hid p3
          have Q6 : ∀ (W : World) (kh : IntKind), (Instr.sliceAt 79 (.slice (some ⟨gv, 0, none⟩) 8 cv) none (some (.int kh 7)) none).run Try.prog W = .ok (.slice A7 7 c7) W := p5
          have z6 := C6.out.size
          have L6 : Hid (∀ V : Int, Own w4.heap.size 70 .u32 (w6.alloc (.cells #[.int .u32 V] 70)) (some ⟨w6.heap.size, 0, none⟩) 1 1 [V]) := Lib.hid (fun V => Own.litAt rfl rfl rfl z6 (by simp [maxLen]))
          clear p3 p4 p5
          go_wp2_with (at_builtin; refine wpList_app (o := ⟨some 131, _, _, _, _, _⟩) elU32 rfl _ _ rfl rfl rfl (L6.out _) (P6.out.alloc (Nat.le_refl _) _) rfl ?_ ?_ ?_; (simp only [List.length_cons, List.length_nil]; omega); (simp; omega); intro A9 n9 c9 w9 q9; have hn9 : n9 = 8 := q9.1.len; subst hn9; obtain ⟨g9, rfl, hg91, hg92⟩ := q9.1.addr (by omega); have k4 : w9.cell? ⟨g9, 4, none⟩ = some (.int .u32 vd) := q9.1.rd.cell0 (i := 4) (by simp); have f4 := q9.1.frozen 4; have H9 := Lib.hid q9.1; have B9 := Lib.hid ((C6.out.alloc z6 _).trans q9.2.2.1); clear q9)
          clear k4 f4 Q6
          go_roundw
          case rel =>
            refine ⟨t + 1, g9, c9, by omega, by go_num, rfl, Lib.hid ?_, Lib.hid (B9.out.setCell (by simp; omega) _)⟩
            rw [HNX.out, rnd_l]
            refine Own.cast (H9.out.set_ 4 _) ?_
            simp only [List.cons_append, List.nil_append, List.set]
            simp only [ad, wrapu32, bs1, bs0, chz, maj, xr, an]
            simp only [List.cons.injEq, and_true, true_and]
            exact ⟨by omega, by omega⟩
          case measure => simp [intOf]; omega
        · have ht64 : t = 64 := by omega
          obtain ⟨t1, rfl⟩ : ∃ t1 : Nat, t1 = t := ⟨_, rfl⟩
          rw [ht64] at HV
          have ht1 : ¬ t1 < 64 := hlt2
          clear hlt2 ht ht64
          obtain ⟨x0, rfl⟩ : ∃ x0 : World, x0 = wr := ⟨_, rfl⟩
          have H5 := Lib.hid (H4.out.below HC.out)
          have K5 := Lib.hid (K4.out.below HC.out)
          have Y5 := Lib.hid (Y4.out.below HC.out)
          have RB5 := Lib.hid (Blk.below RB4.out HC.out (Blk.lt RB4.out))
          have B5 := Lib.hid (B4.out.trans (HC.out.mono B4.out.size))
          have hgh4 : gh < w4.heap.size := (H4.out.block _ rfl).2
          have hgv4 : w4.heap.size ≤ gv := (HV.out.block _ rfl).1
          generalize rnds S WW 64 = V at *
          clear H4 K4 Y4 RB4 B4 W4 HC
          go_wp2_with fail
          go_loopw [14] (fun i wx => ∃ k : Nat, k ≤ 8 ∧ i = .int .i64 k ∧ Hid (Own w.heap.size 70 .u32 wx (some ⟨gh, 0, none⟩) 8 c1 (mixL S.l (addS S V).l k)) ∧ Hid (Own w4.heap.size 70 .u32 wx (some ⟨gv, 0, none⟩) 8 cv V.l) ∧ Hid (x0.grownBy wx (some gh))) (fun i _ => 8 - (intOf i).toNat)
          case atStart => exact ⟨0, by omega, rfl, Lib.hid (by rw [mix_zero]; exact H5.out), HV, Lib.hid (World.grownBy.refl _ _)⟩
          case round =>
            clear HV H5
            obtain ⟨k, hk, rfl, HM, HV, HG⟩ := hrel
            by_cases hlt3 : k < 8
            · have hml : Hid ((mixL S.l (addS S V).l k).length = 8) := Lib.hid (mix_len rfl (by simp [S8.l]; omega))
              have c0 := HM.out.cell0 (i := k) (by rw [hml.out]; omega)
              rw [mix_get (xs := S.l) (ys := (addS S V).l) rfl (Nat.le_refl _)] at c0
              have f0 := HM.out.frozen k
              have d0 := HV.out.cell0 (i := k) (by simp [S8.l]; omega)
              have HX := Lib.hid (addS_get S V hlt3)
              have HMS := Lib.hid (mix_set (xs := S.l) (ys := (addS S V).l) (k := k) rfl (by simp [S8.l]; omega))
              generalize S.l.getD k 0 = x at *
              generalize V.l.getD k 0 = y at *
              have hcm := HM.out.cap
              have hcv2 := HV.out.cap
              go_wp2_with fail
              refine wp_region_drawn_tail 12 (by kernel_rfl) (by kernel_rfl) ?_
              simp only [List.take_succ_cons, List.take_zero, List.drop_succ_cons, List.drop_zero]
              repeat (go_big_quiet_step (fail))
              refine wpQuiet_nil ?_
              intro _ hw'
              obtain ⟨nq, rfl⟩ := hw'
              go_wp2_with fail
              go_roundw
              case rel => exact ⟨k + 1, by omega, by go_num, Lib.hid (Own.cast ((HM.out.drewN nq).set_ k _) (by rw [← HMS.out, HX.out]; rfl)), Lib.hid (Own.far (HV.out.drewN nq) (by simp; omega) _), Lib.hid (only_setCell (only_drewN HG.out nq) (.inl rfl) _)⟩
              case measure => simp [intOf]; omega
            · have hk8 : k = 8 := by omega
              have HF : Hid (Own w.heap.size 70 .u32 wr (some ⟨gh, 0, none⟩) 8 c1 (comps (m + 1) hL Y).l) := Lib.hid (Own.cast HM.out (by rw [HST.out, HCE.out, hk8]; exact mix_full (xs := S.l) (ys := (addS S V).l) rfl))
              have K6 := Lib.hid (K5.out.kept HG.out (fun ad hA he => by injection hA with hA; subst hA; injection he with he; simp at he; omega))
              have Y6 := Lib.hid (Y5.out.kept HG.out (fun ad hA he => HY3.out ad hA (by injection he)))
              have RB6 := Lib.hid (Blk.grown RB5.out HG.out (by simp; omega))
              have B6 := Lib.hid (B5.out.trans (below_of_only HG.out (by omega) B5.out.size))
              clear HM HV HG K5 Y5 RB5 B5 hk8
              go_wp2_with fail
              go_roundw
              case rel => exact ⟨m + 1, by omega, by have := HAT.out; go_num, HF, K6, Y6, RB6, B6⟩
              case measure => simp [intOf]; omega
    · have hmn : m = NB := by omega
      have hge : Y.length ≤ 64 * m := by have := HYL.out; omega
      have HF : Hid (shaL L = outL (comps m hL Y)) := Lib.hid (by rw [hmn]; exact HSE.out)
      have HOK := Lib.hid (comps_ok hL_ok m Y)
      have hme : ((64 * m : Nat) : Int) ≤ 1280000000000 := by omega
      obtain ⟨m1, rfl⟩ : ∃ m1 : Nat, m1 = m := ⟨_, rfl⟩
      clear hmn HSE hlt hm
      generalize comps m1 hL Y = S at *
      have hgeI : (Y.length : Int) ≤ ((64 * m1 : Nat) : Int) := by omega
      clear hge
      generalize ((64 * m1 : Nat) : Int) = at_ at *
      obtain ⟨x0, rfl⟩ : ∃ x0 : World, x0 = wr := ⟨_, rfl⟩
      go_wp2_with fail
      have HOL := Lib.hid (outL_len S)
      have hbl : w.heap.size < x0.heap.size := Blk.lt RB.out
      have hch := HH.out.cap
      go_loopw [16] (fun i wr => ∃ j : Nat, j ≤ 32 ∧ i = .int .i64 j ∧ Hid (Arr wr x0.heap.size 56 .u8 (fil (outL S) j)) ∧ Hid (Below x0.heap.size x0 wr)) (fun i _ => 32 - (intOf i).toNat)
      case atStart => exact ⟨0, by omega, rfl, Lib.hid (Arr.newAt rfl (by rw [fil_zero, HOL.out]; rfl)), Lib.hid ((Below.refl _ _).alloc (Nat.le_refl _) _)⟩
      case round =>
        obtain ⟨j, hj, rfl, HA, HC⟩ := hrel
        by_cases hlt5 : j < 32
        · have c0 := (HH.out.below HC.out).cell0 (i := j / 4) (by simp [S8.l]; omega)
          have e4 : ((j : Int) / 4).toNat = j / 4 := by omega
          have HU := Lib.hid (S8.u HOK.out (j / 4))
          have HG : Hid ((outL S).getD j 0 = hlf (24 - 8 * (j % 4)) (S.l.getD (j / 4) 0) % 256) := Lib.hid (by
            have h1 := outL_get S (i := j / 4) (j := j % 4) (by omega) (by omega)
            rw [show 4 * (j / 4) + j % 4 = j by omega] at h1
            rw [h1, b4_get HU.out (by omega)])
          generalize S.l.getD (j / 4) 0 = x at *
          have d0 := HA.out.cell (i := j) (by rw [fil_len, HOL.out]; omega)
          have f0 := HA.out.frozen j
          have d0' := HA.out.cellAdd (i := j) (by rw [fil_len, HOL.out]; omega)
          have f0' := HA.out.frozenAdd j
          have HFS := Lib.hid (fil_set (xs := outL S) (k := j) (by rw [HOL.out]; omega))
          generalize (fil (outL S) j).getD j 0 = old at d0 d0'
          go_wp2_with fail
          refine Calls.mono (shift_i x _ (24 - 8 * (j % 4)) (by omega) (by omega) _ HU.out) ?_
          rintro e w9 ⟨rfl, rfl⟩
          generalize hlf (24 - 8 * (j % 4)) x = y at *
          go_wp2_with fail
          go_roundw
          case rel => exact ⟨j + 1, by omega, by go_num, Lib.hid (Arr.cast (HA.out.set j _) (by rw [← HFS.out, HG.out])), Lib.hid (HC.out.setCell (by simp) _)⟩
          case measure => simp [intOf]; omega
        · have hk32 : j = 32 := by omega
          have HA8 : Hid (Arr wr x0.heap.size 56 .u8 (outL S)) := Lib.hid (Arr.cast HA.out (by have := fil_full (outL S); rw [HOL.out] at this; rw [hk32]; exact this))
          have RB8 := Lib.hid (Blk.below RB.out HC.out hbl)
          clear HA hk32
          go_wp2_with (first
            | (with_reducible (show wpList _ _ _ (⟨some 172, _, _, _, _, _⟩ :: _) _ _); refine wpList_loadArr (o := ⟨some 172, _, _, _, _, _⟩) (g := x0.heap.size) (t := 56) (k := .u8) (xs := outL S) (n := 32) rfl _ rfl rfl HA8.out Try.underlying56 size32 HOL.out.symm ?_)
            | (with_reducible (show wpList _ _ _ (⟨none, .store 56 _ _, _, _, _, _⟩ :: _) _ _); refine wpList_storeArr (o := ⟨none, .store 56 _ _, _, _, _, _⟩) (g := w.heap.size) (t := 56) (k := .u8) (xs := outL S) (n := 32) rfl _ _ rfl rfl rfl RB8.out size32 HOL.out.symm hzz.out ?_; intro w12 ha12 hg12))
          exact ret_arr (g := w.heap.size) (t := 56) (k := .u8) (xs := outL S) rfl rfl ha12 Try.underlying56 size32 HOL.out.symm rfl ⟨by rw [HF.out], (HB.out.trans (HC.out.mono HB.out.size)).trans (below_of_only hg12 (Nat.le_refl _) (Nat.le_trans (Nat.le_of_lt hbl) HC.out.size))⟩
end Go.Proofs.Ytnagpaaiaaaamaa
