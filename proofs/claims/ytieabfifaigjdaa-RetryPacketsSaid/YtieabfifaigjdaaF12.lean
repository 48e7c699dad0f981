/- Layer 33: contract of Check. Conditions: as each theorem states them. -/
import Derived.Test.YtieabfifaigjdaaF11
import Derived.Test.YtieabfifaigjdaaQN
namespace Go.Proofs.Ytieabfifaigjdaa
open Go.RowKit
def ChkPost (r : List Int × Int) (w : World) (e : Ending) (w' : World) : Prop := ∃ A' n' c', e = .returned (.tuple #[.slice A' n' c', .int .i64 r.2]) ∧ Rd w'.heap.size .u8 w' A' r.1 ∧ n' = r.1.length ∧ n' ≤ c' ∧ Below w.heap.size w w' ∧ ∀ ad, A' = some ad → w.heap.size ≤ ad.block
theorem chk_none {w w' : World} {v : Int} (h : Below w.heap.size w w') : ChkPost ([], v) w (.returned (.tuple #[.slice none 0 0, .int .i64 v])) w' := ⟨none, 0, 0, rfl, Rd.nil, rfl, Nat.le_refl _, h, fun ad e => by cases e⟩
theorem check_nil (addr now : Int) (A : Option Addr) (n c : Nat) (w : World) :
    Calls Try.prog 16 #[.pointer none, .slice A n c, .int .u32 addr, .int .u64 now] w fun e w' => e = .returned (.tuple #[.slice none 0 0, .int .i64 1]) ∧ w = w' := by
  go_enter Try.func16, Try.ntmps16
  go_wp2_with fail
  go_ret2
  exact ⟨rfl, rfl⟩
set_option maxRecDepth 100000 in
set_option maxHeartbeats 4000000 in
theorem check_bad (g : Nat) (addr now : Int) (A : Option Addr) (n c : Nat) (tok : List Int) (w : World) (hn : tok.length = n) (hr : Rd w.heap.size .u8 w A tok) (hb : Byt tok) (hl : n ≤ 1000) (h : ¬ tkShape tok) :
    Calls Try.prog 16 #[.pointer (some ⟨g, 0, none⟩), .slice A n c, .int .u32 addr, .int .u64 now] w (ChkPost ([], 2) w) := by
  have BD : Hid (Below w.heap.size w w.drew) := Lib.hid (Below.refl w.heap.size w).drew
  by_cases h29 : n < 29
  · have hd : (n : Int) - 16 < 13 := by omega
    clear hr hb h hn h29
    go_enter Try.func16, Try.ntmps16
    go_wp2_with fail
    refine wp_region_mixN w.heap.size [([0, 1, 2, 3, 4, 5, 6, 7, 8, 9, 10, 11, 12, 13, 14, 15, 16, 17, 18, 19, 20, 21, 23, 24, 25], 22), ([], 26)] [27, 28] (by kernel_rfl) (by kernel_rfl) (by kernel_rfl) (by kernel_rfl) ?_
    try (rw [put_none])
    simp only [pickL, List.map_cons, List.map_nil, List.filterMap_cons, List.filterMap_nil, List.getElem?_cons_succ, List.getElem?_cons_zero]
    refine mixN_cons ?_
    repeat (show wpQuiet _ _ _ _ (_ :: _) _; go_big_quiet_step (fail))
    refine wpQuiet_nil ?_
    show wpList _ _ _ [_] _ _
    go_wp2_with fail
    refine MixN.narrow BD.out BD.out.size ?_
    refine mixN_cons ?_
    repeat (show wpQuiet _ _ _ _ (_ :: _) _; go_big_quiet_step (fail))
    refine wpQuiet_nil ?_
    show wpList _ _ _ [_] _ _
    go_wp2_with fail
    refine MixN.narrow (Below.refl _ _) (Nat.le_refl _) ?_
    refine mixN_nil ?_
    repeat (show wpQuiet _ _ _ _ (_ :: _) _; go_big_quiet_step (fail))
    refine wpQuiet_nil ?_
    refine NoPanic.normal ?_
    go_wp2_with fail
    go_ret2
    exact chk_none BD.out
  · have hd : decide ((n : Int) - 16 < 13) = false := decide_eq_false (by omega)
    obtain ⟨ad, hA, hlt, hc⟩ := hr 12 (by omega)
    have hxb := hb.getD 12
    have c12 : ∀ r : BW w.heap.size w, r.world.cell? ⟨ad.block, ad.off + 12, none⟩ = some (.int .u8 (tok.getD 12 0)) := fun r => by
      have h := Below.cell_some r.below hc (by rw [block_of_add]; exact hlt)
      simpa [Addr.add] using h
    have hsh : (n : Int) ≠ 29 + tok.getD 12 0 ∨ ((n : Int) = 29 + tok.getD 12 0 ∧ 20 < tok.getD 12 0) := by
      by_cases q : (n : Int) = 29 + tok.getD 12 0
      · refine .inr ⟨q, ?_⟩
        by_cases q2 : 20 < tok.getD 12 0
        · exact q2
        · exact absurd ⟨by omega, by omega, by rw [hn]; exact q⟩ h
      · exact .inl q
    have HN29 : 29 ≤ n := by omega
    clear hr hb h hc h29
    generalize tok.getD 12 0 = x at *
    obtain ⟨hx0, hx1⟩ := hxb
    subst hA
    clear hn
    rcases hsh with hne | ⟨heq, h20⟩
    · have he1 : ((n : Int) - 16 == 13 + x) = false := by rw [beq_eq_false_iff_ne]; omega
      have he2 : ((n : Int) - 16 != 13 + x) = true := by rw [bne_iff_ne]; omega
      clear hne
      go_enter Try.func16, Try.ntmps16
      go_wp2_with fail
      refine wp_region_mixN w.heap.size [([0, 1, 2, 3, 4, 5, 6, 7, 8, 9, 10, 11, 12, 13, 14, 15, 16, 17, 18, 19, 20, 21, 23, 24, 25], 22), ([], 26)] [27, 28] (by kernel_rfl) (by kernel_rfl) (by kernel_rfl) (by kernel_rfl) ?_
      try (rw [put_none])
      simp only [pickL, List.map_cons, List.map_nil, List.filterMap_cons, List.filterMap_nil, List.getElem?_cons_succ, List.getElem?_cons_zero]
      refine mixN_cons ?_
      repeat (show wpQuiet _ _ _ _ (_ :: _) _; go_big_quiet_step (fail))
      refine wpQuiet_nil ?_
      show wpList _ _ _ [_] _ _
      go_wp2_with fail
      refine MixN.narrow BD.out BD.out.size ?_
      refine mixN_cons ?_
      repeat (show wpQuiet _ _ _ _ (_ :: _) _; go_big_quiet_step (fail))
      refine wpQuiet_nil ?_
      show wpList _ _ _ [_] _ _
      go_wp2_with fail
      refine MixN.narrow (Below.refl _ _) (Nat.le_refl _) ?_
      refine mixN_nil ?_
      repeat (show wpQuiet _ _ _ _ (_ :: _) _; go_big_quiet_step (fail))
      refine wpQuiet_nil ?_
      refine NoPanic.normal ?_
      clear c12
      go_wp2_with fail
      go_ret2
      exact chk_none BD.out
    · have he1 : ((n : Int) - 16 == 13 + x) = true := by rw [beq_iff_eq]; omega
      have he2 : ((n : Int) - 16 != 13 + x) = false := by rw [bne_eq_false_iff_eq]; omega
      clear heq
      go_enter Try.func16, Try.ntmps16
      go_wp2_with fail
      refine wp_region_mixN w.heap.size [([0, 1, 2, 3, 4, 5, 6, 7, 8, 9, 10, 11, 12, 13, 14, 15, 16, 17, 18, 19, 20, 21, 23, 24, 25], 22), ([], 26)] [27, 28] (by kernel_rfl) (by kernel_rfl) (by kernel_rfl) (by kernel_rfl) ?_
      try (rw [put_none])
      simp only [pickL, List.map_cons, List.map_nil, List.filterMap_cons, List.filterMap_nil, List.getElem?_cons_succ, List.getElem?_cons_zero]
      refine mixN_cons ?_
      repeat (show wpQuiet _ _ _ _ (_ :: _) _; go_big_quiet_step (fail))
      refine wpQuiet_nil ?_
      show wpList _ _ _ [_] _ _
      go_wp2_with fail
      refine MixN.narrow BD.out BD.out.size ?_
      refine mixN_cons ?_
      repeat (show wpQuiet _ _ _ _ (_ :: _) _; go_big_quiet_step (fail))
      refine wpQuiet_nil ?_
      show wpList _ _ _ [_] _ _
      go_wp2_with fail
      refine MixN.narrow (Below.refl _ _) (Nat.le_refl _) ?_
      refine mixN_nil ?_
      repeat (show wpQuiet _ _ _ _ (_ :: _) _; go_big_quiet_step (fail))
      refine wpQuiet_nil ?_
      refine NoPanic.normal ?_
      clear c12
      go_wp2_with fail
      go_ret2
      exact chk_none BD.out
attribute [local irreducible] macR
set_option maxRecDepth 100000 in
set_option maxHeartbeats 8000000 in
theorem check_shape (g : Nat) (sec : List Int) (life addr now : Int) (A : Option Addr) (n c : Nat) (tok : List Int) (w : World) (hk : Kp w g sec life) (hs : sec.length = 32) (hsb : Byt sec) (hn : tok.length = n) (hr : Rd w.heap.size .u8 w A tok) (hb : Byt tok) (hl : n ≤ 1000) (hc : n ≤ c) (h : tkShape tok)
    (a0 : 0 ≤ addr) (a1 : addr < 4294967296) (t0 : 0 ≤ now) (t1 : now < 18446744073709551616) :
    Calls Try.prog 16 #[.pointer (some ⟨g, 0, none⟩), .slice A n c, .int .u32 addr, .int .u64 now] w (ChkPost (chkL sec life tok addr now) w) := by
  have HSH := Lib.hid h
  have HFR := Lib.hid (tkFrom_range hb (by have := h.1; omega))
  have HAT := Lib.hid (tkAt_range hb (by have := h.1; omega))
  have HOL := Lib.hid (tkOrig_len h)
  obtain ⟨h1, h2, h3⟩ := h
  have hn29 : 29 ≤ n := by omega
  rw [← hn] at hc
  obtain ⟨A1, c1, s1, s2, s3, s4, s5⟩ := slice_h elC hr hc ((n : Int) - 16) (n - 16) (by omega) (by omega)
  obtain ⟨A2, c2, u1, u2, u3, u4, u5⟩ := slice_l elC hr hc ((n : Int) - 16) 16 (by omega) (by omega) (by omega)
  obtain ⟨A3, c3, v1, v2, v3, v4, v5⟩ := slice_lh elC hr hc 4 12 8 (by decide) (by decide) (by omega) (by decide)
  obtain ⟨A4, c4, x1, x2, x3, x4, x5⟩ := slice_h elC hr hc 4 4 (by omega) (by decide)
  obtain ⟨A5, c5, y1, y2, y3, y4, y5⟩ := slice_lh elC hr hc 13 ((n : Int) - 16) (n - 29) (by decide) (by omega) (by omega) (by omega)
  rw [hn] at s5 u5 v5 x5 y5 hc
  have e16 : ((n : Int) - 16).toNat = n - 16 := by omega
  rw [e16] at u3 u4
  have e4 : (4 : Int).toNat = 4 := rfl
  have e13 : (13 : Int).toNat = 13 := rfl
  rw [e4] at v3 v4
  rw [e13] at y3 y4
  have M1 := Lib.hid s3
  have M2 := Lib.hid u3
  have M3 := Lib.hid v3
  have M4 := Lib.hid x3
  have M5 : Hid (Rd w.heap.size .u8 w A5 (tkOrig tok)) := Lib.hid (by unfold tkOrig; rw [hn]; exact y3)
  have L1 := Lib.hid s4
  have L2 := Lib.hid u4
  have L3 := Lib.hid v4
  have L4 := Lib.hid x4
  have L5 : Hid ((tkOrig tok).length = n - 29) := Lib.hid (by unfold tkOrig; rw [hn]; exact y4)
  have HN := Lib.hid hn
  have HB := Lib.hid hb
  have HS := Lib.hid hs
  have HSB := Lib.hid hsb
  have HK := Lib.hid hk
  have hg : g < w.heap.size := Blk.lt hk
  obtain ⟨ad, hA, hlt, hcell⟩ := hr 12 (by omega)
  have hxb := hb.getD 12
  have c12 : ∀ r : BW w.heap.size w, r.world.cell? ⟨ad.block, ad.off + 12, none⟩ = some (.int .u8 (tok.getD 12 0)) := fun r => by
    have h := Below.cell_some r.below hcell (by rw [block_of_add]; exact hlt)
    simpa [Addr.add] using h
  have hq : (n : Int) = 29 + tok.getD 12 0 := by rw [← hn]; exact h3
  have hp : ¬ 20 < tok.getD 12 0 := by omega
  have HOT : Hid ((tok.take (n - 16)) = tok.take (tok.length - 16) ∧ tok.drop (n - 16) = tok.drop (tok.length - 16)) := Lib.hid (by rw [hn]; exact ⟨rfl, rfl⟩)
  clear hk hs hsb hn hr hb s3 s4 u3 u4 v3 v4 x3 x4 y3 y4 e16 e4 e13 hcell h1 h2 h3 HOL
  generalize tok.getD 12 0 = x at *
  obtain ⟨hx0, hx1⟩ := hxb
  subst hA
  have he1 : ((n : Int) - 16 == 13 + x) = true := by rw [beq_iff_eq]; omega
  have he2 : ((n : Int) - 16 != 13 + x) = false := by rw [bne_eq_false_iff_eq]; omega
  have hp2 : decide (20 < x) = false := decide_eq_false hp
  have hd : decide ((n : Int) - 16 < 13) = false := decide_eq_false (by omega)
  clear hq hp
  go_enter Try.func16, Try.ntmps16
  go_wp2_with fail
  refine wp_region_mixN w.heap.size [([0, 1, 2, 3, 4, 5, 6, 7, 8, 9, 10, 11, 12, 13, 14, 15, 16, 17, 18, 19, 20, 21, 23, 24, 25], 22), ([], 26)] [27, 28] (by kernel_rfl) (by kernel_rfl) (by kernel_rfl) (by kernel_rfl) ?_
  try (rw [put_none])
  simp only [pickL, List.map_cons, List.map_nil, List.filterMap_cons, List.filterMap_nil, List.getElem?_cons_succ, List.getElem?_cons_zero]
  refine mixN_cons ?_
  repeat (show wpQuiet _ _ _ _ (_ :: _) _; go_big_quiet_step (fail))
  refine wpQuiet_nil ?_
  show wpList _ _ _ [_] _ _
  go_wp2_with fail
  clear c12 he1 he2 hp2 hd
  have BD : Hid (Below w.heap.size w w.drew) := Lib.hid (Below.refl w.heap.size w).drew
  refine Calls.mono (kmac_any g sec life A1 (n - 16) c1 (tok.take (n - 16)) _ (show Kp w.drew g sec life from Blk.drew HK.out) HS.out HSB.out L1.out (M1.out.below BD.out (Nat.le_refl _)) (HB.out.take _) (by omega) s1) ?_
  have HML := Lib.hid (macR_len sec (tok.take (n - 16)))
  have HMB := Lib.hid (macR_byt sec (tok.take (n - 16)))
  obtain ⟨ME, hME⟩ : ∃ z, macR sec (tok.take (n - 16)) = z := ⟨_, rfl⟩
  have HME := Lib.hid hME
  rw [hME] at HML HMB
  rintro e w6 ⟨A6, rfl, r6, b6⟩
  rw [hME] at r6
  clear hME
  have R6 := Lib.hid r6
  have B6 := Lib.hid (BD.out.trans b6)
  have hz6 := B6.out.size
  clear r6 b6
  go_wp2_with fail
  refine MixN.narrow B6.out hz6 ?_
  refine mixN_cons ?_
  repeat (show wpQuiet _ _ _ _ (_ :: _) _; go_big_quiet_step (fail))
  refine wpQuiet_nil ?_
  show wpList _ _ _ [_] _ _
  go_wp2_with fail
  refine Calls.mono (equal_n HML.out L2.out R6.out ((M2.out.below B6.out (Nat.le_refl _)).mono hz6) HMB.out (HB.out.drop _)) ?_
  rintro e w7 ⟨rfl, rfl⟩
  clear R6
  have HDE : Hid (tok.drop (n - 16) = tok.drop (n - 16)) := Lib.hid rfl
  by_cases hm : ME = tok.drop (n - 16)
  · rw [decide_eq_true hm]
    have HT : Hid (tkShape tok ∧ macR sec (tok.take (tok.length - 16)) = tok.drop (tok.length - 16)) := Lib.hid ⟨HSH.out, by rw [← HOT.out.1, ← HOT.out.2, HME.out]; exact hm⟩
    clear hm HOT HME HML HMB HSH HDE
    go_wp2_with fail
    refine MixN.narrow (Below.refl _ _) (Nat.le_refl _) ?_
    refine mixN_nil ?_
    repeat (show wpQuiet _ _ _ _ (_ :: _) _; go_big_quiet_step (fail))
    refine wpQuiet_nil ?_
    refine NoPanic.normal ?_
    go_wp2_with fail
    refine Calls.mono (of_any A3 8 c3 _ _ L3.out (M3.out.below B6.out (Nat.le_refl _) |>.mono hz6) ((HB.out.drop _).take _) (by decide)) ?_
    have HEA : Hid (ofF 0 ((tok.drop 4).take 8) = tkAt tok) := Lib.hid rfl
    rw [HEA.out]
    rintro e w8 ⟨rfl, rfl⟩
    go_wp2_with fail
    refine Calls.mono (of_any A4 4 c4 _ _ L4.out (M4.out.below B6.out (Nat.le_refl _) |>.mono hz6) (HB.out.take _) (by decide)) ?_
    have HEF : Hid (ofF 0 (tok.take 4) = tkFrom tok) := Lib.hid rfl
    rw [HEF.out]
    rintro e w9 ⟨rfl, rfl⟩
    obtain ⟨hf0, hf1⟩ := HFR.out
    obtain ⟨ht0, ht1⟩ := HAT.out
    by_cases hf : tkFrom tok = addr
    · have HF := Lib.hid hf
      have HTA : Hid (chkL sec life tok addr now = if now < tkAt tok ∨ life < now - tkAt tok then ([], 8) else (tkOrig tok, 0)) := Lib.hid (by unfold chkL; rw [if_neg (fun q => q HT.out), if_neg (fun q => q hf)])
      rw [hf]
      clear hf HT HEA HEF HF hf0 hf1
      generalize tkAt tok = at_ at *
      by_cases hnow : now < at_
      · have HTB : Hid (chkL sec life tok addr now = ([], 8)) := Lib.hid (by rw [HTA.out, if_pos (.inl hnow)])
        clear HTA
        go_wp2_with fail
        go_ret2
        rw [HTB.out]
        exact chk_none B6.out
      · have hnow2 : decide (now < at_) = false := decide_eq_false hnow
        have hsub : 0 ≤ now - at_ := by omega
        have K6 := Lib.hid (show Kp w6 g sec life from Blk.below HK.out B6.out hg)
        have hlf := K6.out.life HS.out
        by_cases hlife : life < now - at_
        · have HTB : Hid (chkL sec life tok addr now = ([], 8)) := Lib.hid (by rw [HTA.out, if_pos (.inr hlife)])
          clear hnow HTA
          go_wp2_with fail
          go_ret2
          rw [HTB.out]
          exact chk_none B6.out
        · have HTB : Hid (chkL sec life tok addr now = (tkOrig tok, 0)) := Lib.hid (by rw [HTA.out, if_neg (by omega)])
          clear HTA
          have hlife2 : decide (life < now - at_) = false := decide_eq_false hlife
          clear hnow hlife
          go_wp2_with fail
          clear hnow2 hlife2 hsub hlf
          refine Calls.mono (clone_n A5 c5 (n - 29) (tkOrig tok) _ ((M5.out.below B6.out (Nat.le_refl _)).mono hz6) L5.out.symm (by omega)) ?_
          rintro e w10 ⟨A10, n10, c10, rfl, o10, b10⟩
          have O10 := Lib.hid o10
          have B10 := Lib.hid (B6.out.trans (b10.mono hz6))
          clear o10 b10
          go_wp2_with fail
          go_ret2
          rw [HTB.out]
          exact ⟨_, _, _, rfl, O10.out.rd, O10.out.len, O10.out.cap.1, B10.out, fun ad e => Nat.le_trans hz6 (O10.out.block ad e).1⟩
    · have HTA : Hid (chkL sec life tok addr now = ([], 5)) := Lib.hid (by unfold chkL; rw [if_neg (fun q => q HT.out), if_pos hf])
      have hf2 : (tkFrom tok != addr) = true := by rw [bne_iff_ne]; exact hf
      have hf3 : (tkFrom tok == addr) = false := by rw [beq_eq_false_iff_ne]; exact hf
      clear HT HEA HEF hf
      generalize tkFrom tok = fr at *
      go_wp2_with fail
      go_ret2
      rw [HTA.out]
      exact chk_none B6.out
  · rw [decide_eq_false hm]
    have HTA : Hid (chkL sec life tok addr now = ([], 2)) := Lib.hid (by unfold chkL; rw [if_pos (fun q => hm (by rw [← HME.out, HOT.out.1, HOT.out.2]; exact q.2))])
    clear hm HOT HME HML HMB HSH HDE
    go_wp2_with fail
    refine MixN.narrow (Below.refl _ _) (Nat.le_refl _) ?_
    refine mixN_nil ?_
    repeat (show wpQuiet _ _ _ _ (_ :: _) _; go_big_quiet_step (fail))
    refine wpQuiet_nil ?_
    refine NoPanic.normal ?_
    go_wp2_with fail
    go_ret2
    rw [HTA.out]
    exact chk_none B6.out
theorem check_any_ (g : Nat) (sec : List Int) (life addr now : Int) (A : Option Addr) (n c : Nat) (tok : List Int) (w : World) (hk : Kp w g sec life) (hs : sec.length = 32) (hsb : Byt sec) (hn : tok.length = n) (hr : Rd w.heap.size .u8 w A tok) (hb : Byt tok) (hl : n ≤ 1000) (hc : n ≤ c)
    (a0 : 0 ≤ addr) (a1 : addr < 4294967296) (t0 : 0 ≤ now) (t1 : now < 18446744073709551616) :
    Calls Try.prog 16 #[.pointer (some ⟨g, 0, none⟩), .slice A n c, .int .u32 addr, .int .u64 now] w (ChkPost (chkL sec life tok addr now) w) := by
  by_cases h : tkShape tok
  · exact check_shape g sec life addr now A n c tok w hk hs hsb hn hr hb hl hc h a0 a1 t0 t1
  · have e : chkL sec life tok addr now = ([], 2) := by unfold chkL; rw [if_pos (fun q => h q.1)]
    rw [e]
    exact check_bad g addr now A n c tok w hn hr hb hl h
end Go.Proofs.Ytieabfifaigjdaa
