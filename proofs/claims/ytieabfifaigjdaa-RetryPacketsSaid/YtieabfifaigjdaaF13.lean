/- Layer 33, the reference's: contract of Check. Conditions: as each theorem states them. -/
import Derived.Test.YtieabfifaigjdaaF12
import Derived.Test.YtieabfifaigjdaaF9
namespace Go.Proofs.Ytieabfifaigjdaa
open Go.RowKit
theorem pow_le3 {j : Nat} (h : j < 4) : (256 : Int) ^ j ≤ 16777216 := by
  rcases (show j = 0 ∨ j = 1 ∨ j = 2 ∨ j = 3 by omega) with rfl | rfl | rfl | rfl <;> decide
attribute [local irreducible] macR tknL
set_option maxRecDepth 100000 in
set_option maxHeartbeats 4000000 in
theorem rcheck_bad (sec : List Int) (life addr now : Int) (A : Option Addr) (n c : Nat) (tok : List Int) (w : World) (hn : tok.length = n) (hr : Rd w.heap.size .u8 w A tok) (hb : Byt tok) (hl : n ≤ 1000) (h : ¬ tkShape tok) :
    Calls Try.prog 17 #[.agg (cellsL .u8 sec), .int .u64 life, .slice A n c, .int .u32 addr, .int .u64 now] w (ChkPost ([], 2) w) := by
  have B0 := Lib.hid ((Below.refl w.heap.size w).alloc (Nat.le_refl _) (.cells (cellsL .u8 sec) 35))
  by_cases h29 : n < 29
  · have hd : (n : Int) < 29 := by omega
    clear hr hb h hn h29
    go_enter Try.func17, Try.ntmps17
    go_wp2_with fail
    go_ret2
    exact chk_none B0.out
  · have hd : decide ((n : Int) < 29) = false := decide_eq_false (by omega)
    obtain ⟨ad, hA, hlt, hc⟩ := hr.below B0.out (Nat.le_refl _) 12 (by omega)
    have hxb := hb.getD 12
    have c12 : (w.alloc (.cells (cellsL .u8 sec) 35)).cell? ⟨ad.block, ad.off + 12, none⟩ = some (.int .u8 (tok.getD 12 0)) := by simpa [Addr.add] using hc
    have hsh : 20 < tok.getD 12 0 ∨ (tok.getD 12 0 ≤ 20 ∧ (n : Int) ≠ 29 + tok.getD 12 0) := by
      by_cases q : 20 < tok.getD 12 0
      · exact .inl q
      · refine .inr ⟨by omega, fun q2 => h ⟨by omega, by omega, by rw [hn]; exact q2⟩⟩
    have HN29 : 29 ≤ n := by omega
    clear hr hb h hc h29
    generalize tok.getD 12 0 = x at *
    obtain ⟨hx0, hx1⟩ := hxb
    subst hA
    clear hn
    rcases hsh with h20 | ⟨h20, hne⟩
    · go_enter Try.func17, Try.ntmps17
      go_wp2_with fail
      go_ret2
      exact chk_none B0.out
    · have hp2 : decide (20 < x) = false := decide_eq_false (by omega)
      have he1 : ((n : Int) == 29 + x) = false := by rw [beq_eq_false_iff_ne]; omega
      have he2 : ((n : Int) != 29 + x) = true := by rw [bne_iff_ne]; omega
      clear hne
      go_enter Try.func17, Try.ntmps17
      go_wp2_with fail
      go_ret2
      exact chk_none B0.out
set_option maxRecDepth 100000 in
set_option maxHeartbeats 8000000 in
theorem rcheck_shape (sec : List Int) (life addr now : Int) (A : Option Addr) (n c : Nat) (tok : List Int) (w : World) (hs : sec.length = 32) (hsb : Byt sec) (hn : tok.length = n) (hr : Rd w.heap.size .u8 w A tok) (hb : Byt tok) (hl : n ≤ 1000) (hc : n ≤ c) (h : tkShape tok)
    (t0 : 0 ≤ now) (t1 : now < 18446744073709551616) :
    Calls Try.prog 17 #[.agg (cellsL .u8 sec), .int .u64 life, .slice A n c, .int .u32 addr, .int .u64 now] w (ChkPost (chkL sec life tok addr now) w) := by
  have B0 := Lib.hid ((Below.refl w.heap.size w).alloc (Nat.le_refl _) (.cells (cellsL .u8 sec) 35))
  have Z0 : Hid (Arr (w.alloc (.cells (cellsL .u8 sec) 35)) w.heap.size 35 .u8 sec) := Lib.hid (Arr.newAt rfl rfl)
  have HSH := Lib.hid h
  have HFR := Lib.hid (tkFrom_range hb (by have := h.1; omega))
  have HAT := Lib.hid (tkAt_range hb (by have := h.1; omega))
  have HOL := Lib.hid (tkOrig_len h)
  have HSM := Lib.hid (tok_same (sec := sec) hb h)
  obtain ⟨h1, h2, h3⟩ := h
  have hn29 : 29 ≤ n := by omega
  have hx3 : (n : Int) = 29 + tok.getD 12 0 := by rw [← hn]; exact h3
  rw [← hn] at hc
  obtain ⟨A5, c5, y1, y2, y3, y4, y5⟩ := slice_lh elC hr hc 13 (13 + tok.getD 12 0) (n - 29) (by decide) (by omega) (by omega) (by omega)
  rw [hn] at y5 hc
  have e13 : (13 : Int).toNat = 13 := rfl
  rw [e13] at y3 y4
  have M5 : Hid (Rd w.heap.size .u8 w A5 (tkOrig tok)) := Lib.hid (by unfold tkOrig; rw [hn]; exact y3)
  have L5 : Hid ((tkOrig tok).length = n - 29) := Lib.hid (by unfold tkOrig; rw [hn]; exact y4)
  have HOB : Hid (Byt (tkOrig tok)) := Lib.hid ((hb.drop 13).take _)
  have HN := Lib.hid hn
  have HB := Lib.hid hb
  have HS := Lib.hid hs
  have HSB := Lib.hid hsb
  have R0 := Lib.hid (hr.below B0.out (Nat.le_refl _))
  have HRO := Lib.hid hr
  obtain ⟨ad, hA, hlt, hcell⟩ := R0.out 12 (by omega)
  have hxb := hb.getD 12
  have c12 : (w.alloc (.cells (cellsL .u8 sec) 35)).cell? ⟨ad.block, ad.off + 12, none⟩ = some (.int .u8 (tok.getD 12 0)) := by simpa [Addr.add] using hcell
  clear hs hsb hn hr hb y3 y4 e13 hcell h1 h3 HOL
  obtain ⟨x, hx⟩ : ∃ z, tok.getD 12 0 = z := ⟨_, rfl⟩
  rw [hx] at c12 hxb h2 hx3 y5
  have HXE := Lib.hid hx
  clear hx
  obtain ⟨hx0, hx1⟩ := hxb
  subst hA
  have he1 : ((n : Int) == 29 + x) = true := by rw [beq_iff_eq]; omega
  have he2 : ((n : Int) != 29 + x) = false := by rw [bne_eq_false_iff_eq]; omega
  have hp2 : decide (20 < x) = false := decide_eq_false (by omega)
  have hd : decide ((n : Int) < 29) = false := decide_eq_false (by omega)
  have HX3 := Lib.hid hx3
  have hxn : x ≤ n := by omega
  clear hx3
  go_enter Try.func17, Try.ntmps17
  go_wp2_with fail
  generalize w.alloc (.cells (cellsL .u8 sec) 35) = w0 at *
  clear he1 he2 hp2 hd
  go_loop [12, 14] (fun s i => ∃ k : Nat, k ≤ 4 ∧ i = .int .i64 k ∧ s = .int .u32 (ofF 0 (tok.take k))) (fun _ i => 4 - (intOf i).toNat)
  case atStart => exact ⟨0, by omega, rfl, rfl⟩
  case round =>
    obtain ⟨k, hk, rfl, rfl⟩ := hrel
    by_cases hlt4 : k < 4
    · obtain ⟨ad2, hA2, _, hcl⟩ := R0.out k (by have := HN.out; omega)
      injection hA2 with hA2
      subst hA2
      have hrg := ofF_range 0 (tok.take k) (HB.out.take k) (by omega)
      rw [List.length_take, show min k tok.length = k by have := HN.out; omega] at hrg
      have hp3 := pow_le3 hlt4
      have hyb := HB.out.getD k
      have HS1 : Hid (ofF 0 (tok.take (k + 1)) = 256 * ofF 0 (tok.take k) + tok.getD k 0) := Lib.hid (ofF_take (by have := HN.out; omega))
      generalize ofF 0 (tok.take k) = z at *
      generalize tok.getD k 0 = y at *
      obtain ⟨hy0, hy1⟩ := hyb
      obtain ⟨hz0, hz1⟩ := hrg
      have hz2 : z < 16777216 := by omega
      have hz3 : 256 * z < 4294967296 := by omega
      have hz4 : 256 * z + y < 4294967296 := by omega
      clear hp3 hz1
      go_wp2_with fail
      go_round
      case rel => exact ⟨k + 1, by omega, by go_num, by rw [HS1.out]⟩
      case measure => simp [intOf]; omega
    · obtain rfl : k = 4 := by omega
      clear hlt4 hk
      have HEF : Hid (ofF 0 (tok.take 4) = tkFrom tok) := Lib.hid rfl
      rw [HEF.out]
      go_wp2_with fail
      go_loop [13, 15] (fun s i => ∃ j : Nat, 4 ≤ j ∧ j ≤ 12 ∧ i = .int .i64 j ∧ s = .int .u64 (ofF 0 ((tok.drop 4).take (j - 4)))) (fun _ i => 12 - (intOf i).toNat)
      case atStart => exact ⟨4, by omega, by omega, rfl, rfl⟩
      case round =>
        obtain ⟨j, hj0, hj, rfl, rfl⟩ := hrel
        by_cases hlt12 : j < 12
        · obtain ⟨ad2, hA2, _, hcl⟩ := R0.out j (by have := HN.out; omega)
          injection hA2 with hA2
          subst hA2
          have hdl : (tok.drop 4).length = n - 4 := by rw [List.length_drop, HN.out]
          have hrg := ofF_range 0 ((tok.drop 4).take (j - 4)) ((HB.out.drop 4).take _) (by omega)
          rw [List.length_take, hdl, show min (j - 4) (n - 4) = j - 4 by omega] at hrg
          have hp7 := pow_le7 (j := j - 4) (by omega)
          have hyb := HB.out.getD j
          have hgd : (tok.drop 4).getD (j - 4) 0 = tok.getD j 0 := by
            rw [List.getD_eq_getElem?_getD, List.getElem?_drop, show 4 + (j - 4) = j by omega, List.getD_eq_getElem?_getD]
          have HS1 : Hid (ofF 0 ((tok.drop 4).take (j + 1 - 4)) = 256 * ofF 0 ((tok.drop 4).take (j - 4)) + tok.getD j 0) := Lib.hid (by
            rw [show j + 1 - 4 = j - 4 + 1 by omega, ofF_take (by rw [hdl]; omega), hgd])
          clear hdl hgd
          generalize ofF 0 ((tok.drop 4).take (j - 4)) = z at *
          generalize tok.getD j 0 = y at *
          obtain ⟨hy0, hy1⟩ := hyb
          obtain ⟨hz0, hz1⟩ := hrg
          have hz2 : z < 72057594037927936 := by omega
          have hz4 : 256 * z + y < 18446744073709551616 := by omega
          clear hp7 hz1
          go_wp2_with fail
          go_round
          case rel => exact ⟨j + 1, by omega, by omega, by go_num, by rw [HS1.out]⟩
          case measure => simp [intOf]; omega
        · obtain rfl : j = 12 := by omega
          clear hlt12 hj hj0
          have HEA : Hid (ofF 0 ((tok.drop 4).take (12 - 4)) = tkAt tok) := Lib.hid rfl
          rw [HEA.out]
          have hz0 := B0.out.size
          have R5 : Hid (Rd w.heap.size .u8 (w0.alloc (.cells #[] 5)) A5 (tkOrig tok)) := Lib.hid ((M5.out.below B0.out (Nat.le_refl _)).alloc hz0 _)
          have c13 : (w0.alloc (.cells #[] 5)).cell? ⟨ad.block, ad.off + 12, none⟩ = some (.int .u8 x) := (World.cell?_alloc_lt w0 (.cells #[] 5) ⟨ad.block, ad.off + 12, none⟩ (Nat.lt_of_lt_of_le hlt hz0)).trans c12
          go_wp2_with (at_builtin; go_loud (refine wpList_app (o := ⟨some 68, _, _, _, _, _⟩) elC rfl _ _ rfl rfl rfl (Own.litAt (xs := []) (by simp) rfl rfl (Nat.le_refl _) (by simp)) R5.out L5.out.symm ?_ ?_ ?_); (rw [L5.out, List.length_nil]; omega); (simp); intro A6 n6 c6 w6 h6; have O6 := Lib.hid (Own.cast h6.1 (List.nil_append _)); have D6 : Hid (Below w0.heap.size w0 w6) := Lib.hid (((Below.refl w0.heap.size w0).alloc (Nat.le_refl _) _).trans h6.2.2.1); clear h6)
          have Z6 := Lib.hid (Z0.out.below D6.out Z0.out.lt)
          have B6 := Lib.hid (B0.out.trans (D6.out.mono hz0))
          have LZ : Hid (w.heap.size < w6.heap.size) := Lib.hid Z6.out.lt
          have N6 := Lib.hid O6.out.len
          clear R5 R0 Z0 B0 D6 c12 c13 y5 HEA HEF
          have hz6 := B6.out.size
          have RW := Lib.hid ((M5.out.below B6.out (Nat.le_refl _)))
          obtain ⟨hf0, hf1⟩ := HFR.out
          obtain ⟨ht0, ht1⟩ := HAT.out
          have hcvt : ∀ r : BW w6.heap.size w6, (convert 22 9 (.slice (some ad) n c)).run Try.prog r.world = .ok (.string (strOfNums tok)) r.world := fun r => by
            have h := conv_rd elC Try.underlying9 ((HRO.out.below B6.out (Nat.le_refl _)).below r.below B6.out.size) c
            rw [HN.out] at h
            exact h
          have HLD : ∀ r : BW w6.heap.size w6, (Instr.loadAt 35 (.pointer (some ⟨w.heap.size, 0, none⟩))).run Try.prog r.world = .ok (.agg (cellsL .u8 sec)) r.world := fun r => arr_load (Z6.out.below r.below LZ.out) Try.underlying35 size35 HS.out.symm
          refine wp_region_mixN w6.heap.size [([0, 1, 2, 3, 6, 7], 4)] [5, 8] (by kernel_rfl) (by kernel_rfl) (by kernel_rfl) (by kernel_rfl) ?_
          try (rw [put_none])
          simp only [pickL, List.map_cons, List.map_nil, List.filterMap_cons, List.filterMap_nil, List.getElem?_cons_succ, List.getElem?_cons_zero]
          refine mixN_cons ?_
          show wpQuiet _ _ _ _ (_ :: _) _
          refine wpQuiet_loadV (o := ⟨some 69, _, _, _, _, _⟩) rfl _ rfl rfl (fun w' hw' => by obtain ⟨r, rfl⟩ := hw'; exact HLD r) ?_
          simp only [Act.put, List.setIfInBounds_toArray, List.set_cons_zero, List.set_cons_succ]
          repeat (show wpQuiet _ _ _ _ (_ :: _) _; go_big_quiet_step (fail))
          refine wpQuiet_nil ?_
          show wpList _ _ _ [_] _ _
          go_wp2_with fail
          clear HLD hcvt
          have BD := Lib.hid (B6.out.trans (Below.drew (Below.refl w.heap.size w6)))
          refine Calls.mono (rtoken_any sec (tkFrom tok) (tkAt tok) A6 n6 c6 (tkOrig tok) _ HS.out HSB.out N6.out.symm (O6.out.drew.rd) HOB.out (by have h1 := N6.out; have h2 := L5.out; have h3 := HX3.out; omega) hf0 hf1 ht0 ht1) ?_
          have HLB := Lib.hid (tknL_byt (sec := sec) (addr := tkFrom tok) (at_ := tkAt tok) HOB.out (by have h2 := L5.out; have h3 := HX3.out; omega))
          obtain ⟨LL, hLL⟩ : ∃ z, tknL sec (tkFrom tok) (tkAt tok) (tkOrig tok) = z := ⟨_, rfl⟩
          have HLL := Lib.hid hLL
          rw [hLL] at HSM HLB
          rintro e w7 ⟨A7, n7, c7, rfl, o7, b7⟩
          rw [hLL] at o7
          clear hLL
          have B67 : Hid (Below w6.heap.size w6 w7) := Lib.hid ((Below.refl w6.heap.size w6).drew.trans b7)
          have hcv6 : ∀ r : BW w7.heap.size w7, (convert 22 9 (.slice A7 n7 c7)).run Try.prog r.world = .ok (.string (strOfNums LL)) r.world := fun r => conv_own elC Try.underlying9 (o7.below r.below)
          have B7 := Lib.hid (B6.out.trans (B67.out.mono hz6))
          have O7 := Lib.hid (O6.out.below B67.out)
          have hse := str_eq HLB.out HB.out
          clear b7 o7
          go_wp2_with fail
          refine MixN.narrow B67.out B67.out.size ?_
          refine mixN_nil ?_
          by_cases hm : LL = tok
          · rw [decide_eq_true hm] at hse
            have HT : Hid (tkShape tok ∧ macR sec (tok.take (tok.length - 16)) = tok.drop (tok.length - 16)) := Lib.hid ⟨HSH.out, HSM.out.1 hm⟩
            generalize strOfNums LL = sa at *
            generalize strOfNums tok = sb at *
            have hsn : (sa.toList != sb.toList) = false := by rw [show (sa.toList != sb.toList) = !(sa.toList == sb.toList) from rfl, hse]; rfl
            clear hm HSM HLL HLB
            repeat (show wpQuiet _ _ _ _ (_ :: _) _; go_big_quiet_step (fail))
            refine wpQuiet_nil ?_
            refine NoPanic.normal ?_
            clear hcv6 hse hsn
            by_cases hf : tkFrom tok = addr
            · have HTA : Hid (chkL sec life tok addr now = if now < tkAt tok ∨ life < now - tkAt tok then ([], 8) else (tkOrig tok, 0)) := Lib.hid (by unfold chkL; rw [if_neg (fun q => q HT.out), if_neg (fun q => q hf)])
              rw [hf]
              clear hf HT hf0 hf1 HFR
              generalize tkAt tok = at_ at *
              by_cases hnow : now < at_
              · have HTB : Hid (chkL sec life tok addr now = ([], 8)) := Lib.hid (by rw [HTA.out, if_pos (.inl hnow)])
                clear HTA
                go_wp2_with fail
                go_ret2
                rw [HTB.out]
                exact chk_none B7.out
              · have hnow2 : decide (now < at_) = false := decide_eq_false hnow
                have hsub : 0 ≤ now - at_ := by omega
                by_cases hlife : life < now - at_
                · have HTB : Hid (chkL sec life tok addr now = ([], 8)) := Lib.hid (by rw [HTA.out, if_pos (.inr hlife)])
                  clear hnow HTA
                  go_wp2_with fail
                  go_ret2
                  rw [HTB.out]
                  exact chk_none B7.out
                · have HTB : Hid (chkL sec life tok addr now = (tkOrig tok, 0)) := Lib.hid (by rw [HTA.out, if_neg (by omega)])
                  clear HTA
                  have hlife2 : decide (life < now - at_) = false := decide_eq_false hlife
                  clear hnow hlife
                  go_wp2_with fail
                  go_ret2
                  rw [HTB.out]
                  exact ⟨_, _, _, rfl, O7.out.rd, O7.out.len, O7.out.cap.1, B7.out, fun ad e => Nat.le_trans hz0 (O7.out.block ad e).1⟩
            · have HTA : Hid (chkL sec life tok addr now = ([], 5)) := Lib.hid (by unfold chkL; rw [if_neg (fun q => q HT.out), if_pos hf])
              have hf2 : (tkFrom tok != addr) = true := by rw [bne_iff_ne]; exact hf
              have hf3 : (tkFrom tok == addr) = false := by rw [beq_eq_false_iff_ne]; exact hf
              clear HT hf
              generalize tkFrom tok = fr at *
              go_wp2_with fail
              go_ret2
              rw [HTA.out]
              exact chk_none B7.out
          · rw [decide_eq_false hm] at hse
            have HTA : Hid (chkL sec life tok addr now = ([], 2)) := Lib.hid (by unfold chkL; rw [if_pos (fun q => hm (HSM.out.2 q.2))])
            generalize strOfNums LL = sa at *
            generalize strOfNums tok = sb at *
            have hsn : (sa.toList != sb.toList) = true := by rw [show (sa.toList != sb.toList) = !(sa.toList == sb.toList) from rfl, hse]; rfl
            clear hm HSM HLL HLB
            repeat (show wpQuiet _ _ _ _ (_ :: _) _; go_big_quiet_step (fail))
            refine wpQuiet_nil ?_
            refine NoPanic.normal ?_
            clear hcv6
            go_wp2_with fail
            go_ret2
            rw [HTA.out]
            exact chk_none B7.out
theorem rcheck_any (sec : List Int) (life addr now : Int) (A : Option Addr) (n c : Nat) (tok : List Int) (w : World) (hs : sec.length = 32) (hsb : Byt sec) (hn : tok.length = n) (hr : Rd w.heap.size .u8 w A tok) (hb : Byt tok) (hl : n ≤ 1000) (hc : n ≤ c)
    (t0 : 0 ≤ now) (t1 : now < 18446744073709551616) :
    Calls Try.prog 17 #[.agg (cellsL .u8 sec), .int .u64 life, .slice A n c, .int .u32 addr, .int .u64 now] w (ChkPost (chkL sec life tok addr now) w) := by
  by_cases h : tkShape tok
  · exact rcheck_shape sec life addr now A n c tok w hs hsb hn hr hb hl hc h t0 t1
  · have e : chkL sec life tok addr now = ([], 2) := by unfold chkL; rw [if_pos (fun q => h q.1)]
    rw [e]
    exact rcheck_bad sec life addr now A n c tok w hn hr hb hl h
end Go.Proofs.Ytieabfifaigjdaa
