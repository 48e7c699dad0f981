
/- Layer 26: contract of Take. Conditions: as each theorem states them. -/
import Derived.Test.YtibjafkclojimaaD8
namespace Go.Proofs.Ytibjafkclojimaa
open Go.RowKit
set_option maxRecDepth 100000 in
set_option maxHeartbeats 8000000 in
theorem ctake_any (A : Option Addr) (n0 c : Nat) (b : List Int) (w : World) (hn : b.length = n0) (hc : n0 ≤ c) (hr : Rd w.heap.size .u8 w A b) (hb : Byt b) (hl : n0 ≤ 1000000000000) :
    Calls Try.prog 18 #[.slice A n0 c] w (TakP (takeL b) w) := by
  have HN := Lib.hid hn
  have HRD := Lib.hid hr
  have HBY := Lib.hid hb
  obtain ⟨gz, hgz⟩ : ∃ g, w.heap.size = g := ⟨_, rfl⟩
  have HGZ := Lib.hid hgz
  have Z0 : Hid (Blk (w.alloc (.cells #[.int .u64 0, .int .u8 0, .int .u64 0, .int .u64 0, .slice none 0 0] 31)) gz 31 #[.int .u64 0, .int .u8 0, .int .u64 0, .int .u64 0, .slice none 0 0]) := Lib.hid (by rw [← hgz]; exact Blk.new _ _ _)
  have B0 : Hid (Below gz w (w.alloc (.cells #[.int .u64 0, .int .u8 0, .int .u64 0, .int .u64 0, .slice none 0 0] 31))) := Lib.hid (by rw [← hgz]; exact (Below.refl _ _).alloc (Nat.le_refl _) _)
  clear hn hr hb
  by_cases h1 : n0 < 49
  · have HX : Hid (takeL b = none) := Lib.hid (takeL_out (.inl (by rw [HN.out]; exact h1)))
    go_enter Try.func18, Try.ntmps18
    go_wp2_with (first
      | ((with_reducible (show wpList _ _ _ (⟨some 22, .load _ _, _, _, _, _⟩ :: _) _ _)); refine wpList_loadV (o := ⟨some 22, .load _ _, _, _, _, _⟩) rfl _ rfl rfl (cb_load Z0.out) ?_)
      | ((with_reducible (show wpList _ _ _ (⟨none, .store 31 _ _, _, _, _, _⟩ :: _) _ _)); go_loud (refine wpList_storeBlk (o := ⟨none, .store 31 _ _, _, _, _, _⟩) (g := gz) (t := 31) (vs := [.int .u64 0, .int .u8 0, .int .u64 0, .int .u64 0, .slice none 0 0]) rfl _ _ rfl rfl rfl Z0.out rfl (one5 rfl rfl rfl rfl rfl) size5 ?_); intro we ze ge; have ZE := Lib.hid ze; have WE := Lib.hid ((B0.out).trans (below_of_only (B := gz) ge (Nat.le_refl _) (by have := Z0.out.lt; omega))); clear ze ge))
    exact bodyPost_ret (results_cl rfl rfl ZE.out) rfl (TakP.no (HX.out) ⟨rfl, by have h := WE.out; rw [← HGZ.out] at h; exact h⟩)
  by_cases h2 : 16777236 < n0
  · have HX : Hid (takeL b = none) := Lib.hid (takeL_out (.inr (by rw [HN.out]; exact h2)))
    go_enter Try.func18, Try.ntmps18
    go_wp2_with (first
      | ((with_reducible (show wpList _ _ _ (⟨some 22, .load _ _, _, _, _, _⟩ :: _) _ _)); refine wpList_loadV (o := ⟨some 22, .load _ _, _, _, _, _⟩) rfl _ rfl rfl (cb_load Z0.out) ?_)
      | ((with_reducible (show wpList _ _ _ (⟨none, .store 31 _ _, _, _, _, _⟩ :: _) _ _)); go_loud (refine wpList_storeBlk (o := ⟨none, .store 31 _ _, _, _, _, _⟩) (g := gz) (t := 31) (vs := [.int .u64 0, .int .u8 0, .int .u64 0, .int .u64 0, .slice none 0 0]) rfl _ _ rfl rfl rfl Z0.out rfl (one5 rfl rfl rfl rfl rfl) size5 ?_); intro we ze ge; have ZE := Lib.hid ze; have WE := Lib.hid ((B0.out).trans (below_of_only (B := gz) ge (Nat.le_refl _) (by have := Z0.out.lt; omega))); clear ze ge))
    exact bodyPost_ret (results_cl rfl rfl ZE.out) rfl (TakP.no (HX.out) ⟨rfl, by have h := WE.out; rw [← HGZ.out] at h; exact h⟩)
  obtain ⟨n, rfl⟩ : ∃ n, n0 = n + 8 := ⟨n0 - 8, by omega⟩
  have hn41 : 41 ≤ n := by omega
  have hnm : n ≤ 16777228 := by omega
  obtain ⟨R, hR⟩ : ∃ R, b.take n = R := ⟨_, rfl⟩
  have HR8 : Hid (b.take (b.length - 8) = R) := Lib.hid (by rw [HN.out, Nat.add_sub_cancel]; exact hR)
  have HRL : Hid (R.length = n) := Lib.hid (by rw [← hR, List.length_take, HN.out]; omega)
  have HRB : Hid (Byt R) := Lib.hid (by rw [← hR]; exact HBY.out.take n)
  obtain ⟨A1, c1, s1, s2, s3, s4, s5⟩ := slice_h elC HRD.out (show b.length ≤ c by rw [HN.out]; exact hc) (n : Int) n (by rw [HN.out]; omega) rfl
  rw [HN.out] at s5
  rw [hR] at s3
  have R1 := Lib.hid s3
  have R1' : Hid (Rest gz (gz + 1) ((w.alloc (.cells #[.int .u64 0, .int .u8 0, .int .u64 0, .int .u64 0, .slice none 0 0] 31)).alloc (.cells #[.slice A1 n c1] 50)) R) := Lib.hid ⟨A1, c1, by rw [HRL.out]; exact blk_new_at (by simp [hgz]), by rw [HRL.out]; exact s1, by rw [← hgz]; exact (s3.alloc (Nat.le_refl _) _).alloc (by simp) _⟩
  have Z1 : Hid (Blk ((w.alloc (.cells #[.int .u64 0, .int .u8 0, .int .u64 0, .int .u64 0, .slice none 0 0] 31)).alloc (.cells #[.slice A1 n c1] 50)) gz 31 #[.int .u64 0, .int .u8 0, .int .u64 0, .int .u64 0, .slice none 0 0]) := Lib.hid (Z0.out.alloc _)
  have B1 : Hid (Below gz w ((w.alloc (.cells #[.int .u64 0, .int .u8 0, .int .u64 0, .int .u64 0, .slice none 0 0] 31)).alloc (.cells #[.slice A1 n c1] 50))) := Lib.hid (B0.out.alloc (by simp [hgz]) _)
  clear s3 s4 hR Z0 B0 h1 h2
  go_enter Try.func18, Try.ntmps18
  go_wp2_with fail
  obtain ⟨kk, hkk⟩ : ∃ x, ofF 0 (R.take 8) = x := ⟨_, rfl⟩
  obtain ⟨told, htold⟩ : ∃ x, ofF 0 ((R.drop 8).take 4) = x := ⟨_, rfl⟩
  obtain ⟨ep, hep⟩ : ∃ x, ofF 0 ((R.drop 12).take 8) = x := ⟨_, rfl⟩
  obtain ⟨ow, how⟩ : ∃ x, R.getD 20 0 = x := ⟨_, rfl⟩
  obtain ⟨nx, hnx⟩ : ∃ x, ofF 0 ((R.drop 21).take 8) = x := ⟨_, rfl⟩
  obtain ⟨sn, hsn⟩ : ∃ x, ofF 0 ((R.drop 29).take 8) = x := ⟨_, rfl⟩
  have HOW := Lib.hid (fun l => ownL_eq hep how hnx hsn l)
  have HKK := Lib.hid hkk
  have HTO := Lib.hid htold
  have h20 : ofF 0 ((R.drop 20).take 1) = ow := by rw [ofF_one (by rw [HRL.out]; omega)]; exact how
  have hg20 := HRB.out.getD 20
  rw [how] at hg20
  obtain ⟨ho0, ho1⟩ := hg20
  have HEP := Lib.hid hep
  have HNX := Lib.hid hnx
  have HSN := Lib.hid hsn
  have H20 := Lib.hid h20
  have HR37 := ofF_range 0 ((R.drop 37).take 4) ((HRB.out.drop 37).take 4) (by decide)
  rw [show ((R.drop 37).take 4).length = 4 by rw [List.length_take, List.length_drop, HRL.out]; omega, p4] at HR37
  obtain ⟨Q, hQ⟩ : ∃ Q : Nat, ofF 0 ((R.drop 37).take 4) = (Q : Int) := ⟨(ofF 0 ((R.drop 37).take 4)).toNat, by omega⟩
  have hQ1 : Q < 4294967296 := by omega
  have HQ := Lib.hid hQ
  clear hkk htold hep how hnx hsn h20 HR37 hQ
  go_wp2_with fail
  refine Calls.mono (num_any gz (gz + 1) R 8 _ R1'.out (by omega) HRB.out (by rw [HRL.out]; omega) (by omega) (by rw [HRL.out]; omega)) ?_
  rintro e w2 ⟨rfl, r2, g2⟩
  rw [HKK.out]
  have R2' : Hid (Rest gz (gz + 1) w2 (R.drop 8)) := Lib.hid r2
  have Z2 := Lib.hid (Z1.out.grown g2 (by intro q; injection q; omega))
  have B2 := Lib.hid (B1.out.trans (below_of_only (B := gz) g2 (by omega) (by have := Z1.out.lt; omega)))
  clear r2 g2 R1' Z1 B1
  go_wp2_with fail
  refine Calls.mono (num_any gz (gz + 1) (R.drop 8) 4 _ R2'.out (by omega) (HRB.out.drop _) (by rw [List.length_drop, HRL.out]; omega) (by omega) (by rw [List.length_drop, HRL.out]; omega)) ?_
  rintro e w3 ⟨rfl, r3, g3⟩
  rw [HTO.out]
  have R3' : Hid (Rest gz (gz + 1) w3 (R.drop 12)) := Lib.hid (by rw [List.drop_drop] at r3; exact r3)
  have Z3 := Lib.hid (Z2.out.grown g3 (by intro q; injection q; omega))
  have B3 := Lib.hid (B2.out.trans (below_of_only (B := gz) g3 (by omega) (by have := Z2.out.lt; omega)))
  clear r3 g3 R2' Z2 B2
  go_wp2_with fail
  refine Calls.mono (num_any gz (gz + 1) (R.drop 12) 8 _ R3'.out (by omega) (HRB.out.drop _) (by rw [List.length_drop, HRL.out]; omega) (by omega) (by rw [List.length_drop, HRL.out]; omega)) ?_
  rintro e w4 ⟨rfl, r4, g4⟩
  rw [HEP.out]
  have R4' : Hid (Rest gz (gz + 1) w4 (R.drop 20)) := Lib.hid (by rw [List.drop_drop] at r4; exact r4)
  have Z4 := Lib.hid (Z3.out.grown g4 (by intro q; injection q; omega))
  have B4 := Lib.hid (B3.out.trans (below_of_only (B := gz) g4 (by omega) (by have := Z3.out.lt; omega)))
  clear r4 g4 R3' Z3 B3
  go_wp2_with fail
  refine Calls.mono (num_any gz (gz + 1) (R.drop 20) 1 _ R4'.out (by omega) (HRB.out.drop _) (by rw [List.length_drop, HRL.out]; omega) (by omega) (by rw [List.length_drop, HRL.out]; omega)) ?_
  rintro e w5 ⟨rfl, r5, g5⟩
  rw [H20.out]
  have R5' : Hid (Rest gz (gz + 1) w5 (R.drop 21)) := Lib.hid (by rw [List.drop_drop] at r5; exact r5)
  have Z5 := Lib.hid (Z4.out.grown g5 (by intro q; injection q; omega))
  have B5 := Lib.hid (B4.out.trans (below_of_only (B := gz) g5 (by omega) (by have := Z4.out.lt; omega)))
  clear r5 g5 R4' Z4 B4
  go_wp2_with fail
  refine Calls.mono (num_any gz (gz + 1) (R.drop 21) 8 _ R5'.out (by omega) (HRB.out.drop _) (by rw [List.length_drop, HRL.out]; omega) (by omega) (by rw [List.length_drop, HRL.out]; omega)) ?_
  rintro e w6 ⟨rfl, r6, g6⟩
  rw [HNX.out]
  have R6' : Hid (Rest gz (gz + 1) w6 (R.drop 29)) := Lib.hid (by rw [List.drop_drop] at r6; exact r6)
  have Z6 := Lib.hid (Z5.out.grown g6 (by intro q; injection q; omega))
  have B6 := Lib.hid (B5.out.trans (below_of_only (B := gz) g6 (by omega) (by have := Z5.out.lt; omega)))
  clear r6 g6 R5' Z5 B5
  go_wp2_with fail
  refine Calls.mono (num_any gz (gz + 1) (R.drop 29) 8 _ R6'.out (by omega) (HRB.out.drop _) (by rw [List.length_drop, HRL.out]; omega) (by omega) (by rw [List.length_drop, HRL.out]; omega)) ?_
  rintro e w7 ⟨rfl, r7, g7⟩
  rw [HSN.out]
  have R7' : Hid (Rest gz (gz + 1) w7 (R.drop 37)) := Lib.hid (by rw [List.drop_drop] at r7; exact r7)
  have Z7 := Lib.hid (Z6.out.grown g7 (by intro q; injection q; omega))
  have B7 := Lib.hid (B6.out.trans (below_of_only (B := gz) g7 (by omega) (by have := Z6.out.lt; omega)))
  clear r7 g7 R6' Z6 B6
  go_wp2_with fail
  have HNONE : Hid (takeRows Q (R.drop 41) = none → takeL b = none) := Lib.hid (fun h => takeL_none (by rw [HN.out]; omega) (by rw [HN.out]; omega) (by rw [HR8.out, HQ.out, Int.toNat_natCast]; exact h))
  obtain ⟨gg, hgg⟩ : ∃ g, w7.heap.size = g := ⟨_, rfl⟩
  have hgg2 : gz + 1 < gg := by
    obtain ⟨A9, c9, h9, _⟩ := R7'.out
    have := h9.lt
    omega
  have K7 : Hid (Blk (w7.alloc (.cells #[.int .u64 ep, .int .u8 ow, .int .u64 nx, .int .u64 sn, .slice none 0 0] 31)) gg 31 #[.int .u64 ep, .int .u8 ow, .int .u64 nx, .int .u64 sn, .slice none 0 0]) := Lib.hid (blk_new_at hgg)
  have A7 := Lib.hid ((Below.refl w7.heap.size w7).alloc (Nat.le_refl _) (.cells #[.int .u64 ep, .int .u8 ow, .int .u64 nx, .int .u64 sn, .slice none 0 0] 31))
  have R7a := Lib.hid (R7'.out.below A7.out (by omega) (by omega))
  have Z7a := Lib.hid (Z7.out.alloc (.cells #[.int .u64 ep, .int .u8 ow, .int .u64 nx, .int .u64 sn, .slice none 0 0] 31))
  have B7a := Lib.hid (B7.out.trans (A7.out.mono (by omega)))
  have hsz7 : (w7.alloc (.cells #[.int .u64 ep, .int .u8 ow, .int .u64 nx, .int .u64 sn, .slice none 0 0] 31)).heap.size = gg + 1 := by simp [hgg]
  have HGG := Lib.hid hgg
  clear hgg A7 R7' Z7 B7
  generalize w7.alloc (.cells #[.int .u64 ep, .int .u8 ow, .int .u64 nx, .int .u64 sn, .slice none 0 0] 31) = w7b at *
  rw [HGG.out]
  refine Calls.mono (num_any gz (gz + 1) (R.drop 37) 4 _ R7a.out (by omega) (HRB.out.drop _) (by rw [List.length_drop, HRL.out]; omega) (by omega) (by rw [List.length_drop, HRL.out]; omega)) ?_
  rintro e w8 ⟨rfl, r8, g8⟩
  rw [HQ.out]
  have R8 : Hid (Rest gz (gz + 1) w8 (R.drop 41)) := Lib.hid (by rw [List.drop_drop] at r8; exact r8)
  have Z8 := Lib.hid (Z7a.out.grown g8 (by intro q; injection q; omega))
  have K8 := Lib.hid (K7.out.grown g8 (by intro q; injection q; omega))
  have B8 := Lib.hid (B7a.out.trans (below_of_only (B := gz) g8 (by omega) (by omega)))
  clear r8 g8 R7a Z7a B7a K7
  go_wp2_with fail
  go_loopw [3, 10] (fun cv lv wr => ∃ (q m c5 : Nat) (A5 : Option Addr) (Lr : List Int) (ts : List Tx), cv = .int .u64 kk ∧ lv = .int .u64 q ∧ m + q = Q ∧ Lr.length ≤ n ∧ Hid (Rest gz (gz + 1) wr Lr) ∧ Hid (Byt Lr) ∧ Hid (Blk wr gz 31 #[.int .u64 0, .int .u8 0, .int .u64 0, .int .u64 0, .slice none 0 0]) ∧ Hid (Blk wr gg 31 #[.int .u64 ep, .int .u8 ow, .int .u64 nx, .int .u64 sn, .slice A5 m c5]) ∧ Hid (ts.length = m) ∧ Hid (wr.ownsRow (gg + 1) 50 1 (.slice A5 m c5) m (ts.map txV)) ∧ Hid (TsOwn (gg + 1) wr ts) ∧ Hid (takeRows Q (R.drop 41) = preR (bsT ts) (takeRows q Lr)) ∧ Hid (Below gz w wr)) (fun _ lv _ => (intOf lv).toNat)
  case atStart => exact ⟨Q, 0, 0, none, R.drop 41, [], rfl, rfl, by omega, by rw [List.length_drop, HRL.out]; omega, R8, Lib.hid (HRB.out.drop _), Z8, K8, Lib.hid rfl, Lib.hid (World.ownsRow_nil _ _ _ _), Lib.hid (TsOwn.nil _ _), Lib.hid (by rw [bsT_nil, preR_nil]), B8⟩
  case round =>
    clear R8 Z8 K8 B8
    obtain ⟨q, m, c5, A5, Lr, ts, rfl, rfl, hmq, hLn, HR, HLB, HZ, HK, HTL, HO, HT, HTR, HB⟩ := hrel
    cases q with
    | zero =>
      obtain rfl : m = Q := by omega
      have HTRZ : Hid (takeRows m (R.drop 41) = some (bsT ts, Lr)) := Lib.hid (by rw [HTR.out, takeRows_zero]; simp [preR])
      have hlen := takeRows_len _ _ _ _ (HRB.out.drop 41) HTRZ.out
      rw [List.length_drop, HRL.out] at hlen
      have HRN : Hid (rowsN (bsT ts) ≤ 1000000000000) := Lib.hid (by omega)
      have HBAD := Lib.hid (fun hb => takeL_bad (b := b) (by rw [HN.out]; omega) (by rw [HN.out]; omega) (l := bsT ts) (s := Lr) (by rw [HR8.out, HQ.out, Int.toNat_natCast]; exact HTRZ.out) hb)
      have HGOOD := Lib.hid (fun a1 a2 a3 a4 => takeL_good (b := b) (by rw [HN.out]; omega) (by rw [HN.out]; omega) (l := bsT ts) (s := Lr) (by rw [HR8.out, HQ.out, Int.toNat_natCast]; exact HTRZ.out) a1 a2 a3 a4)
      rw [HR8.out, HOW.out, HTO.out, HN.out, Nat.add_sub_cancel] at HBAD HGOOD
      rw [HKK.out] at HGOOD
      obtain ⟨lr, hlr⟩ : ∃ l, Lr.length = l := ⟨_, rfl⟩
      have HLR := Lib.hid hlr
      obtain ⟨Ar, cr, hk, hcr, hrd⟩ := HR.out
      rw [hlr] at hk hLn HBAD HGOOD
      have KR := Lib.hid hk
      clear hk hcr hrd hlen hlr HTR HTRZ HNONE HR
      have AW : Hid (Below wr.heap.size wr (wr.alloc (.cells #[.slice A1 n c1] 50))) := Lib.hid ((Below.refl _ _).alloc (Nat.le_refl _) _)
      have hgw : gz ≤ wr.heap.size := by have := HK.out.lt; omega
      have HTX : Hid (Txs (wr.alloc (.cells #[.slice A1 n c1] 50)).heap.size (wr.alloc (.cells #[.slice A1 n c1] 50)) (some ⟨wr.heap.size, 0, none⟩) [⟨A1, c1, R⟩]) := Lib.hid (Txs.newAt rfl (by rw [← HRL.out]; rfl) (fun t ht => by
        rw [List.mem_singleton] at ht
        subst ht
        exact ⟨((by rw [HGZ.out] at R1; exact R1.out.below HB.out (Nat.le_refl _)) : Rd gz .u8 wr A1 R).mono hgw, by show R.length ≤ c1; rw [HRL.out]; exact s1⟩))
      have HSM := Lib.hid (sum_any (some ⟨wr.heap.size, 0, none⟩) 1 [⟨A1, c1, R⟩] _ HTX.out (fun t ht => by rw [List.mem_singleton] at ht; subst ht; exact HRB.out) (by rw [join_one, HRL.out]; omega) (by simp))
      rw [join_one] at HSM
      have k0 := Blk.cell KR.out 0
      simp at k0
      go_wp2_with fail
      refine Calls.mono HSM.out ?_
      rintro e wd ⟨rfl, hbd⟩
      have BD := Lib.hid (AW.out.trans (hbd.mono AW.out.size))
      clear hbd HSM HTX AW k0
      have hX : Hid ((shaL R).length = 32) := Lib.hid (shaL_len R)
      have hXB : Hid (Byt (shaL R)) := Lib.hid (shaL_byt R)
      generalize shaL R = Y at *
      have hwd := BD.out.size
      go_wp2_with ((with_reducible (show wpList _ _ _ (⟨none, .store 67 _ _, _, _, _, _⟩ :: _) _ _)); go_loud (refine wpList_storeArr (o := ⟨none, .store 67 _ _, _, _, _, _⟩) (g := wd.heap.size) (t := 67) (k := .u8) (xs := Y) (n := 32) rfl _ _ rfl rfl rfl (Blk.new _ _ _) size32c hX.out.symm rfl ?_); intro we hae hge; have HAE := Lib.hid hae; have HBE := Lib.hid (((Below.refl wd.heap.size wd).alloc (Nat.le_refl _) _).trans (below_of_only hge (Nat.le_refl _) (by simp))); clear hae hge)
      have WE := Lib.hid (BD.out.trans (HBE.out.mono hwd))
      have hwe := WE.out.size
      have HZe := Lib.hid (HZ.out.below WE.out HZ.out.lt)
      have KOe := Lib.hid (HK.out.below WE.out HK.out.lt)
      have KRe := Lib.hid (KR.out.below WE.out KR.out.lt)
      have BE := Lib.hid (HB.out.trans (WE.out.mono hgw))
      have HTe := Lib.hid (HT.out.below WE.out)
      have HOe := Lib.hid (rows_below HO.out WE.out)
      have CI : Hid (CIn we.heap.size we A5 m c5 ts) := Lib.hid ((HT.out.below WE.out).cin (by have := rows_below HO.out WE.out; rw [HTL.out]; exact this) HTL.out.symm (rows_cap HO.out))
      have hR1 := HK.out.lt
      have hk9 := KRe.out.lt
      have hgg9 := KOe.out.lt
      have hga9 := HAE.out.lt
      have k0 : ∀ r : BW we.heap.size we, r.world.cell? ⟨gz + 1, 0, none⟩ = some (.slice Ar lr cr) := fun r => by simpa using Blk.cell (KRe.out.below r.below hk9) 0
      have o0 : ∀ r : BW we.heap.size we, r.world.cell? ⟨gg, 0, none⟩ = some (.int .u64 ep) := fun r => (cb_cells (KOe.out.below r.below hgg9)).1
      have o1 : ∀ r : BW we.heap.size we, r.world.cell? ⟨gg, 1, none⟩ = some (.int .u8 ow) := fun r => (cb_cells (KOe.out.below r.below hgg9)).2.1
      have o2 : ∀ r : BW we.heap.size we, r.world.cell? ⟨gg, 2, none⟩ = some (.int .u64 nx) := fun r => (cb_cells (KOe.out.below r.below hgg9)).2.2.1
      have o3 : ∀ r : BW we.heap.size we, r.world.cell? ⟨gg, 3, none⟩ = some (.int .u64 sn) := fun r => (cb_cells (KOe.out.below r.below hgg9)).2.2.2.1
      have o4 : ∀ r : BW we.heap.size we, r.world.cell? ⟨gg, 4, none⟩ = some (.slice A5 m c5) := fun r => (cb_cells (KOe.out.below r.below hgg9)).2.2.2.2
      obtain ⟨z, hz⟩ : ∃ z, (cl_ ep ow nx sn ts).size = z := ⟨_, rfl⟩
      have hzb : z ≤ 1000000000029 := by have h1 : (cl_ ep ow nx sn ts).size = 29 + rowsN (bsT ts) := by unfold CL.size; rfl
                                         have := HRN.out; omega
      have HCLE : Hid ((⟨ep, ow, nx, sn, bsT ts⟩ : CL) = cl_ ep ow nx sn ts) := Lib.hid rfl
      rw [HCLE.out, hz] at HBAD HGOOD
      have HSZ := Lib.hid (fun (r : BW we.heap.size we) => size_any ep ow nx sn A5 m c5 ts r.world ((CI.out.below r.below (Nat.le_refl _)).mono r.below.size) HRN.out)
      rw [hz] at HSZ
      have HMY := Lib.hid (fun (r : BW we.heap.size we) => cmay_any ep ow nx sn A5 m c5 ts r.world ((CI.out.below r.below (Nat.le_refl _)).mono r.below.size) HRN.out)
      obtain ⟨A8, c8, u1, u2, u3', u4', s8⟩ := slice_l elC HRD.out (show b.length ≤ c by rw [HN.out]; exact hc) (n : Int) 8 (by omega) (by rw [HN.out]; omega) (by rw [HN.out]; omega)
      rw [HN.out] at s8
      rw [Int.toNat_natCast] at u3' u4'
      have U3 := Lib.hid u3'
      have U4 := Lib.hid u4'
      have HYT : Hid ((Y.take 8).length = 8) := Lib.hid (by rw [List.length_take, hX.out]; rfl)
      have HEQ := Lib.hid (fun (r : BW we.heap.size we) => (equal_n (A := some ⟨wd.heap.size, 0, none⟩) (A2 := A8) (c := 32) (c2 := c8) HYT.out U4.out (((rd_take HAE.out.rd 8).below r.below (Nat.le_refl _)).mono r.below.size) (((by rw [HGZ.out] at U3; exact (U3.out.below BE.out (Nat.le_refl _)).below r.below (by omega)) : Rd gz .u8 r.world A8 (b.drop n)).mono (by have := r.below.size; omega)) (hXB.out.take 8) (HBY.out.drop n)).mono (fun _ w' (hh : _ ∧ _ = w') => (⟨hh.1, by rw [← hh.2]; exact Below.refl _ _⟩ : _ ∧ Below r.world.heap.size r.world w')))
      clear u3' u4' hz HK HZ HO HT KR BD HBE WE
      by_cases d1 : 0 < lr
      · have HX : Hid (takeL b = none) := Lib.hid (HBAD.out (.inl d1))
        clear HBAD HGOOD
        go_wp2_with fail
        refine wp_region_below_lit we.heap.size (by kernel_rfl) (by kernel_rfl) ?_
        try (rw [put_none])
        repeat (show wpQuiet _ _ _ _ (_ :: _) _; go_big_quiet_step (first
          | (go_at_call 21; exact Calls.bw (Nat.le_refl _) (HSZ.out _))
          | (go_at_call 29; exact Calls.bw (Nat.le_refl _) (HEQ.out _))
          | (go_at_call 19; exact Calls.bw (Nat.le_refl _) (HMY.out _))))
        refine wpQuiet_nil ?_
        intro _ hw'
        obtain ⟨r, rfl⟩ := hw'
        have ZF := Lib.hid (HZe.out.below r.below HZe.out.lt)
        have KF := Lib.hid (KOe.out.below r.below KOe.out.lt)
        have BF := Lib.hid (BE.out.trans (r.below.mono (by have := HZe.out.lt; omega)))
        have CF := Lib.hid ((CI.out.below r.below (Nat.le_refl _)).mono r.below.size)
        have HTF := Lib.hid (HTe.out.below r.below)
        have HOF := Lib.hid (rows_below HOe.out r.below)
        generalize r.world = wf at *
        clear r
        go_wp2_with (first
          | ((with_reducible (show wpList _ _ _ (⟨some 99, .load _ _, _, _, _, _⟩ :: _) _ _)); refine wpList_loadV (o := ⟨some 99, .load _ _, _, _, _, _⟩) rfl _ rfl rfl (cb_load ZF.out) ?_)
          | ((with_reducible (show wpList _ _ _ (⟨none, .store 31 _ _, _, _, _, _⟩ :: _) _ _)); go_loud (refine wpList_storeBlk (o := ⟨none, .store 31 _ _, _, _, _, _⟩) (g := gz) (t := 31) (vs := [.int .u64 0, .int .u8 0, .int .u64 0, .int .u64 0, .slice none 0 0]) rfl _ _ rfl rfl rfl ZF.out rfl (one5 rfl rfl rfl rfl rfl) size5 ?_); intro we ze ge; have ZE := Lib.hid ze; have WE := Lib.hid ((BF.out).trans (below_of_only (B := gz) ge (Nat.le_refl _) (by have := ZF.out.lt; omega))); clear ze ge))
        exact bodyPost_ret (results_cl rfl rfl ZE.out) rfl (TakP.no (HX.out) ⟨rfl, by have h := WE.out; rw [← HGZ.out] at h; exact h⟩)
      by_cases d2 : told = (z : Int)
      · have d2a : (told == (z : Int)) = true := by simp [d2]
        have d2b : (told != (z : Int)) = false := by simp [d2]
        have D2 := Lib.hid d2
        clear d2
        by_cases d3 : Y.take 8 = b.drop n
        · have D3 := Lib.hid d3
          rw [decide_eq_true d3] at HEQ
          clear d3
          by_cases d4 : (cl_ ep ow nx sn ts).May
          · have HX : Hid (takeL b = some (cl_ ep ow nx sn ts, kk)) := Lib.hid (HGOOD.out (by omega) D2.out D3.out d4)
            rw [decide_eq_true d4] at HMY
            clear HBAD HGOOD d4
            go_wp2_with fail
            refine wp_region_below_lit we.heap.size (by kernel_rfl) (by kernel_rfl) ?_
            try (rw [put_none])
            repeat (show wpQuiet _ _ _ _ (_ :: _) _; go_big_quiet_step (first
              | (go_at_call 21; exact Calls.bw (Nat.le_refl _) (HSZ.out _))
              | (go_at_call 29; exact Calls.bw (Nat.le_refl _) (HEQ.out _))
              | (go_at_call 19; exact Calls.bw (Nat.le_refl _) (HMY.out _))))
            refine wpQuiet_nil ?_
            intro _ hw'
            obtain ⟨r, rfl⟩ := hw'
            have ZF := Lib.hid (HZe.out.below r.below HZe.out.lt)
            have KF := Lib.hid (KOe.out.below r.below KOe.out.lt)
            have BF := Lib.hid (BE.out.trans (r.below.mono (by have := HZe.out.lt; omega)))
            have CF := Lib.hid ((CI.out.below r.below (Nat.le_refl _)).mono r.below.size)
            have HTF := Lib.hid (HTe.out.below r.below)
            have HOF := Lib.hid (rows_below HOe.out r.below)
            generalize r.world = wf at *
            clear r
            go_wp2_with (first
              | ((with_reducible (show wpList _ _ _ (⟨some 100, .load _ _, _, _, _, _⟩ :: _) _ _)); refine wpList_loadV (o := ⟨some 100, .load _ _, _, _, _, _⟩) rfl _ rfl rfl (cb_load KF.out) ?_)
              | ((with_reducible (show wpList _ _ _ (⟨none, .store 31 _ _, _, _, _, _⟩ :: _) _ _)); go_loud (refine wpList_storeBlk (o := ⟨none, .store 31 _ _, _, _, _, _⟩) (g := gz) (t := 31) (vs := [.int .u64 ep, .int .u8 ow, .int .u64 nx, .int .u64 sn, .slice A5 m c5]) rfl _ _ rfl rfl rfl ZF.out rfl (one5 rfl rfl rfl rfl rfl) size5 ?_); intro wz ze ge; have ZE := Lib.hid ze; have GE := Lib.hid ge; have WE := Lib.hid ((BF.out).trans (below_of_only (B := gz) ge (Nat.le_refl _) (by have := ZF.out.lt; omega))); clear ze ge))
            exact bodyPost_ret (results_cl rfl rfl ZE.out) rfl (TakP.yes HX.out ⟨A5, m, c5, ts, rfl, (HTF.out.grownLo GE.out (by omega)).cin (by rw [HTL.out]; exact rows_kept HOF.out GE.out (by omega)) HTL.out.symm (rows_cap HOF.out), ⟨fun ad q => by subst q; have := HOF.out.lt ad.block rfl; have := HGZ.out; omega, fun t ht ad q => by have := ((HTF.out t ht).1.block ad q).1; have := HGZ.out; omega⟩, rfl, by have h := WE.out; rw [← HGZ.out] at h; exact h⟩)
          · have HX : Hid (takeL b = none) := Lib.hid (HBAD.out (.inr (.inr (.inr d4))))
            rw [decide_eq_false d4] at HMY
            clear HBAD HGOOD d4
            go_wp2_with fail
            refine wp_region_below_lit we.heap.size (by kernel_rfl) (by kernel_rfl) ?_
            try (rw [put_none])
            repeat (show wpQuiet _ _ _ _ (_ :: _) _; go_big_quiet_step (first
              | (go_at_call 21; exact Calls.bw (Nat.le_refl _) (HSZ.out _))
              | (go_at_call 29; exact Calls.bw (Nat.le_refl _) (HEQ.out _))
              | (go_at_call 19; exact Calls.bw (Nat.le_refl _) (HMY.out _))))
            refine wpQuiet_nil ?_
            intro _ hw'
            obtain ⟨r, rfl⟩ := hw'
            have ZF := Lib.hid (HZe.out.below r.below HZe.out.lt)
            have KF := Lib.hid (KOe.out.below r.below KOe.out.lt)
            have BF := Lib.hid (BE.out.trans (r.below.mono (by have := HZe.out.lt; omega)))
            have CF := Lib.hid ((CI.out.below r.below (Nat.le_refl _)).mono r.below.size)
            have HTF := Lib.hid (HTe.out.below r.below)
            have HOF := Lib.hid (rows_below HOe.out r.below)
            generalize r.world = wf at *
            clear r
            go_wp2_with (first
              | ((with_reducible (show wpList _ _ _ (⟨some 99, .load _ _, _, _, _, _⟩ :: _) _ _)); refine wpList_loadV (o := ⟨some 99, .load _ _, _, _, _, _⟩) rfl _ rfl rfl (cb_load ZF.out) ?_)
              | ((with_reducible (show wpList _ _ _ (⟨none, .store 31 _ _, _, _, _, _⟩ :: _) _ _)); go_loud (refine wpList_storeBlk (o := ⟨none, .store 31 _ _, _, _, _, _⟩) (g := gz) (t := 31) (vs := [.int .u64 0, .int .u8 0, .int .u64 0, .int .u64 0, .slice none 0 0]) rfl _ _ rfl rfl rfl ZF.out rfl (one5 rfl rfl rfl rfl rfl) size5 ?_); intro we ze ge; have ZE := Lib.hid ze; have WE := Lib.hid ((BF.out).trans (below_of_only (B := gz) ge (Nat.le_refl _) (by have := ZF.out.lt; omega))); clear ze ge))
            exact bodyPost_ret (results_cl rfl rfl ZE.out) rfl (TakP.no (HX.out) ⟨rfl, by have h := WE.out; rw [← HGZ.out] at h; exact h⟩)
        · have HX : Hid (takeL b = none) := Lib.hid (HBAD.out (.inr (.inr (.inl d3))))
          rw [decide_eq_false d3] at HEQ
          clear HBAD HGOOD d3
          go_wp2_with fail
          refine wp_region_below_lit we.heap.size (by kernel_rfl) (by kernel_rfl) ?_
          try (rw [put_none])
          repeat (show wpQuiet _ _ _ _ (_ :: _) _; go_big_quiet_step (first
            | (go_at_call 21; exact Calls.bw (Nat.le_refl _) (HSZ.out _))
            | (go_at_call 29; exact Calls.bw (Nat.le_refl _) (HEQ.out _))
            | (go_at_call 19; exact Calls.bw (Nat.le_refl _) (HMY.out _))))
          refine wpQuiet_nil ?_
          intro _ hw'
          obtain ⟨r, rfl⟩ := hw'
          have ZF := Lib.hid (HZe.out.below r.below HZe.out.lt)
          have KF := Lib.hid (KOe.out.below r.below KOe.out.lt)
          have BF := Lib.hid (BE.out.trans (r.below.mono (by have := HZe.out.lt; omega)))
          have CF := Lib.hid ((CI.out.below r.below (Nat.le_refl _)).mono r.below.size)
          have HTF := Lib.hid (HTe.out.below r.below)
          have HOF := Lib.hid (rows_below HOe.out r.below)
          generalize r.world = wf at *
          clear r
          go_wp2_with (first
            | ((with_reducible (show wpList _ _ _ (⟨some 99, .load _ _, _, _, _, _⟩ :: _) _ _)); refine wpList_loadV (o := ⟨some 99, .load _ _, _, _, _, _⟩) rfl _ rfl rfl (cb_load ZF.out) ?_)
            | ((with_reducible (show wpList _ _ _ (⟨none, .store 31 _ _, _, _, _, _⟩ :: _) _ _)); go_loud (refine wpList_storeBlk (o := ⟨none, .store 31 _ _, _, _, _, _⟩) (g := gz) (t := 31) (vs := [.int .u64 0, .int .u8 0, .int .u64 0, .int .u64 0, .slice none 0 0]) rfl _ _ rfl rfl rfl ZF.out rfl (one5 rfl rfl rfl rfl rfl) size5 ?_); intro we ze ge; have ZE := Lib.hid ze; have WE := Lib.hid ((BF.out).trans (below_of_only (B := gz) ge (Nat.le_refl _) (by have := ZF.out.lt; omega))); clear ze ge))
          exact bodyPost_ret (results_cl rfl rfl ZE.out) rfl (TakP.no (HX.out) ⟨rfl, by have h := WE.out; rw [← HGZ.out] at h; exact h⟩)
      · have HX : Hid (takeL b = none) := Lib.hid (HBAD.out (.inr (.inl d2)))
        have d2a : (told == (z : Int)) = false := by simp [d2]
        have d2b : (told != (z : Int)) = true := by simp [d2]
        clear HBAD HGOOD d2
        go_wp2_with fail
        refine wp_region_below_lit we.heap.size (by kernel_rfl) (by kernel_rfl) ?_
        try (rw [put_none])
        repeat (show wpQuiet _ _ _ _ (_ :: _) _; go_big_quiet_step (first
          | (go_at_call 21; exact Calls.bw (Nat.le_refl _) (HSZ.out _))
          | (go_at_call 29; exact Calls.bw (Nat.le_refl _) (HEQ.out _))
          | (go_at_call 19; exact Calls.bw (Nat.le_refl _) (HMY.out _))))
        refine wpQuiet_nil ?_
        intro _ hw'
        obtain ⟨r, rfl⟩ := hw'
        have ZF := Lib.hid (HZe.out.below r.below HZe.out.lt)
        have KF := Lib.hid (KOe.out.below r.below KOe.out.lt)
        have BF := Lib.hid (BE.out.trans (r.below.mono (by have := HZe.out.lt; omega)))
        have CF := Lib.hid ((CI.out.below r.below (Nat.le_refl _)).mono r.below.size)
        have HTF := Lib.hid (HTe.out.below r.below)
        have HOF := Lib.hid (rows_below HOe.out r.below)
        generalize r.world = wf at *
        clear r
        go_wp2_with (first
          | ((with_reducible (show wpList _ _ _ (⟨some 99, .load _ _, _, _, _, _⟩ :: _) _ _)); refine wpList_loadV (o := ⟨some 99, .load _ _, _, _, _, _⟩) rfl _ rfl rfl (cb_load ZF.out) ?_)
          | ((with_reducible (show wpList _ _ _ (⟨none, .store 31 _ _, _, _, _, _⟩ :: _) _ _)); go_loud (refine wpList_storeBlk (o := ⟨none, .store 31 _ _, _, _, _, _⟩) (g := gz) (t := 31) (vs := [.int .u64 0, .int .u8 0, .int .u64 0, .int .u64 0, .slice none 0 0]) rfl _ _ rfl rfl rfl ZF.out rfl (one5 rfl rfl rfl rfl rfl) size5 ?_); intro we ze ge; have ZE := Lib.hid ze; have WE := Lib.hid ((BF.out).trans (below_of_only (B := gz) ge (Nat.le_refl _) (by have := ZF.out.lt; omega))); clear ze ge))
        exact bodyPost_ret (results_cl rfl rfl ZE.out) rfl (TakP.no (HX.out) ⟨rfl, by have h := WE.out; rw [← HGZ.out] at h; exact h⟩)
    | succ q =>
      obtain ⟨Ar, cr, hk, hcr, hrd⟩ := HR.out
      obtain ⟨lr, hlr⟩ : ∃ l, Lr.length = l := ⟨_, rfl⟩
      rw [hlr] at hk hcr hLn
      have k0 := Blk.cell hk 0
      simp at k0
      have HLR := Lib.hid hlr
      clear hk hrd hlr
      by_cases h4 : lr < 4
      · have HX : Hid (takeL b = none) := Lib.hid (HNONE.out (by rw [HTR.out, takeRows_short (by rw [HLR.out]; exact h4)]; rfl))
        clear HTR HNONE
        go_wp2_with (first
          | ((with_reducible (show wpList _ _ _ (⟨some 50, .load _ _, _, _, _, _⟩ :: _) _ _)); refine wpList_loadV (o := ⟨some 50, .load _ _, _, _, _, _⟩) rfl _ rfl rfl (cb_load HZ.out) ?_)
          | ((with_reducible (show wpList _ _ _ (⟨none, .store 31 _ _, _, _, _, _⟩ :: _) _ _)); go_loud (refine wpList_storeBlk (o := ⟨none, .store 31 _ _, _, _, _, _⟩) (g := gz) (t := 31) (vs := [.int .u64 0, .int .u8 0, .int .u64 0, .int .u64 0, .slice none 0 0]) rfl _ _ rfl rfl rfl HZ.out rfl (one5 rfl rfl rfl rfl rfl) size5 ?_); intro we ze ge; have ZE := Lib.hid ze; have WE := Lib.hid ((HB.out).trans (below_of_only (B := gz) ge (Nat.le_refl _) (by have := HZ.out.lt; omega))); clear ze ge))
        exact bodyPost_ret (results_cl rfl rfl ZE.out) rfl (TakP.no (HX.out) ⟨rfl, by have h := WE.out; rw [← HGZ.out] at h; exact h⟩)
      go_wp2_with fail
      refine Calls.mono (num_any gz (gz + 1) Lr 4 _ HR.out (by omega) HLB.out (by rw [HLR.out]; omega) (by omega) (by rw [HLR.out]; omega)) ?_
      rintro e wn ⟨rfl, rn, gn⟩
      have hkr := ofF_range 0 (Lr.take 4) (HLB.out.take 4) (by decide)
      rw [show (Lr.take 4).length = 4 by rw [List.length_take, HLR.out]; omega, p4] at hkr
      obtain ⟨kn, hkn⟩ : ∃ kn : Nat, ofF 0 (Lr.take 4) = (kn : Int) := ⟨(ofF 0 (Lr.take 4)).toNat, by omega⟩
      have hkn1 : kn < 4294967296 := by omega
      have HKN := Lib.hid hkn
      have HZn := Lib.hid (HZ.out.grown gn (by intro q; injection q; omega))
      have HKn := Lib.hid (HK.out.grown gn (by intro q; injection q; omega))
      have HOn := Lib.hid (rows_kept HO.out gn (by omega))
      have HTn := Lib.hid (HT.out.grownLo gn (by omega))
      have HBn := Lib.hid (HB.out.trans (below_of_only (B := gz) gn (by omega) (by have := HK.out.lt; omega)))
      have hggn : gg + 1 ≤ wn.heap.size := by have := HKn.out.lt; omega
      obtain ⟨An, cn, hkb, hcn, hrn⟩ := rn
      obtain ⟨X, hX⟩ : ∃ X, (Lr.drop 4).take kn = X := ⟨_, rfl⟩
      obtain ⟨Y, hY⟩ : ∃ Y, Lr.drop 4 = Y := ⟨_, rfl⟩
      rw [hY] at hkb hcn hrn hX
      obtain ⟨ld, hld⟩ : ∃ l, Y.length = l := ⟨_, rfl⟩
      have HLDR : Hid (ld = lr - 4) := Lib.hid ( by rw [← hld, ← hY, List.length_drop, HLR.out])
      have hldr1 : ld + 4 ≤ lr := by have := HLDR.out; omega
      have hldr2 : lr ≤ ld + 4 := by have := HLDR.out; omega
      rw [hld] at hkb hcn
      have HKB := Lib.hid hkb
      have HY := Lib.hid hY
      have HYL := Lib.hid hld
      have HXE := Lib.hid hX
      have HYR := Lib.hid hrn
      have HYB : Hid (Byt Y) := Lib.hid (by rw [← hY]; exact HLB.out.drop 4)
      rw [hkn]
      clear k0 hkr hkn gn hkb hY hX hrn HZ HK HO HT HB HR
      have k0 := Blk.cell HKB.out 0
      simp at k0
      by_cases h5 : ld < kn
      · have HX : Hid (takeL b = none) := Lib.hid (HNONE.out (by rw [HTR.out, takeRows_long (by rw [HLR.out]; omega) (by rw [HY.out, HYL.out, HKN.out]; omega)]; rfl))
        clear HTR HNONE
        go_wp2_with (first
          | ((with_reducible (show wpList _ _ _ (⟨some 58, .load _ _, _, _, _, _⟩ :: _) _ _)); refine wpList_loadV (o := ⟨some 58, .load _ _, _, _, _, _⟩) rfl _ rfl rfl (cb_load HZn.out) ?_)
          | ((with_reducible (show wpList _ _ _ (⟨none, .store 31 _ _, _, _, _, _⟩ :: _) _ _)); go_loud (refine wpList_storeBlk (o := ⟨none, .store 31 _ _, _, _, _, _⟩) (g := gz) (t := 31) (vs := [.int .u64 0, .int .u8 0, .int .u64 0, .int .u64 0, .slice none 0 0]) rfl _ _ rfl rfl rfl HZn.out rfl (one5 rfl rfl rfl rfl rfl) size5 ?_); intro we ze ge; have ZE := Lib.hid ze; have WE := Lib.hid ((HBn.out).trans (below_of_only (B := gz) ge (Nat.le_refl _) (by have := HZn.out.lt; omega))); clear ze ge))
        exact bodyPost_ret (results_cl rfl rfl ZE.out) rfl (TakP.no (HX.out) ⟨rfl, by have h := WE.out; rw [← HGZ.out] at h; exact h⟩)
      have HXL : Hid (X.length = kn) := Lib.hid (by rw [← HXE.out, List.length_take, HYL.out]; omega)
      have HXB : Hid (Byt X) := Lib.hid (by rw [← HXE.out]; exact HYB.out.take kn)
      obtain ⟨A6, c6, s1, s2, s3, s4, s6⟩ := slice_h elC HYR.out (by rw [hld]; exact hcn) (kn : Int) kn (by rw [hld]; omega) rfl
      rw [hld] at s6
      rw [HXE.out] at s3
      obtain ⟨A7, c7, t1, t2, t3, t4, t6⟩ := slice_l elC HYR.out (by rw [hld]; exact hcn) (kn : Int) (ld - kn) (by omega) (by rw [hld]; omega) (by rw [hld]; omega)
      rw [hld] at t6
      rw [Int.toNat_natCast] at t3 t4
      have S3 := Lib.hid s3
      have T3 := Lib.hid t3
      have T4 := Lib.hid t4
      clear s3 s4 t3 t4 hld
      have SN : Hid (TK gg (gz + 1) #[.int .u64 ep, .int .u8 ow, .int .u64 nx, .int .u64 sn, .slice A5 m c5] #[.slice An ld cn] wn) := Lib.hid ⟨HKn.out, HKB.out⟩
      have hne : Nonempty (CW (TK gg (gz + 1) #[.int .u64 ep, .int .u8 ow, .int .u64 nx, .int .u64 sn, .slice A5 m c5] #[.slice An ld cn])) := CW.inh SN.out
      have k4 := fun r : CW (TK gg (gz + 1) #[.int .u64 ep, .int .u8 ow, .int .u64 nx, .int .u64 sn, .slice A5 m c5] #[.slice An ld cn]) => (cb_cells r.holds.1).2.2.2.2
      have k6 : ∀ r : CW (TK gg (gz + 1) #[.int .u64 ep, .int .u8 ow, .int .u64 nx, .int .u64 sn, .slice A5 m c5] #[.slice An ld cn]), r.world.cell? ⟨gz + 1, 0, none⟩ = some (.slice An ld cn) := fun r => by simpa using Blk.cell r.holds.2 0
      go_wp2_with fail
      refine wp_region_mixO (fun w' => ∃ r : CW (TK gg (gz + 1) #[.int .u64 ep, .int .u8 ow, .int .u64 nx, .int .u64 sn, .slice A5 m c5] #[.slice An ld cn]), w' = r.world) [([0, 1, 2, 3, 4], 5), ([], 6), ([], 7), ([8], 9)] (by kernel_rfl) (by kernel_rfl) (by kernel_rfl) (by kernel_rfl) (by kernel_rfl) ⟨CW.mk' (show TK _ _ _ _ wn.drew from ⟨Blk.drew SN.out.1, Blk.drew SN.out.2⟩), rfl⟩ ?_
      try (rw [put_none])
      simp only [pickL, List.map_cons, List.map_nil, List.filterMap_cons, List.filterMap_nil, List.getElem?_cons_succ, List.getElem?_cons_zero]
      refine mixO_cons ?_
      repeat (show wpQuiet _ _ _ _ (_ :: _) _; go_big_quiet_step (fail))
      refine wpQuiet_nil ?_
      show wpList _ _ _ [_] _ _
      have Dn := Lib.hid ((Below.refl wn.heap.size wn).drew)
      clear k4 k6
      generalize wn.drew = wd at *
      go_wp2_with fail
      have hwd := Dn.out.size
      refine Calls.mono (clone_n A6 c6 kn X _ ((S3.out.below (Dn.out.mono (by omega)) (Nat.le_refl _)).mono (by omega)) HXL.out.symm (by omega)) ?_
      rintro e wc ⟨Ac, nc, cc, rfl, oc, bc⟩
      obtain rfl : kn = nc := by rw [oc.len, HXL.out]
      have OC := Lib.hid (oc.mono (show gg + 1 ≤ wd.heap.size by omega))
      have BC := Lib.hid (Dn.out.trans (bc.mono hwd))
      have hwc := BC.out.size
      have SC : Hid (TK gg (gz + 1) #[.int .u64 ep, .int .u8 ow, .int .u64 nx, .int .u64 sn, .slice A5 m c5] #[.slice An ld cn] wc) := Lib.hid ⟨SN.out.1.below BC.out (by omega), SN.out.2.below BC.out (by omega)⟩
      have HOc := Lib.hid (rows_below HOn.out BC.out)
      have HTc := Lib.hid (HTn.out.below BC.out)
      clear oc bc S3 HOn HTn SN HKn HKB
      go_wp2_with fail
      refine MixO.narrow (fun _ h => h) ⟨CW.mk' SC.out, rfl⟩ ?_
      refine mixO_cons ?_
      refine wpQuiet_nil ?_
      show wpList _ _ _ [_] _ _
      have AB := Lib.hid ((Below.refl wc.heap.size wc).alloc (Nat.le_refl _) (.cells #[.slice Ac kn cc] 50))
      have KB : Hid (Blk (wc.alloc (.cells #[.slice Ac kn cc] 50)) wc.heap.size 50 #[.slice Ac kn cc]) := Lib.hid (Blk.new _ _ _)
      have SB : Hid (TK gg (gz + 1) #[.int .u64 ep, .int .u8 ow, .int .u64 nx, .int .u64 sn, .slice A5 m c5] #[.slice An ld cn] (wc.alloc (.cells #[.slice Ac kn cc] 50))) := Lib.hid ⟨SC.out.1.alloc _, SC.out.2.alloc _⟩
      have HOb := Lib.hid (rows_below HOc.out AB.out)
      have HTb := Lib.hid ((HTc.out.below AB.out).snoc (OC.out.alloc _) HXB.out)
      have BB := Lib.hid (BC.out.trans (AB.out.mono hwc))
      have hszb : (wc.alloc (.cells #[.slice Ac kn cc] 50)).heap.size = wc.heap.size + 1 := by simp
      go_wp2_with fail
      refine MixO.narrow (fun _ h => h) ⟨CW.mk' SB.out, rfl⟩ ?_
      refine mixO_cons ?_
      refine wpQuiet_nil ?_
      show wpList _ _ _ [_] _ _
      generalize wc.alloc (.cells #[.slice Ac kn cc] 50) = wb at *
      clear SC HOc HTc OC AB BC
      have hwb := BB.out.size
      go_wp2_with ((with_reducible (show wpList _ _ _ (⟨some 66, _, _, _, _, _⟩ :: _) _ _)); go_loud (refine wpList_appRow (o := ⟨some 66, _, _, _, _, _⟩) (base := gg + 1) rfl _ _ rfl rfl rfl HOb.out KB.out rfl (by omega) (by omega) ?_); intro Ad cd we od gd)
      have SD : Hid (TK gg (gz + 1) #[.int .u64 ep, .int .u8 ow, .int .u64 nx, .int .u64 sn, .slice A5 m c5] #[.slice An ld cn] we) := Lib.hid ⟨SB.out.1.grown gd (rows_lo HOb.out (by omega)), SB.out.2.grown gd (rows_lo HOb.out (by omega))⟩
      have HTd := Lib.hid (HTb.out.grownRow HOb.out gd)
      have BD := Lib.hid ((BB.out.mono (show gz ≤ wn.heap.size by omega)).trans (below_row HOb.out gd (by omega) (by omega)))
      have HZd := Lib.hid ((HZn.out.below BB.out (by omega)).grown gd (rows_lo HOb.out (by omega)))
      have HOd : Hid (we.ownsRow (gg + 1) 50 1 (.slice Ad (m + 1) cd) (m + 1) ((ts ++ [(⟨Ac, cc, X⟩ : Tx)]).map txV)) := Lib.hid (by
        rw [List.map_append]
        have e1 : List.map txV [(⟨Ac, cc, X⟩ : Tx)] = [Value.slice Ac kn cc] := by simp [txV, HXL.out]
        rw [e1]; exact od)
      have hwe := gd.size
      clear od gd HOb HTb SB KB BB HZn
      refine MixO.narrow (fun _ h => h) ⟨CW.mk' SD.out, rfl⟩ ?_
      refine mixO_cons ?_
      repeat (show wpQuiet _ _ _ _ (_ :: _) _; go_big_quiet_step (fail))
      refine wpQuiet_nil ?_
      show wpList _ _ _ [_] _ _
      have e4 := (cb_cells SD.out.1).2.2.2.2
      have f4 := SD.out.1.frozen 4
      go_wp2_with fail
      refine MixO.last ?_
      refine mixO_nil ?_
      refine wpQuiet_nil ?_
      refine NoPanic.normal ?_
      have GS : Hid (we.grownBy (we.setCell ⟨gg, 4, none⟩ (.slice Ad (m + 1) cd)) (some gg)) := Lib.hid (only_setCell (World.grownBy.refl _ _) (.inl rfl) _)
      have KS : Hid (Blk (we.setCell ⟨gg, 4, none⟩ (.slice Ad (m + 1) cd)) gg 31 #[.int .u64 ep, .int .u8 ow, .int .u64 nx, .int .u64 sn, .slice Ad (m + 1) cd]) := Lib.hid (Blk.cast (SD.out.1.set_ 4 _) (by simp))
      have hwe2 : (we.setCell ⟨gg, 4, none⟩ (.slice Ad (m + 1) cd)).heap.size = we.heap.size := by simp [World.setCell]
      generalize we.setCell ⟨gg, 4, none⟩ (.slice Ad (m + 1) cd) = ws at *
      have KRs := Lib.hid (SD.out.2.grown GS.out (by intro q; injection q; omega))
      have HTs := Lib.hid (HTd.out.grownLo GS.out (by omega))
      have HOs := Lib.hid (rows_kept HOd.out GS.out (by omega))
      have HZs := Lib.hid (HZd.out.grown GS.out (by intro q; injection q; omega))
      have BS0 := Lib.hid (BD.out.trans (below_of_only (B := gz) GS.out (by omega) (by omega)))
      have BS := Lib.hid (HBn.out.trans BS0.out)
      clear HTd HOd HZd BD GS SD e4 f4 k0 hne
      have k0 := Blk.cell KRs.out 0
      have f0 := KRs.out.frozen 0
      simp at k0
      have GF : Hid (ws.grownBy (ws.setCell ⟨gz + 1, 0, none⟩ (.slice A7 (ld - kn) c7)) (some (gz + 1))) := Lib.hid (only_setCell (World.grownBy.refl _ _) (.inl rfl) _)
      have KF : Hid (Blk (ws.setCell ⟨gz + 1, 0, none⟩ (.slice A7 (ld - kn) c7)) (gz + 1) 50 #[.slice A7 (ld - kn) c7]) := Lib.hid (Blk.cast (KRs.out.set_ 0 _) (by simp))
      have hmm : m + 1 + q = Q := by omega
      have T4' : Hid ((Y.drop kn).length = ld - kn) := Lib.hid (by rw [List.length_drop, HYL.out])
      have hqk : ((q : Int) + 1 - 1) = (q : Int) := by omega
      have hq0 : 0 ≤ (q : Int) ∧ (q : Int) < 4294967296 := by omega
      obtain ⟨hq0, hq1⟩ := hq0
      have RF : Hid (Rest gz (gz + 1) (ws.setCell ⟨gz + 1, 0, none⟩ (.slice A7 (ld - kn) c7)) (Y.drop kn)) := Lib.hid ⟨A7, c7, by rw [T4'.out]; exact KF.out, by rw [T4'.out]; exact t1, T3.out.below (BS0.out.trans (below_of_only (B := gz) GF.out (by omega) (by omega))) (Nat.le_refl _)⟩
      have HZF := Lib.hid (HZs.out.grown GF.out (by intro q; injection q; omega))
      have KSF := Lib.hid (KS.out.grown GF.out (by intro q; injection q; omega))
      have HOF := Lib.hid (rows_kept HOs.out GF.out (by omega))
      have HTF := Lib.hid (HTs.out.grownLo GF.out (by omega))
      have BF := Lib.hid (BS.out.trans (below_of_only (B := gz) GF.out (by omega) (by omega)))
      have HTLF : Hid ((ts ++ [(⟨Ac, cc, X⟩ : Tx)]).length = m + 1) := Lib.hid (by rw [List.length_append, HTL.out]; rfl)
      have HTRF : Hid (takeRows Q (R.drop 41) = preR (bsT (ts ++ [(⟨Ac, cc, X⟩ : Tx)])) (takeRows q (Y.drop kn))) := Lib.hid (by
        rw [HTR.out, takeRows_step (m := kn) (by rw [HLR.out]; omega) HKN.out (by rw [HY.out, HYL.out]; omega), HY.out, HXE.out, bsT_snoc])
      have hYn : (Y.drop kn).length ≤ n := by rw [T4'.out]; omega
      have HYBF := Lib.hid (HYB.out.drop kn)
      clear HTR HTL HOs HTs HZs KRs KS GF BS
      go_wp2_with fail
      go_roundw
      case rel => exact ⟨q, m + 1, cd, Ad, Y.drop kn, ts ++ [⟨Ac, cc, X⟩], rfl, rfl, hmm, hYn, RF, HYBF, HZF, KSF, HTLF, HOF, HTF, HTRF, BF⟩
      case measure => simp [intOf]
end Go.Proofs.Ytibjafkclojimaa
