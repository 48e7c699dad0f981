/- The law GcmBack, walked. Conditions: as each theorem states them. -/
import Derived.Test.YtepkbllcaeceeaaG15
namespace Go.Proofs.Ytepkbllcaeceeaa
open Go.RowKit
theorem xb_moves {x y : Int} (hx : B8 x) (hy : B8 y) (h0 : y ≠ 0) : xb x y ≠ x := fun e => by
  have h := xb_nat hx hy
  rw [e] at h
  have h1 : x.toNat = x.toNat ^^^ y.toNat := by omega
  have h2 := congrArg (x.toNat ^^^ ·) h1
  simp only [xclN, Nat.xor_self] at h2
  have := hy.1
  omega
theorem mask_ok : ∀ k, k < 8 → B8 ((2 : Int) ^ k) ∧ (2 : Int) ^ k ≠ 0 := fun k hk => by
  rcases (show k = 0 ∨ k = 1 ∨ k = 2 ∨ k = 3 ∨ k = 4 ∨ k = 5 ∨ k = 6 ∨ k = 7 by omega) with rfl | rfl | rfl | rfl | rfl | rfl | rfl | rfl <;> exact ⟨⟨by decide, by decide⟩, by decide⟩
theorem idx_of (q n : Nat) : (q : Int) / 8 % (n : Int) = ((q / 8 % n : Nat) : Int) := by rw [Int.natCast_emod, Int.natCast_ediv]; rfl
attribute [local irreducible] gsealL gopenL
set_option maxRecDepth 100000 in
set_option maxHeartbeats 8000000 in
theorem back_walk (A1 A2 : Option Addr) (c1 c2 n1 n2 : Nat) (K nonce aad text : List Int) (bit : Int) (w : World) (hK : Blk16 K) (hn : nonce.length = 12) (hnb : Byt nonce) (h1 : aad.length = n1) (h2 : text.length = n2) (ha : Byt aad) (hb : Byt text) (hc1 : n1 ≤ c1) (hc2 : n2 ≤ c2) (hr1 : Rd w.heap.size .u8 w A1 aad) (hr2 : Rd w.heap.size .u8 w A2 text) (hb63 : bit < 9223372036854775808) :
    Calls Try.prog 11 #[.agg (cellsL .u8 K), .agg (cellsL .u8 nonce), .slice A1 n1 c1, .slice A2 n2 c2, .int .i64 bit] w fun e w' => e = .returned (.bool true) ∧ Below w.heap.size w w' := by
  have HK := Lib.hid hK
  have HN := Lib.hid hn
  have HNB := Lib.hid hnb
  have H1 := Lib.hid h1
  have H2 := Lib.hid h2
  have HA := Lib.hid ha
  have HB := Lib.hid hb
  have K0 : Hid (Arr ((w.alloc (.cells (cellsL .u8 K) 32)).alloc (.cells (cellsL .u8 nonce) 51)) w.heap.size 32 .u8 K) := Lib.hid ((Arr.newAt rfl rfl).alloc _)
  have N0 : Hid (Arr ((w.alloc (.cells (cellsL .u8 K) 32)).alloc (.cells (cellsL .u8 nonce) 51)) (w.heap.size + 1) 51 .u8 nonce) := Lib.hid (Arr.newAt (by simp) rfl)
  have B0 : Hid (Below w.heap.size w ((w.alloc (.cells (cellsL .u8 K) 32)).alloc (.cells (cellsL .u8 nonce) 51))) := Lib.hid (((Below.refl _ _).alloc (Nat.le_refl _) _).alloc (by simp) _)
  have HL1 : Hid (∀ v : World, Arr v w.heap.size 32 .u8 K → (Instr.loadAt 32 (.pointer (some ⟨w.heap.size, 0, none⟩))).run Try.prog v = .ok (.agg (cellsL .u8 K)) v) := Lib.hid (fun v h => arr_load h Try.underlying32 sizeE16 HK.out.1.symm)
  have HL2 : Hid (∀ v : World, Arr v (w.heap.size + 1) 51 .u8 nonce → (Instr.loadAt 51 (.pointer (some ⟨w.heap.size + 1, 0, none⟩))).run Try.prog v = .ok (.agg (cellsL .u8 nonce)) v) := Lib.hid (fun v h => arr_load h Try.underlying51 size51 HN.out.symm)
  have R1 := Lib.hid hr1
  have R2 := Lib.hid hr2
  have HEZ : Hid (∀ v : World, (binOp .eql 32 (.agg (cellsL .u8 (aesL K z16))) (.agg #[.int .u8 0, .int .u8 0, .int .u8 0, .int .u8 0, .int .u8 0, .int .u8 0, .int .u8 0, .int .u8 0, .int .u8 0, .int .u8 0, .int .u8 0, .int .u8 0, .int .u8 0, .int .u8 0, .int .u8 0, .int .u8 0])).run Try.prog v = .ok (.bool (decide (aesL K z16 = z16))) v) := Lib.hid (fun v => eql16E (aesL_ok hK z16_ok).1 z16_ok.1 (aesL_ok hK z16_ok).2 z16_ok.2 v)
  clear hK hn hnb h1 h2 ha hb hr1 hr2
  go_enter Try.func11, Try.ntmps11
  go_wp2_with fail
  refine Calls.mono (known09_any _) ?_
  rintro e w3 ⟨rfl, hb3⟩
  have K3 := Lib.hid (K0.out.belowAll hb3)
  have N3 := Lib.hid (N0.out.belowAll hb3)
  have W3 := Lib.hid (B0.out.trans (hb3.mono B0.out.size))
  clear hb3 K0 N0 B0
  by_cases h600 : 600 < n1
  · go_wp2_with fail
    go_ret
    exact ⟨rfl, W3.out⟩
  by_cases h601 : 600 < n2
  · go_wp2_with fail
    go_ret
    exact ⟨rfl, W3.out⟩
  by_cases hbn : bit < 0
  · go_wp2_with fail
    go_ret
    exact ⟨rfl, W3.out⟩
  obtain ⟨q, rfl⟩ : ∃ q : Nat, bit = (q : Int) := ⟨bit.toNat, by omega⟩
  have hd1 : decide (600 < (n1 : Int)) = false := decide_eq_false (by omega)
  have hd2 : decide (600 < (n2 : Int)) = false := decide_eq_false (by omega)
  have hd3 : decide ((q : Int) < 0) = false := decide_eq_false (by omega)
  go_wp2_with ((with_reducible (show wpList _ _ _ (⟨some 35, .load _ _, _, _, _, _⟩ :: _) _ _)); refine wpList_unguard rfl ?_; refine wpList_loadV (o := ⟨some 35, .load _ _, _, _, _, _⟩) rfl _ rfl rfl (HL1.out _ K3.out) ?_)
  refine Calls.mono (anew_any K _ HK.out) ?_
  rintro e w4 ⟨gc, rfl, _, hc4, hb4⟩
  have C4 := Lib.hid hc4
  have K4 := Lib.hid (K3.out.belowAll hb4)
  have N4 := Lib.hid (N3.out.belowAll hb4)
  have W4 := Lib.hid (W3.out.trans (hb4.mono W3.out.size))
  clear hc4 hb4 K3 N3 W3
  go_wp2_with fail
  refine Calls.mono (aseal_any gc K z16 _ HK.out z16_ok C4.out) ?_
  rintro e w5 ⟨rfl, hb5⟩
  have K5 := Lib.hid (K4.out.belowAll hb5)
  have N5 := Lib.hid (N4.out.belowAll hb5)
  have W5 := Lib.hid (W4.out.trans (hb5.mono W4.out.size))
  clear hb5 K4 N4 W4 C4
  have hez := HEZ.out
  by_cases h0 : aesL K z16 = z16
  · rw [decide_eq_true h0] at hez
    clear h0
    go_wp2_with fail
    go_ret
    exact ⟨rfl, W5.out⟩
  rw [decide_eq_false h0] at hez
  have H0 := Lib.hid h0
  go_wp2_with fail
  clear hez h0
  have R15 := Lib.hid ((R1.out.below W5.out (Nat.le_refl _)).mono W5.out.size)
  have R25 := Lib.hid ((R2.out.below W5.out (Nat.le_refl _)).mono W5.out.size)
  have v1 : ∀ r : BW w5.heap.size w5, (convert 28 9 (.slice A2 n2 c2)).run Try.prog r.world = .ok (.string (strOfNums text)) r.world := fun r => conv_nE (R25.out.below r.below (Nat.le_refl _)) H2.out _
  have v2 : ∀ r : BW w5.heap.size w5, (convert 28 9 (.slice A1 n1 c1)).run Try.prog r.world = .ok (.string (strOfNums aad)) r.world := fun r => conv_nE (R15.out.below r.below (Nat.le_refl _)) H1.out _
  refine wp_region_mix_below w5.heap.size [] [0, 1, 2, 3, 4, 5] (by kernel_rfl) (by kernel_rfl) (by kernel_rfl) (by kernel_rfl) ?_
  simp only [pickL, List.map_nil, List.filterMap_cons, List.filterMap_nil, List.getElem?_cons_succ, List.getElem?_cons_zero]
  refine mixS_nil ?_
  repeat (show wpQuiet _ _ _ _ (_ :: _) _; go_big_quiet_step (fail))
  refine wpQuiet_nil ?_
  refine NoPanic.normal ?_
  clear v1 v2 hd1 hd2 hd3
  have W6 : Hid (Below w.heap.size w w5.drew) := Lib.hid W5.out.drew
  have R16 := Lib.hid (Rd.drew R15.out)
  have R26 := Lib.hid (Rd.drew R25.out)
  have K6 := Lib.hid (Arr.drew K5.out)
  have N6 := Lib.hid (Arr.drew N5.out)
  clear W5 R15 R25 K5 N5
  obtain ⟨w6, hw6⟩ : ∃ w6, w5.drew = w6 := ⟨_, rfl⟩
  have hsz6 : w5.heap.size = w6.heap.size := by rw [← hw6]; rfl
  rw [hw6] at W6 R16 R26 K6 N6 ⊢
  rw [hsz6] at R16 R26
  clear hw6 hsz6
  have HSL := Lib.hid (gsealL_len (aad := aad) (text := text) HK.out HN.out HNB.out)
  have HSB := Lib.hid (gsealL_byt K nonce aad text)
  have HGB := Lib.hid (gback (aad := aad) HK.out HN.out HNB.out HB.out)
  have HBAD : Hid (∀ p x, p < n2 + 16 → B8 x → x ≠ (gsealL K nonce aad text).getD p 0 → gopenL K nonce aad ((gsealL K nonce aad text).set p x) = none) := Lib.hid (fun p x hp hx hne => gbad HK.out HN.out HNB.out H0.out HA.out HB.out (by rw [H2.out]; exact hp) hx hne)
  have HOTH : Hid (∀ p x, p < n1 → B8 x → x ≠ aad.getD p 0 → gopenL K nonce (aad.set p x) (gsealL K nonce aad text) = none) := Lib.hid (fun p x hp hx hne => gother HK.out HN.out HNB.out H0.out HA.out HB.out (by rw [H1.out]; exact hp) hx hne)
  rw [H2.out] at HSL
  go_wp2_with (first
    | ((with_reducible (show wpList _ _ _ (⟨some 46, .load _ _, _, _, _, _⟩ :: _) _ _)); refine wpList_loadV (o := ⟨some 46, .load _ _, _, _, _, _⟩) rfl _ rfl rfl (HL1.out _ K6.out) ?_)
    | ((with_reducible (show wpList _ _ _ (⟨some 47, .load _ _, _, _, _, _⟩ :: _) _ _)); refine wpList_loadV (o := ⟨some 47, .load _ _, _, _, _, _⟩) rfl _ rfl rfl (HL2.out _ N6.out) ?_))
  refine Calls.mono (gseal_any n1 c1 n2 c2 A1 A2 K nonce aad text _ HK.out HN.out HNB.out H1.out H2.out HA.out (by omega) (by omega) R16.out R26.out) ?_
  rintro e w7 ⟨A7, n7, c7, rfl, ho7, hb7⟩
  obtain rfl : n7 = n2 + 16 := by rw [ho7.len, HSL.out]
  have O7 := Lib.hid ho7.rd
  have hc7 := ho7.cap.1
  have K7 := Lib.hid (K6.out.belowAll hb7)
  have N7 := Lib.hid (N6.out.belowAll hb7)
  have R17 := Lib.hid ((R16.out.below hb7 (Nat.le_refl _)).mono hb7.size)
  have R27 := Lib.hid ((R26.out.below hb7 (Nat.le_refl _)).mono hb7.size)
  have W7 := Lib.hid (W6.out.trans (hb7.mono W6.out.size))
  clear ho7 hb7 K6 N6 R16 R26 W6
  generalize gsealL K nonce aad text = S at *
  go_wp2_with (first
    | ((with_reducible (show wpList _ _ _ (⟨some 52, .load _ _, _, _, _, _⟩ :: _) _ _)); refine wpList_loadV (o := ⟨some 52, .load _ _, _, _, _, _⟩) rfl _ rfl rfl (HL1.out _ K7.out) ?_)
    | ((with_reducible (show wpList _ _ _ (⟨some 53, .load _ _, _, _, _, _⟩ :: _) _ _)); refine wpList_loadV (o := ⟨some 53, .load _ _, _, _, _, _⟩) rfl _ rfl rfl (HL2.out _ N7.out) ?_))
  refine Calls.mono (gopen_long n1 c1 n2 c7 A1 A7 K nonce aad S _ HK.out HN.out HNB.out H1.out HSL.out hc7 HA.out HSB.out (by omega) (by omega) R17.out O7.out) ?_
  rw [HGB.out]
  rintro e w8 ⟨A8, n8, c8, rfl, ho8, hb8⟩
  obtain rfl : n8 = n2 := by rw [ho8.len, H2.out]
  have O8 := Lib.hid ho8.rd
  have K8 := Lib.hid (K7.out.belowAll hb8)
  have N8 := Lib.hid (N7.out.belowAll hb8)
  have R18 := Lib.hid ((R17.out.below hb8 (Nat.le_refl _)).mono hb8.size)
  have R28 := Lib.hid ((R27.out.below hb8 (Nat.le_refl _)).mono hb8.size)
  have S8 := Lib.hid ((O7.out.below hb8 (Nat.le_refl _)).mono hb8.size)
  have W8 := Lib.hid (W7.out.trans (hb8.mono W7.out.size))
  clear ho8 hb8 K7 N7 R17 R27 O7 W7
  have v1 := conv_nE O8.out H2.out c8
  have v2 := conv_nE R28.out H2.out c2
  have v3 := conv_nE R18.out H1.out c1
  have O0 : Hid (Own w8.heap.size 5 .u8 (w8.alloc (.cells #[] 5)) (some ⟨w8.heap.size, 0, none⟩) 0 0 []) := Lib.hid (Own.litAt rfl rfl rfl (Nat.le_refl _) (Nat.zero_le _))
  have B80 := Lib.hid ((Below.refl w8.heap.size w8).alloc (Nat.le_refl _) (.cells #[] 5))
  go_wp2_with (at_builtin; refine wpList_app (o := ⟨some 90, _, _, _, _, _⟩) elB8 rfl _ _ rfl rfl rfl O0.out (S8.out.below B80.out (Nat.le_refl _)) HSL.out.symm ?_ ?_ ?_; (rw [HSL.out]; simp <;> omega); (simp); intro A9 n9 c9 w9 q9; have O9 : Hid (Own w8.heap.size 5 .u8 w9 A9 n9 c9 S) := Lib.hid q9.1; obtain rfl : n9 = n8 + 16 := (by rw [q9.1.len, List.nil_append, HSL.out]); have B9 := Lib.hid (B80.out.trans q9.2.2.1); clear q9)
  clear v1 v2 v3 O0 B80
  obtain ⟨g9, rfl, hg9, hg9'⟩ := O9.out.addr (by omega)
  obtain ⟨p, hp⟩ : ∃ p, q / 8 % (n8 + 16) = p := ⟨_, rfl⟩
  have hpl : p < n8 + 16 := by rw [← hp]; exact Nat.mod_lt _ (by omega)
  have e0 : (q : Int) / 8 % ((n8 : Int) + 16) = (p : Int) := by rw [← hp]; exact idx_of q (n8 + 16)
  obtain ⟨x, hxx⟩ : ∃ x, S.getD p 0 = x := ⟨_, rfl⟩
  have p1 : ∀ r : BW w9.heap.size w9, r.world.cell? ⟨g9, p, none⟩ = some (.int .u8 x) := fun r => by rw [← hxx]; exact (O9.out.below r.below).cell0 (by rw [HSL.out]; exact hpl)
  have q1 : w9.cell? ⟨g9, p, none⟩ = some (.int .u8 x) := p1 ⟨w9, Below.refl _ _⟩
  have f1 := O9.out.frozen p
  have hx := HSB.out.getD p
  rw [hxx] at hx
  have HX := Lib.hid hx
  obtain ⟨hx0, hx1⟩ := hx
  obtain ⟨y, hy⟩ : ∃ y, (2 : Int) ^ (q % 8) % 256 = y := ⟨_, rfl⟩
  have hmk := mask_ok (q % 8) (Nat.mod_lt _ (by decide))
  rw [Int.emod_eq_of_lt hmk.1.1 hmk.1.2] at hy
  rw [hy] at hmk
  have hy2 : (2 : Int) ^ (q % 8) % 256 = y := by rw [hy]; exact Int.emod_eq_of_lt hmk.1.1 hmk.1.2
  have HMK := Lib.hid hmk
  have HY2 := Lib.hid hy2
  have HBD : Hid (gopenL K nonce aad (S.set p (xb x y)) = none) := Lib.hid (HBAD.out p (xb x y) hpl (xb_u _ _) (by rw [hxx]; exact xb_moves HX.out hmk.1 hmk.2))
  clear hp hy hy2 hxx hmk
  go_wp2_with fail
  refine wp_region_mixOB w9.heap.size [([0, 1, 2, 3, 4, 5, 6, 7, 8, 9, 10, 11, 12], 13)] (by kernel_rfl) (by kernel_rfl) (by kernel_rfl) (by kernel_rfl) (by kernel_rfl) ?_
  try (rw [put_none])
  simp only [pickL, List.map_cons, List.map_nil, List.filterMap_cons, List.filterMap_nil, List.getElem?_cons_succ, List.getElem?_cons_zero]
  refine mixO_cons ?_
  repeat (show wpQuiet _ _ _ _ (_ :: _) _; go_big_quiet_step (fail))
  refine wpQuiet_nil ?_
  show wpList _ _ _ [_] _ _
  go_wp2_with fail
  refine MixO.last ?_
  refine mixO_nil ?_
  refine wpQuiet_nil ?_
  refine NoPanic.normal ?_
  rw [HY2.out]
  have O10 : Hid (Own w8.heap.size 5 .u8 (w9.setCell ⟨g9, p, none⟩ (.int .u8 (bits .xor .u8 x y))).drew (some ⟨g9, 0, none⟩) (n8 + 16) c9 (S.set p (xb x y))) := Lib.hid (Own.drew (O9.out.set_ p _))
  have B10 : Hid (Below w8.heap.size w8 (w9.setCell ⟨g9, p, none⟩ (.int .u8 (bits .xor .u8 x y))).drew) := Lib.hid ((B9.out.setCell (p := ⟨g9, p, none⟩) hg9 _).drew)
  clear p1 q1 f1 O9 B9 hg9 hg9' e0
  generalize (w9.setCell ⟨g9, p, none⟩ (.int .u8 (bits .xor .u8 x y))).drew = w10 at *
  have K10 := Lib.hid (K8.out.belowAll B10.out)
  have N10 := Lib.hid (N8.out.belowAll B10.out)
  have R110 := Lib.hid ((R18.out.below B10.out (Nat.le_refl _)).mono B10.out.size)
  have S10 := Lib.hid ((S8.out.below B10.out (Nat.le_refl _)).mono B10.out.size)
  have W10 := Lib.hid (W8.out.trans (B10.out.mono W8.out.size))
  have HQL : Hid ((S.set p (xb x y)).length = n8 + 16) := Lib.hid (by rw [List.length_set, HSL.out])
  have HQB : Hid (Byt (S.set p (xb x y))) := Lib.hid (bytE_set HSB.out p (xb_u _ _))
  have hc10 := O10.out.cap.1
  have RO10 := Lib.hid O10.out.rd
  generalize S.set p (xb x y) = Q at *
  clear K8 N8 R18 R28 S8 W8 B10 O8 O10
  go_wp2_with (first
    | ((with_reducible (show wpList _ _ _ (⟨some 105, .load _ _, _, _, _, _⟩ :: _) _ _)); refine wpList_loadV (o := ⟨some 105, .load _ _, _, _, _, _⟩) rfl _ rfl rfl (HL1.out _ K10.out) ?_)
    | ((with_reducible (show wpList _ _ _ (⟨some 106, .load _ _, _, _, _, _⟩ :: _) _ _)); refine wpList_loadV (o := ⟨some 106, .load _ _, _, _, _, _⟩) rfl _ rfl rfl (HL2.out _ N10.out) ?_))
  refine Calls.mono (gopen_long n1 c1 n8 c9 A1 (some ⟨g9, 0, none⟩) K nonce aad Q _ HK.out HN.out HNB.out H1.out HQL.out hc10 HA.out HQB.out (by omega) (by omega) R110.out RO10.out) ?_
  rw [HBD.out]
  rintro e w11 ⟨rfl, hb11⟩
  have K11 := Lib.hid (K10.out.belowAll hb11)
  have N11 := Lib.hid (N10.out.belowAll hb11)
  have R111 := Lib.hid ((R110.out.below hb11 (Nat.le_refl _)).mono hb11.size)
  have S11 := Lib.hid ((S10.out.below hb11 (Nat.le_refl _)).mono hb11.size)
  have W11 := Lib.hid (W10.out.trans (hb11.mono W10.out.size))
  clear hb11 K10 N10 R110 S10 W10 RO10 HQL HQB HBD HBAD
  by_cases hz : n1 = 0
  · have hzi : ((n1 : Int) == 0) = true := by simpa using hz
    go_wp2_with fail
    go_ret
    exact ⟨rfl, W11.out⟩
  have hzi : ((n1 : Int) == 0) = false := by simpa using hz
  have O0 : Hid (Own w11.heap.size 5 .u8 (w11.alloc (.cells #[] 5)) (some ⟨w11.heap.size, 0, none⟩) 0 0 []) := Lib.hid (Own.litAt rfl rfl rfl (Nat.le_refl _) (Nat.zero_le _))
  have B110 := Lib.hid ((Below.refl w11.heap.size w11).alloc (Nat.le_refl _) (.cells #[] 5))
  go_wp2_with (at_builtin; refine wpList_app (o := ⟨some 123, _, _, _, _, _⟩) elB8 rfl _ _ rfl rfl rfl O0.out (R111.out.below B110.out (Nat.le_refl _)) H1.out.symm ?_ ?_ ?_; (rw [H1.out]; simp <;> omega); (simp); intro A12 n12 c12 w12 q12; have O12 : Hid (Own w11.heap.size 5 .u8 w12 A12 n12 c12 aad) := Lib.hid q12.1; obtain rfl : n12 = n1 := (by rw [q12.1.len, List.nil_append, H1.out]); have B12 := Lib.hid (B110.out.trans q12.2.2.1); clear q12)
  clear O0 B110 hzi
  obtain ⟨g12, rfl, hg12, hg12'⟩ := O12.out.addr (by omega)
  obtain ⟨p2, hp2⟩ : ∃ p, q / 8 % n12 = p := ⟨_, rfl⟩
  have hpl2 : p2 < n12 := by rw [← hp2]; exact Nat.mod_lt _ (by omega)
  have e0 : (q : Int) / 8 % (n12 : Int) = (p2 : Int) := by rw [← hp2]; exact idx_of q n12
  obtain ⟨x2, hxx2⟩ : ∃ x, aad.getD p2 0 = x := ⟨_, rfl⟩
  have p1 : ∀ r : BW w12.heap.size w12, r.world.cell? ⟨g12, p2, none⟩ = some (.int .u8 x2) := fun r => by rw [← hxx2]; exact (O12.out.below r.below).cell0 (by rw [H1.out]; exact hpl2)
  have q1 : w12.cell? ⟨g12, p2, none⟩ = some (.int .u8 x2) := p1 ⟨w12, Below.refl _ _⟩
  have f1 := O12.out.frozen p2
  have hx := HA.out.getD p2
  rw [hxx2] at hx
  have HX2 := Lib.hid hx
  obtain ⟨hx20, hx21⟩ := hx
  have HOD : Hid (gopenL K nonce (aad.set p2 (xb x2 y)) S = none) := Lib.hid (HOTH.out p2 (xb x2 y) hpl2 (xb_u _ _) (by rw [hxx2]; exact xb_moves HX2.out HMK.out.1 HMK.out.2))
  clear hp2 hxx2
  go_wp2_with fail
  refine wp_region_mixOB w12.heap.size [([0, 1, 2, 3, 4, 5, 6, 7, 8, 9, 10, 11, 12], 13)] (by kernel_rfl) (by kernel_rfl) (by kernel_rfl) (by kernel_rfl) (by kernel_rfl) ?_
  try (rw [put_none])
  simp only [pickL, List.map_cons, List.map_nil, List.filterMap_cons, List.filterMap_nil, List.getElem?_cons_succ, List.getElem?_cons_zero]
  refine mixO_cons ?_
  repeat (show wpQuiet _ _ _ _ (_ :: _) _; go_big_quiet_step (fail))
  refine wpQuiet_nil ?_
  show wpList _ _ _ [_] _ _
  go_wp2_with fail
  refine MixO.last ?_
  refine mixO_nil ?_
  refine wpQuiet_nil ?_
  refine NoPanic.normal ?_
  rw [HY2.out]
  have O13 : Hid (Own w11.heap.size 5 .u8 (w12.setCell ⟨g12, p2, none⟩ (.int .u8 (bits .xor .u8 x2 y))).drew (some ⟨g12, 0, none⟩) n12 c12 (aad.set p2 (xb x2 y))) := Lib.hid (Own.drew (O12.out.set_ p2 _))
  have B13 : Hid (Below w11.heap.size w11 (w12.setCell ⟨g12, p2, none⟩ (.int .u8 (bits .xor .u8 x2 y))).drew) := Lib.hid ((B12.out.setCell (p := ⟨g12, p2, none⟩) hg12 _).drew)
  clear p1 q1 f1 O12 B12 hg12 hg12' e0
  generalize (w12.setCell ⟨g12, p2, none⟩ (.int .u8 (bits .xor .u8 x2 y))).drew = w13 at *
  have K13 := Lib.hid (K11.out.belowAll B13.out)
  have N13 := Lib.hid (N11.out.belowAll B13.out)
  have S13 := Lib.hid ((S11.out.below B13.out (Nat.le_refl _)).mono B13.out.size)
  have W13 := Lib.hid (W11.out.trans (B13.out.mono W11.out.size))
  have HQL : Hid ((aad.set p2 (xb x2 y)).length = n12) := Lib.hid (by rw [List.length_set, H1.out])
  have HQB : Hid (Byt (aad.set p2 (xb x2 y))) := Lib.hid (bytE_set HA.out p2 (xb_u _ _))
  have RO13 := Lib.hid O13.out.rd
  generalize aad.set p2 (xb x2 y) = Q2 at *
  clear K11 N11 R111 S11 W11 B13 O13
  go_wp2_with (first
    | ((with_reducible (show wpList _ _ _ (⟨some 138, .load _ _, _, _, _, _⟩ :: _) _ _)); refine wpList_loadV (o := ⟨some 138, .load _ _, _, _, _, _⟩) rfl _ rfl rfl (HL1.out _ K13.out) ?_)
    | ((with_reducible (show wpList _ _ _ (⟨some 139, .load _ _, _, _, _, _⟩ :: _) _ _)); refine wpList_loadV (o := ⟨some 139, .load _ _, _, _, _, _⟩) rfl _ rfl rfl (HL2.out _ N13.out) ?_))
  refine Calls.mono (gopen_long n12 c12 n8 c7 (some ⟨g12, 0, none⟩) A7 K nonce Q2 S _ HK.out HN.out HNB.out HQL.out HSL.out hc7 HQB.out HSB.out (by omega) (by omega) RO13.out S13.out) ?_
  rw [HOD.out]
  rintro e w14 ⟨rfl, hb14⟩
  have W14 := Lib.hid (W13.out.trans (hb14.mono W13.out.size))
  clear hb14
  go_wp2_with fail
  go_ret
  exact ⟨rfl, W14.out⟩
end Go.Proofs.Ytepkbllcaeceeaa
