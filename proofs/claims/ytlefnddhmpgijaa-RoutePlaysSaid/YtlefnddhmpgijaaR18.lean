/- Walk: the law RoutePlays. Conditions: as each theorem states them. -/
import Derived.Test.YtlefnddhmpgijaaR17
namespace Go.Proofs.Ytlefnddhmpgijaa
open Go.RowKit
set_option maxRecDepth 100000 in
set_option maxHeartbeats 8000000 in
theorem rplays_walk (A : Option Addr) (cap : Nat) (ds : List DoR) (w : World) (hA : IsDoRs w A ds) :
    Calls Try.prog 3 #[.slice A ds.length cap] w fun e w' => e = .returned (.bool true) ∧ Below w.heap.size w w' := by
  have HA := Lib.hid hA
  have hl := hA.1
  clear hA
  go_enter Try.func3, Try.ntmps3
  go_wp2_with fail
  refine (known29_any _).mono ?_
  rintro e w1 ⟨rfl, hb1⟩
  have B1 := Lib.hid hb1
  clear hb1
  go_wp2_with fail
  go_loopw [3, 30] (fun n i wr => ∃ (x : Nat) (k : Nat), k ≤ ds.length ∧ n = .int .i64 x ∧ i = .int .i64 k ∧ x ≤ 20000 ∧ Hid (x = lenT (ds.take k)) ∧ Hid (Below w.heap.size w wr)) (fun _ i _ => ds.length - (intOf i).toNat)
  case atStart => exact ⟨0, 0, by omega, rfl, rfl, by omega, Lib.hid rfl, B1⟩
  case round =>
    clear B1
    obtain ⟨x, k, hk, rfl, rfl, hx, HX, HB⟩ := hrel
    by_cases hlt : k < ds.length
    · obtain ⟨a, hA, d1, d2, d3, d4, d5⟩ := HA.out.2.2 k hlt
      have hfit := HA.out.fit hlt
      have HS := Lib.hid (lenT_snoc ds k hlt)
      generalize ds.getD k DoR.none = d at *
      obtain ⟨ep, ow, fr, dA, dc, b⟩ := d
      simp only [DoR.Fit] at d1 d2 d3 d4 hfit HS
      obtain ⟨q1, q2, q3, q4, q5, q6, q7, q8, q9⟩ := hfit
      have c1 := Below.cell_some HB.out d1 (cell_lt d1)
      have c2 := Below.cell_some HB.out d2 (cell_lt d2)
      have c3 := Below.cell_some HB.out d3 (cell_lt d3)
      have c4 := Below.cell_some HB.out d4 (cell_lt d4)
      subst hA
      clear d1 d2 d3 d4 d5 q7
      go_wp2_with fail
      · go_ret
        exact ⟨rfl, HB.out.alloc HB.out.size _⟩
      · go_roundw
        case rel => exact ⟨x + b.length, k + 1, by omega, by go_num, by go_num, by omega, Lib.hid (by rw [HS.out, HX.out]), Lib.hid (HB.out.alloc HB.out.size _)⟩
        case measure => simp [intOf]; omega
    · have hT : lenT ds ≤ 20000 := by
        have h3 := HX.out
        rw [List.take_of_length_le (by omega)] at h3
        omega
      have HT := Lib.hid hT
      clear hT
      by_cases hL : 200 < ds.length
      · go_wp2_with fail
        go_ret
        exact ⟨rfl, HB.out⟩
      · go_wp2_with fail
        refine (rnew_any _).mono ?_
        rintro e w2 ⟨rfl, ha2, hb2, hs2⟩
        obtain ⟨ga, hga⟩ : ∃ ga, wr.heap.size = ga := ⟨_, rfl⟩
        have hz1 := HB.out.size
        rw [hga] at ha2 hb2 hs2 hz1 ⊢
        have RA2 := Lib.hid ha2
        have B2 := Lib.hid (HB.out.trans (hb2.mono hz1))
        clear hga ha2 hb2
        go_wp2_with fail
        go_loopw [49] (fun i wr => ∃ (k : Nat) (e o : Int), k ≤ ds.length ∧ i = .int .i64 k ∧ Hid (o = 0 ∨ o = 1 ∨ o = 2) ∧ Hid (RtSt ga (decide (0 < o)) e o wr) ∧ Hid (Blk wr (ga + 1) 31 #[.int .u64 e, .int .u8 o]) ∧ Hid (Below w.heap.size w wr)) (fun i _ => ds.length - (intOf i).toNat)
        case atStart => exact ⟨0, 0, 0, by omega, rfl, Lib.hid (.inl rfl), Lib.hid (Blk.alloc RA2.out _), Lib.hid (by have h := Blk.new w2 31 #[.int .u64 0, .int .u8 0]; rw [hs2] at h; exact h), Lib.hid (B2.out.alloc B2.out.size _)⟩
        case round =>
          clear RA2 B2
          obtain ⟨k, e0, o, hk, rfl, HOC, HR1, HR2, HB⟩ := hrel
          by_cases hlt : k < ds.length
          · obtain ⟨a, hA, d1, d2, d3, d4, d5⟩ := HA.out.2.2 k hlt
            have hfit := HA.out.fit hlt
            have hbl := len_le hlt HT.out
            generalize ds.getD k DoR.none = d at *
            simp only [DoR.Fit] at hfit
            obtain ⟨q1, q2, q3, q4, q5, q6, q7, q8, q9⟩ := hfit
            have c1 := Below.cell_some HB.out d1 (cell_lt d1)
            have c2 := Below.cell_some HB.out d2 (cell_lt d2)
            have c3 := Below.cell_some HB.out d3 (cell_lt d3)
            have c4 := Below.cell_some HB.out d4 (cell_lt d4)
            have RD := Lib.hid d5
            have BY := Lib.hid q7
            subst hA
            have S0 : Hid (PlSt w ga (ga + 1) wr.heap.size (decide (0 < o)) e0 o d (wr.alloc (.cells #[.int .u64 d.ep, .int .u8 d.ow, .int .u8 d.fr, .slice d.A d.b.length d.c] 27))) :=
              Lib.hid ⟨Blk.alloc HR1.out _, Blk.alloc HR2.out _, Blk.new _ _ _, HB.out.alloc HB.out.size _⟩
            have hg9 : ga + 1 < wr.heap.size := Blk.lt HR2.out
            clear d1 d2 d3 d4 d5 q7
            have ho0 : 0 ≤ o := by have := HOC.out; omega
            obtain ⟨kk, hkk⟩ : ∃ kk, kk = decide (0 < o) := ⟨_, rfl⟩
            have HKK := Lib.hid hkk
            rw [← hkk] at S0
            have AS := Lib.hid (after_same (e := e0) (ep := d.ep) (ow := d.ow) hkk HOC.out)
            have RLK : lrnB (decide (0 < o)) e0 d.ep d.ow = lrnB kk e0 d.ep d.ow := by rw [hkk]
            have HLK := Lib.hid RLK
            clear hkk RLK HR1 HR2 HB
            go_wp2_with fail
            clear c1 c2 c3 c4
            refine (learn_u ga kk e0 o d.ep d.ow _ S0.out.rt).mono ?_
            rintro e v1 ⟨rfl, hr1, hg1⟩
            have hne1 : wr.heap.size ≠ ga := by omega
            have S1 : Hid (PlSt w ga (ga + 1) wr.heap.size (if lrnB kk e0 d.ep d.ow then true else kk) (if lrnB kk e0 d.ep d.ow then d.ep else e0) (if lrnB kk e0 d.ep d.ow then d.ow else o) d v1 ∨ True) := Lib.hid (.inr trivial)
            clear S1
            have D1 := Lib.hid (Blk.grown S0.out.dd hg1 (by simp; omega))
            have R1 := Lib.hid (Blk.grown S0.out.rr hg1 (by simp))
            have T1 := Lib.hid hr1
            have B1 : Hid (Below w.heap.size w v1) := Lib.hid (S0.out.bl.grown hg1 S0.out.bl.size (fun k e => by injection e with e; omega))
            clear hr1 hg1 S0
            have r0 : v1.cell? ⟨ga + 1, 0, none⟩ = some (.int .u64 e0) := by rw [Blk.cell R1.out]; rfl
            have r1 : v1.cell? ⟨ga + 1, 1, none⟩ = some (.int .u8 o) := by rw [Blk.cell R1.out]; rfl
            have t0 : v1.cell? ⟨wr.heap.size, 0, none⟩ = some (.int .u64 d.ep) := by rw [Blk.cell D1.out]; rfl
            have t1 : v1.cell? ⟨wr.heap.size, 1, none⟩ = some (.int .u8 d.ow) := by rw [Blk.cell D1.out]; rfl
            go_wp2_with fail
            clear r0 r1 t0 t1
            refine (rlearn_any e0 o d.ep d.ow v1 ho0 q3).mono ?_
            rintro e v2 ⟨rfl, hb2⟩
            rw [HLK.out]
            unfold rlV
            obtain ⟨as1, as2⟩ := AS.out
            have T2 := Lib.hid (RtSt.below T1.out hb2 T1.out.lt)
            generalize (if lrnB kk e0 d.ep d.ow = true then true else kk) = k1 at *
            generalize (if lrnB kk e0 d.ep d.ow = true then d.ep else e0) = e1 at *
            generalize (if lrnB kk e0 d.ep d.ow = true then d.ow else o) = o1 at *
            generalize lrnB kk e0 d.ep d.ow = xl at *
            have R2 := Lib.hid (R1.out.below hb2 (Blk.lt R1.out))
            have D2 := Lib.hid (D1.out.below hb2 (Blk.lt D1.out))
            have B2 := Lib.hid (B1.out.trans (hb2.mono B1.out.size))
            have K1 := Lib.hid as1
            have K2 := Lib.hid as2
            clear AS as1 as2 hb2 R1 D1 B1 T1
            have gfr := two_frozen (Blk.alloc R2.out (.cells #[.int .u64 e1, .int .u8 o1] 31))
            obtain ⟨gf0, gf1⟩ := gfr
            have gc0 : (v2.alloc (.cells #[.int .u64 e1, .int .u8 o1] 31)).cell? ⟨ga + 1, 0, none⟩ = some (.int .u64 e0) := by rw [Blk.cell (Blk.alloc R2.out _)]; rfl
            have gc1 : (v2.alloc (.cells #[.int .u64 e1, .int .u8 o1] 31)).cell? ⟨ga + 1, 1, none⟩ = some (.int .u8 o) := by rw [Blk.cell (Blk.alloc R2.out _)]; rfl
            have S3 := Lib.hid (plSt_store (d := d) B2.out T2.out R2.out D2.out hg9 hz1 (.cells #[.int .u64 e1, .int .u8 o1] 31))
            have hz3 : wr.heap.size < v2.heap.size + 1 := by simpa using S3.out.size.2.2.2
            have d3' : ((((v2.alloc (.cells #[.int .u64 e1, .int .u8 o1] 31)).setCell ⟨ga + 1, 0, none⟩ (.int .u64 e1)).setCell ⟨ga + 1, 1, none⟩ (.int .u8 o1)).alloc (.cells #[] 5)).cell? ⟨wr.heap.size, 3, none⟩ = some (.slice d.A d.b.length d.c) := (S3.out.alloc _).dcells.2.2.2
            have RD2 := Lib.hid ((RD.out.below S3.out.bl (Nat.le_refl _)).alloc S3.out.bl.size (.cells #[] 5))
            clear R2 D2 B2 T2
            go_wp2_with (at_builtin; refine wpList_app (o := ⟨some 72, _, _, _, _, _⟩) (B := v2.heap.size + 1) elU8 rfl _ _ rfl rfl rfl (Own.litAt (xs := []) (by simp) rfl rfl (by simp) (by simp)) RD2.out rfl ?_ ?_ ?_; (simp only [List.length_nil]; omega); (simp); intro A9 n9 c9 v4 h4; have O4 := Lib.hid (Own.cast h4.1 (List.nil_append _)); have S4 := Lib.hid (S3.out.below ((((Below.refl (v2.heap.size + 1) _).alloc (by simp) _).trans h4.2.2.1).mono (by simp))); clear h4 d3' RD2 S3)
            have hz4 := S4.out.size
            obtain rfl := O4.out.len
            refine (id_u ga 5 6 A9 c9 d.b _ (O4.out.alloc _).rd BY.out O4.out.cap.1 (by omega)).mono ?_
            rintro e v6 ⟨A6, n6, c6, rfl, hr6, hn6, hb6, hf6⟩
            have S6 := Lib.hid ((S4.out.alloc _).below hb6)
            have O6 := Lib.hid ((O4.out.alloc _).below hb6)
            have G6 := Lib.hid (Blk.below (Blk.new v4 37 #[.int .u32 5, .int .u32 6, .slice A9 d.b.length c9]) hb6 (by simp))
            have R6 := Lib.hid hr6
            have N6 := Lib.hid hn6
            have F6 : Hid (∀ ad ad' : Addr, A9 = some ad → A6 = some ad' → ad'.block ≠ ad.block) := Lib.hid (fun ad ad' h1 h2 => by have e1 := (O4.out.block ad h1).2; have e2 := hf6 ad' h2; simp at e2; omega)
            have U9 : Hid (∀ ad : Addr, A9 = some ad → ad.block < v6.heap.size) := Lib.hid (fun ad h1 => (O6.out.block ad h1).2)
            have hz6 : v4.heap.size < v6.heap.size := by have := hb6.size; simp at this; omega
            clear hr6 hn6 hb6 hf6 S4 O4
            generalize v4.heap.size = g13 at *
            obtain ⟨-, -, -, t3⟩ := S6.out.dcells
            go_wp2_with fail
            clear t3
            refine (rsplit_any d.A d.c d.b v6 ((RD.out.below S6.out.bl (Nat.le_refl _)).mono S6.out.bl.size) BY.out (by omega) q8).mono ?_
            rintro e v7 ⟨sp, at_, fin, A1, As, At, n1, c1, ns, cs, nt, ct, rfl, hr7, hn7, hb7, hf7⟩
            have S7 := Lib.hid ((S6.out.below hb7).alloc (.cells #[.int .u8 sp, .slice A1 n1 c1, .slice As ns cs, .slice At nt ct, .int .i64 at_, .int .i64 fin] 41))
            have O7 := Lib.hid ((O6.out.below hb7).alloc (.cells #[.int .u8 sp, .slice A1 n1 c1, .slice As ns cs, .slice At nt ct, .int .i64 at_, .int .i64 fin] 41))
            have G7 := Lib.hid (Blk.alloc (Blk.below G6.out hb7 hz6) (.cells #[.int .u8 sp, .slice A1 n1 c1, .slice As ns cs, .slice At nt ct, .int .i64 at_, .int .i64 fin] 41))
            have P7 := Lib.hid (Blk.new v7 41 #[.int .u8 sp, .slice A1 n1 c1, .slice As ns cs, .slice At nt ct, .int .i64 at_, .int .i64 fin])
            have hz7 := hb7.size
            have R6' := Lib.hid (((R6.out.below hb7 (Nat.le_refl _)).mono hz7).alloc (Nat.le_refl _) (.cells #[.int .u8 sp, .slice A1 n1 c1, .slice As ns cs, .slice At nt ct, .int .i64 at_, .int .i64 fin] 41))
            have R7 := Lib.hid (hr7.alloc (Nat.le_refl _) (.cells #[.int .u8 sp, .slice A1 n1 c1, .slice As ns cs, .slice At nt ct, .int .i64 at_, .int .i64 fin] 41))
            have N7 := Lib.hid hn7
            have F7 : Hid (∀ ad ad' : Addr, A9 = some ad → A1 = some ad' → ad'.block ≠ ad.block) := Lib.hid (fun ad ad' h1 h2 => by have e1 := U9.out ad h1; have e2 := hf7 ad' h2; omega)
            clear hr7 hn7 hb7 hf7 S6 O6 G6 R6
            obtain ⟨m0, m1, m2⟩ := dg_facts G7.out
            go_wp2_with fail
            clear m0 m1 m2
            have hzx : v7.heap.size ≤ (v7.alloc (.cells #[.int .u8 sp, .slice A1 n1 c1, .slice As ns cs, .slice At nt ct, .int .i64 at_, .int .i64 fin] 41)).heap.size := by simp
            have X7 := R6'
            have Y7 := R7
            clear R6' R7
            generalize v7.alloc (.cells #[.int .u8 sp, .slice A1 n1 c1, .slice As ns cs, .slice At nt ct, .int .i64 at_, .int .i64 fin] 41) = va at *
            generalize v7.heap.size = g16 at *
            obtain ⟨ks1, ks2⟩ := known_same K1.out K2.out
            have E1 : ((splitL d.b 8).isSome && k1 && procB o1) = ((splitL d.b 8).isSome && (o1 != 0)) := by rw [Bool.and_assoc, ks1]
            have E2 : ((splitL d.b 8).isSome && k1 && (procB d.fr && (d.fr != o1))) = ((splitL d.b 8).isSome && (o1 != 0) && (procB d.fr && (d.fr != o1))) := by rw [ks2]
            have TO := Lib.hid (to_some ga k1 e1 o1 5 6 A9 c9 d.b va S7.out.rt O7.out.rd BY.out O7.out.cap.1 (by omega))
            rw [E1] at TO
            have RTO := Lib.hid (fun (W : World) (h : Rd W.heap.size .u8 W d.A d.b) => rto_any e1 o1 d.A d.c d.b W h BY.out (by omega) q8)
            have FWD := Lib.hid (fun (W : World) (h1 : RtSt ga k1 e1 o1 W) (h2 : Rd W.heap.size .u8 W A9 d.b) => fwd_some ga k1 e1 o1 d.fr 5 6 A9 c9 d.b W h1 h2 BY.out O7.out.cap.1 (by omega))
            rw [E2] at FWD
            have RFW := Lib.hid (fun (W : World) (h : Rd W.heap.size .u8 W d.A d.b) => rfwd_any e1 o1 d.fr d.A d.c d.b W q5 h BY.out (by omega) q8)
            clear ks1 ks2 E1 E2
            unfold toV at TO RTO FWD RFW
            generalize ((splitL d.b 8).isSome && (o1 != 0) && (procB d.fr && (d.fr != o1))) = x9 at TO RTO FWD RFW
            generalize ((splitL d.b 8).isSome && (o1 != 0)) = x8 at TO RTO FWD RFW
            generalize (if x9 = true then o1 else 0) = y9 at TO RTO FWD RFW
            generalize (if x8 = true then o1 else 0) = y8 at TO RTO FWD RFW
            generalize (splitL d.b 8).isSome = xs at *
            refine TO.out.mono ?_
            clear TO
            rintro e v8 ⟨rfl, hb8⟩
            have S8 := Lib.hid (S7.out.below hb8)
            have O8 := Lib.hid (O7.out.below hb8)
            have G8 := Lib.hid (Blk.below G7.out hb8 (Blk.lt G7.out))
            have P8 := Lib.hid (Blk.below P7.out hb8 (Blk.lt P7.out))
            have X8 := Lib.hid (X7.out.below hb8 hzx)
            have Y8 := Lib.hid (Y7.out.below hb8 hzx)
            replace hzx := Nat.le_trans hzx hb8.size
            clear hb8 S7 O7 G7 P7 X7 Y7
            obtain ⟨-, -, t2, -⟩ := S8.out.dcells
            obtain ⟨m0, m1, m2⟩ := dg_facts G8.out
            go_wp2_with fail
            clear m0 m1 m2 t2
            refine (FWD.out v8 S8.out.rt O8.out.rd).mono ?_
            clear FWD
            rintro e v9 ⟨rfl, hb9⟩
            have S9 := Lib.hid (S8.out.below hb9)
            have O9 := Lib.hid (O8.out.below hb9)
            have G9 := Lib.hid (Blk.below G8.out hb9 (Blk.lt G8.out))
            have P9 := Lib.hid (Blk.below P8.out hb9 (Blk.lt P8.out))
            have X9 := Lib.hid (X8.out.below hb9 hzx)
            have Y9 := Lib.hid (Y8.out.below hb9 hzx)
            replace hzx := Nat.le_trans hzx hb9.size
            clear hb9 S8 O8 G8 P8 X8 Y8
            obtain ⟨v10, run10, hg10⟩ := clear_own elU8 O9.out
            have S10 := Lib.hid (S9.out.cleared O9.out hg10 (by omega) (by omega) (by omega) (by omega))
            have P10 := Lib.hid (blk_cleared P9.out O9.out hg10 (fun ad h => by have := U9.out ad h; omega))
            have X10 := Lib.hid (rd_cleared X9.out hg10 hzx F6.out)
            have Y10 := Lib.hid (rd_cleared Y9.out hg10 hzx F7.out)
            clear hg10
            obtain ⟨-, -, m2⟩ := dg_facts G9.out
            obtain ⟨-, -, -, t3⟩ := S10.out.dcells
            obtain ⟨u0, u1⟩ := S10.out.rcells
            go_wp2_with fail
            clear m2 run10 t3 u0 u1 G9 O9 X9 Y9 P9 S9
            refine (RTO.out v10 ((RD.out.below S10.out.bl (Nat.le_refl _)).mono S10.out.bl.size)).mono ?_
            clear RTO
            rintro e v11 ⟨rfl, hb11⟩
            replace hzx := Nat.le_refl v10.heap.size
            have S11 := Lib.hid (S10.out.below hb11)
            have P11 := Lib.hid (Blk.below P10.out hb11 (Blk.lt P10.out))
            have X11 := Lib.hid (X10.out.below hb11 hzx)
            have Y11 := Lib.hid (Y10.out.below hb11 hzx)
            replace hzx := Nat.le_trans hzx hb11.size
            clear hb11 S10 P10 X10 Y10
            obtain ⟨-, -, t2, t3⟩ := S11.out.dcells
            obtain ⟨u0, u1⟩ := S11.out.rcells
            go_wp2_with fail
            clear t2 t3 u0 u1
            refine (RFW.out v11 ((RD.out.below S11.out.bl (Nat.le_refl _)).mono S11.out.bl.size)).mono ?_
            clear RFW
            rintro e v12 ⟨rfl, hb12⟩
            have S12 := Lib.hid (S11.out.below hb12)
            have P12 := Lib.hid (Blk.below P11.out hb12 (Blk.lt P11.out))
            have X12 := Lib.hid (X11.out.below hb12 hzx)
            have Y12 := Lib.hid (Y11.out.below hb12 hzx)
            replace hzx := Nat.le_trans hzx hb12.size
            clear hb12 S11 P11 X11 Y11
            have C6 : ∀ r : BW v12.heap.size v12, (convert 25 9 (.slice A6 n6 c6)).run Try.prog r.world = .ok (.string (strOfNums (splD d.b))) r.world := fun r => conv_n elU8 Try.underlying9 (X12.out.below r.below hzx) n6 c6 N6.out
            have C1 : ∀ r : BW v12.heap.size v12, (convert 25 9 (.slice A1 n1 c1)).run Try.prog r.world = .ok (.string (strOfNums (splD d.b))) r.world := fun r => conv_n elU8 Try.underlying9 (Y12.out.below r.below hzx) n1 c1 N7.out
            have p1 : ∀ r : BW v12.heap.size v12, r.world.cell? ⟨g16, 1, none⟩ = some (.slice A1 n1 c1) := fun r => (six_facts (Blk.below P12.out r.below (Blk.lt P12.out))).2.1
            have u0 : ∀ r : BW v12.heap.size v12, r.world.cell? ⟨ga + 1, 0, none⟩ = some (.int .u64 e1) := fun r => (S12.out.below r.below).rcells.1
            have u1 : ∀ r : BW v12.heap.size v12, r.world.cell? ⟨ga + 1, 1, none⟩ = some (.int .u8 o1) := fun r => (S12.out.below r.below).rcells.2
            go_wp2_with fail
            refine wp_region_mix_below v12.heap.size [([0, 1, 2, 3, 4, 6, 7], 5), ([8, 9, 10, 11, 13, 14], 12)] [15, 16, 17, 18, 19, 20, 21, 22, 23, 24, 25, 26, 27, 28, 29, 30, 31, 32, 33, 34, 35, 36, 37, 38, 39, 40, 41, 42, 43, 44, 45, 46, 47, 48, 49] (by kernel_rfl) (by kernel_rfl) (by kernel_rfl) (by kernel_rfl) ?_
            simp only [pickL, List.map_cons, List.map_nil, List.filterMap_cons, List.filterMap_nil, List.getElem?_cons_succ, List.getElem?_cons_zero]
            refine mixS_cons ?_
            repeat (show wpQuiet _ _ _ _ (_ :: _) _; go_big_quiet_step (fail))
            refine wpQuiet_nil ?_
            show wpList _ _ _ [_] _ _
            go_wp2_with (go_at_call 18; refine (owner_some ga k1 e1 o1 _ S12.out.drew.rt).mono ?_; rintro e w99 ⟨rfl, rfl⟩)
            refine MixQ.below (Below.drew (Below.refl _ _)) ?_
            refine mixS_cons ?_
            repeat (show wpQuiet _ _ _ _ (_ :: _) _; go_big_quiet_step (fail))
            refine wpQuiet_nil ?_
            show wpList _ _ _ [_] _ _
            go_wp2_with (go_at_call 19; refine (epoch_some ga k1 e1 o1 _ S12.out.drew.rt).mono ?_; rintro e w99 ⟨rfl, rfl⟩)
            refine MixQ.below (Below.drew (Below.refl _ _)) ?_
            refine mixS_nil ?_
            repeat (show wpQuiet _ _ _ _ (_ :: _) _; go_big_quiet_step (fail))
            refine wpQuiet_nil ?_
            refine NoPanic.normal ?_
            clear C6 C1 p1 u0 u1
            go_wp2_with fail
            refine ⟨⟨k + 1, e1, o1, by omega, by go_num, K2, Lib.hid (by rw [← K1.out]; exact S12.out.rt), Lib.hid S12.out.rr, Lib.hid S12.out.bl.drew⟩, ?_⟩
            simp [intOf]
            omega
          · go_wp2_with fail
            go_ret
            exact ⟨rfl, HB.out⟩
end Go.Proofs.Ytlefnddhmpgijaa
