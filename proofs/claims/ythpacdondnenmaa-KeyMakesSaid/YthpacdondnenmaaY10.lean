/- The law KeyMakes, walked. Conditions: as each theorem states them. -/
import Derived.Test.YthpacdondnenmaaY9
namespace Go.Proofs.Ythpacdondnenmaa
open Go.RowKit
theorem eql_tok {T : List Int} (hT : T.length = 16) (hb : Byt T) (w : World) : (binOp .eql 55 (.agg (cellsL .u8 T)) (.agg (cellsL .u8 T))).run Try.prog w = .ok (.bool true) w := by
  rw [eql_bytes Try.underlying55 Try.underlying5 elU8.size hb hb hT.symm hT.symm]; simp
theorem ofV_eq (S : List Int) : ofV S = kyV S (kKey S) (kIv S) (kHp S) 0 := rfl
set_option maxRecDepth 100000 in
set_option maxHeartbeats 8000000 in
theorem makes_walk (S : List Int) (A : Option Addr) (c : Nat) (C : List Int) (ph : Int) (w : World) (hS : S.length = 32) (hSb : Byt S) (hr : Rd w.heap.size .u8 w A C) (hb : Byt C) (hcap : C.length ≤ c) (hl : C.length ≤ 140737488351232) (hp : 0 ≤ ph ∧ ph < 18446744073709551616) :
    Calls Try.prog 5 #[.agg (cellsL .u8 S), .slice A C.length c, .int .u64 ph] w fun e w' => e = .returned (.bool true) ∧ Below w.heap.size w w' := by
  have HR := Lib.hid hr
  have HBY := Lib.hid hb
  have HS := Lib.hid hS
  have HSB := Lib.hid hSb
  have HZ := Lib.hid zeroKeys
  have HP := Lib.hid hp
  have HC := Lib.hid hcap
  obtain ⟨hp0, hp1⟩ := hp
  clear hr hb hS hSb hcap
  by_cases h300 : 300 < C.length
  · go_enter Try.func5, Try.ntmps5
    go_wp2_with fail
    refine Calls.mono (known10_any _) ?_
    rintro e w1 ⟨rfl, hb1⟩
    have B1 := Lib.hid (((Below.refl _ _).alloc (Nat.le_refl _) _).trans (hb1.mono (by simp)))
    clear hb1
    go_wp2_with fail
    go_ret
    exact ⟨rfl, B1.out⟩
  · have hl3 : C.length ≤ 300 := by omega
    go_enter Try.func5, Try.ntmps5
    go_wp2_with fail
    refine Calls.mono (known10_any _) ?_
    rintro e w1 ⟨rfl, hb1⟩
    have B1 := Lib.hid (((Below.refl _ _).alloc (Nat.le_refl _) _).trans (hb1.mono (by simp)))
    have A1 := Lib.hid ((Arr.newAt (t := 22) (w := w) (cs := cellsL .u8 S) rfl rfl).below hb1 (by simp))
    clear hb1
    have hg3 : w.heap.size < w1.heap.size := A1.out.lt
    go_wp2_with ((with_reducible (show wpList _ _ _ (⟨some 16, .load _ _, _, _, _, _⟩ :: _) _ _)); refine wpList_loadV (o := ⟨some 16, .load _ _, _, _, _, _⟩) rfl _ rfl rfl (arr_load A1.out Try.underlying22 size32 HS.out.symm) ?_)
    refine Calls.mono (of_any S _ HS.out HSB.out) ?_
    rintro e w2 ⟨rfl, hb2⟩
    have HO := Lib.hid (ofOk HS.out HSB.out)
    have B2 := Lib.hid (B1.out.trans (hb2.mono (Nat.le_of_lt hg3)))
    have A2 := Lib.hid (A1.out.belowAll hb2)
    have E0 := Lib.hid (ofV_eq S)
    have NX : Hid (∀ W, Calls Try.prog 12 #[kyV S (kKey S) (kIv S) (kHp S) ph] W (RetV (nextV S (kHp S) ph) W)) := Lib.hid (fun W => next_any S _ _ _ ph W HO.out HP.out)
    have RNX : Hid (∀ W, Calls Try.prog 20 #[kyV S (kKey S) (kIv S) (kHp S) ph] W (RetV (nextV S (kHp S) ph) W)) := Lib.hid (fun W => rnext_any S _ _ _ ph W HO.out HP.out)
    have ROF : Hid (∀ W, Calls Try.prog 19 #[.agg (cellsL .u8 S)] W (RetV (ofV S) W)) := Lib.hid (fun W => rof_any S W HS.out HSB.out)
    have Q0 : ∀ W, (binOp .eql 27 (ofV S) (ofV S)).run Try.prog W = .ok (.bool true) W := fun W => eql_keys HO.out W
    have Q1 : ∀ W, (binOp .eql 27 (nextV S (kHp S) ph) (nextV S (kHp S) ph)).run Try.prog W = .ok (.bool true) W := fun W => eql_keys (ofNext HO.out.h HO.out.bh) W
    obtain ⟨w3, hs3, hk3, hgr3⟩ := ky_store (p := 0) HO.out (Blk.new w2 27 Try.zeroCells27) HZ.out
    have S3 := Lib.hid hs3
    have L3 := Lib.hid (ky_load HO.out hk3)
    have K3 := Lib.hid hk3
    rw [← E0.out] at S3 L3
    have B3 := Lib.hid (B2.out.trans ((((Below.refl w2.heap.size w2).alloc (Nat.le_refl _) _).trans (below_of_only hgr3 (Nat.le_refl _) (by simp))).mono B2.out.size))
    have hb32 : Below w2.heap.size w2 w3 := (((Below.refl w2.heap.size w2).alloc (Nat.le_refl _) _).trans (below_of_only hgr3 (Nat.le_refl _) (by simp)))
    have A3 := Lib.hid (A2.out.belowAll hb32)
    have hg7 : w2.heap.size < w3.heap.size := Blk.lt hk3
    obtain ⟨w4, hs4, hk4, hgr4⟩ := ky_store (p := 0) HO.out (Blk.new w3 27 Try.zeroCells27) HZ.out
    have S4 := Lib.hid hs4
    rw [← E0.out] at S4
    have hb43 : Below w3.heap.size w3 w4 := (((Below.refl w3.heap.size w3).alloc (Nat.le_refl _) _).trans (below_of_only hgr4 (Nat.le_refl _) (by simp)))
    have c4 := ky_cell76 HO.out hk4
    have f4 := ky_frozen hk4 76
    have K5 := Lib.hid (ky_setp HO.out hk4 ph)
    have B43 := Lib.hid (hb43.setCell (p := ⟨w3.heap.size, 76, none⟩) (Nat.le_refl _) (.int .u64 ph))
    have hg8 : w3.heap.size < w4.heap.size := Blk.lt hk4
    clear hb2 hs3 hk3 hgr3 hb32 hs4 hk4 hgr4 hb43
    have E1 : ∃ a1, nextV S (kHp S) ph = Value.agg a1 := ⟨_, rfl⟩
    generalize nextV S (kHp S) ph = V1 at *
    obtain ⟨a1, rfl⟩ := E1
    have E0' : ∃ a0, ofV S = Value.agg a0 := ⟨_, rfl⟩
    generalize ofV S = V0 at *
    obtain ⟨a0, rfl⟩ := E0'
    go_wp2_with (first
      | ((with_reducible (show wpList _ _ _ (⟨none, .store 27 _ _, _, _, _, _⟩ :: _) _ _)); refine wpList_storeV (o := ⟨none, .store 27 _ _, _, _, _, _⟩) rfl _ _ rfl rfl rfl S3.out ?_)
      | ((with_reducible (show wpList _ _ _ (⟨some 18, .load _ _, _, _, _, _⟩ :: _) _ _)); refine wpList_loadV (o := ⟨some 18, .load _ _, _, _, _, _⟩) rfl _ rfl rfl (L3.out) ?_)
      | ((with_reducible (show wpList _ _ _ (⟨none, .store 27 _ _, _, _, _, _⟩ :: _) _ _)); refine wpList_storeV (o := ⟨none, .store 27 _ _, _, _, _, _⟩) rfl _ _ rfl rfl rfl S4.out ?_))
    have hz5 : w4.heap.size = (w4.setCell ⟨w3.heap.size, 76, none⟩ (.int .u64 ph)).heap.size := by simp
    clear c4 f4
    generalize w4.setCell ⟨w3.heap.size, 76, none⟩ (.int .u64 ph) = w5 at *
    have B5 := Lib.hid (B3.out.trans (B43.out.mono B3.out.size))
    have R5 := Lib.hid ((HR.out.below B5.out (Nat.le_refl _)).mono B5.out.size)
    have A5 := Lib.hid (A3.out.belowAll B43.out)
    have K7 := Lib.hid (Blk.below K3.out B43.out hg7)
    refine Calls.mono (initial_any A c C _ rfl R5.out HBY.out HC.out (by omega)) ?_
    rintro e w6 ⟨rfl, hb6⟩
    have B6 := Lib.hid (B5.out.trans (hb6.mono B5.out.size))
    have A6 := Lib.hid (A5.out.belowAll hb6)
    have K76 := Lib.hid (Blk.below K7.out hb6 (Blk.lt K7.out))
    have K56 := Lib.hid (Blk.below K5.out hb6 (Blk.lt K5.out))
    have HX := Lib.hid (macL_len saltL C)
    have HXB := Lib.hid (macL_byt saltL C)
    have K1o := Lib.hid (ofOk (kSec_len (macL saltL C) (s := sCl) (by decide)) (kSec_byt (macL saltL C) sCl))
    have K2o := Lib.hid (ofOk (kSec_len (macL saltL C) (s := sSe) (by decide)) (kSec_byt (macL saltL C) sSe))
    have V2e : Hid (iniV C sCl = kyV (kSec (macL saltL C) sCl) (kKey (kSec (macL saltL C) sCl)) (kIv (kSec (macL saltL C) sCl)) (kHp (kSec (macL saltL C) sCl)) 0) := Lib.hid rfl
    have V3e : Hid (iniV C sSe = kyV (kSec (macL saltL C) sSe) (kKey (kSec (macL saltL C) sSe)) (kIv (kSec (macL saltL C) sSe)) (kHp (kSec (macL saltL C) sSe)) 0) := Lib.hid rfl
    have Q2 : ∀ W, (binOp .eql 27 (iniV C sCl) (iniV C sCl)).run Try.prog W = .ok (.bool true) W := fun W => eql_keys K1o.out W
    have Q3 : ∀ W, (binOp .eql 27 (iniV C sSe) (iniV C sSe)).run Try.prog W = .ok (.bool true) W := fun W => eql_keys K2o.out W
    have RI0 : Hid (∀ W, Below w6.heap.size w6 W → Calls Try.prog 21 #[.slice A C.length c, .int .i64 0] W (RetV (iniV C sCl) W)) := Lib.hid (fun W hW => rinitial_any 0 (.inl rfl) A c C W rfl ((HR.out.below (B6.out.trans (hW.mono B6.out.size)) (Nat.le_refl _)).mono (Nat.le_trans B6.out.size hW.size)) HBY.out (by omega))
    have RI1 : Hid (∀ W, Below w6.heap.size w6 W → Calls Try.prog 21 #[.slice A C.length c, .int .i64 1] W (RetV (iniV C sSe) W)) := Lib.hid (fun W hW => rinitial_any 1 (.inr rfl) A c C W rfl ((HR.out.below (B6.out.trans (hW.mono B6.out.size)) (Nat.le_refl _)).mono (Nat.le_trans B6.out.size hW.size)) HBY.out (by omega))
    have TK : Hid (∀ W, Below w6.heap.size w6 W → Calls Try.prog 22 #[.agg (cellsL .u8 S), .slice A C.length c] W (RetV (.agg (cellsL .u8 (tkkL S C))) W)) := Lib.hid (fun W hW => token_any S A c C W HS.out HSB.out ((HR.out.below (B6.out.trans (hW.mono B6.out.size)) (Nat.le_refl _)).mono (Nat.le_trans B6.out.size hW.size)) HBY.out HC.out (by omega))
    have RTK : Hid (∀ W, Below w6.heap.size w6 W → Calls Try.prog 23 #[.agg (cellsL .u8 S), .slice A C.length c] W (RetV (.agg (cellsL .u8 (tkkL S C))) W)) := Lib.hid (fun W hW => rtoken_any S A c C W rfl HS.out HSB.out ((HR.out.below (B6.out.trans (hW.mono B6.out.size)) (Nat.le_refl _)).mono (Nat.le_trans B6.out.size hW.size)) HBY.out (by omega))
    have Q4 : ∀ W, (binOp .eql 55 (.agg (cellsL .u8 (tkkL S C))) (.agg (cellsL .u8 (tkkL S C)))).run Try.prog W = .ok (.bool true) W := fun W => eql_tok (tkkL_len S C) (tkkL_byt S C) W
    have ZA : Hid (Blk ((w6.alloc (.cells Try.zeroCells27 27)).alloc (.cells Try.zeroCells27 27)) w6.heap.size 27 Try.zeroCells27) := Lib.hid ((Blk.new _ _ _).alloc _)
    have ZB : Hid (Blk ((w6.alloc (.cells Try.zeroCells27 27)).alloc (.cells Try.zeroCells27 27)) (w6.heap.size + 1) 27 Try.zeroCells27) := Lib.hid (blk_new_at (by simp))
    obtain ⟨w7, hs7, hk7, hgr7⟩ := ky_store (p := 0) K1o.out ZA.out HZ.out
    have S7 := Lib.hid hs7
    rw [← V2e.out] at S7
    have Z7 := Lib.hid (Blk.grown ZB.out hgr7 (by simp))
    obtain ⟨w8, hs8, hk8, hgr8⟩ := ky_store (p := 0) K2o.out Z7.out HZ.out
    have S8 := Lib.hid hs8
    rw [← V3e.out] at S8
    have KC := Lib.hid (Blk.grown hk7 hgr8 (by simp))
    have KS := Lib.hid hk8
    have B86 : Hid (Below w6.heap.size w6 w8) := Lib.hid ((((((Below.refl w6.heap.size w6).alloc (Nat.le_refl _) _).alloc (by simp) _)).trans (below_of_only hgr7 (Nat.le_refl _) (by simp <;> omega))).trans (below_of_only hgr8 (Nat.le_succ _) (by have := hgr7.size; simp at this; omega)))
    have B8 := Lib.hid (B6.out.trans (B86.out.mono B6.out.size))
    have hz8 := B86.out.size
    have hKC := Blk.lt hk7
    have L7 : Hid (∀ r : BW w8.heap.size w8, (Instr.loadAt 27 (.pointer (some ⟨w2.heap.size, 0, none⟩))).run Try.prog r.world = .ok (.agg a0) r.world) := Lib.hid (fun r => by
      have hk := Blk.below K76.out B86.out (Blk.lt K76.out)
      have := ky_load HO.out (Blk.below hk r.below (Blk.lt hk))
      rwa [← E0.out] at this)
    have L8 : Hid (∀ r : BW w8.heap.size w8, (Instr.loadAt 27 (.pointer (some ⟨w3.heap.size, 0, none⟩))).run Try.prog r.world = .ok (kyV S (kKey S) (kIv S) (kHp S) ph) r.world) := Lib.hid (fun r => by
      have hk := Blk.below K56.out B86.out (Blk.lt K56.out)
      exact ky_load HO.out (Blk.below hk r.below (Blk.lt hk)))
    have L9 : Hid (∀ r : BW w8.heap.size w8, (Instr.loadAt 27 (.pointer (some ⟨w6.heap.size, 0, none⟩))).run Try.prog r.world = .ok (iniV C sCl) r.world) := Lib.hid (fun r => by
      have := ky_load K1o.out (Blk.below KC.out r.below (Blk.lt KC.out))
      rwa [← V2e.out] at this)
    have L10 : Hid (∀ r : BW w8.heap.size w8, (Instr.loadAt 27 (.pointer (some ⟨w6.heap.size + 1, 0, none⟩))).run Try.prog r.world = .ok (iniV C sSe) r.world) := Lib.hid (fun r => by
      have := ky_load K2o.out (Blk.below KS.out r.below (Blk.lt KS.out))
      rwa [← V3e.out] at this)
    have L3' : Hid (∀ r : BW w8.heap.size w8, (Instr.loadAt 22 (.pointer (some ⟨w.heap.size, 0, none⟩))).run Try.prog r.world = .ok (.agg (cellsL .u8 S)) r.world) := Lib.hid (fun r => by
      have hk := A6.out.below B86.out A6.out.lt
      exact arr_load (hk.below r.below hk.lt) Try.underlying22 size32 HS.out.symm)
    clear hb6 hs7 hk7 hgr7 hs8 hk8 hgr8 hKC ZA ZB Z7 KC KS V2e V3e K1o K2o HX HXB
    generalize kyV S (kKey S) (kIv S) (kHp S) ph = VO at *
    have E2 : ∃ a2, iniV C sCl = Value.agg a2 := ⟨_, rfl⟩
    have E3 : ∃ a3, iniV C sSe = Value.agg a3 := ⟨_, rfl⟩
    generalize iniV C sCl = V2 at *
    generalize iniV C sSe = V3 at *
    obtain ⟨a2, rfl⟩ := E2
    obtain ⟨a3, rfl⟩ := E3
    generalize tkkL S C = T at *
    go_wp2_with (first
      | ((with_reducible (show wpList _ _ _ (⟨none, .store 27 _ _, _, _, _, _⟩ :: _) _ _)); refine wpList_storeV (o := ⟨none, .store 27 _ _, _, _, _, _⟩) rfl _ _ rfl rfl rfl S7.out ?_)
      | ((with_reducible (show wpList _ _ _ (⟨none, .store 27 _ _, _, _, _, _⟩ :: _) _ _)); refine wpList_storeV (o := ⟨none, .store 27 _ _, _, _, _, _⟩) rfl _ _ rfl rfl rfl S8.out ?_))
    refine wp_region_mix_below w8.heap.size [([0, 1], 2), ([3, 4, 5, 7], 6), ([], 8), ([9, 10, 11, 12, 13], 14), ([15, 16, 17, 18, 19], 20), ([21, 22, 23, 24, 25, 27, 28], 26), ([], 29)] [30, 31, 32] (by kernel_rfl) (by kernel_rfl) (by kernel_rfl) (by kernel_rfl) ?_
    simp only [pickL, List.map_cons, List.map_nil, List.filterMap_cons, List.filterMap_nil, List.getElem?_cons_succ, List.getElem?_cons_zero]
    refine mixS_cons ?_
    show wpQuiet _ _ _ _ (_ :: _) _
    refine wpQuiet_loadV (o := ⟨some 26, _, _, _, _, _⟩) rfl _ rfl rfl (fun w' hw' => by obtain ⟨r, rfl⟩ := hw'; exact L7.out r) ?_
    simp only [Act.put, List.setIfInBounds_toArray, List.set_cons_zero, List.set_cons_succ]
    show wpQuiet _ _ _ _ (_ :: _) _
    refine wpQuiet_loadV (o := ⟨some 27, _, _, _, _, _⟩) rfl _ rfl rfl (fun w' hw' => by obtain ⟨r, rfl⟩ := hw'; exact L3'.out r) ?_
    simp only [Act.put, List.setIfInBounds_toArray, List.set_cons_zero, List.set_cons_succ]
    refine wpQuiet_nil ?_
    show wpList _ _ _ [_] _ _
    go_wp2_with fail
    refine Calls.mono (ROF.out _) ?_
    rintro e x1 ⟨rfl, hx1⟩
    have X1 := Lib.hid ((Below.refl w8.heap.size w8).drew.trans hx1)
    clear hx1
    go_wp2_with fail
    refine MixQ.below X1.out ?_
    refine mixS_cons ?_
    repeat (show wpQuiet _ _ _ _ (_ :: _) _; go_big_quiet_step (fail))
    show wpQuiet _ _ _ _ (_ :: _) _
    refine wpQuiet_loadV (o := ⟨some 31, _, _, _, _, _⟩) rfl _ rfl rfl (fun w' hw' => by obtain ⟨r, rfl⟩ := hw'; exact L8.out r) ?_
    simp only [Act.put, List.setIfInBounds_toArray, List.set_cons_zero, List.set_cons_succ]
    show wpQuiet _ _ _ _ (_ :: _) _
    refine wpQuiet_loadV (o := ⟨some 33, _, _, _, _, _⟩) rfl _ rfl rfl (fun w' hw' => by obtain ⟨r, rfl⟩ := hw'; exact L8.out r) ?_
    simp only [Act.put, List.setIfInBounds_toArray, List.set_cons_zero, List.set_cons_succ]
    refine wpQuiet_nil ?_
    show wpList _ _ _ [_] _ _
    go_wp2_with fail
    refine Calls.mono (NX.out _) ?_
    rintro e x2 ⟨rfl, hx2⟩
    have X2 := Lib.hid (X1.out.trans (hx2.mono X1.out.size))
    have W2 := Lib.hid (B86.out.trans (X2.out.mono hz8))
    clear hx2
    go_wp2_with fail
    refine MixQ.below X2.out ?_
    refine mixS_cons ?_
    refine wpQuiet_nil ?_
    show wpList _ _ _ [_] _ _
    go_wp2_with fail
    refine Calls.mono (RNX.out _) ?_
    rintro e x3 ⟨rfl, hx3⟩
    have X3 := Lib.hid (X2.out.trans (hx3.mono X2.out.size))
    have W3 := Lib.hid (B86.out.trans (X3.out.mono hz8))
    clear hx3
    go_wp2_with fail
    refine MixQ.below X3.out ?_
    refine mixS_cons ?_
    repeat (show wpQuiet _ _ _ _ (_ :: _) _; go_big_quiet_step (fail))
    show wpQuiet _ _ _ _ (_ :: _) _
    refine wpQuiet_loadV (o := ⟨some 38, _, _, _, _, _⟩) rfl _ rfl rfl (fun w' hw' => by obtain ⟨r, rfl⟩ := hw'; exact L9.out r) ?_
    simp only [Act.put, List.setIfInBounds_toArray, List.set_cons_zero, List.set_cons_succ]
    repeat (show wpQuiet _ _ _ _ (_ :: _) _; go_big_quiet_step (fail))
    refine wpQuiet_nil ?_
    show wpList _ _ _ [_] _ _
    go_wp2_with fail
    refine Calls.mono (RI0.out _ W3.out) ?_
    rintro e x4 ⟨rfl, hx4⟩
    have X4 := Lib.hid (X3.out.trans (hx4.mono X3.out.size))
    have W4 := Lib.hid (B86.out.trans (X4.out.mono hz8))
    clear hx4
    go_wp2_with fail
    refine MixQ.below X4.out ?_
    refine mixS_cons ?_
    repeat (show wpQuiet _ _ _ _ (_ :: _) _; go_big_quiet_step (fail))
    show wpQuiet _ _ _ _ (_ :: _) _
    refine wpQuiet_loadV (o := ⟨some 44, _, _, _, _, _⟩) rfl _ rfl rfl (fun w' hw' => by obtain ⟨r, rfl⟩ := hw'; exact L10.out r) ?_
    simp only [Act.put, List.setIfInBounds_toArray, List.set_cons_zero, List.set_cons_succ]
    repeat (show wpQuiet _ _ _ _ (_ :: _) _; go_big_quiet_step (fail))
    refine wpQuiet_nil ?_
    show wpList _ _ _ [_] _ _
    go_wp2_with fail
    refine Calls.mono (RI1.out _ W4.out) ?_
    rintro e x5 ⟨rfl, hx5⟩
    have X5 := Lib.hid (X4.out.trans (hx5.mono X4.out.size))
    have W5 := Lib.hid (B86.out.trans (X5.out.mono hz8))
    clear hx5
    go_wp2_with fail
    refine MixQ.below X5.out ?_
    refine mixS_cons ?_
    repeat (show wpQuiet _ _ _ _ (_ :: _) _; go_big_quiet_step (fail))
    show wpQuiet _ _ _ _ (_ :: _) _
    refine wpQuiet_loadV (o := ⟨some 50, _, _, _, _, _⟩) rfl _ rfl rfl (fun w' hw' => by obtain ⟨r, rfl⟩ := hw'; exact L3'.out r) ?_
    simp only [Act.put, List.setIfInBounds_toArray, List.set_cons_zero, List.set_cons_succ]
    repeat (show wpQuiet _ _ _ _ (_ :: _) _; go_big_quiet_step (fail))
    show wpQuiet _ _ _ _ (_ :: _) _
    refine wpQuiet_loadV (o := ⟨some 53, _, _, _, _, _⟩) rfl _ rfl rfl (fun w' hw' => by obtain ⟨r, rfl⟩ := hw'; exact L3'.out r) ?_
    simp only [Act.put, List.setIfInBounds_toArray, List.set_cons_zero, List.set_cons_succ]
    repeat (show wpQuiet _ _ _ _ (_ :: _) _; go_big_quiet_step (fail))
    refine wpQuiet_nil ?_
    show wpList _ _ _ [_] _ _
    go_wp2_with fail
    refine Calls.mono (TK.out _ W5.out) ?_
    rintro e x6 ⟨rfl, hx6⟩
    have X6 := Lib.hid (X5.out.trans (hx6.mono X5.out.size))
    have W6 := Lib.hid (B86.out.trans (X6.out.mono hz8))
    clear hx6
    go_wp2_with fail
    refine MixQ.below X6.out ?_
    refine mixS_cons ?_
    refine wpQuiet_nil ?_
    show wpList _ _ _ [_] _ _
    go_wp2_with fail
    refine Calls.mono (RTK.out _ W6.out) ?_
    rintro e x7 ⟨rfl, hx7⟩
    have X7 := Lib.hid (X6.out.trans (hx7.mono X6.out.size))
    have W7 := Lib.hid (B86.out.trans (X7.out.mono hz8))
    clear hx7
    go_wp2_with fail
    refine MixQ.below X7.out ?_
    refine mixS_nil ?_
    repeat (show wpQuiet _ _ _ _ (_ :: _) _; go_big_quiet_step (fail))
    refine wpQuiet_nil ?_
    refine NoPanic.normal ?_
    go_wp2_with fail
    go_ret
    exact ⟨rfl, B8.out.trans (X7.out.mono B8.out.size)⟩
end Go.Proofs.Ythpacdondnenmaa
