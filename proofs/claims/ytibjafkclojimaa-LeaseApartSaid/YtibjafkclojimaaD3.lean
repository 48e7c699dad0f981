
/- Layer 26: contract of Put. Conditions: as each theorem states them. -/
import Derived.Test.YtibjafkclojimaaD2
import Derived.Test.YtibjafkclojimaaS7
import Derived.Test.YtibjafkclojimaaB2
import Derived.Test.YtibjafkclojimaaQM
import Derived.Test.YtibjafkclojimaaQB
import Derived.Test.YtibjafkclojimaaLV
namespace Go.Proofs.Ytibjafkclojimaa
open Go.RowKit
theorem size32c : (Try.prog.info? 67).map (·.size) = some 32 := by kernel_rfl
theorem size5 : (Try.prog.info? 31).map (·.size) = some 5 := by kernel_rfl
theorem rd_take {B : Nat} {k : IntKind} {w : World} {A : Option Addr} {xs : List Int} (h : Rd B k w A xs) (m : Nat) : Rd B k w A (xs.take m) := fun i hi => by
  rw [List.length_take] at hi
  obtain ⟨ad, e, hb, hc⟩ := h i (by omega)
  exact ⟨ad, e, hb, by rw [getD_take (by omega)]; exact hc⟩
def CB (gc : Nat) (cs : Array Value) (v : World) : Prop := Blk v gc 31 cs
theorem cb_cells {gc : Nat} {c0 c1 c2 c3 c4 : Value} {v : World} (h : Blk v gc 31 #[c0, c1, c2, c3, c4]) : v.cell? ⟨gc, 0, none⟩ = some c0 ∧ v.cell? ⟨gc, 1, none⟩ = some c1 ∧ v.cell? ⟨gc, 2, none⟩ = some c2 ∧ v.cell? ⟨gc, 3, none⟩ = some c3 ∧ v.cell? ⟨gc, 4, none⟩ = some c4 :=
  ⟨Blk.cell h 0, Blk.cell h 1, Blk.cell h 2, Blk.cell h 3, Blk.cell h 4⟩
theorem cb_load {gc : Nat} {c0 c1 c2 c3 c4 : Value} {v : World} (h : Blk v gc 31 #[c0, c1, c2, c3, c4]) : (Instr.loadAt 31 (.pointer (some ⟨gc, 0, none⟩))).run Try.prog v = .ok (.agg #[c0, c1, c2, c3, c4]) v :=
  blk_load h Try.underlying31 rfl size5
theorem cput_no (ep ow nx sn : Int) (A : Option Addr) (n cap : Nat) (ts : List Tx) (k : Int) (w : World) (hc : CIn w.heap.size w A n cap ts) (hl : rowsN (bsT ts) ≤ 1000000000000) (hm : ¬ (cl_ ep ow nx sn ts).May) :
    Calls Try.prog 15 #[.agg #[.int .u64 ep, .int .u8 ow, .int .u64 nx, .int .u64 sn, .slice A n cap], .int .u64 k] w fun e w' => e = .returned (.tuple #[.slice none 0 0, .int .i64 2]) ∧ Below w.heap.size w w' := by
  have HM := Lib.hid (fun (w1 : World) (b : CIn w1.heap.size w1 A n cap ts) => cmay_any ep ow nx sn A n cap ts w1 b hl)
  rw [decide_eq_false hm] at HM
  have B0 := Lib.hid ((Below.refl w.heap.size w).alloc (Nat.le_refl _) (.cells #[.int .u64 ep, .int .u8 ow, .int .u64 nx, .int .u64 sn, .slice A n cap] 31))
  have C0 := Lib.hid ((hc.below B0.out (Nat.le_refl _)).mono B0.out.size)
  clear hc hm hl
  go_enter Try.func15, Try.ntmps15
  go_wp2_with fail
  refine Calls.mono (HM.out _ C0.out) ?_
  rintro e w2 ⟨rfl, hb⟩
  have B2 := Lib.hid (B0.out.trans (hb.mono B0.out.size))
  clear hb
  go_wp2_with fail
  go_ret2
  exact ⟨rfl, B2.out⟩
attribute [local irreducible] CL.size
set_option maxRecDepth 100000 in
set_option maxHeartbeats 8000000 in
theorem cput_yes (ep ow nx sn : Int) (A : Option Addr) (n cap : Nat) (ts : List Tx) (k : Int) (w : World) (hc : CIn w.heap.size w A n cap ts) (hf : (cl_ ep ow nx sn ts).Fit) (hm : (cl_ ep ow nx sn ts).May) (k0 : 0 ≤ k) (k1 : k < 18446744073709551616) :
    Calls Try.prog 15 #[.agg #[.int .u64 ep, .int .u8 ow, .int .u64 nx, .int .u64 sn, .slice A n cap], .int .u64 k] w (RetOwn2 5 .u8 ((cl_ ep ow nx sn ts).rcd k) (.int .i64 0) w) := by
  have hsz : (cl_ ep ow nx sn ts).size ≤ 16777216 := hm.2.2.2
  have hl : rowsN (bsT ts) ≤ 16777216 := by have h : (cl_ ep ow nx sn ts).size = 29 + rowsN (bsT ts) := by unfold CL.size; rfl
                                            omega
  have hn4 := rowsN_len (bsT ts)
  rw [bsT_len, hc.len] at hn4
  have hnb : n ≤ 4194304 := by omega
  clear hn4
  have HM := Lib.hid (fun (w1 : World) (b : CIn w1.heap.size w1 A n cap ts) => cmay_any ep ow nx sn A n cap ts w1 b (by omega))
  rw [decide_eq_true hm] at HM
  have HSZ := Lib.hid (fun (w1 : World) (b : CIn w1.heap.size w1 A n cap ts) => size_any ep ow nx sn A n cap ts w1 b (by omega))
  have HR : Hid ((cl_ ep ow nx sn ts).hed k = ([] ++ beL k 8 ++ beL ((cl_ ep ow nx sn ts).size : Nat) 4 ++ beL ep 8 ++ [ow] ++ beL nx 8 ++ beL sn 8 ++ beL (n : Int) 4) ++ rowsL (bsT ts)) := Lib.hid (by
    unfold CL.hed CL.body
    rw [show (cl_ ep ow nx sn ts).bs = bsT ts from rfl, bsT_len, hc.len]
    simp only [List.nil_append, List.append_assoc]
    rfl)
  have HRC : Hid ((cl_ ep ow nx sn ts).rcd k = (cl_ ep ow nx sn ts).hed k ++ (shaL ((cl_ ep ow nx sn ts).hed k)).take 8) := Lib.hid rfl
  have HHL : Hid (((cl_ ep ow nx sn ts).hed k).length ≤ 16777228) := Lib.hid (by rw [CL.hed_len]; omega)
  have HHB := Lib.hid (CL.hed_byt hf k)
  have HN := Lib.hid hc.len
  have HBT := Lib.hid hc.byt
  have HRL := Lib.hid hl
  have he0 := hf.e0
  have he1 := hf.e1
  have hn0 := hf.n0
  have hn1 := hf.n1
  have hs0 := hf.s0
  have hs1 := hf.s1
  have ho0 := hf.o0
  have ho1 := hf.o1
  unfold cl_ at he0 he1 hn0 hn1 hs0 hs1 ho0 ho1
  simp only at he0 he1 hn0 hn1 hs0 hs1 ho0 ho1
  rw [HRC.out]
  obtain ⟨z, hz⟩ : ∃ z, (cl_ ep ow nx sn ts).size = z := ⟨_, rfl⟩
  rw [hz] at HR HSZ hsz
  generalize (cl_ ep ow nx sn ts).hed k = D at *
  have B0 := Lib.hid ((Below.refl w.heap.size w).alloc (Nat.le_refl _) (.cells #[.int .u64 ep, .int .u8 ow, .int .u64 nx, .int .u64 sn, .slice A n cap] 31))
  have Z0 : Hid (Blk (w.alloc (.cells #[.int .u64 ep, .int .u8 ow, .int .u64 nx, .int .u64 sn, .slice A n cap] 31)) w.heap.size 31 #[.int .u64 ep, .int .u8 ow, .int .u64 nx, .int .u64 sn, .slice A n cap]) := Lib.hid (Blk.new _ _ _)
  have C0 := Lib.hid ((hc.below B0.out (Nat.le_refl _)).mono B0.out.size)
  clear hc hm hf hl hz HRC
  go_enter Try.func15, Try.ntmps15
  go_wp2_with fail
  refine Calls.mono (HM.out _ C0.out) ?_
  rintro e w2 ⟨rfl, hb⟩
  have B2 := Lib.hid (B0.out.trans (hb.mono B0.out.size))
  have C2 := Lib.hid ((C0.out.below hb (Nat.le_refl _)).mono hb.size)
  have Z2 := Lib.hid (Z0.out.below hb Z0.out.lt)
  clear hb B0 Z0 C0 HM
  have hz2 := B2.out.size
  have hg2 := Z2.out.lt
  obtain ⟨gc, hgc⟩ : ∃ g, w.heap.size = g := ⟨_, rfl⟩
  rw [hgc] at Z2 hz2 hg2 ⊢
  go_wp2_with fail
  have hne : Nonempty (CW (CB gc #[.int .u64 ep, .int .u8 ow, .int .u64 nx, .int .u64 sn, .slice A n cap])) := CW.inh Z2.out
  refine wp_region_mix_class (CB gc #[.int .u64 ep, .int .u8 ow, .int .u64 nx, .int .u64 sn, .slice A n cap]) [([0, 2], 1), ([], 3), ([4], 5)] [6] (by kernel_rfl) (by kernel_rfl) (by kernel_rfl) (by kernel_rfl) (Blk.drew Z2.out) ?_
  simp only [pickL, List.map_cons, List.map_nil, List.filterMap_cons, List.filterMap_nil, List.getElem?_cons_succ, List.getElem?_cons_zero]
  refine mixS_cons ?_
  show wpQuiet _ _ _ _ (_ :: _) _
  go_big_quiet_step (fail)
  show wpQuiet _ _ _ _ (_ :: _) _
  refine wpQuiet_loadV (o := ⟨some 15, _, _, _, _, _⟩) rfl _ rfl rfl (fun w' hw' => by obtain ⟨r, rfl⟩ := hw'; exact cb_load r.holds) ?_
  simp only [Act.put, List.setIfInBounds_toArray, List.set_cons_zero, List.set_cons_succ]
  refine wpQuiet_nil ?_
  show wpList _ _ _ [_] _ _
  have D2 := (Below.refl w2.heap.size w2).drew
  go_wp2_with fail
  refine Calls.mono (be_any w2.heap.size none 0 0 [] k 8 _ (Own.nil _ _ _ _) (Nat.le_refl _) (by simp) k0 k1 (by omega)) ?_
  rintro e w3 ⟨A3, n3, c3, rfl, o3⟩
  have O3 := Lib.hid o3.1
  have B3 := Lib.hid (D2.trans o3.2.2.1)
  have Z3 := Lib.hid (Z2.out.below B3.out hg2)
  have C3 := Lib.hid ((C2.out.below B3.out (Nat.le_refl _)).mono B3.out.size)
  clear o3 D2
  go_wp2_with fail
  refine MixQ.class Z3.out ?_
  refine mixS_cons ?_
  refine wpQuiet_nil ?_
  show wpList _ _ _ [_] _ _
  go_wp2_with fail
  refine Calls.mono (HSZ.out _ C3.out) ?_
  rintro e w4 ⟨rfl, b4⟩
  have O4 := Lib.hid (O3.out.below b4)
  have B4 := Lib.hid (B3.out.trans (b4.mono B3.out.size))
  have Z4 := Lib.hid (Z2.out.below B4.out hg2)
  have C4 := Lib.hid ((C2.out.below B4.out (Nat.le_refl _)).mono B4.out.size)
  clear b4 O3 Z3 C3 B3
  go_wp2_with fail
  refine MixQ.class Z4.out ?_
  refine mixS_cons ?_
  repeat (show wpQuiet _ _ _ _ (_ :: _) _; go_big_quiet_step (fail))
  refine wpQuiet_nil ?_
  show wpList _ _ _ [_] _ _
  go_wp2_with fail
  refine Calls.mono (be_any w2.heap.size A3 n3 c3 _ (z : Int) 4 _ O4.out B4.out.size (by simp [beL_len]) (by omega) (by omega) (by omega)) ?_
  rintro e w5 ⟨A5, n5, c5, rfl, o5⟩
  have O5 := Lib.hid o5.1
  have B5 := Lib.hid (B4.out.trans o5.2.2.1)
  have Z5 := Lib.hid (Z2.out.below B5.out hg2)
  clear o5 O4 Z4 C4 B4
  go_wp2_with fail
  refine MixQ.class Z5.out ?_
  refine mixS_nil ?_
  repeat (show wpQuiet _ _ _ _ (_ :: _) _; go_big_quiet_step (fail))
  refine wpQuiet_nil ?_
  refine NoPanic.normal ?_
  go_wp2_with fail
  have p0 : ∀ r : CW (CB gc #[.int .u64 ep, .int .u8 ow, .int .u64 nx, .int .u64 sn, .slice A n cap]), r.world.cell? ⟨gc, 0, none⟩ = some (.int .u64 ep) := fun r => (cb_cells r.holds).1
  have p1 : ∀ r : CW (CB gc #[.int .u64 ep, .int .u8 ow, .int .u64 nx, .int .u64 sn, .slice A n cap]), r.world.cell? ⟨gc, 1, none⟩ = some (.int .u8 ow) := fun r => (cb_cells r.holds).2.1
  refine wp_region_sig (CB gc #[.int .u64 ep, .int .u8 ow, .int .u64 nx, .int .u64 sn, .slice A n cap]) (.two [0, 1, 2, 4, 5] 3 (.one [] 6 (.one [] 7 (.fin [8]))) 6 (.one [] 3 (.one [] 7 (.fin [8])))) (by kernel_rfl) (by kernel_rfl) (by kernel_rfl) (by kernel_rfl) (Blk.drew Z5.out) ?_
  refine mixT_two ?_
  simp only [pickL, List.filterMap_cons, List.filterMap_nil, List.getElem?_cons_succ, List.getElem?_cons_zero]
  repeat (show wpQuiet _ _ _ _ (_ :: _) _; go_big_quiet_step (fail))
  refine wpQuiet_nil ?_
  have D5 := Lib.hid ((Below.refl w5.heap.size w5).drew)
  have O5d := Lib.hid (O5.out.drew)
  have Z5d : Hid ((CB gc #[.int .u64 ep, .int .u8 ow, .int .u64 nx, .int .u64 sn, .slice A n cap]) w5.drew) := Lib.hid (Blk.drew Z5.out)
  generalize w5.drew = wd at *
  have B5d := Lib.hid (B5.out.trans (D5.out.mono B5.out.size))
  have hzd := B5d.out.size
  refine ⟨?leafA, ?leafB⟩
  case' leafA =>
    show wpList _ _ _ [_] _ _
    go_wp2_with fail
    refine Calls.mono (be_any w2.heap.size A5 n5 c5 _ ep 8 _ O5d.out hzd (by simp [beL_len]) he0 he1 (by omega)) ?_
    rintro e w6 ⟨A6, n6, c6, rfl, o6⟩
    have O6 := Lib.hid o6.1
    have B6 := Lib.hid (B5d.out.trans o6.2.2.1)
    have Z6 := Lib.hid (Z2.out.below B6.out hg2)
    have hz6 := B6.out.size
    clear o6
    go_wp2_with fail
    refine MixQ.class Z6.out ?_
    refine mixT_one ?_
    simp only [pickL, List.filterMap_cons, List.filterMap_nil, List.getElem?_cons_succ, List.getElem?_cons_zero]
    refine wpQuiet_nil ?_
    show wpList _ _ _ [_] _ _
    have AX := Lib.hid ((Below.refl w6.heap.size w6).alloc (Nat.le_refl _) (.cells #[.int .u8 ow] 5))
    go_wp2_with fail
    refine MixQ.class (Z6.out.alloc _) ?_
    refine mixT_one ?_
    simp only [pickL, List.filterMap_cons, List.filterMap_nil, List.getElem?_cons_succ, List.getElem?_cons_zero]
    refine wpQuiet_nil ?_
    show wpList _ _ _ [_] _ _
    go_wp2_with (at_builtin; go_loud (refine wpList_app (o := ⟨some 26, _, _, _, _, _⟩) elC rfl _ _ rfl rfl rfl (O6.out.alloc _) (Rd.newAt (xs := [ow]) rfl rfl) rfl ?_ ?_ ?_; (simp [beL_len] <;> omega); (first | omega | (simp <;> omega)); intro A7 n7 c7 w7 q7; have O7 := Lib.hid q7.1; have B7 := Lib.hid ((B6.out.trans (AX.out.mono hz6)).trans q7.2.2.1); clear q7))
    clear AX O6 B6 Z6 hz6
  case' leafB =>
    show wpList _ _ _ [_] _ _
    have AX := Lib.hid ((Below.refl wd.heap.size wd).alloc (Nat.le_refl _) (.cells #[.int .u8 ow] 5))
    have R6 : Hid (Blk (wd.alloc (.cells #[.int .u8 ow] 5)) wd.heap.size 5 #[.int .u8 ow]) := Lib.hid (Blk.new _ _ _)
    go_wp2_with fail
    refine MixQ.class (Z5d.out.alloc _) ?_
    refine mixT_one ?_
    simp only [pickL, List.filterMap_cons, List.filterMap_nil, List.getElem?_cons_succ, List.getElem?_cons_zero]
    refine wpQuiet_nil ?_
    show wpList _ _ _ [_] _ _
    have B5a := Lib.hid (B5d.out.trans (AX.out.mono hzd))
    have O5a := Lib.hid (O5d.out.alloc (.cells #[.int .u8 ow] 5))
    go_wp2_with fail
    refine Calls.mono (be_any w2.heap.size A5 n5 c5 _ ep 8 _ O5a.out B5a.out.size (by simp [beL_len]) he0 he1 (by omega)) ?_
    rintro e w6 ⟨A6, n6, c6, rfl, o6⟩
    have O6 := Lib.hid o6.1
    have B6 := Lib.hid (B5a.out.trans o6.2.2.1)
    have Z6 := Lib.hid (Z2.out.below B6.out hg2)
    have hz6 := B6.out.size
    have R7 := Lib.hid (R6.out.grown o6.2.1 (by
      intro q
      rcases A5 with _ | ad
      · cases q
      · have := (O5d.out.block ad rfl).2
        simp [ablk] at q
        omega))
    clear o6
    go_wp2_with fail
    refine MixQ.class Z6.out ?_
    refine mixT_one ?_
    simp only [pickL, List.filterMap_cons, List.filterMap_nil, List.getElem?_cons_succ, List.getElem?_cons_zero]
    refine wpQuiet_nil ?_
    show wpList _ _ _ [_] _ _
    have RR : Hid (Rd w6.heap.size .u8 w6 (some ⟨wd.heap.size, 0, none⟩) [ow]) := Lib.hid (Arr.rd (t := 5) (k := .u8) R7.out)
    go_wp2_with (at_builtin; go_loud (refine wpList_app (o := ⟨some 26, _, _, _, _, _⟩) elC rfl _ _ rfl rfl rfl O6.out RR.out rfl ?_ ?_ ?_; (simp [beL_len] <;> omega); (first | omega | (simp <;> omega)); intro A7 n7 c7 w7 q7; have O7 := Lib.hid q7.1; have B7 := Lib.hid ((B6.out).trans q7.2.2.1); clear q7))
    clear AX O6 B6 Z6 hz6 R6 R7 RR B5a O5a
  all_goals
    have Z7 := Lib.hid (Z2.out.below B7.out hg2)
    refine MixQ.class Z7.out ?_
    refine mixT_fin ?_
    simp only [pickL, List.filterMap_cons, List.filterMap_nil, List.getElem?_cons_succ, List.getElem?_cons_zero]
    repeat (show wpQuiet _ _ _ _ (_ :: _) _; go_big_quiet_step (fail))
    refine wpQuiet_nil ?_
    refine NoPanic.normal ?_
    clear D5 O5d Z5d B5d hzd p0 p1 O5 B5 Z5
    go_wp2_with fail
    have p2 : ∀ r : CW (CB gc #[.int .u64 ep, .int .u8 ow, .int .u64 nx, .int .u64 sn, .slice A n cap]), r.world.cell? ⟨gc, 2, none⟩ = some (.int .u64 nx) := fun r => (cb_cells r.holds).2.2.1
    have p3 : ∀ r : CW (CB gc #[.int .u64 ep, .int .u8 ow, .int .u64 nx, .int .u64 sn, .slice A n cap]), r.world.cell? ⟨gc, 3, none⟩ = some (.int .u64 sn) := fun r => (cb_cells r.holds).2.2.2.1
    refine wp_region_mix_class (CB gc #[.int .u64 ep, .int .u8 ow, .int .u64 nx, .int .u64 sn, .slice A n cap]) [([0, 1, 2, 4, 5], 3), ([], 6)] [7] (by kernel_rfl) (by kernel_rfl) (by kernel_rfl) (by kernel_rfl) (Blk.drew Z7.out) ?_
    simp only [pickL, List.map_cons, List.map_nil, List.filterMap_cons, List.filterMap_nil, List.getElem?_cons_succ, List.getElem?_cons_zero]
    refine mixS_cons ?_
    repeat (show wpQuiet _ _ _ _ (_ :: _) _; go_big_quiet_step (fail))
    refine wpQuiet_nil ?_
    show wpList _ _ _ [_] _ _
    go_wp2_with fail
    refine Calls.mono (be_any w2.heap.size A7 n7 c7 _ nx 8 _ O7.out.drew B7.out.size (by simp [beL_len]) hn0 hn1 (by omega)) ?_
    rintro e w8 ⟨A8, n8, c8, rfl, o8⟩
    have O8 := Lib.hid o8.1
    have B8 := Lib.hid (B7.out.drew.trans o8.2.2.1)
    have Z8 := Lib.hid (Z2.out.below B8.out hg2)
    clear o8 O7 B7 Z7
    go_wp2_with fail
    refine MixQ.class Z8.out ?_
    refine mixS_cons ?_
    refine wpQuiet_nil ?_
    show wpList _ _ _ [_] _ _
    go_wp2_with fail
    refine Calls.mono (be_any w2.heap.size A8 n8 c8 _ sn 8 _ O8.out B8.out.size (by simp [beL_len]) hs0 hs1 (by omega)) ?_
    rintro e w9 ⟨A9, n9, c9, rfl, o9⟩
    have O9 := Lib.hid o9.1
    have B9 := Lib.hid (B8.out.trans o9.2.2.1)
    have Z9 := Lib.hid (Z2.out.below B9.out hg2)
    clear o9 O8 B8 Z8
    go_wp2_with fail
    refine MixQ.class Z9.out ?_
    refine mixS_nil ?_
    repeat (show wpQuiet _ _ _ _ (_ :: _) _; go_big_quiet_step (fail))
    refine wpQuiet_nil ?_
    refine NoPanic.normal ?_
    clear p2 p3
    obtain ⟨e0, e1, e2, e3, e4⟩ := cb_cells Z9.out
    go_wp2_with fail
    refine Calls.mono (be_any w2.heap.size A9 n9 c9 _ (n : Int) 4 _ O9.out B9.out.size (by simp [beL_len]) (by omega) (by omega) (by omega)) ?_
    rintro e wa ⟨Aa, na, ca, rfl, oa⟩
    have Oa := Lib.hid oa.1
    have Ba := Lib.hid (B9.out.trans oa.2.2.1)
    have Za := Lib.hid (Z2.out.below Ba.out hg2)
    clear oa O9 B9 Z9 e0 e1 e2 e3 e4
    obtain ⟨e0, e1, e2, e3, e4⟩ := cb_cells Za.out
    obtain ⟨P0, hP0⟩ : ∃ P, [] ++ beL k 8 ++ beL (z : Int) 4 ++ beL ep 8 ++ [ow] ++ beL nx 8 ++ beL sn 8 ++ beL (n : Int) 4 = P := ⟨_, rfl⟩
    rw [hP0] at HR Oa
    have HPL : Hid (P0.length = 41) := Lib.hid (by rw [← hP0]; simp [beL_len])
    clear hP0
    go_wp2_with fail
    go_loopw [6, 43] (fun b i wr => ∃ (q m c : Nat) (AA : Option Addr), q ≤ n ∧ i = .int .i64 q ∧ b = .slice AA m c ∧ Hid (Own w2.heap.size 5 .u8 wr AA m c (P0 ++ rowsL (bsT (ts.take q)))) ∧ Hid (Below w2.heap.size w2 wr)) (fun _ i _ => n - (intOf i).toNat)
    case atStart => exact ⟨0, na, ca, Aa, by omega, rfl, rfl, Lib.hid (by rw [List.take_zero, bsT_nil, rowsL_nil, List.append_nil]; exact Oa.out), Ba⟩
    case round =>
      clear Oa Ba Za e0 e1 e2 e3 e4
      obtain ⟨q, m, c, AA, hq, rfl, rfl, HO, HB⟩ := hrel
      by_cases hlt : q < n
      · obtain ⟨pa, hA, p1, p2, p3, p4⟩ := (C2.out.txs.below HB.out (Nat.le_refl _)) q (by rw [HN.out]; exact hlt)
        have HT : Hid (rowsL (bsT (ts.take (q + 1))) = rowsL (bsT (ts.take q)) ++ (beL ((ts.getD q Tx.none).xs.length : Int) 4 ++ (ts.getD q Tx.none).xs)) := Lib.hid (by rw [bsT_take (by rw [HN.out]; exact hlt), rowsL_append, rowsL_cons, rowsL_nil, List.append_nil])
        have HTL : (rowsL (bsT (ts.take (q + 1)))).length ≤ 16777216 := by have h1 := bsT_takeN ts (q + 1); have h2 := HRL.out; have h3 : (rowsL (bsT (ts.take (q + 1)))).length = rowsN (bsT (ts.take (q + 1))) := rowsN_eq _; omega
        rw [HT.out, List.length_append, List.length_append, beL_len] at HTL
        generalize ts.getD q Tx.none = t at *
        obtain ⟨tA, tc, tx⟩ := t
        simp only at p2 p3 p4 HT HTL
        subst hA
        have RX := Lib.hid p3
        obtain ⟨l, hl⟩ : ∃ l, tx.length = l := ⟨_, rfl⟩
        rw [hl] at p2 p4 HTL HT
        have HLX := Lib.hid hl
        have hHL := HPL.out
        have hRLB : (P0 ++ rowsL (bsT (ts.take q))).length ≤ 16777300 := by rw [List.length_append]; omega
        have HRB := Lib.hid hRLB
        clear p3 hl hHL hRLB
        go_wp2_with fail
        refine Calls.mono (be_any w2.heap.size AA m c _ (l : Int) 4 _ HO.out HB.out.size (by have := HRB.out; omega) (by omega) (by omega) (by omega)) ?_
        rintro e wb ⟨Ab, nb, cb, rfl, ob⟩
        have Ob := Lib.hid ob.1
        have Bb := Lib.hid (HB.out.trans ob.2.2.1)
        have RXb := Lib.hid (RX.out.below ob.2.2.1 (Nat.le_refl _))
        have HJ : Hid (P0 ++ rowsL (bsT (ts.take q)) ++ beL (l : Int) 4 ++ tx = P0 ++ rowsL (bsT (ts.take (q + 1)))) := Lib.hid (by rw [HT.out]; simp only [List.append_assoc])
        have hzb := Bb.out.size
        clear ob RX HO HB HT
        go_wp2_with (at_builtin; go_loud (refine wpList_app (o := ⟨some 53, _, _, _, _, _⟩) elC rfl _ _ rfl rfl rfl Ob.out RXb.out HLX.out.symm ?_ ?_ ?_; (rw [List.length_append, beL_len, HLX.out]; have := HRB.out; omega); (exact hzb); intro Ac nc cc wc qc; have Oc := Lib.hid qc.1; have Bc := Lib.hid (Bb.out.trans qc.2.2.1); clear qc))
        rw [HJ.out] at Oc
        clear Ob Bb RXb HJ HRB HLX
        go_roundw
        case rel => exact ⟨q + 1, nc, cc, Ac, by omega, by go_num, rfl, Oc, Bc⟩
        case measure => simp [intOf]; omega
      · have OD : Hid (Own w2.heap.size 5 .u8 wr AA m c D) := Lib.hid (by
          have h := HO.out
          rw [List.take_of_length_le (by rw [HN.out]; omega), ← HR.out] at h
          exact h)
        have hzr := HB.out.size
        have hm := OD.out.len
        clear HO HR
        have BA : Hid (Below wr.heap.size wr (wr.alloc (.cells #[.slice AA m c] 50))) := Lib.hid ((Below.refl _ _).alloc (Nat.le_refl _) _)
        have OA := Lib.hid (OD.out.alloc (.cells #[.slice AA m c] 50))
        have HTX : Hid (Txs (wr.alloc (.cells #[.slice AA m c] 50)).heap.size (wr.alloc (.cells #[.slice AA m c] 50)) (some ⟨wr.heap.size, 0, none⟩) [⟨AA, c, D⟩]) := Lib.hid (Txs.newAt rfl (by rw [hm]; rfl) (fun t ht => by
          rw [List.mem_singleton] at ht
          subst ht
          exact ⟨OD.out.rd, by have := OD.out.cap.1; show D.length ≤ c; omega⟩))
        have HSM := Lib.hid (sum_any (some ⟨wr.heap.size, 0, none⟩) 1 [⟨AA, c, D⟩] _ HTX.out (fun t ht => by rw [List.mem_singleton] at ht; subst ht; exact HHB.out) (by rw [join_one]; have := HHL.out; omega) (by simp))
        rw [join_one] at HSM
        clear hm
        go_wp2_with fail
        refine Calls.mono HSM.out ?_
        rintro e wd ⟨rfl, hbd⟩
        have Od := Lib.hid (OA.out.below hbd)
        have Bd := Lib.hid ((HB.out.trans (BA.out.mono hzr)).trans (hbd.mono (by have := BA.out.size; omega)))
        clear hbd HSM HTX OA BA OD HB
        have hX : Hid ((shaL D).length = 32) := Lib.hid (shaL_len D)
        generalize shaL D = Y at *
        go_wp2_with (first
          | ((with_reducible (show wpList _ _ _ (⟨none, .store 67 _ _, _, _, _, _⟩ :: _) _ _)); go_loud (refine wpList_storeArr (o := ⟨none, .store 67 _ _, _, _, _, _⟩) (g := wd.heap.size) (t := 67) (k := .u8) (xs := Y) (n := 32) rfl _ _ rfl rfl rfl (Blk.new _ _ _) size32c hX.out.symm rfl ?_); intro we hae hge; have HRE := Lib.hid (rd_take hae.rd 8); have HBE := Lib.hid (((Below.refl wd.heap.size wd).alloc (Nat.le_refl _) _).trans (below_of_only hge (Nat.le_refl _) (by simp))); clear hae hge)
          | ((with_reducible (show wpList _ _ _ (⟨some 60, _, _, _, _, _⟩ :: _) _ _)); go_loud (refine wpList_app (o := ⟨some 60, _, _, _, _, _⟩) (m := 8) elC rfl _ _ rfl rfl rfl (Od.out.below HBE.out) HRE.out (by rw [List.length_take, hX.out]; rfl) ?_ ?_ ?_); (rw [List.length_take, hX.out]; have := HHL.out; omega); (have h1 := HBE.out.size; have h2 := Bd.out.size; omega); intro Af nf cf wf qf; have Of := Lib.hid qf.1; have Bf := Lib.hid ((Bd.out.trans (HBE.out.mono Bd.out.size)).trans qf.2.2.1); clear qf))
        have FIN : Hid (RetOwn2 5 .u8 (D ++ Y.take 8) (.int .i64 0) w (.returned (.tuple #[.slice Af nf cf, .int .i64 0])) wf) := Lib.hid ⟨Af, nf, cf, rfl, Of.out.mono B2.out.size, B2.out.trans (Bf.out.mono B2.out.size)⟩
        clear Of Bf HRE HBE Od Bd
        go_ret2
        exact FIN.out
end Go.Proofs.Ytibjafkclojimaa
