/- Layer 26, the reference's: contracts of N, Body. Conditions: as each theorem states them. -/
import Derived.Test.YtnagpaaiaaaamaaD3
import Derived.Test.YtnagpaaiaaaamaaB2
namespace Go.Proofs.Ytnagpaaiaaaamaa
open Go.RowKit
theorem add_zero_addr2 (g i : Nat) : (⟨g, 0, none⟩ : Addr).add i = ⟨g, i, none⟩ := by unfold Addr.add; split <;> simp_all
theorem set_mid (xs l : List Int) (t v : Int) : (xs ++ t :: l).set xs.length v = xs ++ v :: l := by
  rw [List.set_append_right _ _ (Nat.le_refl _), Nat.sub_self, List.set_cons_zero]
theorem getD_mid (xs l : List Int) (t : Int) : (xs ++ t :: l).getD xs.length 0 = t := by
  rw [List.getD_eq_getElem?_getD, List.getElem?_append_right (Nat.le_refl _)]; simp
theorem make8 (k : Nat) (h1 : 1 ≤ k) (h8 : k ≤ 8) (W : World) : (Instr.makeSlice 29 (.int .i64 (k : Nat)) (.int .i64 (k : Nat))).run Try.prog W = .ok (.slice (some ⟨W.heap.size, 0, none⟩) k k) (W.alloc (.cells ((List.replicate k (0 : Int)).map (Value.int .u8)).toArray 5)) := by
  rcases (show k = 1 ∨ k = 2 ∨ k = 3 ∨ k = 4 ∨ k = 5 ∨ k = 6 ∨ k = 7 ∨ k = 8 by omega) with rfl | rfl | rfl | rfl | rfl | rfl | rfl | rfl <;> kernel_rfl
set_option maxRecDepth 100000 in
set_option maxHeartbeats 2000000 in
theorem rn_any (n : Int) (k : Nat) (w : World) (h0 : 0 ≤ n) (h1 : n < 18446744073709551616) (hk1 : 1 ≤ k) (hk : k ≤ 8) : Calls Try.prog 26 #[.int .u64 n, .int .i64 (k : Nat)] w (RetOwn 5 .u8 (beL n k) w) := by
  have mk := make8 k hk1 hk
  go_enter Try.func26, Try.ntmps26
  go_wp2_with fail
  clear mk
  go_loopw [0, 6] (fun nv i wr => ∃ (r : Nat) (x m : Int), r ≤ k ∧ i = .int .i64 x ∧ x = (r : Int) - 1 ∧ nv = .int .u64 m ∧ 0 ≤ m ∧ m < 18446744073709551616 ∧ Hid (m = n / 256 ^ (k - r)) ∧ Hid (Own w.heap.size 5 .u8 wr (some ⟨w.heap.size, 0, none⟩) k k (List.replicate r 0 ++ beL n (k - r))) ∧ Hid (Below w.heap.size w wr)) (fun _ i _ => (intOf i + 1).toNat)
  case atStart => exact ⟨k, k - 1, n, by omega, rfl, rfl, rfl, h0, h1, Lib.hid (by rw [Nat.sub_self]; simp), Lib.hid (Own.cast (Own.litAt (xs := List.replicate k 0) rfl (by simp) (by simp) (Nat.le_refl _) (by simp [maxLen]; omega)) (by rw [Nat.sub_self]; simp [beL])), Lib.hid ((Below.refl _ _).alloc (Nat.le_refl _) _)⟩
  case round =>
    obtain ⟨r, x, m, hr, rfl, hx, rfl, hm0, hm1, HM, HO, HB⟩ := hrel
    cases r with
    | zero =>
      obtain rfl : x = -1 := by omega
      clear hx
      have HOE : Hid (Own w.heap.size 5 .u8 wr (some ⟨w.heap.size, 0, none⟩) k k (beL n k)) := Lib.hid (Own.cast HO.out (by simp))
      clear HO HM
      go_wp2_with fail
      go_ret
      exact ⟨_, _, _, rfl, HOE.out, HB.out⟩
    | succ r =>
      obtain rfl : x = (r : Int) := by omega
      clear hx
      have HN : Hid (List.replicate (r + 1) 0 ++ beL n (k - (r + 1)) = List.replicate r 0 ++ 0 :: beL n (k - (r + 1))) := Lib.hid (by rw [List.replicate_succ']; simp)
      rw [HN.out] at HO
      have hkr : Hid (k - r = (k - (r + 1)) + 1) := Lib.hid (by omega)
      have d0 := HO.out.cell0 (i := r) (by simp)
      have f0 := HO.out.frozen r
      have hget : (List.replicate r 0 ++ 0 :: beL n (k - (r + 1))).getD r 0 = 0 := by
        have := getD_mid (List.replicate r 0) (beL n (k - (r + 1))) 0
        rwa [List.length_replicate] at this
      rw [hget] at d0
      have d1 := d0
      have f1 := f0
      rw [← add_zero_addr2] at d1 f1
      clear hget
      have hset : ∀ y, (List.replicate r 0 ++ 0 :: beL n (k - (r + 1))).set r y = List.replicate r 0 ++ y :: beL n (k - (r + 1)) := fun y => by
        have := set_mid (List.replicate r 0) (beL n (k - (r + 1))) 0 y
        rwa [List.length_replicate] at this
      have HSET := Lib.hid hset
      clear hset
      have hm2 : 0 ≤ m / 256 ∧ m / 256 < 18446744073709551616 := by omega
      obtain ⟨hm2, hm3⟩ := hm2
      have HDIV : Hid (m / 256 = n / 256 ^ (k - r)) := Lib.hid (by rw [HM.out, hkr.out, Int.pow_succ, Int.ediv_ediv_of_nonneg (Int.le_of_lt (pow_pos256 _))])
      go_wp2_with fail
      go_roundw
      case rel => exact ⟨r, _, _, by omega, rfl, by omega, rfl, hm2, hm3, HDIV, Lib.hid (Own.cast (HO.out.set_ r _) (by rw [HSET.out, HM.out, hkr.out]; rfl)), Lib.hid (HB.out.setCell (by simp) _)⟩
      case measure => simp [intOf]


attribute [local irreducible] CL.size
set_option maxRecDepth 100000 in
set_option maxHeartbeats 8000000 in
theorem rbody_any (ep ow nx sn : Int) (A : Option Addr) (n cap : Nat) (ts : List Tx) (w : World) (hc : CIn w.heap.size w A n cap ts) (hf : (cl_ ep ow nx sn ts).Fit) (hl : rowsN (bsT ts) ≤ 16777216) :
    Calls Try.prog 25 #[.agg #[.int .u64 ep, .int .u8 ow, .int .u64 nx, .int .u64 sn, .slice A n cap]] w (RetOwn 5 .u8 (cl_ ep ow nx sn ts).body w) := by
  have hn4 := rowsN_len (bsT ts)
  rw [bsT_len, hc.len] at hn4
  have hnb : n ≤ 4194304 := by omega
  clear hn4
  have HR : Hid ((cl_ ep ow nx sn ts).body = (beL ep 8 ++ [ow] ++ beL nx 8 ++ beL sn 8 ++ beL (n : Int) 4) ++ rowsL (bsT ts)) := Lib.hid (by
    unfold CL.body
    rw [show (cl_ ep ow nx sn ts).bs = bsT ts from rfl, bsT_len, hc.len]
    rfl)
  have HN := Lib.hid hc.len
  have HRL := Lib.hid hl
  have he0 := hf.e0
  have he1 := hf.e1
  have hn0 := hf.n0
  have hn1 := hf.n1
  have hs0 := hf.s0
  have hs1 := hf.s1
  have ho0 := hf.o0
  have ho1 := hf.o1
  unfold cl_ at he0 he1 hn0 hn1 hs0 hs1 ho0 ho1
  simp only at he0 he1 hn0 hn1 hs0 hs1 ho0 ho1
  generalize (cl_ ep ow nx sn ts).body = D at *
  have B0 := Lib.hid ((Below.refl w.heap.size w).alloc (Nat.le_refl _) (.cells #[.int .u64 ep, .int .u8 ow, .int .u64 nx, .int .u64 sn, .slice A n cap] 25))
  have Z0 : Hid (Blk (w.alloc (.cells #[.int .u64 ep, .int .u8 ow, .int .u64 nx, .int .u64 sn, .slice A n cap] 25)) w.heap.size 25 #[.int .u64 ep, .int .u8 ow, .int .u64 nx, .int .u64 sn, .slice A n cap]) := Lib.hid (Blk.new _ _ _)
  have C0 := Lib.hid ((hc.below B0.out (Nat.le_refl _)).mono B0.out.size)
  clear hc hf hl
  go_enter Try.func25, Try.ntmps25
  go_wp2_with fail
  have hg0 := Z0.out.lt
  obtain ⟨gc, hgc⟩ : ∃ g, w.heap.size = g := ⟨_, rfl⟩
  generalize w.alloc (.cells #[.int .u64 ep, .int .u8 ow, .int .u64 nx, .int .u64 sn, .slice A n cap] 25) = w1 at *
  rw [hgc] at Z0 hg0 ⊢
  have HGC := Lib.hid hgc
  clear hgc
  have hne : Nonempty (CW (CB gc #[.int .u64 ep, .int .u8 ow, .int .u64 nx, .int .u64 sn, .slice A n cap])) := CW.inh Z0.out
  have p0 : ∀ r : CW (CB gc #[.int .u64 ep, .int .u8 ow, .int .u64 nx, .int .u64 sn, .slice A n cap]), r.world.cell? ⟨gc, 0, none⟩ = some (.int .u64 ep) := fun r => (cb_cells r.holds).1
  have p1 : ∀ r : CW (CB gc #[.int .u64 ep, .int .u8 ow, .int .u64 nx, .int .u64 sn, .slice A n cap]), r.world.cell? ⟨gc, 1, none⟩ = some (.int .u8 ow) := fun r => (cb_cells r.holds).2.1
  refine wp_region_sig (CB gc #[.int .u64 ep, .int .u8 ow, .int .u64 nx, .int .u64 sn, .slice A n cap]) (.two [0, 1, 3, 4] 2 (.one [] 5 (.one [] 6 (.fin [7]))) 5 (.one [] 2 (.one [] 6 (.fin [7])))) (by kernel_rfl) (by kernel_rfl) (by kernel_rfl) (by kernel_rfl) (Blk.drew Z0.out) ?_
  refine mixT_two ?_
  simp only [pickL, List.filterMap_cons, List.filterMap_nil, List.getElem?_cons_succ, List.getElem?_cons_zero]
  repeat (show wpQuiet _ _ _ _ (_ :: _) _; go_big_quiet_step (fail))
  refine wpQuiet_nil ?_
  have D1 := Lib.hid ((Below.refl w1.heap.size w1).drew)
  have Z1 : Hid ((CB gc #[.int .u64 ep, .int .u8 ow, .int .u64 nx, .int .u64 sn, .slice A n cap]) w1.drew) := Lib.hid (Blk.drew Z0.out)
  generalize w1.drew = wd at *
  have hzd := D1.out.size
  refine ⟨?leafA, ?leafB⟩
  case' leafA =>
    show wpList _ _ _ [_] _ _
    go_wp2_with fail
    refine Calls.mono (rn_any ep 8 _ he0 he1 (by omega) (by omega)) ?_
    rintro e w6 ⟨A6, n6, c6, rfl, o6, b6⟩
    have O6 := Lib.hid (o6.mono hzd)
    have B6 := Lib.hid (D1.out.trans (b6.mono hzd))
    have Z6 := Lib.hid (Z0.out.below B6.out hg0)
    have hz6 := B6.out.size
    clear o6 b6
    go_wp2_with fail
    refine MixQ.class Z6.out ?_
    refine mixT_one ?_
    simp only [pickL, List.filterMap_cons, List.filterMap_nil, List.getElem?_cons_succ, List.getElem?_cons_zero]
    refine wpQuiet_nil ?_
    show wpList _ _ _ [_] _ _
    have AX := Lib.hid ((Below.refl w6.heap.size w6).alloc (Nat.le_refl _) (.cells #[.int .u8 ow] 5))
    go_wp2_with fail
    refine MixQ.class (Z6.out.alloc _) ?_
    refine mixT_one ?_
    simp only [pickL, List.filterMap_cons, List.filterMap_nil, List.getElem?_cons_succ, List.getElem?_cons_zero]
    refine wpQuiet_nil ?_
    show wpList _ _ _ [_] _ _
    go_wp2_with ((with_reducible (show wpList _ _ _ (⟨some 11, _, _, _, _, _⟩ :: _) _ _)); go_loud (refine wpList_app (o := ⟨some 11, _, _, _, _, _⟩) elC rfl _ _ rfl rfl rfl (O6.out.alloc _) (Rd.newAt (xs := [ow]) rfl rfl) rfl ?_ ?_ ?_); (simp [beL_len]); (first | omega | (simp <;> omega)); intro A7 n7 c7 w7 q7; have O7 := Lib.hid q7.1; have B7 := Lib.hid ((B6.out.trans (AX.out.mono hz6)).trans q7.2.2.1); clear q7)
    clear AX O6 B6 Z6 hz6
  case' leafB =>
    show wpList _ _ _ [_] _ _
    have AX := Lib.hid ((Below.refl wd.heap.size wd).alloc (Nat.le_refl _) (.cells #[.int .u8 ow] 5))
    have R6 : Hid (Blk (wd.alloc (.cells #[.int .u8 ow] 5)) wd.heap.size 5 #[.int .u8 ow]) := Lib.hid (Blk.new _ _ _)
    go_wp2_with fail
    refine MixQ.class (Z1.out.alloc _) ?_
    refine mixT_one ?_
    simp only [pickL, List.filterMap_cons, List.filterMap_nil, List.getElem?_cons_succ, List.getElem?_cons_zero]
    refine wpQuiet_nil ?_
    show wpList _ _ _ [_] _ _
    have B5a := Lib.hid (D1.out.trans (AX.out.mono hzd))
    go_wp2_with fail
    refine Calls.mono (rn_any ep 8 _ he0 he1 (by omega) (by omega)) ?_
    rintro e w6 ⟨A6, n6, c6, rfl, o6, b6⟩
    have O6 := Lib.hid (o6.mono B5a.out.size)
    have B6 := Lib.hid (B5a.out.trans (b6.mono B5a.out.size))
    have Z6 := Lib.hid (Z0.out.below B6.out hg0)
    have hz6 := B6.out.size
    have R7 := Lib.hid (R6.out.below b6 R6.out.lt)
    clear o6 b6
    go_wp2_with fail
    refine MixQ.class Z6.out ?_
    refine mixT_one ?_
    simp only [pickL, List.filterMap_cons, List.filterMap_nil, List.getElem?_cons_succ, List.getElem?_cons_zero]
    refine wpQuiet_nil ?_
    show wpList _ _ _ [_] _ _
    have RR : Hid (Rd w6.heap.size .u8 w6 (some ⟨wd.heap.size, 0, none⟩) [ow]) := Lib.hid (Arr.rd (t := 5) (k := .u8) R7.out)
    go_wp2_with ((with_reducible (show wpList _ _ _ (⟨some 11, _, _, _, _, _⟩ :: _) _ _)); go_loud (refine wpList_app (o := ⟨some 11, _, _, _, _, _⟩) elC rfl _ _ rfl rfl rfl O6.out RR.out rfl ?_ ?_ ?_); (simp [beL_len]); (first | omega | (simp <;> omega)); intro A7 n7 c7 w7 q7; have O7 := Lib.hid q7.1; have B7 := Lib.hid ((B6.out).trans q7.2.2.1); clear q7)
    clear AX O6 B6 Z6 hz6 R6 R7 RR B5a
  all_goals
    have Z7 := Lib.hid (Z0.out.below B7.out hg0)
    have hz7 := B7.out.size
    refine MixQ.class Z7.out ?_
    refine mixT_fin ?_
    simp only [pickL, List.filterMap_cons, List.filterMap_nil, List.getElem?_cons_succ, List.getElem?_cons_zero]
    repeat (show wpQuiet _ _ _ _ (_ :: _) _; go_big_quiet_step (fail))
    refine wpQuiet_nil ?_
    refine NoPanic.normal ?_
    clear D1 Z1 hzd p0 p1
    obtain ⟨e0, e1, e2, e3, e4⟩ := cb_cells Z7.out
    go_wp2_with fail
    refine Calls.mono (rn_any nx 8 _ hn0 hn1 (by omega) (by omega)) ?_
    rintro e w8 ⟨A8, n8, c8, rfl, o8, b8⟩
    have O78 := Lib.hid (O7.out.below b8)
    have R8 := Lib.hid o8.rd
    have L8 := Lib.hid o8.len
    have B8 := Lib.hid (B7.out.trans (b8.mono hz7))
    have hz8 := B8.out.size
    clear o8 b8 O7 e0 e1 e2 e3 e4
    have Z8 := Lib.hid (Z0.out.below B8.out hg0)
    obtain ⟨e0, e1, e2, e3, e4⟩ := cb_cells Z8.out
    go_wp2_with ((with_reducible (show wpList _ _ _ (⟨some 16, _, _, _, _, _⟩ :: _) _ _)); go_loud (refine wpList_app (o := ⟨some 16, _, _, _, _, _⟩) elC rfl _ _ rfl rfl rfl O78.out R8.out L8.out ?_ ?_ ?_); (simp [beL_len]); (first | omega | (simp <;> omega)); intro A9 n9 c9 w9 q9; have O9 := Lib.hid q9.1; have B9 := Lib.hid ((B8.out).trans q9.2.2.1); clear q9; have Z9 := Lib.hid (Z0.out.below B9.out hg0); have hz9 := B9.out.size; clear e0 e1 e2 e3 e4; obtain ⟨e0, e1, e2, e3, e4⟩ := cb_cells Z9.out)
    refine Calls.mono (rn_any sn 8 _ hs0 hs1 (by omega) (by omega)) ?_
    rintro e wa ⟨Aa, na, ca, rfl, oa, ba⟩
    have O9a := Lib.hid (O9.out.below ba)
    have Ra := Lib.hid oa.rd
    have La := Lib.hid oa.len
    have Ba := Lib.hid (B9.out.trans (ba.mono hz9))
    have hza := Ba.out.size
    clear oa ba O9 e0 e1 e2 e3 e4
    have Za := Lib.hid (Z0.out.below Ba.out hg0)
    obtain ⟨e0, e1, e2, e3, e4⟩ := cb_cells Za.out
    go_wp2_with ((with_reducible (show wpList _ _ _ (⟨some 21, _, _, _, _, _⟩ :: _) _ _)); go_loud (refine wpList_app (o := ⟨some 21, _, _, _, _, _⟩) elC rfl _ _ rfl rfl rfl O9a.out Ra.out La.out ?_ ?_ ?_); (simp [beL_len]); (first | omega | (simp <;> omega)); intro Ab nb cb wb qb; have Ob := Lib.hid qb.1; have Bb := Lib.hid ((Ba.out).trans qb.2.2.1); clear qb; have Zb := Lib.hid (Z0.out.below Bb.out hg0); have hzb := Bb.out.size; clear e0 e1 e2 e3 e4; obtain ⟨e0, e1, e2, e3, e4⟩ := cb_cells Zb.out)
    refine Calls.mono (rn_any (n : Int) 4 _ (by omega) (by omega) (by omega) (by omega)) ?_
    rintro e wc ⟨Ac, nc, cc, rfl, oc, bc⟩
    have Obc := Lib.hid (Ob.out.below bc)
    have Rc := Lib.hid oc.rd
    have Lc := Lib.hid oc.len
    have Bc := Lib.hid (Bb.out.trans (bc.mono hzb))
    have hzc := Bc.out.size
    clear oc bc Ob e0 e1 e2 e3 e4
    go_wp2_with ((with_reducible (show wpList _ _ _ (⟨some 28, _, _, _, _, _⟩ :: _) _ _)); go_loud (refine wpList_app (o := ⟨some 28, _, _, _, _, _⟩) elC rfl _ _ rfl rfl rfl Obc.out Rc.out Lc.out ?_ ?_ ?_); (simp [beL_len]); (first | omega | (simp <;> omega)); intro Ad nd cd wd qd; have Od := Lib.hid qd.1; have Bd := Lib.hid ((Bc.out).trans qd.2.2.1); clear qd)
    obtain ⟨P0, hP0⟩ : ∃ P, beL ep 8 ++ [ow] ++ beL nx 8 ++ beL sn 8 ++ beL (n : Int) 4 = P := ⟨_, rfl⟩
    rw [hP0] at HR Od
    have HPL : Hid (P0.length = 29) := Lib.hid (by rw [← hP0]; simp [beL_len])
    clear hP0 O78 R8 L8 O9a Ra La Obc Rc Lc Z7 Z8 Z9 Za Zb B7 B8 B9 Ba Bb Bc
    have hrb : 20 ≤ 30 := by decide
    go_loopw [3, 4] (fun b i wr => ∃ (q m c : Nat) (AA : Option Addr), q ≤ n ∧ i = .int .i64 q ∧ b = .slice AA m c ∧ Hid (Own w1.heap.size 5 .u8 wr AA m c (P0 ++ rowsL (bsT (ts.take q)))) ∧ Hid (Below w1.heap.size w1 wr)) (fun _ i _ => n - (intOf i).toNat)
    case atStart => exact ⟨0, nd, cd, Ad, by omega, rfl, rfl, Lib.hid (by rw [List.take_zero, bsT_nil, rowsL_nil, List.append_nil]; exact Od.out), Bd⟩
    case round =>
      clear Od Bd
      obtain ⟨q, m, c, AA, hq, rfl, rfl, HO, HB⟩ := hrel
      have hzr := HB.out.size
      have Zr := Lib.hid (Z0.out.below HB.out hg0)
      have e4 := (cb_cells Zr.out).2.2.2.2
      by_cases hlt : q < n
      · obtain ⟨pa, hA, p1, p2, p3, p4⟩ := (C0.out.txs.below HB.out (Nat.le_refl _)) q (by rw [HN.out]; exact hlt)
        have HT : Hid (rowsL (bsT (ts.take (q + 1))) = rowsL (bsT (ts.take q)) ++ (beL ((ts.getD q Tx.none).xs.length : Int) 4 ++ (ts.getD q Tx.none).xs)) := Lib.hid (by rw [bsT_take (by rw [HN.out]; exact hlt), rowsL_append, rowsL_cons, rowsL_nil, List.append_nil])
        have HTL : (rowsL (bsT (ts.take (q + 1)))).length ≤ 16777216 := by have h1 := bsT_takeN ts (q + 1); have h2 := HRL.out; have h3 : (rowsL (bsT (ts.take (q + 1)))).length = rowsN (bsT (ts.take (q + 1))) := rowsN_eq _; omega
        rw [HT.out, List.length_append, List.length_append, beL_len] at HTL
        generalize ts.getD q Tx.none = t at *
        obtain ⟨tA, tc, tx⟩ := t
        simp only at p2 p3 p4 HT HTL
        subst hA
        have RX := Lib.hid p3
        have RX0 := RX
        obtain ⟨l, hl⟩ : ∃ l, tx.length = l := ⟨_, rfl⟩
        rw [hl] at p2 p4 HTL HT
        have HLX := Lib.hid hl
        have hHL := HPL.out
        have hRLB : (P0 ++ rowsL (bsT (ts.take q))).length ≤ 16777300 := by rw [List.length_append]; omega
        have HRB := Lib.hid hRLB
        have hl16 : l ≤ 16777216 := by omega
        have s4 : ∀ r : BW w1.heap.size wr, r.world.cell? ⟨gc, 4, none⟩ = some (.slice (some pa) n cap) := fun r => BW.cell e4 hg0 r
        have s5 : ∀ r : BW w1.heap.size wr, r.world.cell? (pa.add q) = some (.slice tA l tc) := fun r => BW.cell p2 (by rw [block_of_add]; exact p1) r
        clear p3 hl hHL hRLB HTL
        go_wp2_with fail
        refine wp_region_mix_below w1.heap.size [([0, 1, 2, 3, 4, 5, 6, 7, 10, 11, 12, 13, 14], 8), ([], 9), ([], 15)] [16] (by kernel_rfl) (by kernel_rfl) (by kernel_rfl) (by kernel_rfl) ?_
        simp only [pickL, List.map_cons, List.map_nil, List.filterMap_cons, List.filterMap_nil, List.getElem?_cons_succ, List.getElem?_cons_zero]
        refine mixS_cons ?_
        repeat (show wpQuiet _ _ _ _ (_ :: _) _; go_big_quiet_step (fail))
        refine wpQuiet_nil ?_
        show wpList _ _ _ [_] _ _
        have Dr := Lib.hid ((Below.refl w1.heap.size wr).drew)
        have Or := Lib.hid HO.out.drew
        go_wp2_with fail
        refine Calls.mono (rn_any (l : Int) 4 _ (by omega) (by omega) (by omega) (by omega)) ?_
        rintro e we ⟨Ae, ne, ce, rfl, oe, be⟩
        have Ore := Lib.hid (Or.out.below be)
        have Re := Lib.hid oe.rd
        have Le := Lib.hid oe.len
        have Be := Lib.hid (Dr.out.trans (be.mono hzr))
        have hze := Be.out.size
        have RXe := Lib.hid (RX.out.below Be.out (Nat.le_refl _))
        clear oe be Or RX
        go_wp2_with fail
        refine MixQ.below Be.out ?_
        refine mixS_cons ?_
        refine wpQuiet_nil ?_
        show wpList _ _ _ [_] _ _
        go_wp2_with ((with_reducible (show wpList _ _ _ (⟨some 45, _, _, _, _, _⟩ :: _) _ _)); go_loud (refine wpList_app (o := ⟨some 45, _, _, _, _, _⟩) elC rfl _ _ rfl rfl rfl Ore.out Re.out Le.out ?_ ?_ ?_); (rw [beL_len]; have := HRB.out; omega); (first | omega | (simp <;> omega)); intro Af nf cf wf qf; have Of := Lib.hid qf.1; have Bf := Lib.hid ((Be.out).trans qf.2.2.1); clear qf)
        have RXf := Lib.hid (RX0.out.below Bf.out (Nat.le_refl _))
        have hzf := Bf.out.size
        refine MixQ.below Bf.out ?_
        refine mixS_cons ?_
        refine wpQuiet_nil ?_
        show wpList _ _ _ [_] _ _
        go_wp2_with ((with_reducible (show wpList _ _ _ (⟨some 51, _, _, _, _, _⟩ :: _) _ _)); go_loud (refine wpList_app (o := ⟨some 51, _, _, _, _, _⟩) elC rfl _ _ rfl rfl rfl Of.out RXf.out HLX.out.symm ?_ ?_ ?_); (rw [List.length_append, beL_len, HLX.out]; have := HRB.out; omega); (first | omega | (simp <;> omega)); intro Ag ng cg wg qg; have Og := Lib.hid qg.1; have Bg := Lib.hid ((Bf.out).trans qg.2.2.1); clear qg)
        refine MixQ.below Bg.out ?_
        refine mixS_nil ?_
        repeat (show wpQuiet _ _ _ _ (_ :: _) _; go_big_quiet_step (fail))
        refine wpQuiet_nil ?_
        refine NoPanic.normal ?_
        have HJ : Hid (P0 ++ rowsL (bsT (ts.take q)) ++ beL (l : Int) 4 ++ tx = P0 ++ rowsL (bsT (ts.take (q + 1)))) := Lib.hid (by rw [HT.out]; simp only [List.append_assoc])
        rw [HJ.out] at Og
        have Wg := Lib.hid (HB.out.trans Bg.out)
        clear Ore Re Le Be RXf RXe Of Bf HJ HRB HLX HT HO HB s4 s5 Bg
        go_wp2_with fail
        go_roundw
        case rel => exact ⟨q + 1, ng, cg, Ag, by omega, by go_num, rfl, Og, Wg⟩
        case measure => simp [intOf]; omega
      · have FIN : Hid (RetOwn 5 .u8 D w (.returned (.slice AA m c)) wr) := Lib.hid ⟨AA, m, c, rfl, by
          have h := HO.out
          rw [List.take_of_length_le (by rw [HN.out]; omega), ← HR.out] at h
          exact h.mono B0.out.size, B0.out.trans (HB.out.mono B0.out.size)⟩
        clear HO HR
        go_wp2_with fail
        go_ret
        exact FIN.out
end Go.Proofs.Ytnagpaaiaaaamaa
