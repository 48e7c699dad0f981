/- Layer 26: the chapter's rows hold. Conditions: as each theorem states them. -/
import Derived.Test.YtnagpaaiaaaamaaD17
namespace Go.Proofs.Ytnagpaaiaaaamaa
open Go.RowKit
theorem CIn.nil (w : World) : CIn w.heap.size w none 0 0 [] := ⟨rfl, Nat.le_refl _, fun i hi => absurd hi (Nat.not_lt_zero i), fun x hx => by cases hx⟩
theorem bsT_nil_ : bsT [] = [] := by simp [bsT]
theorem cl_kc (e o : Int) : cl_ e o 0 0 [] = kc e o := by unfold cl_ kc; rw [bsT_nil_]
/-- the bytes of a slot -/
def Okl (L : List Int) : Prop := Byt L ∧ L.length ≤ 1000000000000
theorem okl_nil : Okl [] := ⟨Byt.nil, by decide⟩
theorem okl_kc {e o : Int} (k : Int) (h0 : 0 ≤ e) (h1 : e < 18446744073709551616) (h2 : 0 ≤ o) (h3 : o < 256) : Okl ((kc e o).rcd k) := ⟨CL.rcd_byt (kc_fit h0 h1 h2 h3) k, by rw [kc_len]; decide⟩
theorem okl_take {L : List Int} (h : Okl L) (m : Nat) : Okl (L.take m) := ⟨fun x hx => h.1 x (List.mem_of_mem_take hx), by have := h.2; rw [List.length_take]; omega⟩
theorem write_kc (g : Nat) (L0 L1 : List Int) (f t : Bool) (a e o : Int) (w : World) (h : StB g w L0 L1 f a t) (o0 : Okl L0) (o1 : Okl L1)
    (h0 : 0 ≤ e) (h1 : e < 18446744073709551616) (h2 : 0 ≤ o) (h3 : o < 256) (k0 : 0 ≤ (newN L0 L1).2.2) (k1 : (newN L0 L1).2.2 < 9223372036854775807) :
    Calls Try.prog 15 #[.pointer (some ⟨g, 0, none⟩), .agg #[.int .u64 e, .int .u8 o, .int .u64 0, .int .u64 0, .slice none 0 0]] w (WrPost g a (wrS (kc e o) (newN L0 L1) L0 L1 f a t) w) :=
  by
  have hk := cl_kc e o
  have := write_any g L0 L1 f t a e o 0 0 none 0 0 [] w h o0.1 o1.1 o0.2 o1.2 (CIn.nil w) (by rw [hk]; exact kc_fit h0 h1 h2 h3) (by rw [bsT_nil_, rowsN_nil_]; decide) k0 k1
  rwa [hk] at this
theorem wr6 : wrS (kc 0 3) (newN ((kc 4 0).rcd 3) ((kc 3 0).rcd 2)) ((kc 4 0).rcd 3) ((kc 3 0).rcd 2) false (-1) true = (2, (kc 4 0).rcd 3, (kc 3 0).rcd 2, false, true) := by
  unfold wrS; rw [if_pos (fun q => absurd q.1 (by decide))]
theorem size5r : (Try.prog.info? 52).map (·.size) = some 5 := by kernel_rfl
attribute [local irreducible] CL.rcd CL.size wrS newN
set_option maxRecDepth 100000 in
set_option maxHeartbeats 8000000 in
theorem known26 (w : World) : Calls Try.prog 6 #[] w fun e w' => e = .returned (.bool true) ∧ Below w.heap.size w w' := by
  go_enter Try.func6, Try.ntmps6
  go_wp2_with fail
  refine Calls.mono (new_any _) ?_
  rintro e w1 ⟨g, rfl, hst, hg, b1⟩
  have S1 := Lib.hid hst
  have B1 := Lib.hid b1
  clear hst b1
  go_wp2_with fail
  refine Calls.mono (read_any g [] [] _ _ _ w1 S1.out okl_nil.1 okl_nil.1 okl_nil.2 okl_nil.2) ?_
  rintro e w2 ⟨A2, nn2, cap2, ts2, rfl, c2, fr2, bs2, b2⟩
  rw [newN_nil]
  have hd : decide ((0 : Int) ≤ -1) = false := by decide
  simp only [CL.zero, hd]
  have HZ2 := Lib.hid (show w1.heap.size ≤ w2.heap.size from (b2).size)
  have S2 := Lib.hid (S1.out.below b2)
  have B2 := Lib.hid (B1.out.trans ((b2).mono B1.out.size))
  clear S1 B1 
  clear c2 fr2 bs2 b2 hd
  clear HZ2
  go_wp2_with ((with_reducible (show wpList _ _ _ (⟨none, .store 25 _ _, _, _, _, _⟩ :: _) _ _)); go_loud (refine wpList_storeBlk (o := ⟨none, .store 25 _ _, _, _, _, _⟩) (g := w2.heap.size) (t := 25) (vs := [.int .u64 0, .int .u8 0, .int .u64 0, .int .u64 0, .slice A2 nn2 cap2]) rfl _ _ rfl rfl rfl (Blk.new _ _ _) rfl (one5 rfl rfl rfl rfl rfl) size5 ?_); intro w3 z3 g3; have G3 := Lib.hid (((Below.refl w2.heap.size w2).alloc (Nat.le_refl _) _).trans (below_of_only g3 (Nat.le_refl _) (by simp))); have Z3 := Lib.hid z3; obtain ⟨q0, q1, q2, q3, q4⟩ := cb_cells z3; clear z3 g3)
  have HZ3 := Lib.hid (show w2.heap.size ≤ w3.heap.size from (G3.out).size)
  have S3 := Lib.hid (S2.out.below G3.out)
  have B3 := Lib.hid (B2.out.trans ((G3.out).mono B2.out.size))
  clear S2 B2 
  clear G3 HZ3 Z3 q0 q1 q2 q3 q4
  refine Calls.mono (write_kc g [] [] false false 0 1 2 _ S3.out okl_nil okl_nil (by decide) (by decide) (by decide) (by decide) (by rw [newN_nil]; decide) (by rw [newN_nil]; decide)) ?_
  rw [wr1]
  rintro e w4 ⟨rfl, s4, g4⟩
  simp only at s4
  have S4 := Lib.hid s4
  have B4 := Lib.hid (B3.out.trans (below_of_only g4 hg B3.out.size))
  clear S3 B3 
  clear s4 g4
  go_wp2_with fail
  refine Calls.mono (read_any g ((kc 1 2).rcd 1) [] _ _ _ w4 S4.out (okl_kc 1 (by decide) (by decide) (by decide) (by decide)).1 okl_nil.1 (okl_kc 1 (by decide) (by decide) (by decide) (by decide)).2 okl_nil.2) ?_
  rintro e w5 ⟨A5, nn5, cap5, ts5, rfl, c5, fr5, bs5, b5⟩
  rw [n1]
  simp only [kc]
  have HZ5 := Lib.hid (show w4.heap.size ≤ w5.heap.size from (b5).size)
  have S5 := Lib.hid (S4.out.below b5)
  have B5 := Lib.hid (B4.out.trans ((b5).mono B4.out.size))
  clear S4 B4 
  clear c5 fr5 bs5 b5
  clear HZ5
  go_wp2_with ((with_reducible (show wpList _ _ _ (⟨none, .store 25 _ _, _, _, _, _⟩ :: _) _ _)); go_loud (refine wpList_storeBlk (o := ⟨none, .store 25 _ _, _, _, _, _⟩) (g := w5.heap.size) (t := 25) (vs := [.int .u64 1, .int .u8 2, .int .u64 0, .int .u64 0, .slice A5 nn5 cap5]) rfl _ _ rfl rfl rfl (Blk.new _ _ _) rfl (one5 rfl rfl rfl rfl rfl) size5 ?_); intro w6 z6 g6; have G6 := Lib.hid (((Below.refl w5.heap.size w5).alloc (Nat.le_refl _) _).trans (below_of_only g6 (Nat.le_refl _) (by simp))); have Z6 := Lib.hid z6; obtain ⟨q0, q1, q2, q3, q4⟩ := cb_cells z6; clear z6 g6)
  have HZ6 := Lib.hid (show w5.heap.size ≤ w6.heap.size from (G6.out).size)
  have S6 := Lib.hid (S5.out.below G6.out)
  have B6 := Lib.hid (B5.out.trans ((G6.out).mono B5.out.size))
  clear S5 B5 
  clear G6 HZ6 Z6 q0 q1 q2 q3 q4
  refine Calls.mono (count_any g ((kc 1 2).rcd 1) [] _ _ _ w6 S6.out (okl_kc 1 (by decide) (by decide) (by decide) (by decide)).1 okl_nil.1 (okl_kc 1 (by decide) (by decide) (by decide) (by decide)).2 okl_nil.2) ?_
  rw [n1]
  rintro e w7 ⟨rfl, b7⟩
  have HZ7 := Lib.hid (show w6.heap.size ≤ w7.heap.size from (b7).size)
  have S7 := Lib.hid (S6.out.below b7)
  have B7 := Lib.hid (B6.out.trans ((b7).mono B6.out.size))
  clear S6 B6 
  clear b7 HZ7
  have T0 : Hid (Blk (w7.alloc (.cells #[.bool true, .int .i64 20, .int .u64 2, .int .u64 1, .int .i64 8, .bool false, .int .i64 0, .int .u64 3, .int .u64 3, .int .i64 0, .bool true, .int .i64 1000, .int .u64 4, .int .u64 4, .int .i64 8, .bool true, .int .i64 (-1), .int .u64 5, .int .u64 4, .int .i64 8] 52)) w7.heap.size 52 #[.bool true, .int .i64 20, .int .u64 2, .int .u64 1, .int .i64 8, .bool false, .int .i64 0, .int .u64 3, .int .u64 3, .int .i64 0, .bool true, .int .i64 1000, .int .u64 4, .int .u64 4, .int .i64 8, .bool true, .int .i64 (-1), .int .u64 5, .int .u64 4, .int .i64 8]) := Lib.hid (Blk.new _ _ _)
  have BT := Lib.hid ((Below.refl w7.heap.size w7).alloc (Nat.le_refl _) (.cells #[.bool true, .int .i64 20, .int .u64 2, .int .u64 1, .int .i64 8, .bool false, .int .i64 0, .int .u64 3, .int .u64 3, .int .i64 0, .bool true, .int .i64 1000, .int .u64 4, .int .u64 4, .int .i64 8, .bool true, .int .i64 (-1), .int .u64 5, .int .u64 4, .int .i64 8] 52))
  have TG : Hid (g < w7.heap.size) := Lib.hid S7.out.lt
  go_wp2_with fail
  generalize hw8 : w7.alloc (.cells #[.bool true, .int .i64 20, .int .u64 2, .int .u64 1, .int .i64 8, .bool false, .int .i64 0, .int .u64 3, .int .u64 3, .int .i64 0, .bool true, .int .i64 1000, .int .u64 4, .int .u64 4, .int .i64 8, .bool true, .int .i64 (-1), .int .u64 5, .int .u64 4, .int .i64 8] 52) = w8 at *
  have HZ8 := Lib.hid (show w7.heap.size ≤ w8.heap.size from (BT.out).size)
  have S8 := Lib.hid (S7.out.below BT.out)
  have B8 := Lib.hid (B7.out.trans ((BT.out).mono B7.out.size))
  clear S7 B7 
  have T8 := T0
  obtain ⟨gt, hgt⟩ : ∃ z, w7.heap.size = z := ⟨_, rfl⟩
  rw [hgt] at T8 TG ⊢
  clear hw8 hgt T0 BT HZ8
  refine wp_loop_rounds 5 ?_
  rw [rounds_succ]
  have hrow := blk_loadMid (P := Try.prog) (ty := 52) (A := []) (B := [.bool true, .int .i64 20, .int .u64 2, .int .u64 1, .int .i64 8]) (C := [.bool false, .int .i64 0, .int .u64 3, .int .u64 3, .int .i64 0, .bool true, .int .i64 1000, .int .u64 4, .int .u64 4, .int .i64 8, .bool true, .int .i64 (-1), .int .u64 5, .int .u64 4, .int .i64 8]) (o := 0) T8.out rfl Try.underlying52 rfl size5r
  go_wp2_with (first
    | ((with_reducible (show wpList _ _ _ (⟨some 64, .load _ _, _, _, _, _⟩ :: _) _ _)); go_loud (refine wpList_loadV (o := ⟨some 64, .load _ _, _, _, _, _⟩) rfl _ rfl rfl hrow ?_))
    | ((with_reducible (show wpList _ _ _ (⟨none, .store 52 _ _, _, _, _, _⟩ :: _) _ _)); go_loud (refine wpList_storeBlk (o := ⟨none, .store 52 _ _, _, _, _, _⟩) (g := w8.heap.size) (t := 52) (vs := [.bool true, .int .i64 20, .int .u64 2, .int .u64 1, .int .i64 8]) rfl _ _ rfl rfl rfl (Blk.new _ _ _) rfl (one5 rfl rfl rfl rfl rfl) size5r ?_); intro w9 z9 g9; have G9 := Lib.hid (((Below.refl w8.heap.size w8).alloc (Nat.le_refl _) _).trans (below_of_only g9 (Nat.le_refl _) (by simp))); have XX := Lib.hid z9; have y0 := Blk.cell z9 0; have y1 := Blk.cell z9 1; have y2 := Blk.cell z9 2; simp at y0 y1 y2; clear z9 g9))
  clear hrow y0 y1 y2
  have XG : Hid (g < w8.heap.size) := Lib.hid S8.out.lt
  have HZ9 := Lib.hid (show w8.heap.size ≤ w9.heap.size from (G9.out).size)
  have S9 := Lib.hid (S8.out.below G9.out)
  have B9 := Lib.hid (B8.out.trans ((G9.out).mono B8.out.size))
  have T9 := Lib.hid (T8.out.below G9.out T8.out.lt)
  clear S8 B8 T8
  clear G9 HZ9
  obtain ⟨gx0, hgx⟩ : ∃ z, w8.heap.size = z := ⟨_, rfl⟩
  rw [hgx] at XX XG ⊢
  have X9 := XX
  clear XX hgx
  refine Calls.mono (fail_any g ((kc 1 2).rcd 1) [] false false 0 20 _ S9.out) ?_
  rintro e w10 ⟨rfl, s10, g10⟩
  have S10 := Lib.hid s10
  have B10 := Lib.hid (B9.out.trans (below_of_only g10 hg B9.out.size))
  have T10 := Lib.hid (T9.out.grown g10 (by intro q; injection q with q; have := TG.out; omega))
  have X10 := Lib.hid (X9.out.grown g10 (by intro q; injection q with q; have := XG.out; omega))
  clear S9 B9 T9 X9
  clear s10 g10
  have y1 := Blk.cell X10.out 1
  have y2 := Blk.cell X10.out 2
  have y3 := Blk.cell X10.out 3
  have y4 := Blk.cell X10.out 4
  simp at y1 y2 y3 y4
  go_wp2_with fail
  clear y1 y2 y3 y4
  refine Calls.mono (write_kc g ((kc 1 2).rcd 1) [] true false 20 2 0 _ S10.out (okl_kc 1 (by decide) (by decide) (by decide) (by decide)) okl_nil (by decide) (by decide) (by decide) (by decide) (by rw [n1]; decide) (by rw [n1]; decide)) ?_
  rw [wr2]
  rintro e w11 ⟨rfl, s11, g11⟩
  simp only at s11
  have S11 := Lib.hid s11
  have B11 := Lib.hid (B10.out.trans (below_of_only g11 hg B10.out.size))
  have T11 := Lib.hid (T10.out.grown g11 (by intro q; injection q with q; have := TG.out; omega))
  have X11 := Lib.hid (X10.out.grown g11 (by intro q; injection q with q; have := XG.out; omega))
  clear S10 B10 T10 X10
  clear s11 g11
  go_wp2_with fail
  refine Calls.mono (read_any g ((kc 1 2).rcd 1) (((kc 2 0).rcd 2).take 20) _ _ _ w11 S11.out (okl_kc 1 (by decide) (by decide) (by decide) (by decide)).1 (okl_take (okl_kc 2 (by decide) (by decide) (by decide) (by decide)) 20).1 (okl_kc 1 (by decide) (by decide) (by decide) (by decide)).2 (okl_take (okl_kc 2 (by decide) (by decide) (by decide) (by decide)) 20).2) ?_
  rintro e w12 ⟨A12, nn12, cap12, ts12, rfl, c12, fr12, bs12, b12⟩
  rw [n2]
  simp only [kc]
  have HZ12 := Lib.hid (show w11.heap.size ≤ w12.heap.size from (b12).size)
  have S12 := Lib.hid (S11.out.below b12)
  have B12 := Lib.hid (B11.out.trans ((b12).mono B11.out.size))
  have T12 := Lib.hid (T11.out.below b12 T11.out.lt)
  have X12 := Lib.hid (X11.out.below b12 X11.out.lt)
  clear S11 B11 T11 X11
  clear c12 fr12 bs12 b12
  clear HZ12
  go_wp2_with ((with_reducible (show wpList _ _ _ (⟨none, .store 25 _ _, _, _, _, _⟩ :: _) _ _)); go_loud (refine wpList_storeBlk (o := ⟨none, .store 25 _ _, _, _, _, _⟩) (g := w12.heap.size) (t := 25) (vs := [.int .u64 1, .int .u8 2, .int .u64 0, .int .u64 0, .slice A12 nn12 cap12]) rfl _ _ rfl rfl rfl (Blk.new _ _ _) rfl (one5 rfl rfl rfl rfl rfl) size5 ?_); intro w13 z13 g13; have G13 := Lib.hid (((Below.refl w12.heap.size w12).alloc (Nat.le_refl _) _).trans (below_of_only g13 (Nat.le_refl _) (by simp))); have Z13 := Lib.hid z13; obtain ⟨q0, q1, q2, q3, q4⟩ := cb_cells z13; clear z13 g13; have y3 := Blk.cell (X12.out.below G13.out X12.out.lt) 3; have y4 := Blk.cell (X12.out.below G13.out X12.out.lt) 4; simp at y3 y4)
  have HZ13 := Lib.hid (show w12.heap.size ≤ w13.heap.size from (G13.out).size)
  have S13 := Lib.hid (S12.out.below G13.out)
  have B13 := Lib.hid (B12.out.trans ((G13.out).mono B12.out.size))
  have T13 := Lib.hid (T12.out.below G13.out T12.out.lt)
  have X13 := Lib.hid (X12.out.below G13.out X12.out.lt)
  clear S12 B12 T12 X12
  clear G13 HZ13 Z13 q0 q1 q2 q3 q4 y3 y4
  clear X13 XG
  rw [rounds_succ]
  have hrow := blk_loadMid (P := Try.prog) (ty := 52) (A := [.bool true, .int .i64 20, .int .u64 2, .int .u64 1, .int .i64 8]) (B := [.bool false, .int .i64 0, .int .u64 3, .int .u64 3, .int .i64 0]) (C := [.bool true, .int .i64 1000, .int .u64 4, .int .u64 4, .int .i64 8, .bool true, .int .i64 (-1), .int .u64 5, .int .u64 4, .int .i64 8]) (o := 5) T13.out rfl Try.underlying52 rfl size5r
  go_wp2_with (first
    | ((with_reducible (show wpList _ _ _ (⟨some 64, .load _ _, _, _, _, _⟩ :: _) _ _)); go_loud (refine wpList_loadV (o := ⟨some 64, .load _ _, _, _, _, _⟩) rfl _ rfl rfl hrow ?_))
    | ((with_reducible (show wpList _ _ _ (⟨none, .store 52 _ _, _, _, _, _⟩ :: _) _ _)); go_loud (refine wpList_storeBlk (o := ⟨none, .store 52 _ _, _, _, _, _⟩) (g := w13.heap.size) (t := 52) (vs := [.bool false, .int .i64 0, .int .u64 3, .int .u64 3, .int .i64 0]) rfl _ _ rfl rfl rfl (Blk.new _ _ _) rfl (one5 rfl rfl rfl rfl rfl) size5r ?_); intro w14 z14 g14; have G14 := Lib.hid (((Below.refl w13.heap.size w13).alloc (Nat.le_refl _) _).trans (below_of_only g14 (Nat.le_refl _) (by simp))); have XX := Lib.hid z14; have y0 := Blk.cell z14 0; have y1 := Blk.cell z14 1; have y2 := Blk.cell z14 2; simp at y0 y1 y2; clear z14 g14))
  clear hrow y0 y1 y2
  have XG : Hid (g < w13.heap.size) := Lib.hid S13.out.lt
  have HZ14 := Lib.hid (show w13.heap.size ≤ w14.heap.size from (G14.out).size)
  have S14 := Lib.hid (S13.out.below G14.out)
  have B14 := Lib.hid (B13.out.trans ((G14.out).mono B13.out.size))
  have T14 := Lib.hid (T13.out.below G14.out T13.out.lt)
  clear S13 B13 T13
  clear G14 HZ14
  obtain ⟨gx1, hgx⟩ : ∃ z, w13.heap.size = z := ⟨_, rfl⟩
  rw [hgx] at XX XG ⊢
  have X14 := XX
  clear XX hgx
  refine Calls.mono (write_kc g ((kc 1 2).rcd 1) (((kc 2 0).rcd 2).take 20) false true 20 3 0 _ S14.out (okl_kc 1 (by decide) (by decide) (by decide) (by decide)) (okl_take (okl_kc 2 (by decide) (by decide) (by decide) (by decide)) 20) (by decide) (by decide) (by decide) (by decide) (by rw [n2]; decide) (by rw [n2]; decide)) ?_
  rw [wr3]
  rintro e w15 ⟨rfl, s15, g15⟩
  simp only at s15
  have S15 := Lib.hid s15
  have B15 := Lib.hid (B14.out.trans (below_of_only g15 hg B14.out.size))
  have T15 := Lib.hid (T14.out.grown g15 (by intro q; injection q with q; have := TG.out; omega))
  have X15 := Lib.hid (X14.out.grown g15 (by intro q; injection q with q; have := XG.out; omega))
  clear S14 B14 T14 X14
  clear s15 g15
  go_wp2_with fail
  refine Calls.mono (read_any g ((kc 1 2).rcd 1) ((kc 3 0).rcd 2) _ _ _ w15 S15.out (okl_kc 1 (by decide) (by decide) (by decide) (by decide)).1 (okl_kc 2 (by decide) (by decide) (by decide) (by decide)).1 (okl_kc 1 (by decide) (by decide) (by decide) (by decide)).2 (okl_kc 2 (by decide) (by decide) (by decide) (by decide)).2) ?_
  rintro e w16 ⟨A16, nn16, cap16, ts16, rfl, c16, fr16, bs16, b16⟩
  rw [n3]
  simp only [kc]
  have HZ16 := Lib.hid (show w15.heap.size ≤ w16.heap.size from (b16).size)
  have S16 := Lib.hid (S15.out.below b16)
  have B16 := Lib.hid (B15.out.trans ((b16).mono B15.out.size))
  have T16 := Lib.hid (T15.out.below b16 T15.out.lt)
  have X16 := Lib.hid (X15.out.below b16 X15.out.lt)
  clear S15 B15 T15 X15
  clear c16 fr16 bs16 b16
  clear HZ16
  go_wp2_with ((with_reducible (show wpList _ _ _ (⟨none, .store 25 _ _, _, _, _, _⟩ :: _) _ _)); go_loud (refine wpList_storeBlk (o := ⟨none, .store 25 _ _, _, _, _, _⟩) (g := w16.heap.size) (t := 25) (vs := [.int .u64 3, .int .u8 0, .int .u64 0, .int .u64 0, .slice A16 nn16 cap16]) rfl _ _ rfl rfl rfl (Blk.new _ _ _) rfl (one5 rfl rfl rfl rfl rfl) size5 ?_); intro w17 z17 g17; have G17 := Lib.hid (((Below.refl w16.heap.size w16).alloc (Nat.le_refl _) _).trans (below_of_only g17 (Nat.le_refl _) (by simp))); have Z17 := Lib.hid z17; obtain ⟨q0, q1, q2, q3, q4⟩ := cb_cells z17; clear z17 g17; have y3 := Blk.cell (X16.out.below G17.out X16.out.lt) 3; have y4 := Blk.cell (X16.out.below G17.out X16.out.lt) 4; simp at y3 y4)
  have HZ17 := Lib.hid (show w16.heap.size ≤ w17.heap.size from (G17.out).size)
  have S17 := Lib.hid (S16.out.below G17.out)
  have B17 := Lib.hid (B16.out.trans ((G17.out).mono B16.out.size))
  have T17 := Lib.hid (T16.out.below G17.out T16.out.lt)
  have X17 := Lib.hid (X16.out.below G17.out X16.out.lt)
  clear S16 B16 T16 X16
  clear G17 HZ17 Z17 q0 q1 q2 q3 q4 y3 y4
  clear X17 XG
  rw [rounds_succ]
  have hrow := blk_loadMid (P := Try.prog) (ty := 52) (A := [.bool true, .int .i64 20, .int .u64 2, .int .u64 1, .int .i64 8, .bool false, .int .i64 0, .int .u64 3, .int .u64 3, .int .i64 0]) (B := [.bool true, .int .i64 1000, .int .u64 4, .int .u64 4, .int .i64 8]) (C := [.bool true, .int .i64 (-1), .int .u64 5, .int .u64 4, .int .i64 8]) (o := 10) T17.out rfl Try.underlying52 rfl size5r
  go_wp2_with (first
    | ((with_reducible (show wpList _ _ _ (⟨some 64, .load _ _, _, _, _, _⟩ :: _) _ _)); go_loud (refine wpList_loadV (o := ⟨some 64, .load _ _, _, _, _, _⟩) rfl _ rfl rfl hrow ?_))
    | ((with_reducible (show wpList _ _ _ (⟨none, .store 52 _ _, _, _, _, _⟩ :: _) _ _)); go_loud (refine wpList_storeBlk (o := ⟨none, .store 52 _ _, _, _, _, _⟩) (g := w17.heap.size) (t := 52) (vs := [.bool true, .int .i64 1000, .int .u64 4, .int .u64 4, .int .i64 8]) rfl _ _ rfl rfl rfl (Blk.new _ _ _) rfl (one5 rfl rfl rfl rfl rfl) size5r ?_); intro w18 z18 g18; have G18 := Lib.hid (((Below.refl w17.heap.size w17).alloc (Nat.le_refl _) _).trans (below_of_only g18 (Nat.le_refl _) (by simp))); have XX := Lib.hid z18; have y0 := Blk.cell z18 0; have y1 := Blk.cell z18 1; have y2 := Blk.cell z18 2; simp at y0 y1 y2; clear z18 g18))
  clear hrow y0 y1 y2
  have XG : Hid (g < w17.heap.size) := Lib.hid S17.out.lt
  have HZ18 := Lib.hid (show w17.heap.size ≤ w18.heap.size from (G18.out).size)
  have S18 := Lib.hid (S17.out.below G18.out)
  have B18 := Lib.hid (B17.out.trans ((G18.out).mono B17.out.size))
  have T18 := Lib.hid (T17.out.below G18.out T17.out.lt)
  clear S17 B17 T17
  clear G18 HZ18
  obtain ⟨gx2, hgx⟩ : ∃ z, w17.heap.size = z := ⟨_, rfl⟩
  rw [hgx] at XX XG ⊢
  have X18 := XX
  clear XX hgx
  refine Calls.mono (fail_any g ((kc 1 2).rcd 1) ((kc 3 0).rcd 2) false false 20 1000 _ S18.out) ?_
  rintro e w19 ⟨rfl, s19, g19⟩
  have S19 := Lib.hid s19
  have B19 := Lib.hid (B18.out.trans (below_of_only g19 hg B18.out.size))
  have T19 := Lib.hid (T18.out.grown g19 (by intro q; injection q with q; have := TG.out; omega))
  have X19 := Lib.hid (X18.out.grown g19 (by intro q; injection q with q; have := XG.out; omega))
  clear S18 B18 T18 X18
  clear s19 g19
  have y1 := Blk.cell X19.out 1
  have y2 := Blk.cell X19.out 2
  have y3 := Blk.cell X19.out 3
  have y4 := Blk.cell X19.out 4
  simp at y1 y2 y3 y4
  go_wp2_with fail
  clear y1 y2 y3 y4
  refine Calls.mono (write_kc g ((kc 1 2).rcd 1) ((kc 3 0).rcd 2) true false 1000 4 0 _ S19.out (okl_kc 1 (by decide) (by decide) (by decide) (by decide)) (okl_kc 2 (by decide) (by decide) (by decide) (by decide)) (by decide) (by decide) (by decide) (by decide) (by rw [n3]; decide) (by rw [n3]; decide)) ?_
  rw [wr4]
  rintro e w20 ⟨rfl, s20, g20⟩
  simp only at s20
  have S20 := Lib.hid s20
  have B20 := Lib.hid (B19.out.trans (below_of_only g20 hg B19.out.size))
  have T20 := Lib.hid (T19.out.grown g20 (by intro q; injection q with q; have := TG.out; omega))
  have X20 := Lib.hid (X19.out.grown g20 (by intro q; injection q with q; have := XG.out; omega))
  clear S19 B19 T19 X19
  clear s20 g20
  go_wp2_with fail
  refine Calls.mono (read_any g ((kc 4 0).rcd 3) ((kc 3 0).rcd 2) _ _ _ w20 S20.out (okl_kc 3 (by decide) (by decide) (by decide) (by decide)).1 (okl_kc 2 (by decide) (by decide) (by decide) (by decide)).1 (okl_kc 3 (by decide) (by decide) (by decide) (by decide)).2 (okl_kc 2 (by decide) (by decide) (by decide) (by decide)).2) ?_
  rintro e w21 ⟨A21, nn21, cap21, ts21, rfl, c21, fr21, bs21, b21⟩
  rw [n4]
  simp only [kc]
  have HZ21 := Lib.hid (show w20.heap.size ≤ w21.heap.size from (b21).size)
  have S21 := Lib.hid (S20.out.below b21)
  have B21 := Lib.hid (B20.out.trans ((b21).mono B20.out.size))
  have T21 := Lib.hid (T20.out.below b21 T20.out.lt)
  have X21 := Lib.hid (X20.out.below b21 X20.out.lt)
  clear S20 B20 T20 X20
  clear c21 fr21 bs21 b21
  clear HZ21
  go_wp2_with ((with_reducible (show wpList _ _ _ (⟨none, .store 25 _ _, _, _, _, _⟩ :: _) _ _)); go_loud (refine wpList_storeBlk (o := ⟨none, .store 25 _ _, _, _, _, _⟩) (g := w21.heap.size) (t := 25) (vs := [.int .u64 4, .int .u8 0, .int .u64 0, .int .u64 0, .slice A21 nn21 cap21]) rfl _ _ rfl rfl rfl (Blk.new _ _ _) rfl (one5 rfl rfl rfl rfl rfl) size5 ?_); intro w22 z22 g22; have G22 := Lib.hid (((Below.refl w21.heap.size w21).alloc (Nat.le_refl _) _).trans (below_of_only g22 (Nat.le_refl _) (by simp))); have Z22 := Lib.hid z22; obtain ⟨q0, q1, q2, q3, q4⟩ := cb_cells z22; clear z22 g22; have y3 := Blk.cell (X21.out.below G22.out X21.out.lt) 3; have y4 := Blk.cell (X21.out.below G22.out X21.out.lt) 4; simp at y3 y4)
  have HZ22 := Lib.hid (show w21.heap.size ≤ w22.heap.size from (G22.out).size)
  have S22 := Lib.hid (S21.out.below G22.out)
  have B22 := Lib.hid (B21.out.trans ((G22.out).mono B21.out.size))
  have T22 := Lib.hid (T21.out.below G22.out T21.out.lt)
  have X22 := Lib.hid (X21.out.below G22.out X21.out.lt)
  clear S21 B21 T21 X21
  clear G22 HZ22 Z22 q0 q1 q2 q3 q4 y3 y4
  clear X22 XG
  rw [rounds_succ]
  have hrow := blk_loadMid (P := Try.prog) (ty := 52) (A := [.bool true, .int .i64 20, .int .u64 2, .int .u64 1, .int .i64 8, .bool false, .int .i64 0, .int .u64 3, .int .u64 3, .int .i64 0, .bool true, .int .i64 1000, .int .u64 4, .int .u64 4, .int .i64 8]) (B := [.bool true, .int .i64 (-1), .int .u64 5, .int .u64 4, .int .i64 8]) (C := []) (o := 15) T22.out rfl Try.underlying52 rfl size5r
  go_wp2_with (first
    | ((with_reducible (show wpList _ _ _ (⟨some 64, .load _ _, _, _, _, _⟩ :: _) _ _)); go_loud (refine wpList_loadV (o := ⟨some 64, .load _ _, _, _, _, _⟩) rfl _ rfl rfl hrow ?_))
    | ((with_reducible (show wpList _ _ _ (⟨none, .store 52 _ _, _, _, _, _⟩ :: _) _ _)); go_loud (refine wpList_storeBlk (o := ⟨none, .store 52 _ _, _, _, _, _⟩) (g := w22.heap.size) (t := 52) (vs := [.bool true, .int .i64 (-1), .int .u64 5, .int .u64 4, .int .i64 8]) rfl _ _ rfl rfl rfl (Blk.new _ _ _) rfl (one5 rfl rfl rfl rfl rfl) size5r ?_); intro w23 z23 g23; have G23 := Lib.hid (((Below.refl w22.heap.size w22).alloc (Nat.le_refl _) _).trans (below_of_only g23 (Nat.le_refl _) (by simp))); have XX := Lib.hid z23; have y0 := Blk.cell z23 0; have y1 := Blk.cell z23 1; have y2 := Blk.cell z23 2; simp at y0 y1 y2; clear z23 g23))
  clear hrow y0 y1 y2
  have XG : Hid (g < w22.heap.size) := Lib.hid S22.out.lt
  have HZ23 := Lib.hid (show w22.heap.size ≤ w23.heap.size from (G23.out).size)
  have S23 := Lib.hid (S22.out.below G23.out)
  have B23 := Lib.hid (B22.out.trans ((G23.out).mono B22.out.size))
  have T23 := Lib.hid (T22.out.below G23.out T22.out.lt)
  clear S22 B22 T22
  clear G23 HZ23
  obtain ⟨gx3, hgx⟩ : ∃ z, w22.heap.size = z := ⟨_, rfl⟩
  rw [hgx] at XX XG ⊢
  have X23 := XX
  clear XX hgx
  refine Calls.mono (fail_any g ((kc 4 0).rcd 3) ((kc 3 0).rcd 2) false true 1000 (-1) _ S23.out) ?_
  rintro e w24 ⟨rfl, s24, g24⟩
  have S24 := Lib.hid s24
  have B24 := Lib.hid (B23.out.trans (below_of_only g24 hg B23.out.size))
  have T24 := Lib.hid (T23.out.grown g24 (by intro q; injection q with q; have := TG.out; omega))
  have X24 := Lib.hid (X23.out.grown g24 (by intro q; injection q with q; have := XG.out; omega))
  clear S23 B23 T23 X23
  clear s24 g24
  have y1 := Blk.cell X24.out 1
  have y2 := Blk.cell X24.out 2
  have y3 := Blk.cell X24.out 3
  have y4 := Blk.cell X24.out 4
  simp at y1 y2 y3 y4
  go_wp2_with fail
  clear y1 y2 y3 y4
  refine Calls.mono (write_kc g ((kc 4 0).rcd 3) ((kc 3 0).rcd 2) true true (-1) 5 0 _ S24.out (okl_kc 3 (by decide) (by decide) (by decide) (by decide)) (okl_kc 2 (by decide) (by decide) (by decide) (by decide)) (by decide) (by decide) (by decide) (by decide) (by rw [n4]; decide) (by rw [n4]; decide)) ?_
  rw [wr5]
  rintro e w25 ⟨rfl, s25, g25⟩
  simp only at s25
  have S25 := Lib.hid s25
  have B25 := Lib.hid (B24.out.trans (below_of_only g25 hg B24.out.size))
  have T25 := Lib.hid (T24.out.grown g25 (by intro q; injection q with q; have := TG.out; omega))
  have X25 := Lib.hid (X24.out.grown g25 (by intro q; injection q with q; have := XG.out; omega))
  clear S24 B24 T24 X24
  clear s25 g25
  go_wp2_with fail
  refine Calls.mono (read_any g ((kc 4 0).rcd 3) ((kc 3 0).rcd 2) _ _ _ w25 S25.out (okl_kc 3 (by decide) (by decide) (by decide) (by decide)).1 (okl_kc 2 (by decide) (by decide) (by decide) (by decide)).1 (okl_kc 3 (by decide) (by decide) (by decide) (by decide)).2 (okl_kc 2 (by decide) (by decide) (by decide) (by decide)).2) ?_
  rintro e w26 ⟨A26, nn26, cap26, ts26, rfl, c26, fr26, bs26, b26⟩
  rw [n4]
  simp only [kc]
  have HZ26 := Lib.hid (show w25.heap.size ≤ w26.heap.size from (b26).size)
  have S26 := Lib.hid (S25.out.below b26)
  have B26 := Lib.hid (B25.out.trans ((b26).mono B25.out.size))
  have T26 := Lib.hid (T25.out.below b26 T25.out.lt)
  have X26 := Lib.hid (X25.out.below b26 X25.out.lt)
  clear S25 B25 T25 X25
  clear c26 fr26 bs26 b26
  clear HZ26
  go_wp2_with ((with_reducible (show wpList _ _ _ (⟨none, .store 25 _ _, _, _, _, _⟩ :: _) _ _)); go_loud (refine wpList_storeBlk (o := ⟨none, .store 25 _ _, _, _, _, _⟩) (g := w26.heap.size) (t := 25) (vs := [.int .u64 4, .int .u8 0, .int .u64 0, .int .u64 0, .slice A26 nn26 cap26]) rfl _ _ rfl rfl rfl (Blk.new _ _ _) rfl (one5 rfl rfl rfl rfl rfl) size5 ?_); intro w27 z27 g27; have G27 := Lib.hid (((Below.refl w26.heap.size w26).alloc (Nat.le_refl _) _).trans (below_of_only g27 (Nat.le_refl _) (by simp))); have Z27 := Lib.hid z27; obtain ⟨q0, q1, q2, q3, q4⟩ := cb_cells z27; clear z27 g27; have y3 := Blk.cell (X26.out.below G27.out X26.out.lt) 3; have y4 := Blk.cell (X26.out.below G27.out X26.out.lt) 4; simp at y3 y4)
  have HZ27 := Lib.hid (show w26.heap.size ≤ w27.heap.size from (G27.out).size)
  have S27 := Lib.hid (S26.out.below G27.out)
  have B27 := Lib.hid (B26.out.trans ((G27.out).mono B26.out.size))
  have T27 := Lib.hid (T26.out.below G27.out T26.out.lt)
  have X27 := Lib.hid (X26.out.below G27.out X26.out.lt)
  clear S26 B26 T26 X26
  clear G27 HZ27 Z27 q0 q1 q2 q3 q4 y3 y4
  clear X27 XG
  rw [rounds_succ]
  go_wp2_with fail
  refine Calls.mono (fail_nil 1 _) ?_
  rintro e ww ⟨rfl, rfl⟩
  go_wp2_with fail
  refine Calls.mono (read_nil _) ?_
  rintro e w28 ⟨rfl, b28⟩
  have HZ28 := Lib.hid (show w27.heap.size ≤ w28.heap.size from (b28).size)
  have S28 := Lib.hid (S27.out.below b28)
  have B28 := Lib.hid (B27.out.trans ((b28).mono B27.out.size))
  have T28 := Lib.hid (T27.out.below b28 T27.out.lt)
  clear S27 B27 T27
  clear b28 HZ28
  go_wp2_with ((with_reducible (show wpList _ _ _ (⟨none, .store 25 _ _, _, _, _, _⟩ :: _) _ _)); go_loud (refine wpList_storeBlk (o := ⟨none, .store 25 _ _, _, _, _, _⟩) (g := w28.heap.size) (t := 25) (vs := [.int .u64 0, .int .u8 0, .int .u64 0, .int .u64 0, .slice none 0 0]) rfl _ _ rfl rfl rfl (Blk.new _ _ _) rfl (one5 rfl rfl rfl rfl rfl) size5 ?_); intro w29 z29 g29; have G29 := Lib.hid (((Below.refl w28.heap.size w28).alloc (Nat.le_refl _) _).trans (below_of_only g29 (Nat.le_refl _) (by simp))); have Z29 := Lib.hid z29; obtain ⟨q0, q1, q2, q3, q4⟩ := cb_cells z29; clear z29 g29)
  have HZ29 := Lib.hid (show w28.heap.size ≤ w29.heap.size from (G29.out).size)
  have S29 := Lib.hid (S28.out.below G29.out)
  have B29 := Lib.hid (B28.out.trans ((G29.out).mono B28.out.size))
  have T29 := Lib.hid (T28.out.below G29.out T28.out.lt)
  clear S28 B28 T28
  clear G29 HZ29 Z29 q0 q1 q2 q3 q4
  refine Calls.mono (count_any g ((kc 4 0).rcd 3) ((kc 3 0).rcd 2) _ _ _ w29 S29.out (okl_kc 3 (by decide) (by decide) (by decide) (by decide)).1 (okl_kc 2 (by decide) (by decide) (by decide) (by decide)).1 (okl_kc 3 (by decide) (by decide) (by decide) (by decide)).2 (okl_kc 2 (by decide) (by decide) (by decide) (by decide)).2) ?_
  rw [n4]
  rintro e w30 ⟨rfl, b30⟩
  have HZ30 := Lib.hid (show w29.heap.size ≤ w30.heap.size from (b30).size)
  have S30 := Lib.hid (S29.out.below b30)
  have B30 := Lib.hid (B29.out.trans ((b30).mono B29.out.size))
  have T30 := Lib.hid (T29.out.below b30 T29.out.lt)
  clear S29 B29 T29
  clear b30 HZ30
  go_wp2_with fail
  refine Calls.mono (write_kc g ((kc 4 0).rcd 3) ((kc 3 0).rcd 2) false true (-1) 0 3 _ S30.out (okl_kc 3 (by decide) (by decide) (by decide) (by decide)) (okl_kc 2 (by decide) (by decide) (by decide) (by decide)) (by decide) (by decide) (by decide) (by decide) (by rw [n4]; decide) (by rw [n4]; decide)) ?_
  rw [wr6]
  rintro e w31 ⟨rfl, s31, g31⟩
  simp only at s31
  have S31 := Lib.hid s31
  have B31 := Lib.hid (B30.out.trans (below_of_only g31 hg B30.out.size))
  have T31 := Lib.hid (T30.out.grown g31 (by intro q; injection q with q; have := TG.out; omega))
  clear S30 B30 T30
  clear s31 g31
  go_wp2_with fail
  refine Calls.mono (write_nil 0 0 0 0 none 0 0 _) ?_
  rintro e w32 ⟨rfl, b32⟩
  have HZ32 := Lib.hid (show w31.heap.size ≤ w32.heap.size from (b32).size)
  have S32 := Lib.hid (S31.out.below b32)
  have B32 := Lib.hid (B31.out.trans ((b32).mono B31.out.size))
  have T32 := Lib.hid (T31.out.below b32 T31.out.lt)
  clear S31 B31 T31
  clear b32 HZ32
  go_wp2_with fail
  refine Calls.mono (failed_nil _) ?_
  rintro e ww ⟨rfl, rfl⟩
  go_wp2_with fail
  refine Calls.mono (count_nil _) ?_
  rintro e ww ⟨rfl, rfl⟩
  go_wp2_with fail
  refine Calls.mono (copy_nil _) ?_
  rintro e ww ⟨rfl, rfl⟩
  go_wp2_with fail
  go_ret
  exact ⟨rfl, B32.out⟩
end Go.Proofs.Ytnagpaaiaaaamaa
