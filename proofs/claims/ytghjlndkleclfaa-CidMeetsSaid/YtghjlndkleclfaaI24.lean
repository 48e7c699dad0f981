/- Layer 20: the law's known answers. Conditions: as each theorem states them. -/
import Derived.Test.YtghjlndkleclfaaI23
namespace Go.Proofs.Ytghjlndkleclfaa
open Go.RowKit
theorem slT_new (w : World) (q : Int) : SlT (w.alloc (.cells #[.int .u8 q] 5)) (.slice (some ⟨w.heap.size, 0, none⟩) 1 1) [q] :=
  ⟨_, 1, rfl, Nat.le_refl _, (Rd.newAt (w := w) (e := 5) (k := .u8) (cs := #[.int .u8 q]) (xs := [q]) rfl rfl).mono (by simp), fun ad e => by
    injection e with e
    subst e
    exact ⟨_, Blk.new w _ _⟩⟩
theorem byt1 {q : Int} (h0 : 0 ≤ q) (h1 : q < 256) : Byt [q] := fun x hx => by simp at hx; subst hx; exact ⟨h0, h1⟩
theorem slT_n {w : World} {A : Option Addr} {n c : Nat} {L : List Int} (h : SlT w (.slice A n c) L) : n = L.length := by
  obtain ⟨A', c', e, _⟩ := h
  injection e
theorem Two.low {g go N : Nat} {w w' : World} (h : Two g go w w') (h1 : N ≤ g) (h2 : N ≤ go) (hN : N ≤ w.heap.size) : Below N w w' := ⟨h.os, h.tape, h.output, h.size, fun i hi => h.block i (by omega) (by omega) (by omega)⟩
theorem rising_one (x : CX) : Rising [x] := by intro i j h1 h2; simp at h2; omega
set_option maxRecDepth 100000 in
set_option maxHeartbeats 8000000 in
theorem known20 (w : World) : Calls Try.prog 4 #[] w fun e w' => e = .returned (.bool true) ∧ Below w.heap.size w w' := by
  have B1 := Lib.hid (((Below.refl w.heap.size w).alloc (Nat.le_refl _) (.cells #[.int .u8 1] 5)).alloc (by simp) (.cells #[.int .u8 2] 5))
  have S1 : Hid (Rd (w.heap.size + 1 + 1) .u8 ((w.alloc (.cells #[.int .u8 1] 5)).alloc (.cells #[.int .u8 2] 5)) (some ⟨w.heap.size, 0, none⟩) [1]) := Lib.hid (((Rd.newAt (w := w) rfl rfl).alloc (by simp) _).mono (by omega))
  have S2 : Hid (Rd (w.heap.size + 1 + 1) .u8 ((w.alloc (.cells #[.int .u8 1] 5)).alloc (.cells #[.int .u8 2] 5)) (some ⟨w.heap.size + 1, 0, none⟩) [2]) := Lib.hid (Rd.newAt (by simp) rfl)
  have Z1 : Hid (w.heap.size + 1 + 1 ≤ ((w.alloc (.cells #[.int .u8 1] 5)).alloc (.cells #[.int .u8 2] 5)).heap.size) := Lib.hid (by simp)
  go_enter Try.func4, Try.ntmps4
  go_wp2_with fail
  generalize (w.alloc (.cells #[.int .u8 1] 5)).alloc (.cells #[.int .u8 2] 5) = w1 at *
  refine Calls.mono (begin_any (some ⟨w.heap.size, 0, none⟩) (some ⟨w.heap.size + 1, 0, none⟩) 1 1 1 1 [1] [2] w1 (S1.out.mono Z1.out) (S2.out.mono Z1.out) rfl rfl (byt1 (by omega) (by omega)) (byt1 (by omega) (by omega)) (by omega) (by omega)) ?_
  rintro e w2 ⟨g, vo, vp, x0, y0, rfl, i2, hx0, hy0, hg, b2⟩
  have HX0 : Hid (x0.bs = [1]) := Lib.hid (congrArg CE.bs hx0)
  have HY0 : Hid (y0.seq = 0 ∧ y0.bs = [2]) := Lib.hid ⟨congrArg CE.seq hy0, congrArg CE.bs hy0⟩
  have HG : Hid (w.heap.size ≤ g) := Lib.hid (Nat.le_trans B1.out.size hg)
  have B2 := Lib.hid (B1.out.trans (b2.mono B1.out.size))
  obtain ⟨go, co, hvo, hgo⟩ : ∃ go co, vo = .slice (some ⟨go, 0, none⟩) 1 co ∧ w1.heap.size ≤ go := by
    rcases i2.own.form with ⟨_, z⟩ | ⟨go, co, hvo, hgo, _⟩
    · cases z
    · exact ⟨go, co, hvo, hgo⟩
  subst hvo
  have HGO : Hid (w.heap.size ≤ go) := Lib.hid (Nat.le_trans B1.out.size hgo)
  have HN1 : Hid (w1.heap.size ≤ w2.heap.size) := Lib.hid b2.size
  have I3 := Lib.hid (i2.below ((Below.refl w2.heap.size w2).alloc (Nat.le_refl _) (.cells #[.int .u8 3] 5)))
  have B3 := Lib.hid (B2.out.alloc B2.out.size (.cells #[.int .u8 3] 5))
  have C3 := Lib.hid (slT_new w2 3)
  have HN3 : Hid (w1.heap.size ≤ (w2.alloc (.cells #[.int .u8 3] 5)).heap.size) := Lib.hid (Nat.le_trans HN1.out (by simp))
  clear i2 b2 hx0 hy0 hg hgo B1 B2 S1 S2 Z1 HN1
  go_wp2_with fail
  generalize w2.alloc (.cells #[.int .u8 3] 5) = w3 at *
  obtain ⟨g3, hg3⟩ : ∃ z, w2.heap.size = z := ⟨_, rfl⟩
  rw [hg3] at C3 ⊢
  clear hg3
  refine Calls.mono (issue_any w1.heap.size g go 1 co vp ⟨[x0], 1, [y0], 0, 0, []⟩ 0 2 (some ⟨g3, 0, none⟩) 1 1 [3] w3 I3.out HN3.out rfl (by omega) C3.out rfl (byt1 (by omega) (by omega)) (by omega) (by omega) (by omega) (by omega) (by simp [idx, idxN, HX0.out]) (by decide) (by show (1 : Int) ≤ _; omega) (by show (0 : Int) ≤ 1; omega)) ?_
  rintro e w4 ⟨v4, y3, A4, n4, c4, rfl, s4, hy3, i4, _, tw⟩
  have HY3 : Hid (y3.bs = [3]) := Lib.hid (congrArg CE.bs hy3)
  obtain rfl : n4 = 1 := slT_n s4
  have B4 : Hid (Below w.heap.size w w4) := Lib.hid (B3.out.trans (tw.low HG.out HGO.out B3.out.size))
  have HN4 : Hid (w1.heap.size ≤ w4.heap.size) := Lib.hid (Nat.le_trans HN3.out tw.size)
  obtain ⟨Av, cv, hv4, _⟩ := own_form i4.own.1
  subst hv4
  have I4 : Hid (IdV w1.heap.size g w4 (.slice Av 2 cv) vp ⟨[x0, y3], 2, [y0], 0, 0, []⟩) := Lib.hid i4
  have S4 := Lib.hid s4
  have F4 : Hid (Blk (w4.alloc (.cells #[.int .u64 0, .int .u64 0, .int .u64 0, .int .u64 0, .int .u64 0, .int .u64 0, .bool false, .slice none 0 0, .slice none 0 0, .int .u8 0, .int .u8 0, .int .u8 0, .int .u8 0, .int .u8 0, .int .u8 0, .int .u8 0, .int .u8 0, .int .u8 0, .int .u8 0, .int .u8 0, .int .u8 0, .int .u8 0, .int .u8 0, .int .u8 0, .int .u8 0, .slice none 0 0, .int .u64 0, .int .u64 0, .int .u64 0, .int .u64 0] 34)) w4.heap.size 34 #[.int .u64 0, .int .u64 0, .int .u64 0, .int .u64 0, .int .u64 0, .int .u64 0, .bool false, .slice none 0 0, .slice none 0 0, .int .u8 0, .int .u8 0, .int .u8 0, .int .u8 0, .int .u8 0, .int .u8 0, .int .u8 0, .int .u8 0, .int .u8 0, .int .u8 0, .int .u8 0, .int .u8 0, .int .u8 0, .int .u8 0, .int .u8 0, .int .u8 0, .slice none 0 0, .int .u64 0, .int .u64 0, .int .u64 0, .int .u64 0]) := Lib.hid (Blk.new _ _ _)
  clear s4 hy3 i4 tw I3 C3 B3 HN3
  go_wp2_with (first
    | ((with_reducible (show wpList _ _ _ (⟨none, .store 34 _ _, _, _, _, _⟩ :: _) _ _)); go_loud (refine wpList_storeBlk (o := ⟨none, .store 34 _ _, _, _, _, _⟩) (g := w4.heap.size) (t := 34) (vs := [.int .u64 24, .int .u64 1, .int .u64 0, .int .u64 0, .int .u64 0, .int .u64 0, .bool false, .slice none 0 0, .slice A4 1 c4, .int .u8 0, .int .u8 0, .int .u8 0, .int .u8 0, .int .u8 0, .int .u8 0, .int .u8 0, .int .u8 0, .int .u8 0, .int .u8 0, .int .u8 0, .int .u8 0, .int .u8 0, .int .u8 0, .int .u8 0, .int .u8 0, .slice none 0 0, .int .u64 0, .int .u64 0, .int .u64 0, .int .u64 0]) rfl _ _ rfl rfl rfl F4.out rfl (frN_one _ _ _ _ _) sizeF34 ?_); intro w5 z5 g5))
  have E5 := ((Below.refl w4.heap.size w4).alloc (Nat.le_refl _) (.cells #[.int .u64 0, .int .u64 0, .int .u64 0, .int .u64 0, .int .u64 0, .int .u64 0, .bool false, .slice none 0 0, .slice none 0 0, .int .u8 0, .int .u8 0, .int .u8 0, .int .u8 0, .int .u8 0, .int .u8 0, .int .u8 0, .int .u8 0, .int .u8 0, .int .u8 0, .int .u8 0, .int .u8 0, .int .u8 0, .int .u8 0, .int .u8 0, .int .u8 0, .slice none 0 0, .int .u64 0, .int .u64 0, .int .u64 0, .int .u64 0] 34)).trans (below_of_only g5 (Nat.le_refl _) (by simp))
  have E6 := E5.alloc E5.size (.cells #[.int .u8 4] 5)
  have I6 := Lib.hid (I4.out.below E6)
  have S6 := Lib.hid (S4.out.below E6)
  have B6 := Lib.hid (B4.out.trans (E6.mono B4.out.size))
  have Z6 := Lib.hid (Blk.alloc z5 (.cells #[.int .u8 4] 5))
  have C6 := Lib.hid (slT_new w5 4)
  have HN6 : Hid (w1.heap.size ≤ (w5.alloc (.cells #[.int .u8 4] 5)).heap.size) := Lib.hid (Nat.le_trans HN4.out E6.size)
  clear z5 g5 E5 E6 I4 S4 B4 F4 HN4
  generalize w5.alloc (.cells #[.int .u8 4] 5) = w6 at *
  obtain ⟨g6, hg6⟩ : ∃ z, w5.heap.size = z := ⟨_, rfl⟩
  rw [hg6] at C6 ⊢
  clear hg6
  obtain ⟨f2, hf2⟩ : ∃ z, w4.heap.size = z := ⟨_, rfl⟩
  rw [hf2] at Z6 ⊢
  clear hf2
  refine Calls.mono (issue_full w1.heap.size g 2 cv Av vp ⟨[x0, y3], 2, [y0], 0, 0, []⟩ 0 2 (some ⟨g6, 0, none⟩) 1 1 [4] w6 I6.out.r rfl (by omega) (slT_rd C6.out) rfl (byt1 (by omega) (by omega)) (by omega) (by omega) (by simp [idx, idxN, HX0.out, HY3.out]) (by decide)) ?_
  rintro e w7 ⟨rfl, b7⟩
  have I7 := Lib.hid (I6.out.below b7)
  have S7 := Lib.hid (S6.out.below b7)
  have B7 := Lib.hid (B6.out.trans (b7.mono B6.out.size))
  have Z7 := Lib.hid (Z6.out.below b7 Z6.out.lt)
  have HN7 : Hid (w1.heap.size ≤ w7.heap.size) := Lib.hid (Nat.le_trans HN6.out b7.size)
  have F7 : Hid (Blk (w7.alloc (.cells #[.int .u64 0, .int .u64 0, .int .u64 0, .int .u64 0, .int .u64 0, .int .u64 0, .bool false, .slice none 0 0, .slice none 0 0, .int .u8 0, .int .u8 0, .int .u8 0, .int .u8 0, .int .u8 0, .int .u8 0, .int .u8 0, .int .u8 0, .int .u8 0, .int .u8 0, .int .u8 0, .int .u8 0, .int .u8 0, .int .u8 0, .int .u8 0, .int .u8 0, .slice none 0 0, .int .u64 0, .int .u64 0, .int .u64 0, .int .u64 0] 34)) w7.heap.size 34 #[.int .u64 0, .int .u64 0, .int .u64 0, .int .u64 0, .int .u64 0, .int .u64 0, .bool false, .slice none 0 0, .slice none 0 0, .int .u8 0, .int .u8 0, .int .u8 0, .int .u8 0, .int .u8 0, .int .u8 0, .int .u8 0, .int .u8 0, .int .u8 0, .int .u8 0, .int .u8 0, .int .u8 0, .int .u8 0, .int .u8 0, .int .u8 0, .int .u8 0, .slice none 0 0, .int .u64 0, .int .u64 0, .int .u64 0, .int .u64 0]) := Lib.hid (Blk.new _ _ _)
  clear b7 I6 S6 B6 Z6 HN6 C6
  go_wp2_with (first
    | ((with_reducible (show wpList _ _ _ (⟨none, .store 34 _ _, _, _, _, _⟩ :: _) _ _)); go_loud (refine wpList_storeBlk (o := ⟨none, .store 34 _ _, _, _, _, _⟩) (g := w7.heap.size) (t := 34) (vs := [.int .u64 0, .int .u64 0, .int .u64 0, .int .u64 0, .int .u64 0, .int .u64 0, .bool false, .slice none 0 0, .slice none 0 0, .int .u8 0, .int .u8 0, .int .u8 0, .int .u8 0, .int .u8 0, .int .u8 0, .int .u8 0, .int .u8 0, .int .u8 0, .int .u8 0, .int .u8 0, .int .u8 0, .int .u8 0, .int .u8 0, .int .u8 0, .int .u8 0, .slice none 0 0, .int .u64 0, .int .u64 0, .int .u64 0, .int .u64 0]) rfl _ _ rfl rfl rfl F7.out rfl one30z sizeF34 ?_); intro w8 z8 g8))
  have E8 := ((Below.refl w7.heap.size w7).alloc (Nat.le_refl _) (.cells #[.int .u64 0, .int .u64 0, .int .u64 0, .int .u64 0, .int .u64 0, .int .u64 0, .bool false, .slice none 0 0, .slice none 0 0, .int .u8 0, .int .u8 0, .int .u8 0, .int .u8 0, .int .u8 0, .int .u8 0, .int .u8 0, .int .u8 0, .int .u8 0, .int .u8 0, .int .u8 0, .int .u8 0, .int .u8 0, .int .u8 0, .int .u8 0, .int .u8 0, .slice none 0 0, .int .u64 0, .int .u64 0, .int .u64 0, .int .u64 0] 34)).trans (below_of_only g8 (Nat.le_refl _) (by simp))
  have I8 := Lib.hid (I7.out.below E8)
  have S8 := Lib.hid (S7.out.below E8)
  have B8 := Lib.hid (B7.out.trans (E8.mono B7.out.size))
  have Z8 := Lib.hid (Z7.out.below E8 Z7.out.lt)
  have HN8 : Hid (w1.heap.size ≤ w8.heap.size) := Lib.hid (Nat.le_trans HN7.out E8.size)
  clear z8 g8 E8 I7 S7 B7 Z7 HN7 F7
  refine wp_region_mix_below w8.heap.size [([0], 1), ([], 2), ([3, 4, 5, 6, 7, 8, 9, 10, 11, 12, 13], 14), ([], 15), ([16, 17, 18, 19], 20), ([], 21)] [22] (by kernel_rfl) (by kernel_rfl) (by kernel_rfl) (by kernel_rfl) ?_
  simp only [pickL, List.map_cons, List.map_nil, List.filterMap_cons, List.filterMap_nil, List.getElem?_cons_succ, List.getElem?_cons_zero]
  refine mixS_cons ?_
  show wpQuiet _ _ _ _ (_ :: _) _
  refine wpQuiet_loadV (o := ⟨some 30, _, _, _, _, _⟩) rfl _ rfl rfl (fun w' hw' => by obtain ⟨r, rfl⟩ := hw'; exact fr_load (Blk.below Z8.out r.below Z8.out.lt) rfl) ?_
  simp only [Act.put, List.setIfInBounds_toArray, List.set_cons_zero, List.set_cons_succ]
  refine wpQuiet_nil ?_
  show wpList _ _ _ [_] _ _
  go_wp2_with fail
  refine Calls.mono (told_any 1 0 3 w8.drew) ?_
  rintro e w9 ⟨A9, rfl, r9, b9⟩
  have D9 : Hid (Below w8.heap.size w8 w9) := Lib.hid ((Below.refl w8.heap.size w8).drew.trans b9)
  have R9 := Lib.hid r9
  clear r9 b9
  go_wp2_with fail
  refine MixQ.below D9.out ?_
  refine mixS_cons ?_
  refine wpQuiet_nil ?_
  show wpList _ _ _ [_] _ _
  go_wp2_with fail
  refine Calls.mono (same_yes 1 0 0 A4 A9 1 c4 1 [3] w9 (slT_rd (S8.out.below D9.out)) R9.out rfl (by omega) (by omega)) ?_
  rintro e w10 ⟨rfl, b10⟩
  have D10 : Hid (Below w8.heap.size w8 w10) := Lib.hid (D9.out.trans (b10.mono D9.out.size))
  clear b10 D9 R9 S8 Z8
  go_wp2_with fail
  refine MixQ.below D10.out ?_
  refine mixS_cons ?_
  repeat (show wpQuiet _ _ _ _ (_ :: _) _; go_big_quiet_step (fail))
  refine wpQuiet_nil ?_
  show wpList _ _ _ [_] _ _
  go_wp2_with fail
  have D11 : Hid (Below w8.heap.size w8 (w10.alloc (.cells #[.int .u8 3] 5))) := Lib.hid (D10.out.alloc D10.out.size _)
  have C11 := Lib.hid (slT_rd (slT_new w10 3))
  clear D10
  generalize w10.alloc (.cells #[.int .u8 3] 5) = w11 at *
  obtain ⟨h11, hh11⟩ : ∃ z, w10.heap.size = z := ⟨_, rfl⟩
  rw [hh11] at C11 ⊢
  clear hh11
  refine MixQ.below D11.out ?_
  refine mixS_cons ?_
  refine wpQuiet_nil ?_
  show wpList _ _ _ [_] _ _
  go_wp2_with fail
  have RO := owns_any w1.heap.size g _ vp _ (some ⟨h11, 0, none⟩) 1 1 [3] w11 (I8.out.below D11.out).r (by show 2 ≤ 1000; omega) C11.out rfl (byt1 (by omega) (by omega))
  rw [show idx (fun x => decide (x.bs = [3])) [x0, y3] = 1 by simp [idx, idxN, HX0.out, HY3.out]] at RO
  refine Calls.mono RO ?_
  clear RO
  rintro e w12 ⟨rfl, b12⟩
  have D12 : Hid (Below w8.heap.size w8 w12) := Lib.hid (D11.out.trans (b12.mono D11.out.size))
  clear b12 D11 C11
  go_wp2_with fail
  refine MixQ.below D12.out ?_
  refine mixS_cons ?_
  repeat (show wpQuiet _ _ _ _ (_ :: _) _; go_big_quiet_step (fail))
  refine wpQuiet_nil ?_
  show wpList _ _ _ [_] _ _
  go_wp2_with fail
  have D13 : Hid (Below w8.heap.size w8 (w12.alloc (.cells #[.int .u8 4] 5))) := Lib.hid (D12.out.alloc D12.out.size _)
  have C13 := Lib.hid (slT_rd (slT_new w12 4))
  clear D12
  generalize w12.alloc (.cells #[.int .u8 4] 5) = w13 at *
  obtain ⟨h13, hh13⟩ : ∃ z, w12.heap.size = z := ⟨_, rfl⟩
  rw [hh13] at C13 ⊢
  clear hh13
  refine MixQ.below D13.out ?_
  refine mixS_cons ?_
  refine wpQuiet_nil ?_
  show wpList _ _ _ [_] _ _
  go_wp2_with fail
  have RO := owns_any w1.heap.size g _ vp _ (some ⟨h13, 0, none⟩) 1 1 [4] w13 (I8.out.below D13.out).r (by show 2 ≤ 1000; omega) C13.out rfl (byt1 (by omega) (by omega))
  rw [show idx (fun x => decide (x.bs = [4])) [x0, y3] = -1 by simp [idx, idxN, HX0.out, HY3.out]] at RO
  refine Calls.mono RO ?_
  clear RO
  rintro e w14 ⟨rfl, b14⟩
  have D14 : Hid (Below w8.heap.size w8 w14) := Lib.hid (D13.out.trans (b14.mono D13.out.size))
  clear b14 D13 C13
  go_wp2_with fail
  refine MixQ.below D14.out ?_
  refine mixS_nil ?_
  repeat (show wpQuiet _ _ _ _ (_ :: _) _; go_big_quiet_step (fail))
  refine wpQuiet_nil ?_
  refine NoPanic.normal ?_
  have I14 := Lib.hid (I8.out.below D14.out).r
  have B14 := Lib.hid (B8.out.trans (D14.out.mono B8.out.size))
  have HN14 : Hid (w1.heap.size ≤ w14.heap.size) := Lib.hid (Nat.le_trans HN8.out D14.out.size)
  clear I8 B8 HN8 D14
  go_wp2_with fail
  refine Calls.mono (told_any 1 0 5 w14) ?_
  rintro e w15 ⟨A15, rfl, r15, b15⟩
  have I15 := Lib.hid (I14.out.below b15)
  have B15 := Lib.hid (B14.out.trans (b15.mono B14.out.size))
  have R15 := Lib.hid r15
  clear r15 b15 I14 B14
  go_wp2_with fail
  refine Calls.mono (learn_new _ g _ _ ⟨[x0, y3], 2, [y0], 0, 0, []⟩ 1 0 0 2 A15 1 1 [5] w15 I15.out R15.out rfl (byt1 (by omega) (by omega)) (by omega) (by omega) (by omega) (by omega) (by simp [idx, idxN, HY0.out.1]) (by simp [idx, idxN, HY0.out.2]) (Int.le_refl 0) (by omega) (by show (0 : Int) ≤ 1; omega) (by show 0 < 1; omega) (rising_one y0) (by show 2 ≤ 900; omega) (by show 1 ≤ 900; omega) (by show 0 ≤ 64; omega) (by show ((1 : Nat) : Int) + 1 ≤ 2; omega)) ?_
  rintro e w16 ⟨vo16, vp16, y5, rfl, hy5, i16, g16⟩
  have HY5 : Hid (y5.seq = 1 ∧ y5.bs = [5]) := Lib.hid ⟨congrArg CE.seq hy5, congrArg CE.bs hy5⟩
  simp only [show posL 1 [y0] = 1 by simp [posL, HY0.out.1]] at i16
  have I16 : Hid (IdR w15.heap.size g w16 vo16 vp16 ⟨[x0, y3], 2, [y0, y5], 0, 0, []⟩) := Lib.hid i16
  have B16 := Lib.hid (B15.out.trans (below_of_only g16 HG.out B15.out.size))
  clear i16 g16 hy5 I15 B15 R15
  go_wp2_with fail
  refine Calls.mono (is_yes _ g _ _ ⟨[x0, y3], 2, [y0, y5], 0, 0, []⟩ y0 [y5] 2 w16 I16.out rfl HY0.out.1 HY0.out.2 (by show 2 ≤ 1000; omega)) ?_
  rintro e w17 ⟨rfl, b17⟩
  have I17 := Lib.hid (I16.out.below b17)
  have B17 := Lib.hid (B16.out.trans (b17.mono B16.out.size))
  clear b17 I16 B16
  go_wp2_with fail
  refine Calls.mono (change_one _ g _ _ ⟨[x0, y3], 2, [y0, y5], 0, 0, []⟩ y0 y5 [] w17 I17.out rfl HY0.out.1 (by show (0 : Int) < y5.seq; rw [HY5.out.1]; omega) (by intro z hz; simp at hz; subst hz; exact Int.le_refl _) (by show 2 ≤ 900; omega) (by show 2 ≤ 900; omega) (by show 0 ≤ 60; omega)) ?_
  rintro e w18 ⟨vo18, vp18, rfl, i18, g18⟩
  rw [HY5.out.1, HY0.out.1] at i18
  have I18 : Hid (IdR w17.heap.size g w18 vo18 vp18 ⟨[x0, y3], 2, [y5], 1, 1, [0]⟩) := Lib.hid i18
  have B18 := Lib.hid (B17.out.trans (below_of_only g18 HG.out B17.out.size))
  clear i18 g18 I17 B17
  go_wp2_with fail
  refine Calls.mono (is_yes _ g _ _ ⟨[x0, y3], 2, [y5], 1, 1, [0]⟩ y5 [] 5 w18 I18.out rfl HY5.out.1 HY5.out.2 (by show 1 ≤ 1000; omega)) ?_
  rintro e w19 ⟨rfl, b19⟩
  have I19 := Lib.hid (I18.out.below b19)
  have B19 := Lib.hid (B18.out.trans (b19.mono B18.out.size))
  clear b19 I18 B18
  go_wp2_with fail
  have I20 := Lib.hid (I19.out.below ((Below.refl w19.heap.size w19).alloc (Nat.le_refl _) (.cells #[.int .u64 0] 27)))
  have B20 := Lib.hid (B19.out.alloc B19.out.size (.cells #[.int .u64 0] 27))
  have Z20 := Lib.hid (Blk.new w19 27 #[.int .u64 0])
  clear I19 B19
  generalize w19.alloc (.cells #[.int .u64 0] 27) = w20 at *
  refine Calls.mono (retires_one _ g _ _ _ ⟨[x0, y3], 2, [y5], 1, 1, [0]⟩ 0 w20 I20.out rfl Z20.out) ?_
  rintro e w21 ⟨rfl, i21, g21⟩
  have I21 := Lib.hid i21
  have B21 := Lib.hid (B20.out.trans (below_of_only g21 HG.out B20.out.size))
  clear i21 g21 I20 B20 Z20
  go_wp2_with fail
  refine Calls.mono (told_any 1 0 6 w21) ?_
  rintro e w22 ⟨A22, rfl, r22, b22⟩
  have I22 := Lib.hid (I21.out.below b22)
  have B22 := Lib.hid (B21.out.trans (b22.mono B21.out.size))
  have R22 := Lib.hid r22
  clear r22 b22 I21 B21
  go_wp2_with fail
  refine Calls.mono (learn_bad _ g _ _ ⟨[x0, y3], 2, [y5], 1, 1, []⟩ 1 0 0 2 A22 1 1 [6] w22 I22.out R22.out rfl (byt1 (by omega) (by omega)) (by omega) (by omega) (by simp [idx, idxN, HY5.out.1]) (by simp [idx, idxN, HY5.out.2]) (by omega) (by show 1 ≤ 900; omega)) ?_
  rintro e w23 ⟨rfl, b23⟩
  have I23 := Lib.hid (I22.out.below b23)
  have B23 := Lib.hid (B22.out.trans (b23.mono B22.out.size))
  clear b23 I22 B22 R22
  go_wp2_with fail
  refine Calls.mono (told_any 4 3 7 w23) ?_
  rintro e w24 ⟨A24, rfl, r24, b24⟩
  have I24 := Lib.hid (I23.out.below b24)
  have B24 := Lib.hid (B23.out.trans (b24.mono B23.out.size))
  have R24 := Lib.hid r24
  clear r24 b24 I23 B23
  go_wp2_with fail
  refine Calls.mono (learn_drop _ g _ _ ⟨[x0, y3], 2, [y5], 1, 1, []⟩ 4 3 0 2 A24 1 1 [7] w24 I24.out R24.out rfl (byt1 (by omega) (by omega)) (by omega) (by omega) (by omega) (by omega) (by simp [idx, idxN, HY5.out.1]) (by simp [idx, idxN, HY5.out.2]) y5 rfl (by rw [HY5.out.1]; omega) (by show (1 : Int) < 3; omega) (by omega) (by show 2 ≤ 900; omega) (by show 1 ≤ 900; omega) (by show 0 ≤ 60; omega) (by omega)) ?_
  rintro e w25 ⟨vo25, vp25, y7, rfl, hy7, i25, g25⟩
  have HY7 : Hid (y7.seq = 4 ∧ y7.bs = [7]) := Lib.hid ⟨congrArg CE.seq hy7, congrArg CE.bs hy7⟩
  rw [HY5.out.1] at i25
  have I25 : Hid (IdR w24.heap.size g w25 vo25 vp25 ⟨[x0, y3], 2, [y7], 4, 3, [1]⟩) := Lib.hid i25
  have B25 := Lib.hid (B24.out.trans (below_of_only g25 HG.out B24.out.size))
  clear i25 g25 hy7 I24 B24 R24
  go_wp2_with fail
  refine Calls.mono (is_yes _ g _ _ ⟨[x0, y3], 2, [y7], 4, 3, [1]⟩ y7 [] 7 w25 I25.out rfl HY7.out.1 HY7.out.2 (by show 1 ≤ 1000; omega)) ?_
  rintro e w26 ⟨rfl, b26⟩
  have I26 := Lib.hid (I25.out.below b26)
  have B26 := Lib.hid (B25.out.trans (b26.mono B25.out.size))
  clear b26 I25 B25
  go_wp2_with fail
  have I27 := Lib.hid (I26.out.below ((Below.refl w26.heap.size w26).alloc (Nat.le_refl _) (.cells #[.int .u64 1] 27)))
  have B27 := Lib.hid (B26.out.alloc B26.out.size (.cells #[.int .u64 1] 27))
  have Z27 := Lib.hid (Blk.new w26 27 #[.int .u64 1])
  clear I26 B26
  generalize w26.alloc (.cells #[.int .u64 1] 27) = w27 at *
  refine Calls.mono (retires_one _ g _ _ _ ⟨[x0, y3], 2, [y7], 4, 3, [1]⟩ 1 w27 I27.out rfl Z27.out) ?_
  rintro e w28 ⟨rfl, i28, g28⟩
  have I28 := Lib.hid i28
  have B28 := Lib.hid (B27.out.trans (below_of_only g28 HG.out B27.out.size))
  clear i28 g28 I27 B27 Z27
  go_wp2_with fail
  have B29 := Lib.hid (B28.out.alloc B28.out.size (.cells #[.int .u8 1] 5))
  clear I28 B28
  generalize w28.alloc (.cells #[.int .u8 1] 5) = w29 at *
  refine Calls.mono (issue_nil 0 1 _ 1 1 w29) ?_
  rintro e w30 ⟨rfl, b30⟩
  have B30 := Lib.hid (B29.out.trans (b30.mono B29.out.size))
  have F30 : Hid (Blk (w30.alloc (.cells #[.int .u64 0, .int .u64 0, .int .u64 0, .int .u64 0, .int .u64 0, .int .u64 0, .bool false, .slice none 0 0, .slice none 0 0, .int .u8 0, .int .u8 0, .int .u8 0, .int .u8 0, .int .u8 0, .int .u8 0, .int .u8 0, .int .u8 0, .int .u8 0, .int .u8 0, .int .u8 0, .int .u8 0, .int .u8 0, .int .u8 0, .int .u8 0, .int .u8 0, .slice none 0 0, .int .u64 0, .int .u64 0, .int .u64 0, .int .u64 0] 34)) w30.heap.size 34 #[.int .u64 0, .int .u64 0, .int .u64 0, .int .u64 0, .int .u64 0, .int .u64 0, .bool false, .slice none 0 0, .slice none 0 0, .int .u8 0, .int .u8 0, .int .u8 0, .int .u8 0, .int .u8 0, .int .u8 0, .int .u8 0, .int .u8 0, .int .u8 0, .int .u8 0, .int .u8 0, .int .u8 0, .int .u8 0, .int .u8 0, .int .u8 0, .int .u8 0, .slice none 0 0, .int .u64 0, .int .u64 0, .int .u64 0, .int .u64 0]) := Lib.hid (Blk.new _ _ _)
  clear b30 B29
  go_wp2_with (first
    | ((with_reducible (show wpList _ _ _ (⟨none, .store 34 _ _, _, _, _, _⟩ :: _) _ _)); go_loud (refine wpList_storeBlk (o := ⟨none, .store 34 _ _, _, _, _, _⟩) (g := w30.heap.size) (t := 34) (vs := [.int .u64 0, .int .u64 0, .int .u64 0, .int .u64 0, .int .u64 0, .int .u64 0, .bool false, .slice none 0 0, .slice none 0 0, .int .u8 0, .int .u8 0, .int .u8 0, .int .u8 0, .int .u8 0, .int .u8 0, .int .u8 0, .int .u8 0, .int .u8 0, .int .u8 0, .int .u8 0, .int .u8 0, .int .u8 0, .int .u8 0, .int .u8 0, .int .u8 0, .slice none 0 0, .int .u64 0, .int .u64 0, .int .u64 0, .int .u64 0]) rfl _ _ rfl rfl rfl F30.out rfl one30z sizeF34 ?_); intro w31 z31 g31))
  have B31 := Lib.hid (B30.out.trans ((((Below.refl w30.heap.size w30).alloc (Nat.le_refl _) (.cells #[.int .u64 0, .int .u64 0, .int .u64 0, .int .u64 0, .int .u64 0, .int .u64 0, .bool false, .slice none 0 0, .slice none 0 0, .int .u8 0, .int .u8 0, .int .u8 0, .int .u8 0, .int .u8 0, .int .u8 0, .int .u8 0, .int .u8 0, .int .u8 0, .int .u8 0, .int .u8 0, .int .u8 0, .int .u8 0, .int .u8 0, .int .u8 0, .int .u8 0, .slice none 0 0, .int .u64 0, .int .u64 0, .int .u64 0, .int .u64 0] 34)).trans (below_of_only g31 (Nat.le_refl _) (by simp))).mono B30.out.size))
  clear z31 g31 B30 F30
  refine Calls.mono (current_nil w31) ?_
  rintro e wq ⟨rfl, rfl⟩
  go_wp2_with fail
  refine Calls.mono (retired_nil 0 w31) ?_
  rintro e wq ⟨rfl, rfl⟩
  go_wp2_with fail
  refine Calls.mono (told_any 1 0 1 w31) ?_
  rintro e w32 ⟨A32, rfl, _, b32⟩
  have B32 := Lib.hid (B31.out.trans (b32.mono B31.out.size))
  clear b32 B31
  go_wp2_with fail
  refine Calls.mono (learn_nil 2 _ w32) ?_
  rintro e w33 ⟨rfl, b33⟩
  have B33 := Lib.hid (B32.out.trans (b33.mono B32.out.size))
  clear b33 B32
  go_wp2_with fail
  refine Calls.mono (first_nil none 0 0 _ w33) ?_
  rintro e w34 ⟨rfl, b34⟩
  have B34 := Lib.hid (B33.out.trans (b34.mono B33.out.size))
  clear b34 B33
  go_wp2_with fail
  refine Calls.mono (change_nil w34) ?_
  rintro e w35 ⟨rfl, b35⟩
  have B35 := Lib.hid (B34.out.trans (b35.mono B34.out.size))
  clear b35 B34
  go_wp2_with fail
  refine Calls.mono (tell_nil w35) ?_
  rintro e wq ⟨rfl, rfl⟩
  go_wp2_with fail
  refine Calls.mono (owns_nil none 0 0 w35) ?_
  rintro e wq ⟨rfl, rfl⟩
  go_wp2_with fail
  refine Calls.mono (resets_nil _ w35) ?_
  rintro e w36 ⟨rfl, b36⟩
  have B36 := Lib.hid (B35.out.trans (b36.mono B35.out.size))
  clear b36 B35
  go_wp2_with fail
  go_ret
  exact ⟨rfl, B36.out⟩
end Go.Proofs.Ytghjlndkleclfaa
