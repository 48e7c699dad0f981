/- Layer 33: contract of Take, of bytes that are a packet. Conditions: as each theorem states them. -/
import Derived.Test.YtieabfifaigjdaaF16
namespace Go.Proofs.Ytieabfifaigjdaa
open Go.RowKit
theorem size3p : (Try.prog.info? 24).map (·.size) = some 3 := by kernel_rfl
theorem one3 {c0 c1 c2 : Value} (h0 : c0.oneCell' = true) (h1 : c1.oneCell' = true) (h2 : c2.oneCell' = true) : ∀ v ∈ [c0, c1, c2], v.oneCell' = true := by
  intro v hv
  simp only [List.mem_cons, List.not_mem_nil, or_false] at hv
  rcases hv with rfl | rfl | rfl <;> assumption
theorem wpList_storeBlk {P : Program} {ops : Array Oper} {rest : List Oper} {o : Oper} {a : Act} {w : World} {Q : Exit → Act → World → Prop} {ty t : TypeId} {g : Nat} {vs : List Value} {old : Array Value} (hgd : o.guard = none) (x y : Operand) (ho : o.op = .store ty x y) (hx : a.eval x = .pointer (some ⟨g, 0, none⟩)) (hy : a.eval y = .agg vs.toArray)
    (h : Blk w g t old) (hl : vs.length = old.size) (h1 : ∀ v ∈ vs, v.oneCell' = true) (hi : (P.info? ty).map (·.size) = some vs.length)
    (hK : ∀ w', Blk w' g t vs.toArray → w.grownBy w' (some g) → wpList P ops Q rest (a.put o.dst undef) w') : wpList P ops Q (o :: rest) a w := by
  obtain ⟨w', h2, h3, h4⟩ := blk_storeAll (ty := ty) h hl h1 hi
  exact wpList_storeV hgd x y ho hx hy h2 (hK w' h3 h4)
theorem results_pk {w : World} {g : Nat} {c0 c1 c2 : Value} {fn : Func} {x u : Tmp} {tmps : Array Value} (hr : fn.results = #[.cell x 24, .tmp u]) (hx : tmps.getD x undef = .pointer (some ⟨g, 0, none⟩)) (h : Blk w g 24 #[c0, c1, c2]) :
    (results fn tmps).run Try.prog w = .ok (.tuple #[.agg #[c0, c1, c2], tmps.getD u undef]) w := by
  obtain ⟨a0, a1, a2⟩ := pk_facts h
  have hx' : tmps[x]?.getD undef = .pointer (some ⟨g, 0, none⟩) := by simpa using hx
  simp [results, hr, hx', go_sem, a0, a1, a2]
/-- bytes that are a packet, with an id of the client's -/
structure PkOk (b orig : List Int) (d s : Nat) : Prop where
  h0 : b.getD 0 0 / 16 = 15
  h1 : ofF 0 ((b.drop 1).take 4) = 1
  hd : b.getD 5 0 = (d : Int)
  d20 : d ≤ 20
  dl : 6 + d < b.length - 16
  hs : b.getD (6 + d) 0 = (s : Int)
  s20 : s ≤ 20
  sl : 7 + d + s < b.length - 16
  tg : tagP (b.take (b.length - 16)) orig = b.drop (b.length - 16)
def TkPost (b : List Int) (d s : Nat) (w : World) (e : Ending) (w' : World) : Prop :=
  ∃ A3 k3 A4 k4 A5 k5 n5, e = .returned (.tuple #[.agg #[.slice A3 d k3, .slice A4 s k4, .slice A5 n5 k5], .int .i64 0]) ∧ Rd w'.heap.size .u8 w' A3 (((b.take (b.length - 16)).drop 6).take d) ∧ Rd w'.heap.size .u8 w' A4 (((b.take (b.length - 16)).drop (7 + d)).take s) ∧ Rd w'.heap.size .u8 w' A5 ((b.take (b.length - 16)).drop (7 + d + s)) ∧ n5 = b.length - 16 - (7 + d + s) ∧ d ≤ k3 ∧ s ≤ k4 ∧ n5 ≤ k5 ∧ Below w.heap.size w w'
attribute [local irreducible] tagP gsealL
set_option maxRecDepth 100000 in
set_option maxHeartbeats 8000000 in
theorem take_yes (A1 A2 : Option Addr) (n1 n2 c1 c2 : Nat) (b orig : List Int) (d s : Nat) (w : World) (hn1 : b.length = n1) (hn2 : orig.length = n2) (hr1 : Rd w.heap.size .u8 w A1 b) (hr2 : Rd w.heap.size .u8 w A2 orig) (hb1 : Byt b) (hb2 : Byt orig) (hl1 : n1 ≤ 1000) (hl2 : n2 ≤ 20) (hc1 : n1 ≤ c1) (hc2 : n2 ≤ c2) (h : PkOk b orig d s) :
    Calls Try.prog 11 #[.slice A1 n1 c1, .slice A2 n2 c2] w (TkPost b d s w) := by
  obtain ⟨q0, q1, qd, d20, dl, qs, s20, sl, tg⟩ := h
  have R1 := Lib.hid hr1
  have R2 := Lib.hid hr2
  have HB1 := Lib.hid hb1
  have HB2 := Lib.hid hb2
  have N2 := Lib.hid hn2
  have TG := Lib.hid tg
  have HL23 : 23 ≤ n1 := by omega
  rw [← hn1] at hc1
  obtain ⟨B1, e1, s11, s12, s13, s14, s15⟩ := slice_lh elC hr1 hc1 1 5 4 (by decide) (by decide) (by omega) (by decide)
  obtain ⟨B2, e2, s21, s22, s23, s24, s25⟩ := slice_lh elC hr1 hc1 5 ((n1 : Int) - 16) (n1 - 21) (by decide) (by omega) (by omega) (by omega)
  obtain ⟨B3, e3, s31, s32, s33, s34, s35⟩ := slice_h elC hr1 hc1 ((n1 : Int) - 16) (n1 - 16) (by omega) (by omega)
  obtain ⟨B4, e4, s41, s42, s43, s44, s45⟩ := slice_l elC hr1 hc1 ((n1 : Int) - 16) 16 (by omega) (by omega) (by omega)
  have z1 : (1 : Int).toNat = 1 := rfl
  have z5 : (5 : Int).toNat = 5 := rfl
  have z16 : ((n1 : Int) - 16).toNat = n1 - 16 := by omega
  rw [z1] at s13 s14
  rw [z5] at s23 s24
  rw [z16] at s43 s44
  rw [hn1] at s15 s25 s35 s45 hc1 dl sl
  obtain ⟨x0, hx0⟩ : ∃ z, b.getD 0 0 = z := ⟨_, rfl⟩
  rw [hx0] at q0
  have hxb := hb1.getD 0
  rw [hx0] at hxb
  obtain ⟨ad, hA, hlt, hcell⟩ := hr1 0 (by omega)
  rw [hx0] at hcell
  have B0 := Lib.hid ((Below.refl w.heap.size w).alloc (Nat.le_refl _) (.cells #[.slice none 0 0, .slice none 0 0, .slice none 0 0] 24))
  have Z0 : Hid (Blk (w.alloc (.cells #[.slice none 0 0, .slice none 0 0, .slice none 0 0] 24)) w.heap.size 24 #[.slice none 0 0, .slice none 0 0, .slice none 0 0]) := Lib.hid (Blk.new _ _ _)
  have c0 : (w.alloc (.cells #[.slice none 0 0, .slice none 0 0, .slice none 0 0] 24)).cell? ad = some (.int .u8 x0) := by
    have h := Below.cell_some B0.out hcell (by rw [block_of_add]; exact hlt)
    simpa [Addr.add] using h
  obtain ⟨hx1, hx2⟩ := hxb
  have d7 : decide ((n1 : Int) - 16 < 7) = false := decide_eq_false (by omega)
  have q2 : (x0 / 16 != 15) = false := by rw [bne_eq_false_iff_eq]; exact q0
  have q3 : (x0 / 16 == 15) = true := by rw [beq_iff_eq]; exact q0
  have d20' : decide ((20 : Int) < (n2 : Int)) = false := decide_eq_false (by omega)
  have L1 := Lib.hid s14
  have L2 := Lib.hid s24
  have L3 := Lib.hid s34
  have L4 := Lib.hid s44
  have M1 := Lib.hid s13
  have M2 := Lib.hid s23
  have M3 := Lib.hid s33
  have M4 := Lib.hid s43
  have Q1 := Lib.hid q1
  have QD := Lib.hid qd
  have QS := Lib.hid qs
  have N1 := Lib.hid hn1
  subst hA
  clear hr1 hr2 hb1 hb2 hn1 hn2 tg q1 qd qs s13 s14 s23 s24 s33 s34 s43 s44 hx0 hcell z1 z5 z16 q0
  go_enter Try.func11, Try.ntmps11
  go_wp2_with fail
  generalize w.alloc (.cells #[.slice none 0 0, .slice none 0 0, .slice none 0 0] 24) = w0 at *
  refine Calls.mono (of_any B1 4 e1 _ w0 L1.out (M1.out.below B0.out (Nat.le_refl _) |>.mono B0.out.size) ((HB1.out.drop _).take _) (by decide)) ?_
  rw [Q1.out]
  rintro e wx ⟨rfl, rfl⟩
  clear L1 M1 Q1 s15
  obtain ⟨T, hT⟩ : ∃ z, b.take (n1 - 16) = z := ⟨_, rfl⟩
  have hTl : T.length = n1 - 16 := by rw [← hT, List.length_take, N1.out]; omega
  have hR0 : (b.drop 5).take (n1 - 21) = T.drop 5 := by rw [← hT, List.drop_take, show n1 - 16 - 5 = n1 - 21 by omega]
  have hg5 : (T.drop 5).getD 0 0 = (d : Int) := by
    rw [List.getD_eq_getElem?_getD, List.getElem?_drop, Nat.add_zero, ← hT, List.getElem?_take, if_pos (by omega), ← List.getD_eq_getElem?_getD]; exact QD.out
  have hg6 : (T.drop (6 + d)).getD 0 0 = (s : Int) := by
    rw [List.getD_eq_getElem?_getD, List.getElem?_drop, Nat.add_zero, ← hT, List.getElem?_take, if_pos (by omega), ← List.getD_eq_getElem?_getD]; exact QS.out
  have hd1 : (T.drop 5).drop (1 + d) = T.drop (6 + d) := by rw [List.drop_drop, show 5 + (1 + d) = 6 + d by omega]
  have hd2 : (T.drop (6 + d)).drop (1 + s) = T.drop (7 + d + s) := by rw [List.drop_drop, show 6 + d + (1 + s) = 7 + d + s by omega]
  have ht1 : ((T.drop 5).drop 1).take d = (T.drop 6).take d := by rw [List.drop_drop]
  have ht2 : ((T.drop (6 + d)).drop 1).take s = (T.drop (7 + d)).take s := by rw [List.drop_drop, show 6 + d + 1 = 7 + d by omega]
  have hT2 : b.take (b.length - 16) = T := by rw [N1.out]; exact hT
  rw [hR0] at M2 L2
  rw [hT] at M3 L3
  have HT2 := Lib.hid hT2
  have HTL := Lib.hid hTl
  have HG6 := Lib.hid hg6
  have HD1 := Lib.hid hd1
  have HD2 := Lib.hid hd2
  have HT1 := Lib.hid ht1
  have HT3 := Lib.hid ht2
  have HB0 := Lib.hid B0.out.size
  have LZ := Lib.hid Z0.out.lt
  have B1 : Hid (Below w0.heap.size w0 ((w0.alloc (.cells #[.slice B2 (n1 - 21) e2] 22)).alloc (.cells #[.bool true] 4))) := Lib.hid (((Below.refl w0.heap.size w0).alloc (Nat.le_refl _) _).alloc (by simp) _)
  have C1 : Hid (CidS w.heap.size (w0.heap.size + 1) w0.heap.size ((w0.alloc (.cells #[.slice B2 (n1 - 21) e2] 22)).alloc (.cells #[.bool true] 4)) true (T.drop 5)) := Lib.hid ⟨by
    have h := Blk.new (w0.alloc (.cells #[.slice B2 (n1 - 21) e2] 22)) 4 #[.bool true]
    rw [World.size_alloc] at h
    exact h, B2, e2, by rw [L2.out]; exact (Blk.new w0 _ _).alloc _, by rw [L2.out]; exact s21, (M2.out.below (B0.out.trans (B1.out.mono HB0.out)) (Nat.le_refl _))⟩
  have hHG5 := hg5
  clear hT hTl hR0 hg6 hd1 hd2 ht1 ht2 hT2 q2 q3 d20' d7
  have HG5 := Lib.hid hHG5
  clear hg5 hHG5
  go_wp2_with fail
  generalize hw1 : (w0.alloc (.cells #[.slice B2 (n1 - 21) e2] 22)).alloc (.cells #[.bool true] 4) = w1 at *
  have hz1 : w1.heap.size = w0.heap.size + 1 + 1 := by rw [← hw1]; simp
  have HZ1 := Lib.hid hz1
  have HBW : Hid (w.heap.size ≤ w1.heap.size) := Lib.hid (by have := B0.out.size; omega)
  clear hw1 hz1 s25
  obtain ⟨gr, hgr⟩ : ∃ z, w0.heap.size = z := ⟨_, rfl⟩
  have HGR := Lib.hid hgr
  rw [hgr] at C1 HZ1 HB0 LZ ⊢
  have B1' := Lib.hid (B0.out.trans (B1.out.mono B0.out.size))
  have Z0W := Lib.hid (Z0.out.below B1.out Z0.out.lt)
  clear hgr B1
  refine Calls.mono (cid_yes w.heap.size (gr + 1) gr (T.drop 5) d w1 C1.out (by rw [L2.out]; omega) HG5.out d20 (by rw [L2.out]; omega) (by have := HB0.out; omega) HB0.out (by omega)) ?_
  rw [HT1.out, HD1.out]
  rintro e w2 ⟨A3, n3, c3, rfl, o3, cs3, f3⟩
  have N3 := Lib.hid (show n3 = d by rw [o3.len, List.length_take, List.length_drop, HTL.out]; omega)
  have hz3 := f3.size
  have O3 := Lib.hid o3
  have C3 := Lib.hid cs3
  have F3 := Lib.hid f3
  clear o3 cs3 f3 C1 L2
  go_wp2_with fail
  have hl6 : Hid ((T.drop (6 + d)).length = n1 - 22 - d) := Lib.hid (by rw [List.length_drop, HTL.out]; omega)
  refine Calls.mono (cid_yes w.heap.size (gr + 1) gr (T.drop (6 + d)) s w2 C3.out (by rw [hl6.out]; omega) HG6.out s20 (by rw [hl6.out]; omega) (by have := HB0.out; omega) HB0.out (by omega)) ?_
  rw [HT3.out, HD2.out]
  rintro e w3 ⟨A4, n4, c4, rfl, o4, cs4, f4⟩
  have N4 := Lib.hid (show n4 = s by rw [o4.len, List.length_take, List.length_drop, HTL.out]; omega)
  have O4 := Lib.hid o4
  have O3b := Lib.hid (f4.own O3.out (by have := HZ1.out; omega) (by have := HZ1.out; omega))
  have C4 := Lib.hid cs4
  have F4 := Lib.hid (F3.out.trans f4)
  have F4b := Lib.hid F4.out.size
  clear o4 cs4 f4 C3 F3 O3 hl6
  have HL3 : Hid (∀ ad, A3 = some ad → ad.block < w3.heap.size) := Lib.hid (fun ad e => (O3b.out.block ad e).2)
  have HL4 : Hid (∀ ad, A4 = some ad → ad.block < w3.heap.size) := Lib.hid (fun ad e => (O4.out.block ad e).2)
  have BZ3 : Hid (Below w.heap.size w w3) := Lib.hid (B1'.out.trans (F4.out.below (by have := HZ1.out; have := HB0.out; omega) (by have := HB0.out; omega) HB0.out))
  have Z3 : Hid (Blk w3 w.heap.size 24 #[.slice none 0 0, .slice none 0 0, .slice none 0 0]) := Lib.hid (F4.out.blk (Z0W.out) (by have := LZ.out; omega) (by have := LZ.out; omega))
  clear B1' Z0W F4
  go_wp2_with (refine wpList_storeBlk (g := w3.heap.size) (t := 24) (vs := [.slice A3 n3 c3, .slice A4 n4 c4, .slice none 0 0]) rfl _ _ rfl rfl rfl (Blk.new _ _ _) rfl (one3 rfl rfl rfl) size3p ?_; intro w4 k4 g4; have K4 := Lib.hid k4; have G4 := Lib.hid g4; clear k4 g4)
  have E4 : Hid (Below w3.heap.size w3 w4) := Lib.hid (((Below.refl w3.heap.size w3).alloc (Nat.le_refl _) _).trans (below_of_only G4.out (Nat.le_refl _) (by simp)))
  have hz4 : w3.heap.size < w4.heap.size := K4.out.lt
  have hz3b : w1.heap.size ≤ w3.heap.size := by
    exact F4b.out
  obtain ⟨kk, A5, c5, hr5, hc5, rd5⟩ := C4.out
  obtain ⟨n5, hn5⟩ : ∃ z, (T.drop (7 + d + s)).length = z := ⟨_, rfl⟩
  rw [hn5] at hr5 hc5
  have N5 := Lib.hid (show n5 = n1 - 16 - (7 + d + s) by rw [← hn5, List.length_drop, HTL.out])
  have L5 := Lib.hid hn5
  have K5 := Lib.hid (kk.below E4.out kk.lt)
  have R5 := Lib.hid (hr5.below E4.out hr5.lt)
  have BZ4 := Lib.hid (BZ3.out.trans (E4.out.mono BZ3.out.size))
  have P5 := Lib.hid (rd5.below (E4.out.mono (Nat.le_trans HBW.out hz3b)) (Nat.le_refl _))
  have Z5 := Lib.hid (Z3.out.below E4.out Z3.out.lt)
  have O3c := Lib.hid (O3b.out.below E4.out)
  have O4c := Lib.hid (O4.out.below E4.out)
  have hz5 := BZ4.out.size
  have X4 : Hid (Rd w.heap.size .u8 w4 B4 (b.drop (n1 - 16))) := Lib.hid (M4.out.below BZ4.out (Nat.le_refl _))
  have X3 : Hid (Rd w.heap.size .u8 w4 B3 T) := Lib.hid (M3.out.below BZ4.out (Nat.le_refl _))
  have X2 : Hid (Rd w.heap.size .u8 w4 A2 orig) := Lib.hid (R2.out.below BZ4.out (Nat.le_refl _))
  have k0 : ∀ r : BW w4.heap.size w4, r.world.cell? ⟨gr + 1, 0, none⟩ = some (.bool true) := fun r => by simpa using Blk.cell (K5.out.below r.below K5.out.lt) 0
  have r0 : ∀ r : BW w4.heap.size w4, r.world.cell? ⟨gr, 0, none⟩ = some (.slice A5 n5 c5) := fun r => by simpa using Blk.cell (R5.out.below r.below R5.out.lt) 0
  have n50 : ((n5 : Int) == 0) = false := by rw [beq_eq_false_iff_ne]; have := N5.out; omega
  have n51 : decide ((n5 : Int) = 0) = false := decide_eq_false (by have := N5.out; omega)
  clear C4 kk hr5 rd5 hn5 Z0 B0 c0 O3b O4 BZ3 Z3 M2 R2 M3 M4 R1 QD QS HG6 HG5 HD1 HD2 HT1 HT3
  refine wp_region_mixN w4.heap.size [([0, 1, 2, 3, 4, 5, 6, 7, 8, 9, 10, 11, 13, 14, 15], 12), ([], 16)] [17, 18] (by kernel_rfl) (by kernel_rfl) (by kernel_rfl) (by kernel_rfl) ?_
  try (rw [put_none])
  simp only [pickL, List.map_cons, List.map_nil, List.filterMap_cons, List.filterMap_nil, List.getElem?_cons_succ, List.getElem?_cons_zero]
  refine mixN_cons ?_
  repeat (show wpQuiet _ _ _ _ (_ :: _) _; go_big_quiet_step (fail))
  refine wpQuiet_nil ?_
  show wpList _ _ _ [_] _ _
  go_wp2_with fail
  clear k0 r0 n50 n51
  refine Calls.mono (tag_any B3 A2 (n1 - 16) n2 e3 c2 T orig _ L3.out N2.out (X3.out.mono (by simpa using hz5)) (X2.out.mono (by simpa using hz5)) (by rw [← HT2.out]; exact HB1.out.take _) HB2.out (by omega) hl2 (by omega) hc2) ?_
  have HTG : Hid (tagP T orig = b.drop (n1 - 16)) := Lib.hid (by have h := TG.out; rw [HT2.out, N1.out] at h; exact h)
  rw [HTG.out]
  rintro e w5 ⟨A6, n6, c6, rfl, o6, b6⟩
  have N6 := Lib.hid o6.len
  have R6 := Lib.hid o6.rd
  have B6 : Hid (Below w4.heap.size w4 w5) := Lib.hid ((Below.refl w4.heap.size w4).drew.trans b6)
  have hz6 := B6.out.size
  have HBD : Hid (Byt (b.drop (n1 - 16))) := Lib.hid (HB1.out.drop _)
  clear o6 b6 TG HB1 HB2 X3 X2 HTG L3
  go_wp2_with fail
  refine MixN.narrow B6.out hz6 ?_
  refine mixN_cons ?_
  repeat (show wpQuiet _ _ _ _ (_ :: _) _; go_big_quiet_step (fail))
  refine wpQuiet_nil ?_
  show wpList _ _ _ [_] _ _
  go_wp2_with fail
  refine Calls.mono (equal_n N6.out.symm L4.out R6.out ((X4.out.below (B6.out.mono hz5) (Nat.le_refl _)).mono (by omega)) HBD.out HBD.out) ?_
  rw [decide_eq_true rfl]
  rintro e w7 ⟨rfl, rfl⟩
  clear R6 X4 HBD
  go_wp2_with fail
  refine MixN.narrow (Below.refl _ _) (Nat.le_refl _) ?_
  refine mixN_nil ?_
  repeat (show wpQuiet _ _ _ _ (_ :: _) _; go_big_quiet_step (fail))
  refine wpQuiet_nil ?_
  refine NoPanic.normal ?_
  have K7 := Lib.hid (K4.out.below B6.out K4.out.lt)
  have Z7 := Lib.hid (Z5.out.below B6.out Z5.out.lt)
  have P7 := Lib.hid (P5.out.below (B6.out.mono hz5) (Nat.le_refl _))
  have O37 := Lib.hid (O3c.out.below B6.out)
  have O47 := Lib.hid (O4c.out.below B6.out)
  have B7 := Lib.hid (BZ4.out.trans (B6.out.mono hz5))
  have hz7 := B7.out.size
  have cr : w5.cell? ⟨gr, 0, none⟩ = some (.slice A5 n5 c5) := by simpa using Blk.cell (R5.out.below B6.out R5.out.lt) 0
  clear K5 R5 Z5 P5 O3c O4c BZ4 B6 E4 K4 N6 L4
  go_wp2_with fail
  clear cr
  refine Calls.mono (clone_n A5 c5 n5 (T.drop (7 + d + s)) w5 (P7.out.mono hz7) L5.out.symm (by have := N5.out; omega)) ?_
  rintro e w8 ⟨A8, n8, c8, rfl, o8, b8⟩
  have N8 := Lib.hid (show n8 = n5 by rw [o8.len]; exact L5.out)
  have O8 := Lib.hid o8
  have K8 := Lib.hid (K7.out.below b8 K7.out.lt)
  have Z8 := Lib.hid (Z7.out.below b8 Z7.out.lt)
  have O38 := Lib.hid (O37.out.below b8)
  have O48 := Lib.hid (O47.out.below b8)
  have B8 := Lib.hid (B7.out.trans (b8.mono hz7))
  have hz8 := b8.size
  have hz68 : w3.heap.size < w5.heap.size := K7.out.lt
  clear o8 b8 K7 Z7 O37 O47 B7 P7 L5
  have ck : w8.cell? ⟨w3.heap.size, 2, none⟩ = some (.slice none 0 0) := by simpa using Blk.cell K8.out 2
  have fk : w8.frozen? ⟨w3.heap.size, 2, none⟩ = false := K8.out.frozen 2
  have G9 : Hid (w8.grownBy (w8.setCell ⟨w3.heap.size, 2, none⟩ (.slice A8 n8 c8)) (some w3.heap.size)) := Lib.hid (only_setCell (p := ⟨w3.heap.size, 2, none⟩) (World.grownBy.refl w8 (some w3.heap.size)) (.inl rfl) _)
  have K9 : Hid (Blk (w8.setCell ⟨w3.heap.size, 2, none⟩ (.slice A8 n8 c8)) w3.heap.size 24 #[.slice A3 n3 c3, .slice A4 n4 c4, .slice A8 n8 c8]) := Lib.hid (Blk.cast (K8.out.set_ 2 _) (by simp))
  have Z9 := Lib.hid (Z8.out.grown G9.out (by intro q; injection q with q; have := HBW.out; have := LZ.out; have := HZ1.out; omega))
  have HLD := Lib.hid (blk_load (P := Try.prog) K9.out Try.underlying24 rfl size3p)
  have hw39 : w.heap.size ≤ w3.heap.size := Nat.le_trans HBW.out hz3b
  have B9 := Lib.hid (B8.out.trans (below_of_only G9.out hw39 (Nat.le_trans hz7 hz8)))
  have O39 := Lib.hid (O38.out.same fun ad e => by have := HL3.out ad e; exact G9.out.block _ (by have := O38.out.block ad e; exact this.2) (by intro q; injection q with q; omega))
  have O49 := Lib.hid (O48.out.same fun ad e => by have := HL4.out ad e; exact G9.out.block _ (by have := O48.out.block ad e; exact this.2) (by intro q; injection q with q; omega))
  have O89 := Lib.hid (O8.out.same fun ad e => by have := O8.out.block ad e; exact G9.out.block _ this.2 (by intro q; injection q with q; omega))
  clear K8 Z8 O38 O48 O8 B8 K9
  go_wp2_with first | (((with_reducible (show wpList _ _ _ (⟨some 67, .load _ _, _, _, _, _⟩ :: _) _ _)); refine wpList_loadV (o := ⟨some 67, .load _ _, _, _, _, _⟩) rfl _ rfl rfl (HLD.out) ?_)) | (refine wpList_storeBlk (g := w.heap.size) (t := 24) (vs := [.slice A3 n3 c3, .slice A4 n4 c4, .slice A8 n8 c8]) rfl _ _ rfl rfl rfl Z9.out rfl (one3 rfl rfl rfl) size3p ?_; intro wa ka ga; have KA := Lib.hid ka; have GA := Lib.hid ga; clear ka ga)
  have hlt1 : w.heap.size < w1.heap.size := by have := LZ.out; have := HZ1.out; omega
  have F3 := O39.out.same fun ad e => by have := O39.out.block ad e; exact GA.out.block _ this.2 (by intro q; injection q with q; omega)
  have F4 := O49.out.same fun ad e => by have := O49.out.block ad e; exact GA.out.block _ this.2 (by intro q; injection q with q; omega)
  have F8 := O89.out.same fun ad e => by have := O89.out.block ad e; exact GA.out.block _ this.2 (by intro q; injection q with q; omega)
  have BA := B9.out.trans (below_of_only GA.out (Nat.le_refl _) B9.out.size)
  have e3 := N3.out
  have e4 := N4.out
  have e8 := N8.out.trans N5.out
  have hkA := F3.cap.1
  have hkB := F4.cap.1
  have hkC := F8.cap.1
  refine bodyPost_ret (results_pk rfl rfl KA.out) rfl ?_
  subst e3 e4
  refine ⟨A3, c3, A4, c4, A8, c8, n8, rfl, ?_, ?_, ?_, by rw [N1.out]; exact e8, hkA, hkB, hkC, BA⟩
  · rw [HT2.out]; exact F3.rd
  · rw [HT2.out]; exact F4.rd
  · rw [HT2.out]; exact F8.rd
end Go.Proofs.Ytieabfifaigjdaa
