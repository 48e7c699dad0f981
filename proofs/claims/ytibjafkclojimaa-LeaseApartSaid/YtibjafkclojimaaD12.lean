
/- Layer 26: a store in memory; the closure of newest. Conditions: as each theorem states them. -/
import Derived.Test.YtibjafkclojimaaD9
import Derived.Test.YtibjafkclojimaaQO
namespace Go.Proofs.Ytibjafkclojimaa
open Go.RowKit
/-- which record is the newest one -/
noncomputable def stepN (i : Int) (L : List Int) (s : Int × CL × Int) : Int × CL × Int :=
  match takeL L with
  | some (c, k) => if s.1 < 0 ∨ s.2.2 < k then (i, c, k) else s
  | none => s
theorem stepN_none {i : Int} {L : List Int} {s : Int × CL × Int} (h : takeL L = none) : stepN i L s = s := by unfold stepN; rw [h]
theorem stepN_yes {i : Int} {L : List Int} {s : Int × CL × Int} {c : CL} {k : Int} (h : takeL L = some (c, k)) (h2 : s.1 < 0 ∨ s.2.2 < k) : stepN i L s = (i, c, k) := by unfold stepN; rw [h]; simp only; rw [if_pos h2]
theorem stepN_no {i : Int} {L : List Int} {s : Int × CL × Int} {c : CL} {k : Int} (h : takeL L = some (c, k)) (h2 : ¬ (s.1 < 0 ∨ s.2.2 < k)) : stepN i L s = s := by unfold stepN; rw [h]; simp only; rw [if_neg h2]
/-- the frame of newest -/
structure LkF (N g : Nat) (s : Int × CL × Int) (A : Option Addr) (n cap : Nat) (ts : List Tx) (v : World) : Prop where
  ps : Blk v N 25 #[.pointer (some ⟨g, 0, none⟩)]
  sl : Blk v (N + 1) 3 #[.int .i64 s.1]
  cl : Blk v (N + 1 + 1) 31 #[.int .u64 s.2.1.ep, .int .u8 s.2.1.ow, .int .u64 s.2.1.nx, .int .u64 s.2.1.sn, .slice A n cap]
  cn : Blk v (N + 1 + 1 + 1) 22 #[.int .u64 s.2.2]
  ci : CIn v.heap.size v A n cap ts
  fr : FrT (N + 1 + 1 + 1 + 1) A ts
  bs : s.2.1.bs = bsT ts
theorem LkF.below {N g : Nat} {s : Int × CL × Int} {A : Option Addr} {n cap : Nat} {ts : List Tx} {v v' : World} (h : LkF N g s A n cap ts v) (hb : Below v.heap.size v v') : LkF N g s A n cap ts v' :=
  ⟨h.ps.below hb h.ps.lt, h.sl.below hb h.sl.lt, h.cl.below hb h.cl.lt, h.cn.below hb h.cn.lt, (h.ci.below hb (Nat.le_refl _)).mono hb.size, h.fr, h.bs⟩
def LkPost (N g : Nat) (s : Int × CL × Int) (v : World) (e : Ending) (v' : World) : Prop := e = .returned (.tuple #[]) ∧ (∃ A n cap ts, LkF N g s A n cap ts v') ∧ Below N v v'
/-- a slot of the store -/
structure Slot (B g i : Nat) (L : List Int) (v : World) : Prop where
  c : ∃ A c, v.cell? ⟨g, i, none⟩ = some (.slice A L.length c) ∧ L.length ≤ c ∧ Rd B .u8 v A L
theorem Slot.below {B N g i : Nat} {L : List Int} {v v' : World} (h : Slot B g i L v) (hb : Below N v v') (hg : g < N) (hB : B ≤ N) : Slot B g i L v' := by
  obtain ⟨A, c, h1, h2, h3⟩ := h
  exact ⟨A, c, Below.cell_some hb h1 hg, h2, h3.below hb hB⟩
set_option maxRecDepth 100000 in
set_option maxHeartbeats 8000000 in
theorem look_any (N g i : Nat) (s : Int × CL × Int) (A : Option Addr) (n cap : Nat) (ts : List Tx) (L : List Int) (v : World) (hi : i = 0 ∨ i = 1) (hF : LkF N g s A n cap ts v) (hS : Slot N g i L v) (_hg : g < N) (hb : Byt L) (hl : L.length ≤ 1000000000000) :
    Calls Try.prog 17 #[.int .i64 (i : Nat), .pointer (some ⟨N, 0, none⟩), .pointer (some ⟨N + 1, 0, none⟩), .pointer (some ⟨N + 1 + 1 + 1, 0, none⟩), .pointer (some ⟨N + 1 + 1, 0, none⟩)] v (LkPost N g (stepN i L s) v) := by
  obtain ⟨A1, c1, q1, q2, q3⟩ := hS
  have HF := Lib.hid hF
  have HBY := Lib.hid hb
  have hN := hF.cn.lt
  have p0 := Blk.cell hF.ps 0
  have p1 := Blk.cell hF.sl 0
  have p3 := Blk.cell hF.cn 0
  simp at p0 p1 p3
  obtain ⟨l, hl1⟩ : ∃ l, L.length = l := ⟨_, rfl⟩
  rw [hl1] at q1 q2 hl
  have HL := Lib.hid hl1
  have HTK := Lib.hid (ctake_any A1 l c1 L v hl1 q2 (q3.mono (by omega)) hb hl)
  clear hb hF hl1 q3
  obtain ⟨ii, hii⟩ : ∃ ii : Int, ii = (i : Int) := ⟨_, rfl⟩
  cases hT : takeL L with
  | none =>
    have HX : Hid (stepN i L s = s) := Lib.hid (stepN_none hT)
    rw [hT] at HTK
    rw [HX.out]
    clear hT hii
    rcases hi with rfl | rfl
    all_goals
      go_enter Try.func17, Try.ntmps17
      go_wp2_with fail
      refine Calls.mono HTK.out ?_
      rintro e w1 ⟨rfl, b1⟩
      have F1 := Lib.hid (HF.out.below b1)
      have B1 := Lib.hid (b1.mono (show N ≤ v.heap.size by omega))
      have hw1 := b1.size
      clear b1 HTK p0 p1 p3 q1
      go_wp2_with ((with_reducible (show wpList _ _ _ (⟨none, .store 31 _ _, _, _, _, _⟩ :: _) _ _)); go_loud (refine wpList_storeBlk (o := ⟨none, .store 31 _ _, _, _, _, _⟩) (g := w1.heap.size) (t := 31) (vs := [.int .u64 0, .int .u8 0, .int .u64 0, .int .u64 0, .slice none 0 0]) rfl _ _ rfl rfl rfl (Blk.new _ _ _) rfl (one5 rfl rfl rfl rfl rfl) size5 ?_); intro w2 z2 g2; have Z2 := Lib.hid z2; have B2 := Lib.hid (((Below.refl w1.heap.size w1).alloc (Nat.le_refl _) _).trans (below_of_only g2 (Nat.le_refl _) (by simp))); have F2 := Lib.hid (F1.out.below B2.out); clear z2 g2; have p1 := Blk.cell F2.out.sl 0; have p3 := Blk.cell F2.out.cn 0; simp at p1 p3)
      exact bodyPost_end (results_none rfl _ _ _) rfl ⟨rfl, ⟨_, _, _, _, F2.out⟩, B1.out.trans (B2.out.mono (by omega))⟩
  | some ck =>
    obtain ⟨c, k⟩ := ck
    have HT := Lib.hid hT
    rw [hT] at HTK
    clear hT hii
    obtain ⟨sl, sc, sk⟩ := s
    simp only at p1 p3
    rcases hi with rfl | rfl
    · go_enter Try.func17, Try.ntmps17
      go_wp2_with fail
      refine Calls.mono HTK.out ?_
      rintro e w1 ⟨A2, n2, cap2, ts2, rfl, ci2, fr2, bs2, b1⟩
      have F1 := Lib.hid (HF.out.below b1)
      have B1 := Lib.hid (b1.mono (show N ≤ v.heap.size by omega))
      have hw1 := b1.size
      have C1 := Lib.hid ci2
      have FR := Lib.hid (fr2.mono (show N + 1 + 1 + 1 + 1 ≤ v.heap.size by omega))
      have BS := Lib.hid bs2
      clear b1 HTK p0 p1 p3 q1 ci2 fr2 bs2
      by_cases h1 : sl < 0
      · have HX : ∀ j : Int, Hid (stepN j L (sl, sc, sk) = (j, c, k)) := fun j => Lib.hid (stepN_yes HT.out (.inl h1))
        clear HT
        go_wp2_with ((with_reducible (show wpList _ _ _ (⟨none, .store 31 _ _, _, _, _, _⟩ :: _) _ _)); go_loud (refine wpList_storeBlk (o := ⟨none, .store 31 _ _, _, _, _, _⟩) (g := w1.heap.size) (t := 31) (vs := [.int .u64 c.ep, .int .u8 c.ow, .int .u64 c.nx, .int .u64 c.sn, .slice A2 n2 cap2]) rfl _ _ rfl rfl rfl (Blk.new _ _ _) rfl (one5 rfl rfl rfl rfl rfl) size5 ?_); intro w2 z2 g2; have Z2 := Lib.hid z2; have B2 := Lib.hid (((Below.refl w1.heap.size w1).alloc (Nat.le_refl _) _).trans (below_of_only g2 (Nat.le_refl _) (by simp))); have F2 := Lib.hid (F1.out.below B2.out); clear z2 g2; have p1 := Blk.cell F2.out.sl 0; have p3 := Blk.cell F2.out.cn 0; simp at p1 p3)
        have hw2 := B2.out.size
        have C2 := Lib.hid ((C1.out.below B2.out (Nat.le_refl _)).mono hw2)
        have hne : Nonempty (CW (CB w1.heap.size #[.int .u64 c.ep, .int .u8 c.ow, .int .u64 c.nx, .int .u64 c.sn, .slice A2 n2 cap2])) := CW.inh Z2.out
        have hz2 := Z2.out.lt
        refine wp_region_mixO (fun w' => ∃ r : CW (CB w1.heap.size #[.int .u64 c.ep, .int .u8 c.ow, .int .u64 c.nx, .int .u64 c.sn, .slice A2 n2 cap2]), w' = r.world) [([0, 1, 2], 3), ([], 4), ([], 5)] (by kernel_rfl) (by kernel_rfl) (by kernel_rfl) (by kernel_rfl) (by kernel_rfl) ⟨CW.mk' (show CB _ _ w2.drew from Blk.drew Z2.out), rfl⟩ ?_
        try (rw [put_none])
        simp only [pickL, List.map_cons, List.map_nil, List.filterMap_cons, List.filterMap_nil, List.getElem?_cons_succ, List.getElem?_cons_zero]
        refine mixO_cons ?_
        show wpQuiet _ _ _ _ (_ :: _) _
        go_big_quiet_step (fail)
        show wpQuiet _ _ _ _ (_ :: _) _
        refine wpQuiet_loadV (o := ⟨some 32, _, _, _, _, _⟩) rfl _ rfl rfl (fun w' hw' => by obtain ⟨r, rfl⟩ := hw'; exact cb_load r.holds) ?_
        simp only [Act.put, List.setIfInBounds_toArray, List.set_cons_zero, List.set_cons_succ]
        repeat (show wpQuiet _ _ _ _ (_ :: _) _; go_big_quiet_step (fail))
        refine wpQuiet_nil ?_
        show wpList _ _ _ [_] _ _
        have F3 := Lib.hid (F2.out.below (Below.refl w2.heap.size w2).drew)
        have C3 : Hid (CIn w2.drew.heap.size w2.drew A2 n2 cap2 ts2) := Lib.hid (C2.out.below (Below.refl w2.heap.size w2).drew (Nat.le_refl _))
        have Z3 : Hid (Blk w2.drew w1.heap.size 31 #[.int .u64 c.ep, .int .u8 c.ow, .int .u64 c.nx, .int .u64 c.sn, .slice A2 n2 cap2]) := Lib.hid (Blk.drew Z2.out)
        have B3 := Lib.hid ((Below.refl N w2).drew)
        have hz3 : w2.heap.size ≤ w2.drew.heap.size := Nat.le_refl _
        clear F2 C2 Z2 p1 p3
        generalize w2.drew = w3 at *
        have a1 := Blk.cell F3.out.sl 0
        have g1 := F3.out.sl.frozen 0
        simp at a1
        have G4 : Hid (w3.grownBy (w3.setCell ⟨N + 1, 0, none⟩ (.int .i64 0)) (some (N + 1))) := Lib.hid (only_setCell (World.grownBy.refl _ _) (.inl rfl) _)
        have K4 : Hid (Blk (w3.setCell ⟨N + 1, 0, none⟩ (.int .i64 0)) (N + 1) 3 #[.int .i64 0]) := Lib.hid (Blk.cast (F3.out.sl.set_ 0 _) (by simp))
        go_wp2_with fail
        generalize w3.setCell ⟨N + 1, 0, none⟩ (.int .i64 0) = w4 at *
        have hz4 := G4.out.size
        have P4 := Lib.hid (F3.out.ps.grown G4.out (by intro q; injection q; omega))
        have L4 := Lib.hid (F3.out.cl.grown G4.out (by intro q; injection q; omega))
        have N4 := Lib.hid (F3.out.cn.grown G4.out (by intro q; injection q; omega))
        have Z4 := Lib.hid (Z3.out.grown G4.out (by intro q; injection q; omega))
        have C4 := Lib.hid ((C3.out.grownLo FR.out G4.out (by omega) (Nat.le_refl _)).mono hz4)
        have B4 := Lib.hid (B3.out.trans (below_of_only (B := N) G4.out (by omega) (by omega)))
        clear F3 C3 Z3 B3 G4 a1 g1
        refine MixO.narrow (fun _ h => h) ⟨CW.mk' (show CB _ _ w4 from Z4.out), rfl⟩ ?_
        refine mixO_cons ?_
        refine wpQuiet_nil ?_
        show wpList _ _ _ [_] _ _
        go_wp2_with ((with_reducible (show wpList _ _ _ (⟨none, .store 31 _ _, _, _, _, _⟩ :: _) _ _)); go_loud (refine wpList_storeBlk (o := ⟨none, .store 31 _ _, _, _, _, _⟩) (g := N + 1 + 1) (t := 31) (vs := [.int .u64 c.ep, .int .u8 c.ow, .int .u64 c.nx, .int .u64 c.sn, .slice A2 n2 cap2]) rfl _ _ rfl rfl rfl L4.out rfl (one5 rfl rfl rfl rfl rfl) size5 ?_); intro w5 z5 g5; have Z5 := Lib.hid z5; have G5 := Lib.hid g5; clear z5 g5)
        have hz5 := G5.out.size
        have P5 := Lib.hid (P4.out.grown G5.out (by intro q; injection q; omega))
        have K5 := Lib.hid (K4.out.grown G5.out (by intro q; injection q; omega))
        have N5 := Lib.hid (N4.out.grown G5.out (by intro q; injection q; omega))
        have X5 := Lib.hid (Z4.out.grown G5.out (by intro q; injection q; omega))
        have C5 := Lib.hid ((C4.out.grownLo FR.out G5.out (by omega) (Nat.le_refl _)).mono hz5)
        have B5 := Lib.hid (B4.out.trans (below_of_only (B := N) G5.out (by omega) (by omega)))
        clear P4 L4 N4 Z4 C4 B4 K4 G5
        refine MixO.narrow (fun _ h => h) ⟨CW.mk' (show CB _ _ w5 from X5.out), rfl⟩ ?_
        refine mixO_cons ?_
        refine wpQuiet_nil ?_
        show wpList _ _ _ [_] _ _
        have a3 := Blk.cell N5.out 0
        have g3 := N5.out.frozen 0
        simp at a3
        have G6 : Hid (w5.grownBy (w5.setCell ⟨N + 1 + 1 + 1, 0, none⟩ (.int .u64 k)) (some (N + 1 + 1 + 1))) := Lib.hid (only_setCell (World.grownBy.refl _ _) (.inl rfl) _)
        have K6 : Hid (Blk (w5.setCell ⟨N + 1 + 1 + 1, 0, none⟩ (.int .u64 k)) (N + 1 + 1 + 1) 22 #[.int .u64 k]) := Lib.hid (Blk.cast (N5.out.set_ 0 _) (by simp))
        go_wp2_with fail
        refine MixO.last ?_
        refine mixO_nil ?_
        refine wpQuiet_nil ?_
        refine NoPanic.normal ?_
        generalize w5.setCell ⟨N + 1 + 1 + 1, 0, none⟩ (.int .u64 k) = w6 at *
        have FIN : Hid (LkF N g (0, c, k) A2 n2 cap2 ts2 w6) := Lib.hid ⟨P5.out.grown G6.out (by intro q; injection q; omega), K5.out.grown G6.out (by intro q; injection q; omega), Z5.out.grown G6.out (by intro q; injection q; omega), K6.out, (C5.out.grownLo FR.out G6.out (by omega) (Nat.le_refl _)).mono G6.out.size, FR.out, BS.out⟩
        have B6 := Lib.hid ((B1.out.trans (B2.out.mono (by omega))).trans (B5.out.trans (below_of_only (B := N) G6.out (by omega) (by omega))))
        exact bodyPost_end (results_none rfl _ _ _) rfl ⟨rfl, ⟨A2, n2, cap2, ts2, by rw [(HX _).out]; exact FIN.out⟩, B6.out⟩
      · by_cases h2 : sk < k
        · have HX : ∀ j : Int, Hid (stepN j L (sl, sc, sk) = (j, c, k)) := fun j => Lib.hid (stepN_yes HT.out (.inr h2))
          clear HT
          go_wp2_with ((with_reducible (show wpList _ _ _ (⟨none, .store 31 _ _, _, _, _, _⟩ :: _) _ _)); go_loud (refine wpList_storeBlk (o := ⟨none, .store 31 _ _, _, _, _, _⟩) (g := w1.heap.size) (t := 31) (vs := [.int .u64 c.ep, .int .u8 c.ow, .int .u64 c.nx, .int .u64 c.sn, .slice A2 n2 cap2]) rfl _ _ rfl rfl rfl (Blk.new _ _ _) rfl (one5 rfl rfl rfl rfl rfl) size5 ?_); intro w2 z2 g2; have Z2 := Lib.hid z2; have B2 := Lib.hid (((Below.refl w1.heap.size w1).alloc (Nat.le_refl _) _).trans (below_of_only g2 (Nat.le_refl _) (by simp))); have F2 := Lib.hid (F1.out.below B2.out); clear z2 g2; have p1 := Blk.cell F2.out.sl 0; have p3 := Blk.cell F2.out.cn 0; simp at p1 p3)
          have hw2 := B2.out.size
          have C2 := Lib.hid ((C1.out.below B2.out (Nat.le_refl _)).mono hw2)
          have hne : Nonempty (CW (CB w1.heap.size #[.int .u64 c.ep, .int .u8 c.ow, .int .u64 c.nx, .int .u64 c.sn, .slice A2 n2 cap2])) := CW.inh Z2.out
          have hz2 := Z2.out.lt
          refine wp_region_mixO (fun w' => ∃ r : CW (CB w1.heap.size #[.int .u64 c.ep, .int .u8 c.ow, .int .u64 c.nx, .int .u64 c.sn, .slice A2 n2 cap2]), w' = r.world) [([0, 1, 2], 3), ([], 4), ([], 5)] (by kernel_rfl) (by kernel_rfl) (by kernel_rfl) (by kernel_rfl) (by kernel_rfl) ⟨CW.mk' (show CB _ _ w2.drew from Blk.drew Z2.out), rfl⟩ ?_
          try (rw [put_none])
          simp only [pickL, List.map_cons, List.map_nil, List.filterMap_cons, List.filterMap_nil, List.getElem?_cons_succ, List.getElem?_cons_zero]
          refine mixO_cons ?_
          show wpQuiet _ _ _ _ (_ :: _) _
          go_big_quiet_step (fail)
          show wpQuiet _ _ _ _ (_ :: _) _
          refine wpQuiet_loadV (o := ⟨some 32, _, _, _, _, _⟩) rfl _ rfl rfl (fun w' hw' => by obtain ⟨r, rfl⟩ := hw'; exact cb_load r.holds) ?_
          simp only [Act.put, List.setIfInBounds_toArray, List.set_cons_zero, List.set_cons_succ]
          repeat (show wpQuiet _ _ _ _ (_ :: _) _; go_big_quiet_step (fail))
          refine wpQuiet_nil ?_
          show wpList _ _ _ [_] _ _
          have F3 := Lib.hid (F2.out.below (Below.refl w2.heap.size w2).drew)
          have C3 : Hid (CIn w2.drew.heap.size w2.drew A2 n2 cap2 ts2) := Lib.hid (C2.out.below (Below.refl w2.heap.size w2).drew (Nat.le_refl _))
          have Z3 : Hid (Blk w2.drew w1.heap.size 31 #[.int .u64 c.ep, .int .u8 c.ow, .int .u64 c.nx, .int .u64 c.sn, .slice A2 n2 cap2]) := Lib.hid (Blk.drew Z2.out)
          have B3 := Lib.hid ((Below.refl N w2).drew)
          have hz3 : w2.heap.size ≤ w2.drew.heap.size := Nat.le_refl _
          clear F2 C2 Z2 p1 p3
          generalize w2.drew = w3 at *
          have a1 := Blk.cell F3.out.sl 0
          have g1 := F3.out.sl.frozen 0
          simp at a1
          have G4 : Hid (w3.grownBy (w3.setCell ⟨N + 1, 0, none⟩ (.int .i64 0)) (some (N + 1))) := Lib.hid (only_setCell (World.grownBy.refl _ _) (.inl rfl) _)
          have K4 : Hid (Blk (w3.setCell ⟨N + 1, 0, none⟩ (.int .i64 0)) (N + 1) 3 #[.int .i64 0]) := Lib.hid (Blk.cast (F3.out.sl.set_ 0 _) (by simp))
          go_wp2_with fail
          generalize w3.setCell ⟨N + 1, 0, none⟩ (.int .i64 0) = w4 at *
          have hz4 := G4.out.size
          have P4 := Lib.hid (F3.out.ps.grown G4.out (by intro q; injection q; omega))
          have L4 := Lib.hid (F3.out.cl.grown G4.out (by intro q; injection q; omega))
          have N4 := Lib.hid (F3.out.cn.grown G4.out (by intro q; injection q; omega))
          have Z4 := Lib.hid (Z3.out.grown G4.out (by intro q; injection q; omega))
          have C4 := Lib.hid ((C3.out.grownLo FR.out G4.out (by omega) (Nat.le_refl _)).mono hz4)
          have B4 := Lib.hid (B3.out.trans (below_of_only (B := N) G4.out (by omega) (by omega)))
          clear F3 C3 Z3 B3 G4 a1 g1
          refine MixO.narrow (fun _ h => h) ⟨CW.mk' (show CB _ _ w4 from Z4.out), rfl⟩ ?_
          refine mixO_cons ?_
          refine wpQuiet_nil ?_
          show wpList _ _ _ [_] _ _
          go_wp2_with ((with_reducible (show wpList _ _ _ (⟨none, .store 31 _ _, _, _, _, _⟩ :: _) _ _)); go_loud (refine wpList_storeBlk (o := ⟨none, .store 31 _ _, _, _, _, _⟩) (g := N + 1 + 1) (t := 31) (vs := [.int .u64 c.ep, .int .u8 c.ow, .int .u64 c.nx, .int .u64 c.sn, .slice A2 n2 cap2]) rfl _ _ rfl rfl rfl L4.out rfl (one5 rfl rfl rfl rfl rfl) size5 ?_); intro w5 z5 g5; have Z5 := Lib.hid z5; have G5 := Lib.hid g5; clear z5 g5)
          have hz5 := G5.out.size
          have P5 := Lib.hid (P4.out.grown G5.out (by intro q; injection q; omega))
          have K5 := Lib.hid (K4.out.grown G5.out (by intro q; injection q; omega))
          have N5 := Lib.hid (N4.out.grown G5.out (by intro q; injection q; omega))
          have X5 := Lib.hid (Z4.out.grown G5.out (by intro q; injection q; omega))
          have C5 := Lib.hid ((C4.out.grownLo FR.out G5.out (by omega) (Nat.le_refl _)).mono hz5)
          have B5 := Lib.hid (B4.out.trans (below_of_only (B := N) G5.out (by omega) (by omega)))
          clear P4 L4 N4 Z4 C4 B4 K4 G5
          refine MixO.narrow (fun _ h => h) ⟨CW.mk' (show CB _ _ w5 from X5.out), rfl⟩ ?_
          refine mixO_cons ?_
          refine wpQuiet_nil ?_
          show wpList _ _ _ [_] _ _
          have a3 := Blk.cell N5.out 0
          have g3 := N5.out.frozen 0
          simp at a3
          have G6 : Hid (w5.grownBy (w5.setCell ⟨N + 1 + 1 + 1, 0, none⟩ (.int .u64 k)) (some (N + 1 + 1 + 1))) := Lib.hid (only_setCell (World.grownBy.refl _ _) (.inl rfl) _)
          have K6 : Hid (Blk (w5.setCell ⟨N + 1 + 1 + 1, 0, none⟩ (.int .u64 k)) (N + 1 + 1 + 1) 22 #[.int .u64 k]) := Lib.hid (Blk.cast (N5.out.set_ 0 _) (by simp))
          go_wp2_with fail
          refine MixO.last ?_
          refine mixO_nil ?_
          refine wpQuiet_nil ?_
          refine NoPanic.normal ?_
          generalize w5.setCell ⟨N + 1 + 1 + 1, 0, none⟩ (.int .u64 k) = w6 at *
          have FIN : Hid (LkF N g (0, c, k) A2 n2 cap2 ts2 w6) := Lib.hid ⟨P5.out.grown G6.out (by intro q; injection q; omega), K5.out.grown G6.out (by intro q; injection q; omega), Z5.out.grown G6.out (by intro q; injection q; omega), K6.out, (C5.out.grownLo FR.out G6.out (by omega) (Nat.le_refl _)).mono G6.out.size, FR.out, BS.out⟩
          have B6 := Lib.hid ((B1.out.trans (B2.out.mono (by omega))).trans (B5.out.trans (below_of_only (B := N) G6.out (by omega) (by omega))))
          exact bodyPost_end (results_none rfl _ _ _) rfl ⟨rfl, ⟨A2, n2, cap2, ts2, by rw [(HX _).out]; exact FIN.out⟩, B6.out⟩
        · have HX : ∀ j : Int, Hid (stepN j L (sl, sc, sk) = (sl, sc, sk)) := fun j => Lib.hid (stepN_no HT.out (fun q => q.elim h1 h2))
          have h1' : decide (sl < 0) = false := decide_eq_false h1
          have h2' : decide (sk < k) = false := decide_eq_false h2
          clear HT h1 h2
          go_wp2_with ((with_reducible (show wpList _ _ _ (⟨none, .store 31 _ _, _, _, _, _⟩ :: _) _ _)); go_loud (refine wpList_storeBlk (o := ⟨none, .store 31 _ _, _, _, _, _⟩) (g := w1.heap.size) (t := 31) (vs := [.int .u64 c.ep, .int .u8 c.ow, .int .u64 c.nx, .int .u64 c.sn, .slice A2 n2 cap2]) rfl _ _ rfl rfl rfl (Blk.new _ _ _) rfl (one5 rfl rfl rfl rfl rfl) size5 ?_); intro w2 z2 g2; have Z2 := Lib.hid z2; have B2 := Lib.hid (((Below.refl w1.heap.size w1).alloc (Nat.le_refl _) _).trans (below_of_only g2 (Nat.le_refl _) (by simp))); have F2 := Lib.hid (F1.out.below B2.out); clear z2 g2; have p1 := Blk.cell F2.out.sl 0; have p3 := Blk.cell F2.out.cn 0; simp at p1 p3)
          exact bodyPost_end (results_none rfl _ _ _) rfl ⟨rfl, ⟨_, _, _, _, by rw [(HX _).out]; exact F2.out⟩, B1.out.trans (B2.out.mono (by omega))⟩
    · go_enter Try.func17, Try.ntmps17
      go_wp2_with fail
      refine Calls.mono HTK.out ?_
      rintro e w1 ⟨A2, n2, cap2, ts2, rfl, ci2, fr2, bs2, b1⟩
      have F1 := Lib.hid (HF.out.below b1)
      have B1 := Lib.hid (b1.mono (show N ≤ v.heap.size by omega))
      have hw1 := b1.size
      have C1 := Lib.hid ci2
      have FR := Lib.hid (fr2.mono (show N + 1 + 1 + 1 + 1 ≤ v.heap.size by omega))
      have BS := Lib.hid bs2
      clear b1 HTK p0 p1 p3 q1 ci2 fr2 bs2
      by_cases h1 : sl < 0
      · have HX : ∀ j : Int, Hid (stepN j L (sl, sc, sk) = (j, c, k)) := fun j => Lib.hid (stepN_yes HT.out (.inl h1))
        clear HT
        go_wp2_with ((with_reducible (show wpList _ _ _ (⟨none, .store 31 _ _, _, _, _, _⟩ :: _) _ _)); go_loud (refine wpList_storeBlk (o := ⟨none, .store 31 _ _, _, _, _, _⟩) (g := w1.heap.size) (t := 31) (vs := [.int .u64 c.ep, .int .u8 c.ow, .int .u64 c.nx, .int .u64 c.sn, .slice A2 n2 cap2]) rfl _ _ rfl rfl rfl (Blk.new _ _ _) rfl (one5 rfl rfl rfl rfl rfl) size5 ?_); intro w2 z2 g2; have Z2 := Lib.hid z2; have B2 := Lib.hid (((Below.refl w1.heap.size w1).alloc (Nat.le_refl _) _).trans (below_of_only g2 (Nat.le_refl _) (by simp))); have F2 := Lib.hid (F1.out.below B2.out); clear z2 g2; have p1 := Blk.cell F2.out.sl 0; have p3 := Blk.cell F2.out.cn 0; simp at p1 p3)
        have hw2 := B2.out.size
        have C2 := Lib.hid ((C1.out.below B2.out (Nat.le_refl _)).mono hw2)
        have hne : Nonempty (CW (CB w1.heap.size #[.int .u64 c.ep, .int .u8 c.ow, .int .u64 c.nx, .int .u64 c.sn, .slice A2 n2 cap2])) := CW.inh Z2.out
        have hz2 := Z2.out.lt
        refine wp_region_mixO (fun w' => ∃ r : CW (CB w1.heap.size #[.int .u64 c.ep, .int .u8 c.ow, .int .u64 c.nx, .int .u64 c.sn, .slice A2 n2 cap2]), w' = r.world) [([0, 1, 2], 3), ([], 4), ([], 5)] (by kernel_rfl) (by kernel_rfl) (by kernel_rfl) (by kernel_rfl) (by kernel_rfl) ⟨CW.mk' (show CB _ _ w2.drew from Blk.drew Z2.out), rfl⟩ ?_
        try (rw [put_none])
        simp only [pickL, List.map_cons, List.map_nil, List.filterMap_cons, List.filterMap_nil, List.getElem?_cons_succ, List.getElem?_cons_zero]
        refine mixO_cons ?_
        show wpQuiet _ _ _ _ (_ :: _) _
        go_big_quiet_step (fail)
        show wpQuiet _ _ _ _ (_ :: _) _
        refine wpQuiet_loadV (o := ⟨some 32, _, _, _, _, _⟩) rfl _ rfl rfl (fun w' hw' => by obtain ⟨r, rfl⟩ := hw'; exact cb_load r.holds) ?_
        simp only [Act.put, List.setIfInBounds_toArray, List.set_cons_zero, List.set_cons_succ]
        repeat (show wpQuiet _ _ _ _ (_ :: _) _; go_big_quiet_step (fail))
        refine wpQuiet_nil ?_
        show wpList _ _ _ [_] _ _
        have F3 := Lib.hid (F2.out.below (Below.refl w2.heap.size w2).drew)
        have C3 : Hid (CIn w2.drew.heap.size w2.drew A2 n2 cap2 ts2) := Lib.hid (C2.out.below (Below.refl w2.heap.size w2).drew (Nat.le_refl _))
        have Z3 : Hid (Blk w2.drew w1.heap.size 31 #[.int .u64 c.ep, .int .u8 c.ow, .int .u64 c.nx, .int .u64 c.sn, .slice A2 n2 cap2]) := Lib.hid (Blk.drew Z2.out)
        have B3 := Lib.hid ((Below.refl N w2).drew)
        have hz3 : w2.heap.size ≤ w2.drew.heap.size := Nat.le_refl _
        clear F2 C2 Z2 p1 p3
        generalize w2.drew = w3 at *
        have a1 := Blk.cell F3.out.sl 0
        have g1 := F3.out.sl.frozen 0
        simp at a1
        have G4 : Hid (w3.grownBy (w3.setCell ⟨N + 1, 0, none⟩ (.int .i64 1)) (some (N + 1))) := Lib.hid (only_setCell (World.grownBy.refl _ _) (.inl rfl) _)
        have K4 : Hid (Blk (w3.setCell ⟨N + 1, 0, none⟩ (.int .i64 1)) (N + 1) 3 #[.int .i64 1]) := Lib.hid (Blk.cast (F3.out.sl.set_ 0 _) (by simp))
        go_wp2_with fail
        generalize w3.setCell ⟨N + 1, 0, none⟩ (.int .i64 1) = w4 at *
        have hz4 := G4.out.size
        have P4 := Lib.hid (F3.out.ps.grown G4.out (by intro q; injection q; omega))
        have L4 := Lib.hid (F3.out.cl.grown G4.out (by intro q; injection q; omega))
        have N4 := Lib.hid (F3.out.cn.grown G4.out (by intro q; injection q; omega))
        have Z4 := Lib.hid (Z3.out.grown G4.out (by intro q; injection q; omega))
        have C4 := Lib.hid ((C3.out.grownLo FR.out G4.out (by omega) (Nat.le_refl _)).mono hz4)
        have B4 := Lib.hid (B3.out.trans (below_of_only (B := N) G4.out (by omega) (by omega)))
        clear F3 C3 Z3 B3 G4 a1 g1
        refine MixO.narrow (fun _ h => h) ⟨CW.mk' (show CB _ _ w4 from Z4.out), rfl⟩ ?_
        refine mixO_cons ?_
        refine wpQuiet_nil ?_
        show wpList _ _ _ [_] _ _
        go_wp2_with ((with_reducible (show wpList _ _ _ (⟨none, .store 31 _ _, _, _, _, _⟩ :: _) _ _)); go_loud (refine wpList_storeBlk (o := ⟨none, .store 31 _ _, _, _, _, _⟩) (g := N + 1 + 1) (t := 31) (vs := [.int .u64 c.ep, .int .u8 c.ow, .int .u64 c.nx, .int .u64 c.sn, .slice A2 n2 cap2]) rfl _ _ rfl rfl rfl L4.out rfl (one5 rfl rfl rfl rfl rfl) size5 ?_); intro w5 z5 g5; have Z5 := Lib.hid z5; have G5 := Lib.hid g5; clear z5 g5)
        have hz5 := G5.out.size
        have P5 := Lib.hid (P4.out.grown G5.out (by intro q; injection q; omega))
        have K5 := Lib.hid (K4.out.grown G5.out (by intro q; injection q; omega))
        have N5 := Lib.hid (N4.out.grown G5.out (by intro q; injection q; omega))
        have X5 := Lib.hid (Z4.out.grown G5.out (by intro q; injection q; omega))
        have C5 := Lib.hid ((C4.out.grownLo FR.out G5.out (by omega) (Nat.le_refl _)).mono hz5)
        have B5 := Lib.hid (B4.out.trans (below_of_only (B := N) G5.out (by omega) (by omega)))
        clear P4 L4 N4 Z4 C4 B4 K4 G5
        refine MixO.narrow (fun _ h => h) ⟨CW.mk' (show CB _ _ w5 from X5.out), rfl⟩ ?_
        refine mixO_cons ?_
        refine wpQuiet_nil ?_
        show wpList _ _ _ [_] _ _
        have a3 := Blk.cell N5.out 0
        have g3 := N5.out.frozen 0
        simp at a3
        have G6 : Hid (w5.grownBy (w5.setCell ⟨N + 1 + 1 + 1, 0, none⟩ (.int .u64 k)) (some (N + 1 + 1 + 1))) := Lib.hid (only_setCell (World.grownBy.refl _ _) (.inl rfl) _)
        have K6 : Hid (Blk (w5.setCell ⟨N + 1 + 1 + 1, 0, none⟩ (.int .u64 k)) (N + 1 + 1 + 1) 22 #[.int .u64 k]) := Lib.hid (Blk.cast (N5.out.set_ 0 _) (by simp))
        go_wp2_with fail
        refine MixO.last ?_
        refine mixO_nil ?_
        refine wpQuiet_nil ?_
        refine NoPanic.normal ?_
        generalize w5.setCell ⟨N + 1 + 1 + 1, 0, none⟩ (.int .u64 k) = w6 at *
        have FIN : Hid (LkF N g (1, c, k) A2 n2 cap2 ts2 w6) := Lib.hid ⟨P5.out.grown G6.out (by intro q; injection q; omega), K5.out.grown G6.out (by intro q; injection q; omega), Z5.out.grown G6.out (by intro q; injection q; omega), K6.out, (C5.out.grownLo FR.out G6.out (by omega) (Nat.le_refl _)).mono G6.out.size, FR.out, BS.out⟩
        have B6 := Lib.hid ((B1.out.trans (B2.out.mono (by omega))).trans (B5.out.trans (below_of_only (B := N) G6.out (by omega) (by omega))))
        exact bodyPost_end (results_none rfl _ _ _) rfl ⟨rfl, ⟨A2, n2, cap2, ts2, by rw [(HX _).out]; exact FIN.out⟩, B6.out⟩
      · by_cases h2 : sk < k
        · have HX : ∀ j : Int, Hid (stepN j L (sl, sc, sk) = (j, c, k)) := fun j => Lib.hid (stepN_yes HT.out (.inr h2))
          clear HT
          go_wp2_with ((with_reducible (show wpList _ _ _ (⟨none, .store 31 _ _, _, _, _, _⟩ :: _) _ _)); go_loud (refine wpList_storeBlk (o := ⟨none, .store 31 _ _, _, _, _, _⟩) (g := w1.heap.size) (t := 31) (vs := [.int .u64 c.ep, .int .u8 c.ow, .int .u64 c.nx, .int .u64 c.sn, .slice A2 n2 cap2]) rfl _ _ rfl rfl rfl (Blk.new _ _ _) rfl (one5 rfl rfl rfl rfl rfl) size5 ?_); intro w2 z2 g2; have Z2 := Lib.hid z2; have B2 := Lib.hid (((Below.refl w1.heap.size w1).alloc (Nat.le_refl _) _).trans (below_of_only g2 (Nat.le_refl _) (by simp))); have F2 := Lib.hid (F1.out.below B2.out); clear z2 g2; have p1 := Blk.cell F2.out.sl 0; have p3 := Blk.cell F2.out.cn 0; simp at p1 p3)
          have hw2 := B2.out.size
          have C2 := Lib.hid ((C1.out.below B2.out (Nat.le_refl _)).mono hw2)
          have hne : Nonempty (CW (CB w1.heap.size #[.int .u64 c.ep, .int .u8 c.ow, .int .u64 c.nx, .int .u64 c.sn, .slice A2 n2 cap2])) := CW.inh Z2.out
          have hz2 := Z2.out.lt
          refine wp_region_mixO (fun w' => ∃ r : CW (CB w1.heap.size #[.int .u64 c.ep, .int .u8 c.ow, .int .u64 c.nx, .int .u64 c.sn, .slice A2 n2 cap2]), w' = r.world) [([0, 1, 2], 3), ([], 4), ([], 5)] (by kernel_rfl) (by kernel_rfl) (by kernel_rfl) (by kernel_rfl) (by kernel_rfl) ⟨CW.mk' (show CB _ _ w2.drew from Blk.drew Z2.out), rfl⟩ ?_
          try (rw [put_none])
          simp only [pickL, List.map_cons, List.map_nil, List.filterMap_cons, List.filterMap_nil, List.getElem?_cons_succ, List.getElem?_cons_zero]
          refine mixO_cons ?_
          show wpQuiet _ _ _ _ (_ :: _) _
          go_big_quiet_step (fail)
          show wpQuiet _ _ _ _ (_ :: _) _
          refine wpQuiet_loadV (o := ⟨some 32, _, _, _, _, _⟩) rfl _ rfl rfl (fun w' hw' => by obtain ⟨r, rfl⟩ := hw'; exact cb_load r.holds) ?_
          simp only [Act.put, List.setIfInBounds_toArray, List.set_cons_zero, List.set_cons_succ]
          repeat (show wpQuiet _ _ _ _ (_ :: _) _; go_big_quiet_step (fail))
          refine wpQuiet_nil ?_
          show wpList _ _ _ [_] _ _
          have F3 := Lib.hid (F2.out.below (Below.refl w2.heap.size w2).drew)
          have C3 : Hid (CIn w2.drew.heap.size w2.drew A2 n2 cap2 ts2) := Lib.hid (C2.out.below (Below.refl w2.heap.size w2).drew (Nat.le_refl _))
          have Z3 : Hid (Blk w2.drew w1.heap.size 31 #[.int .u64 c.ep, .int .u8 c.ow, .int .u64 c.nx, .int .u64 c.sn, .slice A2 n2 cap2]) := Lib.hid (Blk.drew Z2.out)
          have B3 := Lib.hid ((Below.refl N w2).drew)
          have hz3 : w2.heap.size ≤ w2.drew.heap.size := Nat.le_refl _
          clear F2 C2 Z2 p1 p3
          generalize w2.drew = w3 at *
          have a1 := Blk.cell F3.out.sl 0
          have g1 := F3.out.sl.frozen 0
          simp at a1
          have G4 : Hid (w3.grownBy (w3.setCell ⟨N + 1, 0, none⟩ (.int .i64 1)) (some (N + 1))) := Lib.hid (only_setCell (World.grownBy.refl _ _) (.inl rfl) _)
          have K4 : Hid (Blk (w3.setCell ⟨N + 1, 0, none⟩ (.int .i64 1)) (N + 1) 3 #[.int .i64 1]) := Lib.hid (Blk.cast (F3.out.sl.set_ 0 _) (by simp))
          go_wp2_with fail
          generalize w3.setCell ⟨N + 1, 0, none⟩ (.int .i64 1) = w4 at *
          have hz4 := G4.out.size
          have P4 := Lib.hid (F3.out.ps.grown G4.out (by intro q; injection q; omega))
          have L4 := Lib.hid (F3.out.cl.grown G4.out (by intro q; injection q; omega))
          have N4 := Lib.hid (F3.out.cn.grown G4.out (by intro q; injection q; omega))
          have Z4 := Lib.hid (Z3.out.grown G4.out (by intro q; injection q; omega))
          have C4 := Lib.hid ((C3.out.grownLo FR.out G4.out (by omega) (Nat.le_refl _)).mono hz4)
          have B4 := Lib.hid (B3.out.trans (below_of_only (B := N) G4.out (by omega) (by omega)))
          clear F3 C3 Z3 B3 G4 a1 g1
          refine MixO.narrow (fun _ h => h) ⟨CW.mk' (show CB _ _ w4 from Z4.out), rfl⟩ ?_
          refine mixO_cons ?_
          refine wpQuiet_nil ?_
          show wpList _ _ _ [_] _ _
          go_wp2_with ((with_reducible (show wpList _ _ _ (⟨none, .store 31 _ _, _, _, _, _⟩ :: _) _ _)); go_loud (refine wpList_storeBlk (o := ⟨none, .store 31 _ _, _, _, _, _⟩) (g := N + 1 + 1) (t := 31) (vs := [.int .u64 c.ep, .int .u8 c.ow, .int .u64 c.nx, .int .u64 c.sn, .slice A2 n2 cap2]) rfl _ _ rfl rfl rfl L4.out rfl (one5 rfl rfl rfl rfl rfl) size5 ?_); intro w5 z5 g5; have Z5 := Lib.hid z5; have G5 := Lib.hid g5; clear z5 g5)
          have hz5 := G5.out.size
          have P5 := Lib.hid (P4.out.grown G5.out (by intro q; injection q; omega))
          have K5 := Lib.hid (K4.out.grown G5.out (by intro q; injection q; omega))
          have N5 := Lib.hid (N4.out.grown G5.out (by intro q; injection q; omega))
          have X5 := Lib.hid (Z4.out.grown G5.out (by intro q; injection q; omega))
          have C5 := Lib.hid ((C4.out.grownLo FR.out G5.out (by omega) (Nat.le_refl _)).mono hz5)
          have B5 := Lib.hid (B4.out.trans (below_of_only (B := N) G5.out (by omega) (by omega)))
          clear P4 L4 N4 Z4 C4 B4 K4 G5
          refine MixO.narrow (fun _ h => h) ⟨CW.mk' (show CB _ _ w5 from X5.out), rfl⟩ ?_
          refine mixO_cons ?_
          refine wpQuiet_nil ?_
          show wpList _ _ _ [_] _ _
          have a3 := Blk.cell N5.out 0
          have g3 := N5.out.frozen 0
          simp at a3
          have G6 : Hid (w5.grownBy (w5.setCell ⟨N + 1 + 1 + 1, 0, none⟩ (.int .u64 k)) (some (N + 1 + 1 + 1))) := Lib.hid (only_setCell (World.grownBy.refl _ _) (.inl rfl) _)
          have K6 : Hid (Blk (w5.setCell ⟨N + 1 + 1 + 1, 0, none⟩ (.int .u64 k)) (N + 1 + 1 + 1) 22 #[.int .u64 k]) := Lib.hid (Blk.cast (N5.out.set_ 0 _) (by simp))
          go_wp2_with fail
          refine MixO.last ?_
          refine mixO_nil ?_
          refine wpQuiet_nil ?_
          refine NoPanic.normal ?_
          generalize w5.setCell ⟨N + 1 + 1 + 1, 0, none⟩ (.int .u64 k) = w6 at *
          have FIN : Hid (LkF N g (1, c, k) A2 n2 cap2 ts2 w6) := Lib.hid ⟨P5.out.grown G6.out (by intro q; injection q; omega), K5.out.grown G6.out (by intro q; injection q; omega), Z5.out.grown G6.out (by intro q; injection q; omega), K6.out, (C5.out.grownLo FR.out G6.out (by omega) (Nat.le_refl _)).mono G6.out.size, FR.out, BS.out⟩
          have B6 := Lib.hid ((B1.out.trans (B2.out.mono (by omega))).trans (B5.out.trans (below_of_only (B := N) G6.out (by omega) (by omega))))
          exact bodyPost_end (results_none rfl _ _ _) rfl ⟨rfl, ⟨A2, n2, cap2, ts2, by rw [(HX _).out]; exact FIN.out⟩, B6.out⟩
        · have HX : ∀ j : Int, Hid (stepN j L (sl, sc, sk) = (sl, sc, sk)) := fun j => Lib.hid (stepN_no HT.out (fun q => q.elim h1 h2))
          have h1' : decide (sl < 0) = false := decide_eq_false h1
          have h2' : decide (sk < k) = false := decide_eq_false h2
          clear HT h1 h2
          go_wp2_with ((with_reducible (show wpList _ _ _ (⟨none, .store 31 _ _, _, _, _, _⟩ :: _) _ _)); go_loud (refine wpList_storeBlk (o := ⟨none, .store 31 _ _, _, _, _, _⟩) (g := w1.heap.size) (t := 31) (vs := [.int .u64 c.ep, .int .u8 c.ow, .int .u64 c.nx, .int .u64 c.sn, .slice A2 n2 cap2]) rfl _ _ rfl rfl rfl (Blk.new _ _ _) rfl (one5 rfl rfl rfl rfl rfl) size5 ?_); intro w2 z2 g2; have Z2 := Lib.hid z2; have B2 := Lib.hid (((Below.refl w1.heap.size w1).alloc (Nat.le_refl _) _).trans (below_of_only g2 (Nat.le_refl _) (by simp))); have F2 := Lib.hid (F1.out.below B2.out); clear z2 g2; have p1 := Blk.cell F2.out.sl 0; have p3 := Blk.cell F2.out.cn 0; simp at p1 p3)
          exact bodyPost_end (results_none rfl _ _ _) rfl ⟨rfl, ⟨_, _, _, _, by rw [(HX _).out]; exact F2.out⟩, B1.out.trans (B2.out.mono (by omega))⟩
end Go.Proofs.Ytibjafkclojimaa
