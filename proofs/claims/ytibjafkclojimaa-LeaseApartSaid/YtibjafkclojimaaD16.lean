
/- Layer 26: contract of Write. Conditions: as each theorem states them. -/
import Derived.Test.YtibjafkclojimaaD15
namespace Go.Proofs.Ytibjafkclojimaa
open Go.RowKit
theorem grown_cat {a b c : World} {row : Option Nat} (h : a.grownBy b row) (g : b.grownBy c row) : a.grownBy c row :=
  ⟨g.os.trans h.os, g.tape.trans h.tape, g.output.trans h.output, Nat.le_trans h.size g.size, fun i hi hne => (g.block i (Nat.lt_of_lt_of_le hi h.size) hne).trans (h.block i hi hne)⟩
theorem grown_drew {a b : World} {row : Option Nat} (h : a.grownBy b row) : a.grownBy b.drew row := ⟨h.os, h.tape, h.output, h.size, h.block⟩
theorem slice_hm {P : Program} {t e : TypeId} {k : IntKind} {bytes : Nat} (E : ElT P t e k bytes) (A : Option Addr) (n c : Nat) (h : Int) (m : Nat) (h0 : m ≤ c) (hm : (m : Int) = h) (w : World) (kh km : IntKind) :
    (Instr.sliceAt t (.slice A n c) none (some (.int kh h)) (some (.int km h))).run P w = .ok (.slice A m m) w := by
  subst hm
  rw [run_sliceAt_slice _ _ _ _ _ _ (by rw [E.elem]; exact E.ht), run_slice_hm _ _ _ _ _ (by rw [E.elem]; exact E.ht) kh km m m (by omega) (by omega) (by omega), E.elem, E.size]
  have ha : A.map (·.add 0) = A := by rcases A with _ | ad <;> simp [Addr.add]
  simp [Result.andThen, sliced, ha]
theorem SlT.cut {w : World} {A : Option Addr} {c : Nat} {L : List Int} (h : SlT w (.slice A L.length c) L) (m : Nat) (hm : m ≤ L.length) : SlT w (.slice A m m) (L.take m) := by
  obtain ⟨A1, c1, e, h2, h3, h4⟩ := h
  injection e with e1 e2 e3
  subst e1
  have hl : (L.take m).length = m := by simp; omega
  refine ⟨A, m, by rw [hl], by omega, fun i hi => ?_, h4⟩
  obtain ⟨ad, h5, h6, h7⟩ := h3 i (by omega)
  exact ⟨ad, h5, h6, by rw [h7]; simp [List.getD_eq_getElem?_getD, show i < m by omega]⟩
open Classical in
/-- what a write makes of a store: the error, the slots, whether it fails, whether it was torn -/
noncomputable def wrS (c : CL) (s : Int × CL × Int) (L0 L1 : List Int) (f : Bool) (a : Int) (t : Bool) : Int × List Int × List Int × Bool × Bool :=
  if ¬ c.May then (2, L0, L1, f, t) else
  if f = false then (if s.1 = 0 then (0, L0, c.rcd (s.2.2 + 1), false, false) else (0, c.rcd (s.2.2 + 1), L1, false, false)) else
  if a < 0 then (8, L0, L1, false, true) else
  if s.1 = 0 then (8, L0, (c.rcd (s.2.2 + 1)).take a.toNat, false, true) else (8, (c.rcd (s.2.2 + 1)).take a.toNat, L1, false, true)
def WrPost (g : Nat) (a : Int) (r : Int × List Int × List Int × Bool × Bool) (w : World) (e : Ending) (w' : World) : Prop := e = .returned (.int .i64 r.1) ∧ StB g w' r.2.1 r.2.2.1 r.2.2.2.1 a r.2.2.2.2 ∧ w.grownBy w' (some g)
attribute [local irreducible] CL.rcd CL.size
set_option maxRecDepth 100000 in
set_option maxHeartbeats 8000000 in
theorem write_any (g : Nat) (L0 L1 : List Int) (f t : Bool) (a : Int) (ep ow nx sn : Int) (A : Option Addr) (n cap : Nat) (ts : List Tx) (w : World) (h : StB g w L0 L1 f a t) (hb0 : Byt L0) (hb1 : Byt L1) (hl0 : L0.length ≤ 1000000000000) (hl1 : L1.length ≤ 1000000000000)
    (hc : CIn w.heap.size w A n cap ts) (hf : (cl_ ep ow nx sn ts).Fit) (hr : rowsN (bsT ts) ≤ 1000000000000) (k0 : 0 ≤ (newN L0 L1).2.2) (k1 : (newN L0 L1).2.2 < 9223372036854775807) :
    Calls Try.prog 6 #[.pointer (some ⟨g, 0, none⟩), .agg #[.int .u64 ep, .int .u8 ow, .int .u64 nx, .int .u64 sn, .slice A n cap]] w (WrPost g a (wrS (cl_ ep ow nx sn ts) (newN L0 L1) L0 L1 f a t) w) := by
  have HS := Lib.hid h
  have HB0 := Lib.hid hb0
  have HB1 := Lib.hid hb1
  have HF := Lib.hid hf
  have HR := Lib.hid hr
  have hg := h.lt
  have B0 := Lib.hid ((Below.refl w.heap.size w).alloc (Nat.le_refl _) (.cells #[.int .u64 ep, .int .u8 ow, .int .u64 nx, .int .u64 sn, .slice A n cap] 31))
  have Z0 : Hid (Blk (w.alloc (.cells #[.int .u64 ep, .int .u8 ow, .int .u64 nx, .int .u64 sn, .slice A n cap] 31)) w.heap.size 31 #[.int .u64 ep, .int .u8 ow, .int .u64 nx, .int .u64 sn, .slice A n cap]) := Lib.hid (Blk.new _ _ _)
  have HC := Lib.hid hc
  clear h hb0 hb1 hc hf hr
  go_enter Try.func6, Try.ntmps6
  go_wp2_with fail
  generalize w.alloc (.cells #[.int .u64 ep, .int .u8 ow, .int .u64 nx, .int .u64 sn, .slice A n cap] 31) = w0 at *
  have HS0 := Lib.hid (HS.out.below B0.out)
  refine Calls.mono (newest_any g L0 L1 w0 HS0.out.slot0 HS0.out.slot1 HS0.out.lt HB0.out HB1.out hl0 hl1) ?_
  rintro e w1 ⟨A1, n1, cap1, ts1, rfl, c1, fr, bs, b1⟩
  generalize newN L0 L1 = s at *
  obtain ⟨sl, sc, sk⟩ := s
  simp only at k0 k1
  have HS1 := Lib.hid (HS0.out.below b1)
  have Z1 := Lib.hid (Z0.out.below b1 Z0.out.lt)
  have B1 := Lib.hid (B0.out.trans (b1.mono B0.out.size))
  have hz1 := B1.out.size
  clear c1 fr bs b1 HS HS0 Z0 B0
  go_wp2_with (first
    | ((with_reducible (show wpList _ _ _ (⟨some 21, .load _ _, _, _, _, _⟩ :: _) _ _)); refine wpList_loadV (o := ⟨some 21, .load _ _, _, _, _, _⟩) rfl _ rfl rfl (cb_load Z2.out) ?_)
    | ((with_reducible (show wpList _ _ _ (⟨none, .store 31 _ _, _, _, _, _⟩ :: _) _ _)); go_loud (refine wpList_storeBlk (o := ⟨none, .store 31 _ _, _, _, _, _⟩) (g := w1.heap.size) (t := 31) (vs := [.int .u64 sc.ep, .int .u8 sc.ow, .int .u64 sc.nx, .int .u64 sc.sn, .slice A1 n1 cap1]) rfl _ _ rfl rfl rfl (Blk.new _ _ _) rfl (one5 rfl rfl rfl rfl rfl) size5 ?_); intro w2 z2 g2; have G2 := Lib.hid (((Below.refl w1.heap.size w1).alloc (Nat.le_refl _) _).trans (below_of_only g2 (Nat.le_refl _) (by simp))); have Z2 := Lib.hid (Z1.out.below G2.out Z1.out.lt); clear z2 g2))
  have HS2 := Lib.hid (HS1.out.below G2.out)
  have B2 := Lib.hid (B1.out.trans (G2.out.mono hz1))
  have hz2 := B2.out.size
  have C2 := Lib.hid ((HC.out.below B2.out (Nat.le_refl _)).mono hz2)
  clear HS1 Z1 B1 HC G2
  by_cases hm : (cl_ ep ow nx sn ts).May
  · have HM := Lib.hid hm
    refine Calls.mono (cput_yes ep ow nx sn A n cap ts (sk + 1) _ C2.out HF.out hm (by omega) (by omega)) ?_
    rintro e w3 ⟨A3, n3, c3, rfl, o3, b3⟩
    have HS3 := Lib.hid (HS2.out.below b3)
    have G3 : Hid (w.grownBy w3 (some g)) := Lib.hid (only_of_below (B2.out.trans (b3.mono hz2)) (some g))
    have O3 := Lib.hid o3
    obtain ⟨v0, v1, hk, hs0, hs1⟩ := HS3.out
    have K3 := Lib.hid hk
    have H0 := Lib.hid hs0
    have H1 := Lib.hid hs1
    obtain ⟨e0, e1, e2, e3, e4⟩ := st_cells hk
    have f0 := hk.frozen 0
    have f1 := hk.frozen 1
    have f2 := hk.frozen 2
    have f4 := hk.frozen 4
    clear o3 b3 hm HS2 C2 B2 Z2 hk hs0 hs1 HS3
    cases f with
    | false =>
      by_cases hs : sl = 0
      · have hs2 : (sl == 0) = true := by simp [hs]
        have HX : Hid (wrS (cl_ ep ow nx sn ts) (sl, sc, sk) L0 L1 false a t = (0, L0, (cl_ ep ow nx sn ts).rcd (sk + 1), false, false)) := Lib.hid (by unfold wrS; rw [if_neg (fun q => q HM.out), if_pos rfl, if_pos hs])
        have G4 := Lib.hid (only_setCell (p := ⟨g, 1, none⟩) (only_setCell (p := ⟨g, 4, none⟩) (World.grownBy.refl w3 (some g)) (.inl rfl) (.bool false)) (.inl rfl) (.slice A3 n3 c3))
        have K4 : Hid (Blk ((w3.setCell ⟨g, 4, none⟩ (.bool false)).setCell ⟨g, 1, none⟩ (.slice A3 n3 c3)) g 53 #[v0, .slice A3 n3 c3, .bool false, .int .i64 a, .bool false]) := Lib.hid (Blk.cast ((K3.out.set_ 4 _).set_ 1 _) (by simp))
        go_wp2_with fail
        go_ret
        rw [HX.out]
        exact ⟨rfl, ⟨_, _, K4.out, H0.out.grown G4.out K3.out (by decide), (SlT.own O3.out).grown G4.out K3.out (by decide)⟩, grown_cat G3.out G4.out⟩
      · have hs2 : (sl == 0) = false := by simp [hs]
        have HX : Hid (wrS (cl_ ep ow nx sn ts) (sl, sc, sk) L0 L1 false a t = (0, (cl_ ep ow nx sn ts).rcd (sk + 1), L1, false, false)) := Lib.hid (by unfold wrS; rw [if_neg (fun q => q HM.out), if_pos rfl, if_neg hs])
        have G4 := Lib.hid (only_setCell (p := ⟨g, 0, none⟩) (only_setCell (p := ⟨g, 4, none⟩) (World.grownBy.refl w3 (some g)) (.inl rfl) (.bool false)) (.inl rfl) (.slice A3 n3 c3))
        have K4 : Hid (Blk ((w3.setCell ⟨g, 4, none⟩ (.bool false)).setCell ⟨g, 0, none⟩ (.slice A3 n3 c3)) g 53 #[.slice A3 n3 c3, v1, .bool false, .int .i64 a, .bool false]) := Lib.hid (Blk.cast ((K3.out.set_ 4 _).set_ 0 _) (by simp))
        go_wp2_with fail
        go_ret
        rw [HX.out]
        exact ⟨rfl, ⟨_, _, K4.out, (SlT.own O3.out).grown G4.out K3.out (by decide), H1.out.grown G4.out K3.out (by decide)⟩, grown_cat G3.out G4.out⟩
    | true =>
      have G4 := Lib.hid (only_setCell (p := ⟨g, 2, none⟩) (only_setCell (p := ⟨g, 4, none⟩) (World.grownBy.refl w3 (some g)) (.inl rfl) (.bool true)) (.inl rfl) (.bool false))
      have K4 : Hid (Blk ((w3.setCell ⟨g, 4, none⟩ (.bool true)).setCell ⟨g, 2, none⟩ (.bool false)) g 53 #[v0, v1, .bool false, .int .i64 a, .bool true]) := Lib.hid (Blk.cast ((K3.out.set_ 4 _).set_ 2 _) (by simp))
      by_cases ha : a < 0
      · have ha2 : ¬ a ≥ 0 := by omega
        have hm1 : (if (n3 : Int) < a then (n3 : Int) else a) = a := if_neg (by omega)
        have hm2 : (if a ≤ (n3 : Int) then a else (n3 : Int)) = a := if_pos (by omega)
        have HX : Hid (wrS (cl_ ep ow nx sn ts) (sl, sc, sk) L0 L1 true a t = (8, L0, L1, false, true)) := Lib.hid (by unfold wrS; rw [if_neg (fun q => q HM.out), if_neg (by decide), if_pos ha])
        have HR : Hid (WrPost g a (8, L0, L1, false, true) w (.returned (.int .i64 8)) ((w3.setCell ⟨g, 4, none⟩ (.bool true)).setCell ⟨g, 2, none⟩ (.bool false))) := Lib.hid ⟨rfl, ⟨_, _, K4.out, H0.out.grown G4.out K3.out (by decide), H1.out.grown G4.out K3.out (by decide)⟩, grown_cat G3.out G4.out⟩
        by_cases hs : sl = 0
        · have hs2 : (sl == 0) = true := by simp [hs]
          go_wp2_with fail
          go_ret
          rw [HX.out]
          exact HR.out
        · have hs2 : (sl == 0) = false := by simp [hs]
          go_wp2_with fail
          go_ret
          rw [HX.out]
          exact HR.out
      · have ha2 : a ≥ 0 := by omega
        obtain ⟨m, hm0, hm1, hm2⟩ : ∃ m : Nat, m ≤ n3 ∧ (if (n3 : Int) < a then (n3 : Int) else a) = m ∧ (if a ≤ (n3 : Int) then a else (n3 : Int)) = m := by
          by_cases q : a ≤ n3
          · exact ⟨a.toNat, by omega, by rw [if_neg (by omega)]; omega, by rw [if_pos q]; omega⟩
          · exact ⟨n3, by omega, by rw [if_pos (by omega)], by rw [if_neg q]⟩
        have SC : Hid (SlT w3 (.slice A3 m m) (((cl_ ep ow nx sn ts).rcd (sk + 1)).take a.toNat)) := Lib.hid (by
          have hl := O3.out.len
          have h0 := SlT.own O3.out
          rw [hl] at h0
          have := h0.cut m (by omega)
          have ht : ((cl_ ep ow nx sn ts).rcd (sk + 1)).take m = ((cl_ ep ow nx sn ts).rcd (sk + 1)).take a.toNat := by
            by_cases q : a ≤ n3
            · rw [show m = a.toNat by rw [if_pos q] at hm2; omega]
            · rw [List.take_of_length_le (by rw [if_neg q] at hm2; omega), List.take_of_length_le (by omega)]
          rwa [ht] at this)
        have sl3 := fun (w : World) => slice_hm elC A3 n3 c3 (m : Int) m (by have := O3.out.cap; omega) rfl w
        have hmg : ((m : Int) ≥ 0) = True := by simp
        by_cases hs : sl = 0
        · have hs2 : (sl == 0) = true := by simp [hs]
          have HX : Hid (wrS (cl_ ep ow nx sn ts) (sl, sc, sk) L0 L1 true a t = (8, L0, ((cl_ ep ow nx sn ts).rcd (sk + 1)).take a.toNat, false, true)) := Lib.hid (by unfold wrS; rw [if_neg (fun q => q HM.out), if_neg (by decide), if_neg ha, if_pos hs])
          have G5 := Lib.hid (only_setCell (p := ⟨g, 1, none⟩) (grown_drew G4.out) (.inl rfl) (.slice A3 m m))
          have K5 : Hid (Blk (((w3.setCell ⟨g, 4, none⟩ (.bool true)).setCell ⟨g, 2, none⟩ (.bool false)).drew.setCell ⟨g, 1, none⟩ (.slice A3 m m)) g 53 #[v0, .slice A3 m m, .bool false, .int .i64 a, .bool true]) := Lib.hid (Blk.cast ((Blk.drew K4.out).set_ 1 _) (by simp))
          go_wp2_with fail
          refine wp_region_mixOB ((w3.setCell ⟨g, 4, none⟩ (.bool true)).setCell ⟨g, 2, none⟩ (.bool false)).heap.size [([0, 1, 2, 3, 4, 5, 6, 7, 8], 9)] (by kernel_rfl) (by kernel_rfl) (by kernel_rfl) (by kernel_rfl) (by kernel_rfl) ?_
          try (rw [put_none])
          simp only [pickL, List.map_cons, List.map_nil, List.filterMap_cons, List.filterMap_nil, List.getElem?_cons_succ, List.getElem?_cons_zero]
          refine mixO_cons ?_
          repeat (show wpQuiet _ _ _ _ (_ :: _) _; go_big_quiet_step (fail))
          refine wpQuiet_nil ?_
          go_wp2_with fail
          refine MixO.last ?_
          refine mixO_nil ?_
          refine wpQuiet_nil ?_
          refine NoPanic.normal ?_
          go_wp2_with fail
          go_ret
          rw [HX.out]
          exact ⟨rfl, ⟨_, _, K5.out, H0.out.grown G5.out K3.out (by decide), SC.out.grown G5.out K3.out (by decide)⟩, grown_cat G3.out G5.out⟩
        · have hs2 : (sl == 0) = false := by simp [hs]
          have HX : Hid (wrS (cl_ ep ow nx sn ts) (sl, sc, sk) L0 L1 true a t = (8, ((cl_ ep ow nx sn ts).rcd (sk + 1)).take a.toNat, L1, false, true)) := Lib.hid (by unfold wrS; rw [if_neg (fun q => q HM.out), if_neg (by decide), if_neg ha, if_neg hs])
          have G5 := Lib.hid (only_setCell (p := ⟨g, 0, none⟩) (grown_drew G4.out) (.inl rfl) (.slice A3 m m))
          have K5 : Hid (Blk (((w3.setCell ⟨g, 4, none⟩ (.bool true)).setCell ⟨g, 2, none⟩ (.bool false)).drew.setCell ⟨g, 0, none⟩ (.slice A3 m m)) g 53 #[.slice A3 m m, v1, .bool false, .int .i64 a, .bool true]) := Lib.hid (Blk.cast ((Blk.drew K4.out).set_ 0 _) (by simp))
          go_wp2_with fail
          refine wp_region_mixOB ((w3.setCell ⟨g, 4, none⟩ (.bool true)).setCell ⟨g, 2, none⟩ (.bool false)).heap.size [([0, 1, 2, 3, 4, 5, 6, 7, 8], 9)] (by kernel_rfl) (by kernel_rfl) (by kernel_rfl) (by kernel_rfl) (by kernel_rfl) ?_
          try (rw [put_none])
          simp only [pickL, List.map_cons, List.map_nil, List.filterMap_cons, List.filterMap_nil, List.getElem?_cons_succ, List.getElem?_cons_zero]
          refine mixO_cons ?_
          repeat (show wpQuiet _ _ _ _ (_ :: _) _; go_big_quiet_step (fail))
          refine wpQuiet_nil ?_
          go_wp2_with fail
          refine MixO.last ?_
          refine mixO_nil ?_
          refine wpQuiet_nil ?_
          refine NoPanic.normal ?_
          go_wp2_with fail
          go_ret
          rw [HX.out]
          exact ⟨rfl, ⟨_, _, K5.out, SC.out.grown G5.out K3.out (by decide), H1.out.grown G5.out K3.out (by decide)⟩, grown_cat G3.out G5.out⟩
  · refine Calls.mono (cput_no ep ow nx sn A n cap ts (sk + 1) _ C2.out HR.out hm) ?_
    rintro e w3 ⟨rfl, b3⟩
    have HS3 := Lib.hid (HS2.out.below b3)
    have G3 := Lib.hid (only_of_below (B2.out.trans (b3.mono hz2)) (some g))
    have HX : Hid (wrS (cl_ ep ow nx sn ts) (sl, sc, sk) L0 L1 f a t = (2, L0, L1, f, t)) := Lib.hid (by unfold wrS; rw [if_pos hm])
    clear b3 hm HS2
    go_wp2_with fail
    go_ret
    rw [HX.out]
    exact ⟨rfl, HS3.out, G3.out⟩
end Go.Proofs.Ytibjafkclojimaa
