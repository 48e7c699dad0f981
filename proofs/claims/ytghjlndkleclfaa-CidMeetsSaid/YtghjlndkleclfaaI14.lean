/- Layer 20: contract of Change. Conditions: as each theorem states them. -/
import Derived.Test.YtghjlndkleclfaaI13
namespace Go.Proofs.Ytghjlndkleclfaa
open Go.RowKit
theorem next_cl (gb g : Nat) (c0 c1 c2 c4 c5 : Value) (us : Int) (x : CX) (w : World) (hb : Blk w gb 24 #[.pointer (some ⟨g, 0, none⟩)]) (hg : Blk w g 45 #[c0, c1, c2, .int .u64 us, c4, c5]) : Calls Try.prog 30 #[.agg x.vs.toArray, .pointer (some ⟨gb, 0, none⟩)] w fun e w' => e = .returned (.bool (decide (us < x.seq))) ∧ Below w.heap.size w w' := by
  have x0 : x.vs[0]? = some (.int .u64 x.seq) := rfl
  have X := Blk.cell (Blk.new w 47 x.vs.toArray) 0
  have b0 := Blk.cell (hb.alloc (.cells x.vs.toArray 47)) 0
  have d3 := Blk.cell (hg.alloc (.cells x.vs.toArray 47)) 3
  simp [x0] at b0 d3 X
  have HB := Lib.hid ((Below.refl w.heap.size w).alloc (Nat.le_refl _) (.cells x.vs.toArray 47)).drew
  go_enter Try.func30, Try.ntmps30
  go_wp2_with fail
  go_region
  go_wp2_with fail
  go_ret
  exact ⟨rfl, HB.out⟩
theorem idx_second (p : CX → Bool) (x y : CX) (l : List CX) (h : p x = false) (h2 : p y = true) : idx p (x :: y :: l) = 1 := by
  unfold idx idxN
  rw [if_neg (by rw [h]; decide)]
  unfold idxN
  rw [if_pos h2]
  rfl
theorem idx_none (p : CX → Bool) (l : List CX) (h : ∀ x ∈ l, p x = false) : idx p l = -1 := by
  rcases idxN_spec p l 0 with ⟨h1, _⟩ | ⟨i, h1, _, h3, _⟩
  · exact h1
  · rw [h _ (memD h1)] at h3; cases h3
set_option maxRecDepth 100000 in
set_option maxHeartbeats 4000000 in
theorem change_none (B g : Nat) (vo vp : Value) (s : IS) (w : World) (h : IdR B g w vo vp s) (hl : s.peer.length ≤ 900) (hz : ∀ x ∈ s.peer, ¬ s.us < x.seq) :
    Calls Try.prog 9 #[.pointer (some ⟨g, 0, none⟩)] w fun e w' => e = .returned (.int .i64 4) ∧ Below w.heap.size w w' := by
  obtain ⟨Ap, cp, rfl, hs⟩ := h.peer.slice
  obtain ⟨vr, k1, _⟩ := h.blk
  have bb := (Below.refl w.heap.size w).alloc (Nat.le_refl _) (.cells #[.pointer (some ⟨g, 0, none⟩)] 24)
  have hv := Blk.new w 24 #[.pointer (some ⟨g, 0, none⟩)]
  have kk := k1.below bb k1.lt
  have RX := Lib.hid (indexF_next (.pointer (some ⟨w.heap.size, 0, none⟩)) (fun x => decide (s.us < x.seq)) s.peer Ap s.peer.length cp _ (hs.below bb) rfl (by omega) (fun x _ v hb => next_cl w.heap.size g _ _ _ _ _ s.us x v (hv.below hb hv.lt) (kk.below hb kk.lt)))
  rw [idx_none _ _ (fun x hx => decide_eq_false (hz x hx))] at RX
  have B1 := Lib.hid bb
  obtain ⟨c0, c1, c2, c3, c4, c5⟩ := id_cells kk
  have v0 := Blk.cell hv 0
  simp at v0
  clear h k1 hs bb kk hv
  go_enter Try.func9, Try.ntmps9
  go_wp2_with fail
  refine Calls.mono RX.out ?_
  rintro e w1 ⟨rfl, b1⟩
  have B2 := Lib.hid (B1.out.trans (b1.mono B1.out.size))
  clear b1 RX c0 c1 c2 c3 c4 c5 v0
  go_wp2_with fail
  go_ret
  exact ⟨rfl, B2.out⟩
set_option maxRecDepth 100000 in
set_option maxHeartbeats 4000000 in
theorem change_one (B g : Nat) (vo vp : Value) (s : IS) (x y : CX) (rest : List CX) (w : World) (h : IdR B g w vo vp s) (hp : s.peer = x :: y :: rest) (hx : x.seq = s.us) (hy : s.us < y.seq) (hge : ∀ z ∈ y :: rest, y.seq ≤ z.seq) (l1 : s.own.length ≤ 900) (l2 : s.peer.length ≤ 900) (l3 : s.ret.length ≤ 60) :
    Calls Try.prog 9 #[.pointer (some ⟨g, 0, none⟩)] w fun e w' => ∃ vo' vp', e = .returned (.int .i64 0) ∧ IdR w.heap.size g w' vo' vp' ⟨s.own, s.nx, y :: rest, y.seq, y.seq, s.ret ++ [x.seq]⟩ ∧ w.grownBy w' (some g) := by
  obtain ⟨own, nx, peer, us, pr, ret⟩ := s
  simp only at hp hx hy l1 l2 l3
  subst hp
  have hIR := h
  obtain ⟨Ap, cp, rfl, hs⟩ := h.peer.slice
  obtain ⟨vr, k1, k2⟩ := h.blk
  obtain ⟨Ar, nr, cr, rfl, k3⟩ := k2
  have bb := (Below.refl w.heap.size w).alloc (Nat.le_refl _) (.cells #[.pointer (some ⟨g, 0, none⟩)] 24)
  have hv := Blk.new w 24 #[.pointer (some ⟨g, 0, none⟩)]
  have kk := k1.below bb k1.lt
  have RX := Lib.hid (indexF_next (.pointer (some ⟨w.heap.size, 0, none⟩)) (fun x => decide (us < x.seq)) (x :: y :: rest) Ap (x :: y :: rest).length cp _ (hs.below bb) rfl (by omega) (fun x _ v hb => next_cl w.heap.size g _ _ _ _ _ us x v (hv.below hb hv.lt) (kk.below hb kk.lt)))
  rw [idx_second _ _ _ _ (decide_eq_false (by omega)) (decide_eq_true hy)] at RX
  have B1 := Lib.hid bb
  have I1 := Lib.hid (hIR.below bb)
  have V1 : Hid (Blk (w.alloc (.cells #[.pointer (some ⟨g, 0, none⟩)] 24)) w.heap.size 24 #[.pointer (some ⟨g, 0, none⟩)]) := Lib.hid hv
  have R1 := Lib.hid (k3.below bb)
  have K1 := Lib.hid kk
  have HLG : Hid (g < w.heap.size) := Lib.hid k1.lt
  have hnr : nr ≤ 60 := by have := k3.len; simp only at this; omega
  have HGE := Lib.hid hge
  have HXY : Hid (x.seq < y.seq) := Lib.hid (by omega)
  have HUS : Hid (useP us x.seq (y :: rest) = y.seq) := Lib.hid (by unfold useP; rw [if_pos ⟨hx, by simp⟩]; rfl)
  obtain ⟨np, hnp⟩ : ∃ z, (x :: y :: rest).length = z := ⟨_, rfl⟩
  have HNP := Lib.hid hnp
  have hnp1 : 1 < np := by rw [← hnp]; simp
  rw [hnp] at K1 I1 l2
  rw [hnp] at RX
  obtain ⟨c0, c1, c2, c3, c4, c5⟩ := id_cells K1.out
  have v0 := Blk.cell hv 0
  simp at v0
  have q1 : decide ((64 : Int) < (nr : Int) + 1) = false := decide_eq_false (by omega)
  clear h hIR k1 hs bb kk hv k3 hge hx hy hnp
  go_enter Try.func9, Try.ntmps9
  go_wp2_with fail
  refine Calls.mono RX.out ?_
  rintro e w2 ⟨rfl, b2⟩
  have I2 := Lib.hid (I1.out.below b2)
  have V2 := Lib.hid (Blk.below V1.out b2 (Blk.lt V1.out))
  have K2 := Lib.hid (Blk.below K1.out b2 (Blk.lt K1.out))
  have B2 := Lib.hid (B1.out.trans (b2.mono B1.out.size))
  clear b2 RX I1 V1 K1 B1 R1 c0 c1 c2 c3 c4 c5 v0
  obtain ⟨c0, c1, c2, c3, c4, c5⟩ := id_cells K2.out
  have v0 := Blk.cell V2.out 0
  simp at v0
  go_wp2_with fail
  obtain ⟨gb, hgb⟩ : ∃ z, w.heap.size = z := ⟨_, rfl⟩
  have HGB := Lib.hid hgb
  rw [hgb] at V2 v0 ⊢
  clear hgb
  refine Calls.mono (copied_any B g vo _ ⟨own, nx, x :: y :: rest, us, pr, ret⟩ w2 I2.out (by show own.length ≤ 1000; omega) (by show (x :: y :: rest).length ≤ 1000; rw [HNP.out]; omega) (by show ret.length ≤ 1000; omega)) ?_
  rintro e w4 ⟨gc, vo4, vp4, rfl, c4_, hgc4, b4⟩
  have C4 := Lib.hid c4_
  have V4 := Lib.hid (Blk.below V2.out b4 (Blk.lt V2.out))
  have K4 := Lib.hid (Blk.below K2.out b4 (Blk.lt K2.out))
  have B4 := Lib.hid (B2.out.trans (b4.mono B2.out.size))
  have HGC : Hid (w2.heap.size ≤ gc) := Lib.hid hgc4
  have HW2 : Hid (w.heap.size ≤ w2.heap.size) := Lib.hid B2.out.size
  have HZ4 : Hid (w2.heap.size ≤ w4.heap.size) := Lib.hid b4.size
  have HB2 : Hid (gb < w2.heap.size ∧ g < w2.heap.size) := Lib.hid ⟨Blk.lt V2.out, Blk.lt K2.out⟩
  clear c4_ hgc4 b4 I2 V2 K2 B2 c0 c1 c2 c3 c4 c5 v0
  rcases C4.out.peer.form with ⟨_, z⟩ | ⟨g4, cp4, hv4, _, _, _⟩
  · cases z
  simp only [HNP.out] at hv4
  subst hv4
  have pc : w4.cell? ⟨g4, 18, none⟩ = some (.int .u64 y.seq) := C4.out.peer.cells (i := 1) (by show 1 < (x :: y :: rest).length; rw [HNP.out]; exact hnp1) 0 (.int .u64 y.seq) rfl
  obtain ⟨vr4, k4, _⟩ := C4.out.blk
  obtain ⟨c0, c1, c2, c3, c4, c5⟩ := id_cells k4
  have v0 := Blk.cell V4.out 0
  simp at v0
  have RDR := Lib.hid (drop_one w2.heap.size gc vo4 (.slice (some ⟨g4, 0, none⟩) np cp4) ⟨own, nx, x :: y :: rest, us, pr, ret⟩ x (y :: rest) y.seq w4 C4.out rfl HXY.out HGE.out HZ4.out HGC.out (by show (x :: y :: rest).length ≤ 1000; rw [HNP.out]; omega) (by show ret.length ≤ 1000; omega))
  clear k4
  go_wp2_with fail
  refine Calls.mono RDR.out ?_
  rw [HUS.out]
  rintro e w5 ⟨vp5, rfl, i5, _, b5⟩
  have I5 := Lib.hid i5
  have V5 := Lib.hid (V4.out.below b5 HB2.out.1)
  have K5 := Lib.hid (K4.out.below b5 HB2.out.2)
  have B5 : Hid (Below w.heap.size w w5) := Lib.hid (B4.out.trans (b5.mono HW2.out))
  clear i5 b5 RDR V4 K4 B4 C4 c0 c1 c2 c3 c4 c5 v0 pc
  obtain ⟨vr5, k5, u5⟩ := I5.out.blk
  obtain ⟨Ar5, nr5, cr5, rfl, o5⟩ := u5
  obtain ⟨Ao5, co5, hvo5, _⟩ := own_form I5.out.own.1
  obtain ⟨Ap5, cp5, hvp5, _⟩ := own_form I5.out.peer.1
  subst hvo5
  subst hvp5
  obtain ⟨no5, hno5⟩ : ∃ z, own.length = z := ⟨_, rfl⟩
  obtain ⟨np5, hnp5⟩ : ∃ z, (y :: rest).length = z := ⟨_, rfl⟩
  simp only [hno5, hnp5] at k5
  have C5 : Hid (Blk w5 gc 45 #[(.slice Ao5 no5 co5), .int .u64 nx, (.slice Ap5 np5 cp5), .int .u64 y.seq, .int .u64 y.seq, (.slice Ar5 nr5 cr5)]) := Lib.hid k5
  have OW5 := Lib.hid I5.out.own
  have PE5 := Lib.hid I5.out.peer
  simp only [hno5] at OW5
  simp only [hnp5] at PE5
  have O5 := Lib.hid o5
  clear k5 o5 I5 hno5 hnp5
  have e0 : ∀ r : BW w5.heap.size w5, r.world.cell? ⟨gb, 0, none⟩ = some (.pointer (some ⟨g, 0, none⟩)) := fun r => Blk.cell (Blk.below V5.out r.below (Blk.lt V5.out)) 0
  go_wp2_with fail
  refine wp_region_mixOB w5.heap.size [([0, 1, 2, 3, 4], 5)] (by kernel_rfl) (by kernel_rfl) (by kernel_rfl) (by kernel_rfl) (by kernel_rfl) ?_
  try (rw [put_none])
  simp only [pickL, List.map_cons, List.map_nil, List.filterMap_cons, List.filterMap_nil, List.getElem?_cons_succ, List.getElem?_cons_zero]
  refine mixO_cons ?_
  show wpQuiet _ _ _ _ (_ :: _) _
  go_big_quiet_step (fail)
  show wpQuiet _ _ _ _ (_ :: _) _
  go_big_quiet_step (fail)
  show wpQuiet _ _ _ _ (_ :: _) _
  go_big_quiet_step (fail)
  show wpQuiet _ _ _ _ (_ :: _) _
  refine wpQuiet_loadV (o := ⟨some 43, _, _, _, _, _⟩) rfl _ rfl rfl (fun w' hw' => by obtain ⟨r, rfl⟩ := hw'; exact id_load (Blk.below C5.out r.below (Blk.lt C5.out))) ?_
  simp only [Act.put, List.setIfInBounds_toArray, List.set_cons_zero, List.set_cons_succ]
  repeat (show wpQuiet _ _ _ _ (_ :: _) _; go_big_quiet_step (fail))
  refine wpQuiet_nil ?_
  show wpList _ _ _ [_] _ _
  have K6 := Lib.hid (Blk.drew K5.out)
  go_wp2_with ((with_reducible (show wpList _ _ _ (⟨none, .store 45 _ _, _, _, _, _⟩ :: _) _ _)); go_loud (refine wpList_storeBlk (o := ⟨none, .store 45 _ _, _, _, _, _⟩) (g := g) (t := 45) (vs := [(.slice Ao5 no5 co5), .int .u64 nx, (.slice Ap5 np5 cp5), .int .u64 y.seq, .int .u64 y.seq, (.slice Ar5 nr5 cr5)]) rfl _ _ rfl rfl rfl K6.out rfl (one6 rfl rfl rfl rfl rfl rfl) sizeId ?_); intro w7 z7 g7; have K7 := Lib.hid z7; have G7 := Lib.hid g7; clear z7 g7)
  refine MixO.last ?_
  refine mixO_nil ?_
  refine wpQuiet_nil ?_
  refine NoPanic.normal ?_
  go_wp2_with fail
  go_ret
  have GG : w5.grownBy w7 (some g) := grown_cat_ (grown_drew_ (World.grownBy.refl w5 (some g))) G7.out
  have hk := K5.out.notT (e := 47) (by decide)
  have hk8 := K5.out.notT (e := 5) (by decide)
  have hk64 := K5.out.notT (e := 27) (by decide)
  refine ⟨_, _, rfl, ⟨⟨_, K7.out, Ar5, nr5, cr5, rfl, row_kept (O5.out.mono HW2.out).1 GG hk64, O5.out.2⟩, (OW5.out.mono HW2.out).grown GG (row_ne OW5.out hk) hk8, (PE5.out.mono HW2.out).grown GG (row_ne PE5.out hk) hk8⟩, grown_cat_ (only_of_below B5.out (some g)) GG⟩
end Go.Proofs.Ytghjlndkleclfaa
