/- Layer 20: contract of Learn, an id that is known already. Conditions: as each theorem states them. -/
import Derived.Test.YtghjlndkleclfaaI14
namespace Go.Proofs.Ytghjlndkleclfaa
open Go.RowKit
theorem tokE_load {B gp n c i : Nat} {l : List CX} {w : World} {t : Int} (h : EntR B w (.slice (some ⟨gp, 0, none⟩) n c) l) (hi : i < l.length) (ht : (l.getD i CX.zero).tok = tk t) : (Instr.loadAt 30 (.pointer (some ⟨gp, i * 18 + 2, none⟩))).run Try.prog w = .ok (.agg #[.int .u8 t, .int .u8 0, .int .u8 0, .int .u8 0, .int .u8 0, .int .u8 0, .int .u8 0, .int .u8 0, .int .u8 0, .int .u8 0, .int .u8 0, .int .u8 0, .int .u8 0, .int .u8 0, .int .u8 0, .int .u8 0]) w :=
  run_loadAt_mid w gp (i * 18 + 2) 30 [.int .u8 t, .int .u8 0, .int .u8 0, .int .u8 0, .int .u8 0, .int .u8 0, .int .u8 0, .int .u8 0, .int .u8 0, .int .u8 0, .int .u8 0, .int .u8 0, .int .u8 0, .int .u8 0, .int .u8 0, .int .u8 0] _ (fun j v hv => by
    rw [Nat.add_assoc]
    refine h.cells hi (2 + j) v ?_
    have e : (l.getD i CX.zero).vs = .int .u64 (l.getD i CX.zero).seq :: .slice (l.getD i CX.zero).A (l.getD i CX.zero).n (l.getD i CX.zero).c :: [.int .u8 t, .int .u8 0, .int .u8 0, .int .u8 0, .int .u8 0, .int .u8 0, .int .u8 0, .int .u8 0, .int .u8 0, .int .u8 0, .int .u8 0, .int .u8 0, .int .u8 0, .int .u8 0, .int .u8 0, .int .u8 0] := by
      unfold CX.vs
      rw [ht]
      rfl
    rw [e, Nat.add_comm 2 j]
    exact hv) Try.underlying30 rfl size16
theorem tok_neq {t : Int} (h0 : 0 ≤ t) (h1 : t < 256) (w : World) : (binOp .neq 30 (.agg #[.int .u8 t, .int .u8 0, .int .u8 0, .int .u8 0, .int .u8 0, .int .u8 0, .int .u8 0, .int .u8 0, .int .u8 0, .int .u8 0, .int .u8 0, .int .u8 0, .int .u8 0, .int .u8 0, .int .u8 0, .int .u8 0]) (.agg #[.int .u8 t, .int .u8 0, .int .u8 0, .int .u8 0, .int .u8 0, .int .u8 0, .int .u8 0, .int .u8 0, .int .u8 0, .int .u8 0, .int .u8 0, .int .u8 0, .int .u8 0, .int .u8 0, .int .u8 0, .int .u8 0])).run Try.prog w = .ok (.bool false) w := by
  have h := eqIn_self (P := Try.prog) 9998 (t := 30) (e := 5) (n := 16) (xs := tk t) w Try.underlying30 Try.underlying5 (fun w => by kernel_rfl) (fun z hz => by
    unfold tk at hz
    rcases List.mem_cons.1 hz with rfl | hz
    · omega
    · rw [List.eq_of_mem_replicate hz]; decide) rfl
  have e : cellsL .u8 (tk t) = #[.int .u8 t, .int .u8 0, .int .u8 0, .int .u8 0, .int .u8 0, .int .u8 0, .int .u8 0, .int .u8 0, .int .u8 0, .int .u8 0, .int .u8 0, .int .u8 0, .int .u8 0, .int .u8 0, .int .u8 0, .int .u8 0] := rfl
  rw [e] at h
  simp only [binOp]
  simp [Op.equal, Op.maxDepth, h]
set_option maxRecDepth 100000 in
set_option maxHeartbeats 4000000 in
theorem learn_dup (B g : Nat) (vo vp : Value) (s : IS) (id mx t lim : Int) (Af : Option Addr) (nf cf : Nat) (bs : List Int) (w : World) (h : IdR B g w vo vp s) (hf : Rd w.heap.size .u8 w Af bs) (hfn : bs.length = nf) (hfb : Byt bs) (hn1 : 1 ≤ nf) (hn2 : nf ≤ 20) (ht0 : 0 ≤ t) (ht1 : t < 256)
    (i : Nat) (hi : idx (fun x => x.seq == id) s.peer = i) (hk : idx (fun x => decide (x.bs = bs)) s.peer = i) (hil : i < s.peer.length) (htk : (s.peer.getD i CX.zero).tok = tk t) (hm : mx ≤ s.pr) (hm2 : mx ≤ id) (hpi : s.pr ≤ id)
    (l1 : s.own.length ≤ 900) (l2 : s.peer.length ≤ 900) (l3 : s.ret.length ≤ 64) (hlim : (s.peer.length : Int) ≤ lim) :
    Calls Try.prog 7 #[.pointer (some ⟨g, 0, none⟩), .agg #[.int .u64 24, .int .u64 id, .int .u64 0, .int .u64 mx, .int .u64 0, .int .u64 0, .bool false, .slice none 0 0, .slice Af nf cf, .int .u8 t, .int .u8 0, .int .u8 0, .int .u8 0, .int .u8 0, .int .u8 0, .int .u8 0, .int .u8 0, .int .u8 0, .int .u8 0, .int .u8 0, .int .u8 0, .int .u8 0, .int .u8 0, .int .u8 0, .int .u8 0, .slice none 0 0, .int .u64 0, .int .u64 0, .int .u64 0, .int .u64 0], .int .u64 lim] w fun e w' => ∃ vo' vp', e = .returned (.int .i64 0) ∧ IdR w.heap.size g w' vo' vp' s ∧ w.grownBy w' (some g) := by
  have HI := Lib.hid hi
  have HK := Lib.hid hk
  rcases h.peer.form with ⟨_, z⟩ | ⟨gp, cp, hvp, _, _, _⟩
  · rw [z] at hil; exact absurd hil (Nat.not_lt_zero i)
  subst hvp
  have bb := (Below.refl w.heap.size w).alloc (Nat.le_refl _) (.cells #[.int .u64 24, .int .u64 id, .int .u64 0, .int .u64 mx, .int .u64 0, .int .u64 0, .bool false, .slice none 0 0, .slice Af nf cf, .int .u8 t, .int .u8 0, .int .u8 0, .int .u8 0, .int .u8 0, .int .u8 0, .int .u8 0, .int .u8 0, .int .u8 0, .int .u8 0, .int .u8 0, .int .u8 0, .int .u8 0, .int .u8 0, .int .u8 0, .int .u8 0, .slice none 0 0, .int .u64 0, .int .u64 0, .int .u64 0, .int .u64 0] 34)
  have F1 : Hid (FrB w.heap.size (w.alloc (.cells #[.int .u64 24, .int .u64 id, .int .u64 0, .int .u64 mx, .int .u64 0, .int .u64 0, .bool false, .slice none 0 0, .slice Af nf cf, .int .u8 t, .int .u8 0, .int .u8 0, .int .u8 0, .int .u8 0, .int .u8 0, .int .u8 0, .int .u8 0, .int .u8 0, .int .u8 0, .int .u8 0, .int .u8 0, .int .u8 0, .int .u8 0, .int .u8 0, .int .u8 0, .slice none 0 0, .int .u64 0, .int .u64 0, .int .u64 0, .int .u64 0] 34)) id mx t Af nf cf) := Lib.hid (Blk.new _ _ _)
  have I1 := Lib.hid (h.below bb)
  have X1 := Lib.hid ((hf.below bb (Nat.le_refl _)).mono bb.size)
  have B1 := Lib.hid bb
  have HLG : Hid (g < w.heap.size) := Lib.hid h.lt
  clear h hf bb hi hk
  go_enter Try.func7, Try.ntmps7
  go_wp2_with fail
  generalize w.alloc (.cells #[.int .u64 24, .int .u64 id, .int .u64 0, .int .u64 mx, .int .u64 0, .int .u64 0, .bool false, .slice none 0 0, .slice Af nf cf, .int .u8 t, .int .u8 0, .int .u8 0, .int .u8 0, .int .u8 0, .int .u8 0, .int .u8 0, .int .u8 0, .int .u8 0, .int .u8 0, .int .u8 0, .int .u8 0, .int .u8 0, .int .u8 0, .int .u8 0, .int .u8 0, .slice none 0 0, .int .u64 0, .int .u64 0, .int .u64 0, .int .u64 0] 34) = w1 at *
  obtain ⟨gf, hgf⟩ : ∃ z, w.heap.size = z := ⟨_, rfl⟩
  have HGF := Lib.hid hgf
  rw [hgf] at F1 ⊢
  clear hgf
  obtain ⟨vr, k1, k2⟩ := I1.out.blk
  obtain ⟨Ar, nr, cr, rfl, k3⟩ := k2
  have K1 := Lib.hid k1
  have HNR := Lib.hid k3.len
  have e0 : ∀ r : BW w1.heap.size w1, r.world.cell? ⟨g, 2, none⟩ = some (.slice (some ⟨gp, 0, none⟩) s.peer.length cp) := fun r => Blk.cell (Blk.below K1.out r.below (Blk.lt K1.out)) 2
  have e1 : ∀ r : BW w1.heap.size w1, r.world.cell? ⟨gf, 1, none⟩ = some (.int .u64 id) := fun r => Blk.cell (Blk.below F1.out r.below (Blk.lt F1.out)) 1
  have e8 : ∀ r : BW w1.heap.size w1, r.world.cell? ⟨gf, 8, none⟩ = some (.slice Af nf cf) := fun r => Blk.cell (Blk.below F1.out r.below (Blk.lt F1.out)) 8
  have e3 : ∀ r : BW w1.heap.size w1, r.world.cell? ⟨gf, 3, none⟩ = some (.int .u64 mx) := fun r => Blk.cell (Blk.below F1.out r.below (Blk.lt F1.out)) 3
  have e00 : ∀ r : BW w1.heap.size w1, r.world.cell? ⟨gf, 0, none⟩ = some (.int .u64 24) := fun r => Blk.cell (Blk.below F1.out r.below (Blk.lt F1.out)) 0
  have HFI := Lib.hid (fun (r : BW w1.heap.size w1) => find_any s.peer (some ⟨gp, 0, none⟩) s.peer.length cp id r.world (I1.out.below r.below).peer.s rfl (by omega))
  rw [HI.out] at HFI
  have HNA := Lib.hid (fun (r : BW w1.heap.size w1) => named_any s.peer (some ⟨gp, 0, none⟩) Af s.peer.length cp nf cf bs r.world (I1.out.below r.below).peer.s rfl (by omega) ((X1.out.below r.below (Nat.le_refl _)).mono r.below.size) hfn hfb)
  rw [HK.out] at HNA
  clear k1 k3
  refine wp_region_below_lit w1.heap.size (by kernel_rfl) (by kernel_rfl) ?_
  try (rw [put_none])
  repeat (show wpQuiet _ _ _ _ (_ :: _) _; go_big_quiet_step (first
    | (go_at_call 21; exact Calls.bw (Nat.le_refl _) (HFI.out _))
    | (go_at_call 22; exact Calls.bw (Nat.le_refl _) (HNA.out _))))
  refine wpQuiet_nil ?_
  intro _ hw'
  obtain ⟨r, rfl⟩ := hw'
  have F2 := Lib.hid (Blk.below F1.out r.below (Blk.lt F1.out))
  have I2 := Lib.hid (I1.out.below r.below)
  have X2 := Lib.hid ((X1.out.below r.below (Nat.le_refl _)).mono r.below.size)
  have B2 := Lib.hid (B1.out.trans (r.below.mono B1.out.size))
  clear e0 e1 e8 e3 e00 HFI HNA F1 I1 X1 B1 K1
  go_wp2_with fail
  generalize r.world = w2 at *
  clear r
  have e1 : ∀ r : BW w2.heap.size w2, r.world.cell? ⟨gf, 1, none⟩ = some (.int .u64 id) := fun r => Blk.cell (Blk.below F2.out r.below (Blk.lt F2.out)) 1
  have e8 : ∀ r : BW w2.heap.size w2, r.world.cell? ⟨gf, 8, none⟩ = some (.slice Af nf cf) := fun r => Blk.cell (Blk.below F2.out r.below (Blk.lt F2.out)) 8
  have e3 : ∀ r : BW w2.heap.size w2, r.world.cell? ⟨gf, 3, none⟩ = some (.int .u64 mx) := fun r => Blk.cell (Blk.below F2.out r.below (Blk.lt F2.out)) 3
  have e00 : ∀ r : BW w2.heap.size w2, r.world.cell? ⟨gf, 0, none⟩ = some (.int .u64 24) := fun r => Blk.cell (Blk.below F2.out r.below (Blk.lt F2.out)) 0
  have HMY := Lib.hid (fun (r : BW w2.heap.size w2) => Calls.mono (may_any Af nf cf r.world (by omega)) (fun e w' (h : e = .returned (.bool (decide (1 ≤ nf ∧ nf ≤ 20))) ∧ r.world = w') => (⟨by rw [h.1, decide_eq_true (⟨hn1, hn2⟩ : 1 ≤ nf ∧ nf ≤ 20)], by rw [← h.2]; exact Below.refl _ _⟩ : e = .returned (.bool true) ∧ Below r.world.heap.size r.world w')))
  have q1 : decide (id < mx) = false := decide_eq_false (by omega)
  have e2 : ∀ r : BW w2.heap.size w2, r.world.cell? ⟨g, 2, none⟩ = some (.slice (some ⟨gp, 0, none⟩) s.peer.length cp) := fun r => by obtain ⟨vr2, k2, _⟩ := I2.out.blk; exact Blk.cell (Blk.below k2 r.below (Blk.lt k2)) 2
  refine wp_region_below_lit w2.heap.size (by kernel_rfl) (by kernel_rfl) ?_
  try (rw [put_none])
  iterate 33 (show wpQuiet _ _ _ _ (_ :: _) _; go_big_quiet_step ((go_at_call 20; exact Calls.bw (Nat.le_refl _) (HMY.out _))))
  show wpQuiet _ _ _ _ (_ :: _) _
  refine wpQuiet_loadV (o := ⟨some 64, _, _, _, _, _⟩) rfl _ rfl rfl (fun w' hw' => by obtain ⟨r, rfl⟩ := hw'; exact tokE_load (I2.out.below r.below).peer hil htk) ?_
  simp only [Act.put, List.setIfInBounds_toArray, List.set_cons_zero, List.set_cons_succ]
  show wpQuiet _ _ _ _ (_ :: _) _
  go_big_quiet_step (fail)
  show wpQuiet _ _ _ _ (_ :: _) _
  refine wpQuiet_loadV (o := ⟨some 66, _, _, _, _, _⟩) rfl _ rfl rfl (fun w' hw' => by obtain ⟨r, rfl⟩ := hw'; exact tok_load (Blk.below F2.out r.below (Blk.lt F2.out))) ?_
  simp only [Act.put, List.setIfInBounds_toArray, List.set_cons_zero, List.set_cons_succ]
  have hneq := fun w => tok_neq ht0 ht1 w
  repeat (show wpQuiet _ _ _ _ (_ :: _) _; go_big_quiet_step (fail))
  refine wpQuiet_nil ?_
  intro _ hw'
  obtain ⟨r, rfl⟩ := hw'
  have F3 := Lib.hid (Blk.below F2.out r.below (Blk.lt F2.out))
  have I3 := Lib.hid (I2.out.below r.below)
  have X3 := Lib.hid ((X2.out.below r.below (Nat.le_refl _)).mono r.below.size)
  have B3 := Lib.hid (B2.out.trans (r.below.mono B2.out.size))
  clear e1 e8 e3 e00 e2 HMY F2 I2 X2 B2 q1
  go_wp2_with fail
  generalize r.world = w3 at *
  clear r
  refine Calls.mono (copied_any B g vo _ s w3 I3.out (by omega) (by omega) (by omega)) ?_
  rintro e w4 ⟨gc, vo4, vp4, rfl, c4, hgc4, b4⟩
  have C4 := Lib.hid c4
  have F4 := Lib.hid (Blk.below F3.out b4 (Blk.lt F3.out))
  have I4 := Lib.hid (I3.out.below b4)
  have X4 := Lib.hid ((X3.out.below b4 (Nat.le_refl _)).mono b4.size)
  have B4 := Lib.hid (B3.out.trans (b4.mono B3.out.size))
  have HW3 : Hid (w.heap.size ≤ w3.heap.size) := Lib.hid B3.out.size
  have HGC : Hid (w3.heap.size ≤ gc) := Lib.hid hgc4
  have HZ4 : Hid (w3.heap.size ≤ w4.heap.size) := Lib.hid b4.size
  clear c4 hgc4 b4 F3 I3 X3 B3
  obtain ⟨Ao4, co4, hvo4, _⟩ := own_form C4.out.own.1
  subst hvo4
  obtain ⟨A4, cp4, hv4, _⟩ := own_form C4.out.peer.1
  subst hv4
  obtain ⟨vr4, k4, u4⟩ := C4.out.blk
  obtain ⟨Ar4, nr4, cr4, rfl, o4⟩ := u4
  have HNR4 := Lib.hid o4.len
  obtain ⟨np, hnp⟩ : ∃ z, s.peer.length = z := ⟨_, rfl⟩
  have HNP := Lib.hid hnp
  simp only [hnp] at k4 l2 hlim hil
  have K4 := Lib.hid k4
  have O4 := Lib.hid o4
  obtain ⟨c0, c1, c2, c3, c4, c5⟩ := id_cells k4
  obtain ⟨f0, f1, f3, f8⟩ := FrB.facts F4.out
  have q1 : ¬ np = 0 := by omega
  have q2 : decide (s.pr < mx) = false := decide_eq_false (by omega)
  have q3 : decide (id < s.pr) = false := decide_eq_false (by omega)
  clear k4 o4 hnp
  go_wp2_with fail
  go_region
  go_wp2_with fail
  go_region
  have b45 : Below w4.heap.size w4 w4.drew.drew := (Below.refl w4.heap.size w4).drew.drew
  have C5 := Lib.hid (C4.out.below b45)
  have I5 := Lib.hid (I4.out.below b45)
  have K5 := Lib.hid (Blk.below K4.out b45 (Blk.lt K4.out))
  have O5 := Lib.hid (O4.out.below b45)
  have B5 := Lib.hid (B4.out.trans (b45.mono B4.out.size))
  clear q1 q2 q3
  have q1 : decide (lim < (np : Int)) = false := decide_eq_false (by omega)
  have hnr64 : nr4 ≤ 64 := by have := HNR4.out; omega
  have q2 : decide (64 < nr4) = false := decide_eq_false (by omega)
  have q3 : ¬ (lim < (np : Int) ∨ (64 : Int) < (nr4 : Int)) := by omega
  obtain ⟨vrg, hkg, _⟩ := I5.out.blk
  go_wp2_with (first
    | ((with_reducible (show wpList _ _ _ (⟨some 194, .load _ _, _, _, _, _⟩ :: _) _ _)); refine wpList_loadV (o := ⟨some 194, .load _ _, _, _, _, _⟩) rfl _ rfl rfl (id_load K5.out) ?_)
    | ((with_reducible (show wpList _ _ _ (⟨none, .store 45 _ _, _, _, _, _⟩ :: _) _ _)); go_loud (refine wpList_storeBlk (o := ⟨none, .store 45 _ _, _, _, _, _⟩) (g := g) (t := 45) (vs := [(.slice Ao4 s.own.length co4), .int .u64 s.nx, .slice A4 np cp4, .int .u64 s.us, .int .u64 s.pr, .slice Ar4 nr4 cr4]) rfl _ _ rfl rfl rfl hkg rfl (one6 rfl rfl rfl rfl rfl rfl) sizeId ?_); intro w12 z12 g12))
  clear C4 F4 I4 X4 K4 O4 B4 HZ4 b45 f0 f1 f3 f8
  have K12 := Lib.hid z12
  have G12 := Lib.hid g12
  clear z12 g12 c0 c1 c2 c3 c4 c5 q1 q2 q3
  go_ret
  have hk := hkg.notT (e := 47) (by decide)
  have hk8 := hkg.notT (e := 5) (by decide)
  have hk64 := hkg.notT (e := 27) (by decide)
  have PE := C5.out.peer
  rw [HNP.out] at PE
  exact ⟨_, _, rfl, ⟨⟨_, K12.out, Ar4, nr4, cr4, rfl, row_kept (O5.out.mono HW3.out).1 G12.out hk64, O5.out.2⟩, (C5.out.own.mono HW3.out).grown G12.out (row_ne C5.out.own hk) hk8, (PE.mono HW3.out).grown G12.out (row_ne PE hk) hk8⟩, grown_cat_ (only_of_below B5.out (some g)) G12.out⟩
end Go.Proofs.Ytghjlndkleclfaa
