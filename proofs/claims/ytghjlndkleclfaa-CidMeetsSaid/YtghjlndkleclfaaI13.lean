/- Layer 20: contract of Learn, an id that is new. Conditions: as each theorem states them. -/
import Derived.Test.YtghjlndkleclfaaI12
import Derived.Test.YtghjlndkleclfaaWQ
namespace Go.Proofs.Ytghjlndkleclfaa
open Go.RowKit
theorem grown_new {a b c : World} {row : Option Nat} {gc : Nat} (h : a.grownBy b row) (g : b.grownBy c (some gc)) (hn : a.heap.size ≤ gc) : a.grownBy c row :=
  ⟨g.os.trans h.os, g.tape.trans h.tape, g.output.trans h.output, Nat.le_trans h.size g.size, fun i hi hne => (g.block i (Nat.lt_of_lt_of_le hi h.size) (by intro q; injection q with q; omega)).trans (h.block i hi hne)⟩
theorem grown_cat_ {a b c : World} {row : Option Nat} (h : a.grownBy b row) (g : b.grownBy c row) : a.grownBy c row :=
  ⟨g.os.trans h.os, g.tape.trans h.tape, g.output.trans h.output, Nat.le_trans h.size g.size, fun i hi hne => (g.block i (Nat.lt_of_lt_of_le hi h.size) hne).trans (h.block i hi hne)⟩
theorem one6 {c0 c1 c2 c3 c4 c5 : Value} (h0 : c0.oneCell' = true) (h1 : c1.oneCell' = true) (h2 : c2.oneCell' = true) (h3 : c3.oneCell' = true) (h4 : c4.oneCell' = true) (h5 : c5.oneCell' = true) : ∀ v ∈ [c0, c1, c2, c3, c4, c5], v.oneCell' = true := by
  intro v hv
  simp only [List.mem_cons, List.not_mem_nil, or_false] at hv
  rcases hv with rfl | rfl | rfl | rfl | rfl | rfl <;> assumption
def tk (t : Int) : List Int := t :: List.replicate 15 0
/-- the frame's variable -/
def FrB (gf : Nat) (w : World) (id mx t : Int) (Af : Option Addr) (nf cf : Nat) : Prop := Blk w gf 34 #[.int .u64 24, .int .u64 id, .int .u64 0, .int .u64 mx, .int .u64 0, .int .u64 0, .bool false, .slice none 0 0, .slice Af nf cf, .int .u8 t, .int .u8 0, .int .u8 0, .int .u8 0, .int .u8 0, .int .u8 0, .int .u8 0, .int .u8 0, .int .u8 0, .int .u8 0, .int .u8 0, .int .u8 0, .int .u8 0, .int .u8 0, .int .u8 0, .int .u8 0, .slice none 0 0, .int .u64 0, .int .u64 0, .int .u64 0, .int .u64 0]
theorem FrB.facts {gf nf cf : Nat} {w : World} {id mx t : Int} {Af : Option Addr} (h : FrB gf w id mx t Af nf cf) : w.cell? ⟨gf, 0, none⟩ = some (.int .u64 24) ∧ w.cell? ⟨gf, 1, none⟩ = some (.int .u64 id) ∧ w.cell? ⟨gf, 3, none⟩ = some (.int .u64 mx) ∧ w.cell? ⟨gf, 8, none⟩ = some (.slice Af nf cf) :=
  ⟨Blk.cell h 0, Blk.cell h 1, Blk.cell h 3, Blk.cell h 8⟩
theorem size16 : (Try.prog.info? 30).map (·.size) = some 16 := by kernel_rfl
theorem tok_load {gf nf cf : Nat} {w : World} {id mx t : Int} {Af : Option Addr} (h : FrB gf w id mx t Af nf cf) : (Instr.loadAt 30 (.pointer (some ⟨gf, 9, none⟩))).run Try.prog w = .ok (.agg #[.int .u8 t, .int .u8 0, .int .u8 0, .int .u8 0, .int .u8 0, .int .u8 0, .int .u8 0, .int .u8 0, .int .u8 0, .int .u8 0, .int .u8 0, .int .u8 0, .int .u8 0, .int .u8 0, .int .u8 0, .int .u8 0]) w :=
  blk_loadMid (P := Try.prog) (ty := 30) (A := [.int .u64 24, .int .u64 id, .int .u64 0, .int .u64 mx, .int .u64 0, .int .u64 0, .bool false, .slice none 0 0, .slice Af nf cf]) (B := [.int .u8 t, .int .u8 0, .int .u8 0, .int .u8 0, .int .u8 0, .int .u8 0, .int .u8 0, .int .u8 0, .int .u8 0, .int .u8 0, .int .u8 0, .int .u8 0, .int .u8 0, .int .u8 0, .int .u8 0, .int .u8 0]) (C := [.slice none 0 0, .int .u64 0, .int .u64 0, .int .u64 0, .int .u64 0]) (o := 9) h rfl Try.underlying30 rfl size16
set_option maxRecDepth 100000 in
set_option maxHeartbeats 4000000 in
theorem learn_new (B g : Nat) (vo vp : Value) (s : IS) (id mx t lim : Int) (Af : Option Addr) (nf cf : Nat) (bs : List Int) (w : World) (h : IdR B g w vo vp s) (hf : Rd w.heap.size .u8 w Af bs) (hfn : bs.length = nf) (hfb : Byt bs) (hn1 : 1 ≤ nf) (hn2 : nf ≤ 20) (ht0 : 0 ≤ t) (ht1 : t < 256)
    (hi : idx (fun x => x.seq == id) s.peer = -1) (hk : idx (fun x => decide (x.bs = bs)) s.peer = -1) (hm : mx ≤ s.pr) (hm2 : mx ≤ id) (hpi : s.pr ≤ id) (hp0 : 0 < s.peer.length) (hR : Rising s.peer)
    (l1 : s.own.length ≤ 900) (l2 : s.peer.length ≤ 900) (l3 : s.ret.length ≤ 64) (hlim : ((s.peer.length : Int) + 1) ≤ lim) :
    Calls Try.prog 7 #[.pointer (some ⟨g, 0, none⟩), .agg #[.int .u64 24, .int .u64 id, .int .u64 0, .int .u64 mx, .int .u64 0, .int .u64 0, .bool false, .slice none 0 0, .slice Af nf cf, .int .u8 t, .int .u8 0, .int .u8 0, .int .u8 0, .int .u8 0, .int .u8 0, .int .u8 0, .int .u8 0, .int .u8 0, .int .u8 0, .int .u8 0, .int .u8 0, .int .u8 0, .int .u8 0, .int .u8 0, .int .u8 0, .slice none 0 0, .int .u64 0, .int .u64 0, .int .u64 0, .int .u64 0], .int .u64 lim] w fun e w' => ∃ vo' vp' y, e = .returned (.int .i64 0) ∧ y.e = ⟨id, bs, tk t⟩ ∧ IdR w.heap.size g w' vo' vp' ⟨s.own, s.nx, s.peer.take (posL id s.peer) ++ y :: s.peer.drop (posL id s.peer), s.us, s.pr, s.ret⟩ ∧ w.grownBy w' (some g) := by
  have HI := Lib.hid hi
  have HK := Lib.hid hk
  have HRI := Lib.hid hR
  obtain ⟨Ap, cp, hvp, _⟩ := own_form h.peer.1
  subst hvp
  have bb := (Below.refl w.heap.size w).alloc (Nat.le_refl _) (.cells #[.int .u64 24, .int .u64 id, .int .u64 0, .int .u64 mx, .int .u64 0, .int .u64 0, .bool false, .slice none 0 0, .slice Af nf cf, .int .u8 t, .int .u8 0, .int .u8 0, .int .u8 0, .int .u8 0, .int .u8 0, .int .u8 0, .int .u8 0, .int .u8 0, .int .u8 0, .int .u8 0, .int .u8 0, .int .u8 0, .int .u8 0, .int .u8 0, .int .u8 0, .slice none 0 0, .int .u64 0, .int .u64 0, .int .u64 0, .int .u64 0] 34)
  have F1 : Hid (FrB w.heap.size (w.alloc (.cells #[.int .u64 24, .int .u64 id, .int .u64 0, .int .u64 mx, .int .u64 0, .int .u64 0, .bool false, .slice none 0 0, .slice Af nf cf, .int .u8 t, .int .u8 0, .int .u8 0, .int .u8 0, .int .u8 0, .int .u8 0, .int .u8 0, .int .u8 0, .int .u8 0, .int .u8 0, .int .u8 0, .int .u8 0, .int .u8 0, .int .u8 0, .int .u8 0, .int .u8 0, .slice none 0 0, .int .u64 0, .int .u64 0, .int .u64 0, .int .u64 0] 34)) id mx t Af nf cf) := Lib.hid (Blk.new _ _ _)
  have I1 := Lib.hid (h.below bb)
  have X1 := Lib.hid ((hf.below bb (Nat.le_refl _)).mono bb.size)
  have B1 := Lib.hid bb
  have HLG : Hid (g < w.heap.size) := Lib.hid h.lt
  clear h hf bb hi hk hR
  go_enter Try.func7, Try.ntmps7
  go_wp2_with fail
  generalize w.alloc (.cells #[.int .u64 24, .int .u64 id, .int .u64 0, .int .u64 mx, .int .u64 0, .int .u64 0, .bool false, .slice none 0 0, .slice Af nf cf, .int .u8 t, .int .u8 0, .int .u8 0, .int .u8 0, .int .u8 0, .int .u8 0, .int .u8 0, .int .u8 0, .int .u8 0, .int .u8 0, .int .u8 0, .int .u8 0, .int .u8 0, .int .u8 0, .int .u8 0, .int .u8 0, .slice none 0 0, .int .u64 0, .int .u64 0, .int .u64 0, .int .u64 0] 34) = w1 at *
  obtain ⟨gf, hgf⟩ : ∃ z, w.heap.size = z := ⟨_, rfl⟩
  have HGF := Lib.hid hgf
  rw [hgf] at F1 ⊢
  clear hgf
  obtain ⟨vr, k1, k2⟩ := I1.out.blk
  obtain ⟨Ar, nr, cr, rfl, k3⟩ := k2
  have K1 := Lib.hid k1
  have HNR := Lib.hid k3.len
  have e0 : ∀ r : BW w1.heap.size w1, r.world.cell? ⟨g, 2, none⟩ = some (.slice Ap s.peer.length cp) := fun r => Blk.cell (Blk.below K1.out r.below (Blk.lt K1.out)) 2
  have e1 : ∀ r : BW w1.heap.size w1, r.world.cell? ⟨gf, 1, none⟩ = some (.int .u64 id) := fun r => Blk.cell (Blk.below F1.out r.below (Blk.lt F1.out)) 1
  have e8 : ∀ r : BW w1.heap.size w1, r.world.cell? ⟨gf, 8, none⟩ = some (.slice Af nf cf) := fun r => Blk.cell (Blk.below F1.out r.below (Blk.lt F1.out)) 8
  have e3 : ∀ r : BW w1.heap.size w1, r.world.cell? ⟨gf, 3, none⟩ = some (.int .u64 mx) := fun r => Blk.cell (Blk.below F1.out r.below (Blk.lt F1.out)) 3
  have e00 : ∀ r : BW w1.heap.size w1, r.world.cell? ⟨gf, 0, none⟩ = some (.int .u64 24) := fun r => Blk.cell (Blk.below F1.out r.below (Blk.lt F1.out)) 0
  have HFI := Lib.hid (fun (r : BW w1.heap.size w1) => find_any s.peer Ap s.peer.length cp id r.world (I1.out.below r.below).peer.s rfl (by omega))
  rw [HI.out] at HFI
  have HNA := Lib.hid (fun (r : BW w1.heap.size w1) => named_any s.peer Ap Af s.peer.length cp nf cf bs r.world (I1.out.below r.below).peer.s rfl (by omega) ((X1.out.below r.below (Nat.le_refl _)).mono r.below.size) hfn hfb)
  rw [HK.out] at HNA
  clear k1 k3
  refine wp_region_below_lit w1.heap.size (by kernel_rfl) (by kernel_rfl) ?_
  try (rw [put_none])
  repeat (show wpQuiet _ _ _ _ (_ :: _) _; go_big_quiet_step (first
    | (go_at_call 21; exact Calls.bw (Nat.le_refl _) (HFI.out _))
    | (go_at_call 22; exact Calls.bw (Nat.le_refl _) (HNA.out _))))
  refine wpQuiet_nil ?_
  intro _ hw'
  obtain ⟨r, rfl⟩ := hw'
  have F2 := Lib.hid (Blk.below F1.out r.below (Blk.lt F1.out))
  have I2 := Lib.hid (I1.out.below r.below)
  have X2 := Lib.hid ((X1.out.below r.below (Nat.le_refl _)).mono r.below.size)
  have B2 := Lib.hid (B1.out.trans (r.below.mono B1.out.size))
  clear e0 e1 e8 e3 e00 HFI HNA F1 I1 X1 B1 K1
  go_wp2_with fail
  generalize r.world = w2 at *
  clear r
  have e1 : ∀ r : BW w2.heap.size w2, r.world.cell? ⟨gf, 1, none⟩ = some (.int .u64 id) := fun r => Blk.cell (Blk.below F2.out r.below (Blk.lt F2.out)) 1
  have e8 : ∀ r : BW w2.heap.size w2, r.world.cell? ⟨gf, 8, none⟩ = some (.slice Af nf cf) := fun r => Blk.cell (Blk.below F2.out r.below (Blk.lt F2.out)) 8
  have e3 : ∀ r : BW w2.heap.size w2, r.world.cell? ⟨gf, 3, none⟩ = some (.int .u64 mx) := fun r => Blk.cell (Blk.below F2.out r.below (Blk.lt F2.out)) 3
  have e00 : ∀ r : BW w2.heap.size w2, r.world.cell? ⟨gf, 0, none⟩ = some (.int .u64 24) := fun r => Blk.cell (Blk.below F2.out r.below (Blk.lt F2.out)) 0
  have HMY := Lib.hid (fun (r : BW w2.heap.size w2) => Calls.mono (may_any Af nf cf r.world (by omega)) (fun e w' (h : e = .returned (.bool (decide (1 ≤ nf ∧ nf ≤ 20))) ∧ r.world = w') => (⟨by rw [h.1, decide_eq_true (⟨hn1, hn2⟩ : 1 ≤ nf ∧ nf ≤ 20)], by rw [← h.2]; exact Below.refl _ _⟩ : e = .returned (.bool true) ∧ Below r.world.heap.size r.world w')))
  have q1 : decide (id < mx) = false := decide_eq_false (by omega)
  refine wp_region_below_lit w2.heap.size (by kernel_rfl) (by kernel_rfl) ?_
  try (rw [put_none])
  repeat (show wpQuiet _ _ _ _ (_ :: _) _; go_big_quiet_step ((go_at_call 20; exact Calls.bw (Nat.le_refl _) (HMY.out _))))
  refine wpQuiet_nil ?_
  intro _ hw'
  obtain ⟨r, rfl⟩ := hw'
  have F3 := Lib.hid (Blk.below F2.out r.below (Blk.lt F2.out))
  have I3 := Lib.hid (I2.out.below r.below)
  have X3 := Lib.hid ((X2.out.below r.below (Nat.le_refl _)).mono r.below.size)
  have B3 := Lib.hid (B2.out.trans (r.below.mono B2.out.size))
  clear e1 e8 e3 e00 HMY F2 I2 X2 B2 q1
  go_wp2_with fail
  generalize r.world = w3 at *
  clear r
  refine Calls.mono (copied_any B g vo _ s w3 I3.out (by omega) (by omega) (by omega)) ?_
  rintro e w4 ⟨gc, vo4, vp4, rfl, c4, hgc4, b4⟩
  have C4 := Lib.hid c4
  have F4 := Lib.hid (Blk.below F3.out b4 (Blk.lt F3.out))
  have I4 := Lib.hid (I3.out.below b4)
  have X4 := Lib.hid ((X3.out.below b4 (Nat.le_refl _)).mono b4.size)
  have B4 := Lib.hid (B3.out.trans (b4.mono B3.out.size))
  have HW3 : Hid (w.heap.size ≤ w3.heap.size) := Lib.hid B3.out.size
  have HGC : Hid (w3.heap.size ≤ gc) := Lib.hid hgc4
  have HZ4 : Hid (w3.heap.size ≤ w4.heap.size) := Lib.hid b4.size
  clear c4 hgc4 b4 F3 I3 X3 B3
  obtain ⟨Ao4, co4, hvo4, _⟩ := own_form C4.out.own.1
  subst hvo4
  obtain ⟨A4, cp4, hv4, _⟩ := own_form C4.out.peer.1
  subst hv4
  obtain ⟨vr4, k4, u4⟩ := C4.out.blk
  obtain ⟨Ar4, nr4, cr4, rfl, o4⟩ := u4
  have HNR4 := Lib.hid o4.len
  obtain ⟨np, hnp⟩ : ∃ z, s.peer.length = z := ⟨_, rfl⟩
  have HNP := Lib.hid hnp
  simp only [hnp] at k4 hp0 l2 hlim
  have K4 := Lib.hid k4
  have O4 := Lib.hid o4
  obtain ⟨c0, c1, c2, c3, c4, c5⟩ := id_cells k4
  obtain ⟨f0, f1, f3, f8⟩ := FrB.facts F4.out
  have q1 : ¬ np = 0 := by omega
  have q2 : decide (s.pr < mx) = false := decide_eq_false (by omega)
  have q3 : decide (id < s.pr) = false := decide_eq_false (by omega)
  clear k4 o4 hnp
  go_wp2_with fail
  go_region
  go_wp2_with fail
  go_region
  go_wp2_with fail
  have b45 : Below w4.heap.size w4 w4.drew.drew := (Below.refl w4.heap.size w4).drew.drew
  have C5 := Lib.hid (C4.out.below b45)
  have F5 := Lib.hid (Blk.below F4.out b45 (Blk.lt F4.out))
  have I5 := Lib.hid (I4.out.below b45)
  have X5 := Lib.hid ((X4.out.below b45 (Nat.le_refl _)).mono b45.size)
  have K5 := Lib.hid (Blk.below K4.out b45 (Blk.lt K4.out))
  have O5 := Lib.hid (O4.out.below b45)
  have B5 := Lib.hid (B4.out.trans (b45.mono B4.out.size))
  have HZ5 : Hid (w3.heap.size ≤ w4.drew.drew.heap.size) := Lib.hid (Nat.le_trans HZ4.out b45.size)
  clear C4 F4 I4 X4 K4 O4 B4 HZ4 b45 c0 c1 c2 c3 c4 c5 f0 f1 f3 f8 q1 q2
  generalize w4.drew.drew = w5 at *
  have e1 : ∀ r : BW w5.heap.size w5, r.world.cell? ⟨gf, 1, none⟩ = some (.int .u64 id) := fun r => Blk.cell (Blk.below F5.out r.below (Blk.lt F5.out)) 1
  have e2 : ∀ r : BW w5.heap.size w5, r.world.cell? ⟨gc, 2, none⟩ = some (.slice A4 np cp4) := fun r => Blk.cell (Blk.below K5.out r.below (Blk.lt K5.out)) 2
  have HP5 := Lib.hid C5.out.peer
  rw [HNP.out] at HP5
  have HSE := Lib.hid (fun (r : BW w5.heap.size w5) => search_det s.peer A4 np cp4 id r.world (HP5.out.below r.below).s HNP.out (by omega) HRI.out)
  obtain ⟨at_, hat⟩ : ∃ z, posL id s.peer = z := ⟨_, rfl⟩
  rw [hat] at HSE
  have hatn : at_ ≤ np := by rw [← hat, ← HNP.out]; exact List.length_filter_le _ _
  have HAT := Lib.hid hat
  clear hat
  refine wp_region_below_lit w5.heap.size (by kernel_rfl) (by kernel_rfl) ?_
  try (rw [put_none])
  repeat (show wpQuiet _ _ _ _ (_ :: _) _; go_big_quiet_step ((go_at_call 26; exact Calls.bw (Nat.le_refl _) (HSE.out _))))
  refine wpQuiet_nil ?_
  intro _ hw'
  obtain ⟨r, rfl⟩ := hw'
  have C6 := Lib.hid (C5.out.below r.below)
  have F6 := Lib.hid (Blk.below F5.out r.below (Blk.lt F5.out))
  have I6 := Lib.hid (I5.out.below r.below)
  have X6 := Lib.hid ((X5.out.below r.below (Nat.le_refl _)).mono r.below.size)
  have K6 := Lib.hid (Blk.below K5.out r.below (Blk.lt K5.out))
  have O6 := Lib.hid (O5.out.below r.below)
  have B6 := Lib.hid (B5.out.trans (r.below.mono B5.out.size))
  have HZ6 : Hid (w3.heap.size ≤ r.world.heap.size) := Lib.hid (Nat.le_trans HZ5.out r.below.size)
  clear C5 F5 I5 X5 K5 O5 B5 HZ5 e1 e2 HP5 HSE
  go_wp2_with fail
  generalize r.world = w6 at *
  clear r
  have hcw : (fun v : World => FrB gf v id mx t Af nf cf ∧ IdB gc #[(.slice Ao4 s.own.length co4), .int .u64 s.nx, .slice A4 np cp4, .int .u64 s.us, .int .u64 s.pr, .slice Ar4 nr4 cr4] v) w6.drew := ⟨Blk.drew F6.out, Blk.drew K6.out⟩
  have e1 : ∀ r : CW (fun v : World => FrB gf v id mx t Af nf cf ∧ IdB gc #[(.slice Ao4 s.own.length co4), .int .u64 s.nx, .slice A4 np cp4, .int .u64 s.us, .int .u64 s.pr, .slice Ar4 nr4 cr4] v), r.world.cell? ⟨gf, 1, none⟩ = some (.int .u64 id) := fun r => Blk.cell r.holds.1 1
  have e8 : ∀ r : CW (fun v : World => FrB gf v id mx t Af nf cf ∧ IdB gc #[(.slice Ao4 s.own.length co4), .int .u64 s.nx, .slice A4 np cp4, .int .u64 s.us, .int .u64 s.pr, .slice Ar4 nr4 cr4] v), r.world.cell? ⟨gf, 8, none⟩ = some (.slice Af nf cf) := fun r => Blk.cell r.holds.1 8
  have e2 : ∀ r : CW (fun v : World => FrB gf v id mx t Af nf cf ∧ IdB gc #[(.slice Ao4 s.own.length co4), .int .u64 s.nx, .slice A4 np cp4, .int .u64 s.us, .int .u64 s.pr, .slice Ar4 nr4 cr4] v), r.world.cell? ⟨gc, 2, none⟩ = some (.slice A4 np cp4) := fun r => Blk.cell r.holds.2 2
  have hne : Nonempty (CW (fun v : World => FrB gf v id mx t Af nf cf ∧ IdB gc #[(.slice Ao4 s.own.length co4), .int .u64 s.nx, .slice A4 np cp4, .int .u64 s.us, .int .u64 s.pr, .slice Ar4 nr4 cr4] v)) := CW.inh hcw
  refine wp_region_mixO (fun w' => ∃ r : CW (fun v : World => FrB gf v id mx t Af nf cf ∧ IdB gc #[(.slice Ao4 s.own.length co4), .int .u64 s.nx, .slice A4 np cp4, .int .u64 s.us, .int .u64 s.pr, .slice Ar4 nr4 cr4] v), w' = r.world) [([0, 1, 2, 3, 4, 5, 6, 7, 8, 9, 10, 12, 13], 11), ([14], 15), ([], 16), ([17, 18, 19], 20)] (by kernel_rfl) (by kernel_rfl) (by kernel_rfl) (by kernel_rfl) (by kernel_rfl) ⟨CW.mk' hcw, rfl⟩ ?_
  try (rw [put_none])
  simp only [pickL, List.map_cons, List.map_nil, List.filterMap_cons, List.filterMap_nil, List.getElem?_cons_succ, List.getElem?_cons_zero]
  refine mixO_cons ?_
  show wpQuiet _ _ _ _ (_ :: _) _
  go_big_quiet_step (fail)
  show wpQuiet _ _ _ _ (_ :: _) _
  go_big_quiet_step (fail)
  show wpQuiet _ _ _ _ (_ :: _) _
  go_big_quiet_step (fail)
  show wpQuiet _ _ _ _ (_ :: _) _
  go_big_quiet_step (fail)
  show wpQuiet _ _ _ _ (_ :: _) _
  go_big_quiet_step (fail)
  show wpQuiet _ _ _ _ (_ :: _) _
  go_big_quiet_step (fail)
  show wpQuiet _ _ _ _ (_ :: _) _
  go_big_quiet_step (fail)
  show wpQuiet _ _ _ _ (_ :: _) _
  go_big_quiet_step (fail)
  show wpQuiet _ _ _ _ (_ :: _) _
  go_big_quiet_step (fail)
  show wpQuiet _ _ _ _ (_ :: _) _
  go_big_quiet_step (fail)
  show wpQuiet _ _ _ _ (_ :: _) _
  go_big_quiet_step (fail)
  show wpQuiet _ _ _ _ (_ :: _) _
  go_big_quiet_step (fail)
  show wpQuiet _ _ _ _ (_ :: _) _
  refine wpQuiet_loadV (o := ⟨some 159, _, _, _, _, _⟩) rfl _ rfl rfl (fun w' hw' => by obtain ⟨r, rfl⟩ := hw'; exact tok_load r.holds.1) ?_
  simp only [Act.put, List.setIfInBounds_toArray, List.set_cons_zero, List.set_cons_succ]
  refine wpQuiet_nil ?_
  show wpList _ _ _ [_] _ _
  have C7 := Lib.hid (C6.out.below (Below.refl w6.heap.size w6).drew)
  have F7 := Lib.hid (Blk.drew F6.out)
  have I7 := Lib.hid (I6.out.below (Below.refl w6.heap.size w6).drew)
  have X7 : Hid (Rd w6.drew.heap.size .u8 w6.drew Af bs) := Lib.hid X6.out.drew
  have K7 := Lib.hid (Blk.drew K6.out)
  have O7 := Lib.hid (O6.out.below (Below.refl w6.heap.size w6).drew)
  have B7 := Lib.hid B6.out.drew
  have HZ7 : Hid (w3.heap.size ≤ w6.drew.heap.size) := Lib.hid HZ6.out
  clear C6 F6 I6 X6 K6 O6 B6 HZ6 hcw e1 e8 e2
  go_wp2_with fail
  generalize w6.drew = w7 at *
  refine Calls.mono (clone_n Af cf nf bs w7 X7.out hfn.symm (by omega)) ?_
  rintro e w8 ⟨A7, n7, c7, rfl, o8, b8⟩
  have Q8 := Lib.hid o8
  have C8 := Lib.hid (C7.out.below b8)
  have F8 := Lib.hid (Blk.below F7.out b8 (Blk.lt F7.out))
  have I8 := Lib.hid (I7.out.below b8)
  have K8 := Lib.hid (Blk.below K7.out b8 (Blk.lt K7.out))
  have O8 := Lib.hid (O7.out.below b8)
  have B8 := Lib.hid (B7.out.trans (b8.mono B7.out.size))
  have HZ8 : Hid (w3.heap.size ≤ w8.heap.size) := Lib.hid (Nat.le_trans HZ7.out b8.size)
  clear C7 F7 I7 X7 K7 O7 B7 HZ7 o8 b8
  go_wp2_with fail
  refine MixO.narrow (fun _ h => h) (⟨CW.mk' (show (fun v : World => FrB gf v id mx t Af nf cf ∧ IdB gc #[(.slice Ao4 s.own.length co4), .int .u64 s.nx, .slice A4 np cp4, .int .u64 s.us, .int .u64 s.pr, .slice Ar4 nr4 cr4] v) w8 from ⟨F8.out, K8.out⟩), rfl⟩) ?_
  refine mixO_cons ?_
  repeat (show wpQuiet _ _ _ _ (_ :: _) _; go_big_quiet_step (fail))
  refine wpQuiet_nil ?_
  show wpList _ _ _ [_] _ _
  go_wp2_with fail
  have bl := (Below.refl w8.heap.size w8).alloc (Nat.le_refl _) (.cells #[.int .u64 id, .slice A7 n7 c7, .int .u8 t, .int .u8 0, .int .u8 0, .int .u8 0, .int .u8 0, .int .u8 0, .int .u8 0, .int .u8 0, .int .u8 0, .int .u8 0, .int .u8 0, .int .u8 0, .int .u8 0, .int .u8 0, .int .u8 0, .int .u8 0] 47)
  have V9 : Hid (Blk (w8.alloc (.cells #[.int .u64 id, .slice A7 n7 c7, .int .u8 t, .int .u8 0, .int .u8 0, .int .u8 0, .int .u8 0, .int .u8 0, .int .u8 0, .int .u8 0, .int .u8 0, .int .u8 0, .int .u8 0, .int .u8 0, .int .u8 0, .int .u8 0, .int .u8 0, .int .u8 0] 47)) w8.heap.size 47 (⟨id, A7, n7, c7, bs, tk t⟩ : CX).vs.toArray) := Lib.hid (Blk.new w8 _ _)
  have hok : (⟨id, A7, n7, c7, bs, tk t⟩ : CX).Ok w8 := CX.Ok.ofOwn Q8.out hfb (by omega) (by simp [tk]) (fun z hz => by
    unfold tk at hz
    rcases List.mem_cons.1 hz with rfl | hz
    · omega
    · rw [List.eq_of_mem_replicate hz]; decide)
  have X9 := Lib.hid (hok.below bl)
  have C9 := Lib.hid (C8.out.below bl)
  have F9 := Lib.hid (Blk.below F8.out bl (Blk.lt F8.out))
  have I9 := Lib.hid (I8.out.below bl)
  have K9 := Lib.hid (Blk.below K8.out bl (Blk.lt K8.out))
  have O9 := Lib.hid (O8.out.below bl)
  have B9 := Lib.hid (B8.out.trans (bl.mono B8.out.size))
  have HZ9 : Hid (w3.heap.size ≤ (w8.alloc (.cells #[.int .u64 id, .slice A7 n7 c7, .int .u8 t, .int .u8 0, .int .u8 0, .int .u8 0, .int .u8 0, .int .u8 0, .int .u8 0, .int .u8 0, .int .u8 0, .int .u8 0, .int .u8 0, .int .u8 0, .int .u8 0, .int .u8 0, .int .u8 0, .int .u8 0] 47)).heap.size) := Lib.hid (Nat.le_trans HZ8.out bl.size)
  have HVB : Hid ((Value.slice A4 np cp4).ownBlock ≠ some w8.heap.size) := Lib.hid (fun q => by
    have h := C8.out.peer
    rw [HNP.out] at h
    have := (h.1.lt _ q).2
    omega)
  clear C8 F8 I8 K8 O8 B8 HZ8 Q8 hok bl
  generalize w8.alloc (.cells #[.int .u64 id, .slice A7 n7 c7, .int .u8 t, .int .u8 0, .int .u8 0, .int .u8 0, .int .u8 0, .int .u8 0, .int .u8 0, .int .u8 0, .int .u8 0, .int .u8 0, .int .u8 0, .int .u8 0, .int .u8 0, .int .u8 0, .int .u8 0, .int .u8 0] 47) = w9 at *
  obtain ⟨vb, hvb⟩ : ∃ z, w8.heap.size = z := ⟨_, rfl⟩
  rw [hvb] at V9 HVB ⊢
  clear hvb
  refine MixO.narrow (fun _ h => h) (⟨CW.mk' (show (fun v : World => FrB gf v id mx t Af nf cf ∧ IdB gc #[(.slice Ao4 s.own.length co4), .int .u64 s.nx, .slice A4 np cp4, .int .u64 s.us, .int .u64 s.pr, .slice Ar4 nr4 cr4] v) w9 from ⟨F9.out, K9.out⟩), rfl⟩) ?_
  refine mixO_cons ?_
  refine wpQuiet_nil ?_
  show wpList _ _ _ [_] _ _
  have HPE := C9.out.peer
  rw [HNP.out] at HPE
  have RIN := Lib.hid (insert_any w3.heap.size at_ vb (.slice A4 np cp4) s.peer (⟨id, A7, n7, c7, bs, tk t⟩ : CX) w9 HPE (by rw [HNP.out]; exact hatn) X9.out V9.out HVB.out HZ9.out (by rw [HNP.out]; omega))
  clear HPE
  go_wp2_with fail
  refine Calls.mono RIN.out ?_
  rintro e w10 ⟨v10, rfl, p10, g10⟩
  obtain ⟨A10, c10, hv10, _⟩ := own_form p10.1
  have hlen : (s.peer.take at_ ++ (⟨id, A7, n7, c7, bs, tk t⟩ : CX) :: s.peer.drop at_).length = np + 1 := by
    have := HNP.out
    simp; omega
  rw [hlen] at hv10
  subst hv10
  have P10 := Lib.hid p10
  have hrb := row_block (by have h := C9.out.peer.1; rw [HNP.out] at h; exact h) g10
  have keepB : ∀ (b : Nat) (t : TypeId) (cs : Array Value), Blk w9 b t cs → t ≠ 47 → Blk w10 b t cs := fun b t cs hk ht => by
    rcases hrb with hb | ⟨b2, cs2, hg2, hk2⟩
    · exact hk.below hb hk.lt
    · exact hk.grown hg2 (by intro q; injection q with q; exact Blk.ne_ hk hk2 ht q)
  have F10 : Hid (FrB gf w10 id mx t Af nf cf) := Lib.hid (keepB _ _ _ F9.out (by decide))
  have K10 : Hid (Blk w10 gc 45 #[(.slice Ao4 s.own.length co4), .int .u64 s.nx, .slice A4 np cp4, .int .u64 s.us, .int .u64 s.pr, .slice Ar4 nr4 cr4]) := Lib.hid (keepB _ _ _ K9.out (by decide))
  have KG10 : Hid (∃ cs, Blk w10 g 45 cs ∧ cs.size = 6) := Lib.hid (by obtain ⟨vr9, h9, _⟩ := I9.out.blk; exact ⟨_, keepB _ _ _ h9 (by decide), rfl⟩)
  have O10 : Hid (Own w3.heap.size 27 .u64 w10 Ar4 nr4 cr4 s.ret) := Lib.hid (by
    rcases hrb with hb | ⟨b2, cs2, hg2, hk2⟩
    · exact O9.out.below hb
    · exact ⟨row_kept O9.out.1 hg2 (hk2.notT (by decide)), O9.out.2⟩)
  have W10 : Hid (EntR w3.heap.size w10 (.slice Ao4 s.own.length co4) s.own) := Lib.hid (by
    rcases hrb with hb | ⟨b2, cs2, hg2, hk2⟩
    · exact C9.out.own.below hb
    · have hap := C9.out.ap
      have h := C9.out.own
      refine ⟨h.1.kept g10 ?_, fun x hx => ok_row (by have h := C9.out.peer.1; rw [HNP.out] at h; exact h) g10 (h.2 x hx)⟩
      rcases hob : (Value.slice Ao4 s.own.length co4).ownBlock with _ | kk
      · exact .inl rfl
      · exact .inr (fun q => hap kk hob (by rw [HNP.out]; exact q.symm)))
  have G10 : Hid (w.grownBy w10 (some g)) := Lib.hid (by
    have hb : Below w3.heap.size w9 w10 := below_own C9.out.peer.1 (by rw [HNP.out]; exact g10) HZ9.out
    exact only_of_below (B9.out.trans (hb.mono (by have := HW3.out; exact this))) (some g))
  clear F9 K9 O9 C9 I9 B9 g10 p10 hrb keepB RIN X9 V9
  go_wp2_with fail
  refine MixO.narrow (fun _ h => h) (⟨CW.mk' (show (fun v : World => FrB gf v id mx t Af nf cf ∧ IdB gc #[(.slice Ao4 s.own.length co4), .int .u64 s.nx, .slice A4 np cp4, .int .u64 s.us, .int .u64 s.pr, .slice Ar4 nr4 cr4] v) w10 from ⟨F10.out, K10.out⟩), rfl⟩) ?_
  refine mixO_cons ?_
  repeat (show wpQuiet _ _ _ _ (_ :: _) _; go_big_quiet_step (fail))
  refine wpQuiet_nil ?_
  show wpList _ _ _ [_] _ _
  have k2 := Blk.cell K10.out 2
  have f2 := Blk.frozen K10.out 2
  simp at k2
  go_wp2_with fail
  refine MixO.last ?_
  refine mixO_nil ?_
  refine wpQuiet_nil ?_
  refine NoPanic.normal ?_
  clear k2 f2 hne
  have G11 : Hid (w10.grownBy (w10.setCell ⟨gc, 2, none⟩ (.slice A10 (np + 1) c10)) (some gc)) := Lib.hid set_only
  have K11 : Hid (Blk (w10.setCell ⟨gc, 2, none⟩ (.slice A10 (np + 1) c10)) gc 45 #[(.slice Ao4 s.own.length co4), .int .u64 s.nx, .slice A10 (np + 1) c10, .int .u64 s.us, .int .u64 s.pr, .slice Ar4 nr4 cr4]) := Lib.hid (Blk.cast (Blk.set_ K10.out 2 _) (by simp))
  have P11 := Lib.hid (P10.out.grown G11.out (row_ne P10.out (K10.out.notT (by decide))) (K10.out.notT (by decide)))
  have W11 := Lib.hid (W10.out.grown G11.out (row_ne W10.out (K10.out.notT (by decide))) (K10.out.notT (by decide)))
  have O11 : Hid (Own w3.heap.size 27 .u64 (w10.setCell ⟨gc, 2, none⟩ (.slice A10 (np + 1) c10)) Ar4 nr4 cr4 s.ret) := Lib.hid ⟨row_kept O10.out.1 G11.out (K10.out.notT (by decide)), O10.out.2⟩
  have HNG : Hid (g ≠ gc) := Lib.hid (by have := HGC.out; have := HLG.out; have := HW3.out; omega)
  have KG11 : Hid (∃ cs, Blk (w10.setCell ⟨gc, 2, none⟩ (.slice A10 (np + 1) c10)) g 45 cs ∧ cs.size = 6) := Lib.hid (by obtain ⟨cs, h9, h6⟩ := KG10.out; exact ⟨cs, h9.grown G11.out (by intro q; injection q with q; exact HNG.out q), h6⟩)
  have GG11 : Hid (w.grownBy (w10.setCell ⟨gc, 2, none⟩ (.slice A10 (np + 1) c10)) (some g)) := Lib.hid (grown_new G10.out G11.out (by have := HGC.out; have := HW3.out; omega))
  clear P10 W10 O10 K10 F10 KG10 G10 G11
  generalize w10.setCell ⟨gc, 2, none⟩ (.slice A10 (np + 1) c10) = w11 at *
  obtain ⟨c0, c1, c2, c3, c4, c5⟩ := id_cells K11.out
  have q1 : decide (lim < (np : Int) + 1) = false := decide_eq_false (by omega)
  have hnr64 : nr4 ≤ 64 := by have := HNR4.out; omega
  have q2 : decide (64 < nr4) = false := decide_eq_false (by omega)
  obtain ⟨csg, hkg, hkg6⟩ := KG11.out
  go_wp2_with (first
    | ((with_reducible (show wpList _ _ _ (⟨some 194, .load _ _, _, _, _, _⟩ :: _) _ _)); refine wpList_loadV (o := ⟨some 194, .load _ _, _, _, _, _⟩) rfl _ rfl rfl (id_load K11.out) ?_)
    | ((with_reducible (show wpList _ _ _ (⟨none, .store 45 _ _, _, _, _, _⟩ :: _) _ _)); go_loud (refine wpList_storeBlk (o := ⟨none, .store 45 _ _, _, _, _, _⟩) (g := g) (t := 45) (vs := [(.slice Ao4 s.own.length co4), .int .u64 s.nx, .slice A10 (np + 1) c10, .int .u64 s.us, .int .u64 s.pr, .slice Ar4 nr4 cr4]) rfl _ _ rfl rfl rfl hkg (by rw [hkg6]; rfl) (one6 rfl rfl rfl rfl rfl rfl) sizeId ?_); intro w12 z12 g12))
  have K12 := Lib.hid z12
  have G12 := Lib.hid g12
  clear z12 g12 c0 c1 c2 c3 c4 c5 q1 q2
  go_ret
  have hk := hkg.notT (e := 47) (by decide)
  have hk8 := hkg.notT (e := 5) (by decide)
  have hk64 := hkg.notT (e := 27) (by decide)
  refine ⟨_, _, (⟨id, A7, n7, c7, bs, tk t⟩ : CX), rfl, rfl, ⟨⟨_, K12.out, Ar4, nr4, cr4, rfl, row_kept (O11.out.mono HW3.out).1 G12.out hk64, O11.out.2⟩, (W11.out.mono HW3.out).grown G12.out (row_ne W11.out hk) hk8, ?_⟩, grown_cat_ GG11.out G12.out⟩
  have p := (P11.out.mono HW3.out).grown G12.out (row_ne P11.out hk) hk8
  rw [HAT.out]
  exact p
end Go.Proofs.Ytghjlndkleclfaa
