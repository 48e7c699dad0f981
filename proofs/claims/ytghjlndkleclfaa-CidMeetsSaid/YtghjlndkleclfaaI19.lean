/- Layer 20: Current; Issue that is full; calls of no ids; Learn of a number under another id. Conditions: as each theorem states them. -/
import Derived.Test.YtghjlndkleclfaaI18
namespace Go.Proofs.Ytghjlndkleclfaa
open Go.RowKit
set_option maxRecDepth 100000 in
set_option maxHeartbeats 2000000 in
theorem current_head (B g : Nat) (vo vp : Value) (s : IS) (x : CX) (rest : List CX) (w : World) (h : IdR B g w vo vp s) (hp : s.peer = x :: rest) (hx : x.seq = s.us) (l2 : s.peer.length ≤ 1000) :
    Calls Try.prog 16 #[.pointer (some ⟨g, 0, none⟩)] w fun e w' => ∃ A c, e = .returned (.tuple #[.slice A x.bs.length c, .bool true]) ∧ Own w.heap.size 5 .u8 w' A x.bs.length c x.bs ∧ Below w.heap.size w w' := by
  obtain ⟨own, nx, peer, us, pr, ret⟩ := s
  simp only at hp hx l2
  subst hp hx
  obtain ⟨A, c, rfl, hs⟩ := h.peer.slice
  obtain ⟨vr, k1, _⟩ := h.blk
  have RF := Lib.hid (fun (r : BW w.heap.size w) => find_any (x :: rest) A (x :: rest).length c x.seq r.world (hs.below r.below) rfl (by omega))
  rw [idx_head _ _ _ (by simp)] at RF
  have S1 := Lib.hid hs
  have K1 := Lib.hid k1
  have e0 : ∀ r : BW w.heap.size w, r.world.cell? ⟨g, 2, none⟩ = some (.slice A (x :: rest).length c) := fun r => Blk.cell (Blk.below K1.out r.below (Blk.lt K1.out)) 2
  have e1 : ∀ r : BW w.heap.size w, r.world.cell? ⟨g, 3, none⟩ = some (.int .u64 x.seq) := fun r => Blk.cell (Blk.below K1.out r.below (Blk.lt K1.out)) 3
  clear h k1 hs
  go_enter Try.func16, Try.ntmps16
  go_wp2_with fail
  refine wp_region_below_lit w.heap.size (by kernel_rfl) (by kernel_rfl) ?_
  try (rw [put_none])
  repeat (show wpQuiet _ _ _ _ (_ :: _) _; go_big_quiet_step ((go_at_call 21; exact Calls.bw (Nat.le_refl _) (RF.out _))))
  refine wpQuiet_nil ?_
  intro _ hw'
  obtain ⟨r, rfl⟩ := hw'
  have S2 := Lib.hid (S1.out.below r.below)
  have K2 := Lib.hid (Blk.below K1.out r.below (Blk.lt K1.out))
  have B2 := Lib.hid r.below
  clear e0 e1 RF S1 K1
  obtain ⟨hok, hat⟩ := S2.out
  obtain ⟨gp, hA, hgp, hrow⟩ := hat 0 (by simp)
  subst hA
  have e2 := Blk.cell K2.out 2
  have e3 : r.world.cell? ⟨gp, 1, none⟩ = some (.slice x.A x.n x.c) := by
    have := hrow 1 (.slice x.A x.n x.c) (by simp [CX.vs])
    simpa using this
  have hx := hok x (by simp)
  have hxn := hx.n
  have hrd := Lib.hid (slT_rd hx.sl)
  have hb1 := hx.len
  simp at e2
  clear hok hat hrow hx
  go_wp2_with fail
  refine Calls.mono (clone_any x.A x.c x.bs r.world hrd.out (by omega)) ?_
  rintro e w3 ⟨A3, n3, c3, rfl, o3, b3⟩
  obtain rfl := o3.len
  have O3 := Lib.hid (o3.mono B2.out.size)
  have B3 := Lib.hid (B2.out.trans (b3.mono B2.out.size))
  clear o3 b3 e2 e3
  go_wp2_with fail
  exact bodyPost_ret (results_tmp2 rfl _ _ _) rfl ⟨_, _, rfl, O3.out, B3.out⟩
theorem one30z : ∀ u ∈ ([.int .u64 0, .int .u64 0, .int .u64 0, .int .u64 0, .int .u64 0, .int .u64 0, .bool false, .slice none 0 0, .slice none 0 0, .int .u8 0, .int .u8 0, .int .u8 0, .int .u8 0, .int .u8 0, .int .u8 0, .int .u8 0, .int .u8 0, .int .u8 0, .int .u8 0, .int .u8 0, .int .u8 0, .int .u8 0, .int .u8 0, .int .u8 0, .int .u8 0, .slice none 0 0, .int .u64 0, .int .u64 0, .int .u64 0, .int .u64 0] : List Value), u.oneCell' = true := by
  intro u hu
  simp only [List.mem_cons, List.not_mem_nil, or_false] at hu
  rcases hu with rfl | rfl | rfl | rfl | rfl | rfl | rfl | rfl | rfl | rfl | rfl | rfl | rfl | rfl | rfl | rfl | rfl | rfl | rfl | rfl | rfl | rfl | rfl | rfl | rfl | rfl | rfl | rfl | rfl | rfl <;> rfl
set_option maxRecDepth 100000 in
set_option maxHeartbeats 4000000 in
theorem issue_full (B g n co : Nat) (Ao : Option Addr) (vp : Value) (s : IS) (t lim : Int) (Ac : Option Addr) (nc cc : Nat) (bs : List Int) (w : World) (h : IdR B g w (.slice Ao n co) vp s) (hln : s.own.length = n) (l1 : n ≤ 900) (hc : Rd w.heap.size .u8 w Ac bs) (hcn : bs.length = nc) (hcb : Byt bs) (hn1 : 1 ≤ nc) (hn2 : nc ≤ 20)
    (hk : idx (fun x => decide (x.bs = bs)) s.own = -1) (hlim : lim ≤ (n : Int)) :
    Calls Try.prog 6 #[.pointer (some ⟨g, 0, none⟩), .int .u64 lim, .slice Ac nc cc, .agg #[.int .u8 t, .int .u8 0, .int .u8 0, .int .u8 0, .int .u8 0, .int .u8 0, .int .u8 0, .int .u8 0, .int .u8 0, .int .u8 0, .int .u8 0, .int .u8 0, .int .u8 0, .int .u8 0, .int .u8 0, .int .u8 0]] w fun e w' => e = .returned (.tuple #[.agg #[.int .u64 0, .int .u64 0, .int .u64 0, .int .u64 0, .int .u64 0, .int .u64 0, .bool false, .slice none 0 0, .slice none 0 0, .int .u8 0, .int .u8 0, .int .u8 0, .int .u8 0, .int .u8 0, .int .u8 0, .int .u8 0, .int .u8 0, .int .u8 0, .int .u8 0, .int .u8 0, .int .u8 0, .int .u8 0, .int .u8 0, .int .u8 0, .int .u8 0, .slice none 0 0, .int .u64 0, .int .u64 0, .int .u64 0, .int .u64 0], .int .i64 7]) ∧ Below w.heap.size w w' := by
  have b1 := (Below.refl w.heap.size w).alloc (Nat.le_refl _) (.cells #[.int .u8 t, .int .u8 0, .int .u8 0, .int .u8 0, .int .u8 0, .int .u8 0, .int .u8 0, .int .u8 0, .int .u8 0, .int .u8 0, .int .u8 0, .int .u8 0, .int .u8 0, .int .u8 0, .int .u8 0, .int .u8 0] 30)
  have b2 : Below w.heap.size w ((w.alloc (.cells #[.int .u8 t, .int .u8 0, .int .u8 0, .int .u8 0, .int .u8 0, .int .u8 0, .int .u8 0, .int .u8 0, .int .u8 0, .int .u8 0, .int .u8 0, .int .u8 0, .int .u8 0, .int .u8 0, .int .u8 0, .int .u8 0] 30)).alloc (.cells #[.int .u64 0, .int .u64 0, .int .u64 0, .int .u64 0, .int .u64 0, .int .u64 0, .bool false, .slice none 0 0, .slice none 0 0, .int .u8 0, .int .u8 0, .int .u8 0, .int .u8 0, .int .u8 0, .int .u8 0, .int .u8 0, .int .u8 0, .int .u8 0, .int .u8 0, .int .u8 0, .int .u8 0, .int .u8 0, .int .u8 0, .int .u8 0, .int .u8 0, .slice none 0 0, .int .u64 0, .int .u64 0, .int .u64 0, .int .u64 0] 34)) := b1.alloc b1.size _
  have F2 : Hid (Blk ((w.alloc (.cells #[.int .u8 t, .int .u8 0, .int .u8 0, .int .u8 0, .int .u8 0, .int .u8 0, .int .u8 0, .int .u8 0, .int .u8 0, .int .u8 0, .int .u8 0, .int .u8 0, .int .u8 0, .int .u8 0, .int .u8 0, .int .u8 0] 30)).alloc (.cells #[.int .u64 0, .int .u64 0, .int .u64 0, .int .u64 0, .int .u64 0, .int .u64 0, .bool false, .slice none 0 0, .slice none 0 0, .int .u8 0, .int .u8 0, .int .u8 0, .int .u8 0, .int .u8 0, .int .u8 0, .int .u8 0, .int .u8 0, .int .u8 0, .int .u8 0, .int .u8 0, .int .u8 0, .int .u8 0, .int .u8 0, .int .u8 0, .int .u8 0, .slice none 0 0, .int .u64 0, .int .u64 0, .int .u64 0, .int .u64 0] 34)) (w.heap.size + 1) 34 #[.int .u64 0, .int .u64 0, .int .u64 0, .int .u64 0, .int .u64 0, .int .u64 0, .bool false, .slice none 0 0, .slice none 0 0, .int .u8 0, .int .u8 0, .int .u8 0, .int .u8 0, .int .u8 0, .int .u8 0, .int .u8 0, .int .u8 0, .int .u8 0, .int .u8 0, .int .u8 0, .int .u8 0, .int .u8 0, .int .u8 0, .int .u8 0, .int .u8 0, .slice none 0 0, .int .u64 0, .int .u64 0, .int .u64 0, .int .u64 0]) := Lib.hid (blk_new_at (by simp))
  have I2 := Lib.hid (h.below b2)
  have X2 := Lib.hid ((hc.below b2 (Nat.le_refl _)).mono b2.size)
  have B2 := Lib.hid b2
  have HLN := Lib.hid hln
  have HK := Lib.hid hk
  clear h hc b1 b2 hln hk
  go_enter Try.func6, Try.ntmps6
  go_wp2_with fail
  generalize (w.alloc (.cells #[.int .u8 t, .int .u8 0, .int .u8 0, .int .u8 0, .int .u8 0, .int .u8 0, .int .u8 0, .int .u8 0, .int .u8 0, .int .u8 0, .int .u8 0, .int .u8 0, .int .u8 0, .int .u8 0, .int .u8 0, .int .u8 0] 30)).alloc (.cells #[.int .u64 0, .int .u64 0, .int .u64 0, .int .u64 0, .int .u64 0, .int .u64 0, .bool false, .slice none 0 0, .slice none 0 0, .int .u8 0, .int .u8 0, .int .u8 0, .int .u8 0, .int .u8 0, .int .u8 0, .int .u8 0, .int .u8 0, .int .u8 0, .int .u8 0, .int .u8 0, .int .u8 0, .int .u8 0, .int .u8 0, .int .u8 0, .int .u8 0, .slice none 0 0, .int .u64 0, .int .u64 0, .int .u64 0, .int .u64 0] 34) = w2 at *
  refine Calls.mono (may_any Ac nc cc w2 (by omega)) ?_
  rw [decide_eq_true (⟨hn1, hn2⟩ : 1 ≤ nc ∧ nc ≤ 20)]
  rintro e wk ⟨rfl, rfl⟩
  go_wp2_with fail
  have RO := owns_any B g _ vp s Ac nc cc bs w2 I2.out (by rw [HLN.out]; omega) X2.out hcn hcb
  rw [HK.out] at RO
  refine Calls.mono RO ?_
  clear RO
  rintro e w3 ⟨rfl, b3⟩
  have F3 := Lib.hid (Blk.below F2.out b3 (Blk.lt F2.out))
  have I3 := Lib.hid (I2.out.below b3)
  have B3 := Lib.hid (B2.out.trans (b3.mono B2.out.size))
  have HW : Hid (w.heap.size + 1 = w.heap.size + 1 ∧ B = B) := Lib.hid ⟨rfl, rfl⟩
  clear b3 F2 I2 X2 B2 HW
  obtain ⟨vr, k3, u3⟩ := I3.out.blk
  obtain ⟨c0, c1, c2, c3, c4, c5⟩ := id_cells k3
  have q1 : decide (lim ≤ (n : Int)) = true := decide_eq_true (by omega)
  have q0 : decide ((0 : Int) ≤ -1) = false := by decide
  clear k3 u3
  go_wp2_with ((with_reducible (show wpList _ _ _ (⟨none, .store 34 _ _, _, _, _, _⟩ :: _) _ _)); go_loud (refine wpList_storeBlk (o := ⟨none, .store 34 _ _, _, _, _, _⟩) (g := w.heap.size + 1) (t := 34) (vs := [.int .u64 0, .int .u64 0, .int .u64 0, .int .u64 0, .int .u64 0, .int .u64 0, .bool false, .slice none 0 0, .slice none 0 0, .int .u8 0, .int .u8 0, .int .u8 0, .int .u8 0, .int .u8 0, .int .u8 0, .int .u8 0, .int .u8 0, .int .u8 0, .int .u8 0, .int .u8 0, .int .u8 0, .int .u8 0, .int .u8 0, .int .u8 0, .int .u8 0, .slice none 0 0, .int .u64 0, .int .u64 0, .int .u64 0, .int .u64 0]) rfl _ _ rfl rfl rfl F3.out rfl one30z sizeF34 ?_); intro w14 z14 g14)
  refine bodyPost_ret (results_fr rfl rfl z14 rfl) rfl ⟨rfl, ?_⟩
  exact B3.out.trans (below_of_only g14 (by omega) B3.out.size)
theorem issue_nil (t lim : Int) (Ac : Option Addr) (nc cc : Nat) (w : World) :
    Calls Try.prog 6 #[.pointer none, .int .u64 lim, .slice Ac nc cc, .agg #[.int .u8 t, .int .u8 0, .int .u8 0, .int .u8 0, .int .u8 0, .int .u8 0, .int .u8 0, .int .u8 0, .int .u8 0, .int .u8 0, .int .u8 0, .int .u8 0, .int .u8 0, .int .u8 0, .int .u8 0, .int .u8 0]] w fun e w' => e = .returned (.tuple #[.agg #[.int .u64 0, .int .u64 0, .int .u64 0, .int .u64 0, .int .u64 0, .int .u64 0, .bool false, .slice none 0 0, .slice none 0 0, .int .u8 0, .int .u8 0, .int .u8 0, .int .u8 0, .int .u8 0, .int .u8 0, .int .u8 0, .int .u8 0, .int .u8 0, .int .u8 0, .int .u8 0, .int .u8 0, .int .u8 0, .int .u8 0, .int .u8 0, .int .u8 0, .slice none 0 0, .int .u64 0, .int .u64 0, .int .u64 0, .int .u64 0], .int .i64 1]) ∧ Below w.heap.size w w' := by
  have b1 := (Below.refl w.heap.size w).alloc (Nat.le_refl _) (.cells #[.int .u8 t, .int .u8 0, .int .u8 0, .int .u8 0, .int .u8 0, .int .u8 0, .int .u8 0, .int .u8 0, .int .u8 0, .int .u8 0, .int .u8 0, .int .u8 0, .int .u8 0, .int .u8 0, .int .u8 0, .int .u8 0] 30)
  have b2 : Below w.heap.size w ((w.alloc (.cells #[.int .u8 t, .int .u8 0, .int .u8 0, .int .u8 0, .int .u8 0, .int .u8 0, .int .u8 0, .int .u8 0, .int .u8 0, .int .u8 0, .int .u8 0, .int .u8 0, .int .u8 0, .int .u8 0, .int .u8 0, .int .u8 0] 30)).alloc (.cells #[.int .u64 0, .int .u64 0, .int .u64 0, .int .u64 0, .int .u64 0, .int .u64 0, .bool false, .slice none 0 0, .slice none 0 0, .int .u8 0, .int .u8 0, .int .u8 0, .int .u8 0, .int .u8 0, .int .u8 0, .int .u8 0, .int .u8 0, .int .u8 0, .int .u8 0, .int .u8 0, .int .u8 0, .int .u8 0, .int .u8 0, .int .u8 0, .int .u8 0, .slice none 0 0, .int .u64 0, .int .u64 0, .int .u64 0, .int .u64 0] 34)) := b1.alloc b1.size _
  have F2 : Hid (Blk ((w.alloc (.cells #[.int .u8 t, .int .u8 0, .int .u8 0, .int .u8 0, .int .u8 0, .int .u8 0, .int .u8 0, .int .u8 0, .int .u8 0, .int .u8 0, .int .u8 0, .int .u8 0, .int .u8 0, .int .u8 0, .int .u8 0, .int .u8 0] 30)).alloc (.cells #[.int .u64 0, .int .u64 0, .int .u64 0, .int .u64 0, .int .u64 0, .int .u64 0, .bool false, .slice none 0 0, .slice none 0 0, .int .u8 0, .int .u8 0, .int .u8 0, .int .u8 0, .int .u8 0, .int .u8 0, .int .u8 0, .int .u8 0, .int .u8 0, .int .u8 0, .int .u8 0, .int .u8 0, .int .u8 0, .int .u8 0, .int .u8 0, .int .u8 0, .slice none 0 0, .int .u64 0, .int .u64 0, .int .u64 0, .int .u64 0] 34)) (w.heap.size + 1) 34 #[.int .u64 0, .int .u64 0, .int .u64 0, .int .u64 0, .int .u64 0, .int .u64 0, .bool false, .slice none 0 0, .slice none 0 0, .int .u8 0, .int .u8 0, .int .u8 0, .int .u8 0, .int .u8 0, .int .u8 0, .int .u8 0, .int .u8 0, .int .u8 0, .int .u8 0, .int .u8 0, .int .u8 0, .int .u8 0, .int .u8 0, .int .u8 0, .int .u8 0, .slice none 0 0, .int .u64 0, .int .u64 0, .int .u64 0, .int .u64 0]) := Lib.hid (blk_new_at (by simp))
  have B2 := Lib.hid b2
  clear b1 b2
  go_enter Try.func6, Try.ntmps6
  go_wp2_with ((with_reducible (show wpList _ _ _ (⟨none, .store 34 _ _, _, _, _, _⟩ :: _) _ _)); go_loud (refine wpList_storeBlk (o := ⟨none, .store 34 _ _, _, _, _, _⟩) (g := w.heap.size + 1) (t := 34) (vs := [.int .u64 0, .int .u64 0, .int .u64 0, .int .u64 0, .int .u64 0, .int .u64 0, .bool false, .slice none 0 0, .slice none 0 0, .int .u8 0, .int .u8 0, .int .u8 0, .int .u8 0, .int .u8 0, .int .u8 0, .int .u8 0, .int .u8 0, .int .u8 0, .int .u8 0, .int .u8 0, .int .u8 0, .int .u8 0, .int .u8 0, .int .u8 0, .int .u8 0, .slice none 0 0, .int .u64 0, .int .u64 0, .int .u64 0, .int .u64 0]) rfl _ _ rfl rfl rfl F2.out rfl one30z sizeF34 ?_); intro w14 z14 g14)
  refine bodyPost_ret (results_fr rfl rfl z14 rfl) rfl ⟨rfl, ?_⟩
  exact B2.out.trans (below_of_only g14 (by omega) B2.out.size)
set_option maxRecDepth 100000 in
set_option maxHeartbeats 4000000 in
theorem learn_nil (lim : Int) (cs : Array Value) (w : World) : Calls Try.prog 7 #[.pointer none, .agg cs, .int .u64 lim] w fun e w' => e = .returned (.int .i64 1) ∧ Below w.heap.size w w' := by
  have HB := Lib.hid ((Below.refl w.heap.size w).alloc (Nat.le_refl _) (.cells cs 34))
  go_enter Try.func7, Try.ntmps7
  go_wp2_with fail
  go_ret
  exact ⟨rfl, HB.out⟩
theorem first_nil (Ac : Option Addr) (nc cc : Nat) (cs : Array Value) (w : World) : Calls Try.prog 17 #[.pointer none, .slice Ac nc cc, .agg cs] w fun e w' => e = .returned (.int .i64 1) ∧ Below w.heap.size w w' := by
  have HB := Lib.hid ((Below.refl w.heap.size w).alloc (Nat.le_refl _) (.cells cs 30))
  go_enter Try.func17, Try.ntmps17
  go_wp2_with fail
  go_ret
  exact ⟨rfl, HB.out⟩
theorem resets_nil (cs : Array Value) (w : World) : Calls Try.prog 18 #[.pointer none, .agg cs] w fun e w' => e = .returned (.bool false) ∧ Below w.heap.size w w' := by
  have HB := Lib.hid ((Below.refl w.heap.size w).alloc (Nat.le_refl _) (.cells cs 30))
  go_enter Try.func18, Try.ntmps18
  go_wp2_with fail
  go_ret
  exact ⟨rfl, HB.out⟩
end Go.Proofs.Ytghjlndkleclfaa
