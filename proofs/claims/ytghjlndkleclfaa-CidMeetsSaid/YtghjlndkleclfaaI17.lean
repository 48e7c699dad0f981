/- Layer 20: contract of Retired. Conditions: as each theorem states them. -/
import Derived.Test.YtghjlndkleclfaaI14
namespace Go.Proofs.Ytghjlndkleclfaa
open Go.RowKit
set_option maxRecDepth 100000 in
set_option maxHeartbeats 4000000 in
theorem retired_one (B g go co m : Nat) (vp : Value) (s : IS) (x : CX) (rest : List CX) (w : World) (h : IdV B g w (.slice (some ⟨go, 0, none⟩) (m + 1) co) vp s) (hp : s.own = x :: rest) (hm : rest.length = m) (hn : x.seq < s.nx) (l1 : m ≤ 900) :
    Calls Try.prog 11 #[.pointer (some ⟨g, 0, none⟩), .int .u64 x.seq] w fun e w' => e = .returned (.int .i64 0) ∧ IdV B g w' (.slice (some ⟨go, 0, none⟩) m co) vp ⟨rest, s.nx, s.peer, s.us, s.pr, s.ret⟩ ∧ ∃ w1, w.grownBy w1 (some go) ∧ w1.grownBy w' (some g) := by
  obtain ⟨own, nx, peer, us, pr, ret⟩ := s
  simp only at hp hn
  subst hp
  obtain ⟨vr, k1, k2⟩ := h.blk
  have hl : (x :: rest).length = m + 1 := by rw [← hm]; rfl
  have RF := Lib.hid (find_any (x :: rest) (some ⟨go, 0, none⟩) (m + 1) co x.seq w h.own.s hl (by omega))
  have e0 : idx (fun y => y.seq == x.seq) (x :: rest) = 0 := idx_head _ _ _ (by simp)
  rw [e0] at RF
  have I1 := Lib.hid h
  have q1 : decide (nx ≤ x.seq) = false := decide_eq_false (by omega)
  obtain ⟨c0, c1, c2, c3, c4, c5⟩ := id_cells k1
  clear h e0
  go_enter Try.func11, Try.ntmps11
  go_wp2_with fail
  refine Calls.mono RF.out ?_
  rintro e w2 ⟨rfl, b2⟩
  have I2 := Lib.hid (I1.out.below b2)
  have B2 := Lib.hid b2
  clear b2 RF c0 c1 c2 c3 c4 c5 q1 I1 k1 k2
  obtain ⟨vr2, k2, u2⟩ := I2.out.blk
  obtain ⟨c0, c1, c2, c3, c4, c5⟩ := id_cells k2
  have K2 := Lib.hid k2
  have U2 := Lib.hid u2
  have O2 := Lib.hid I2.out.own
  clear k2 u2
  go_wp2_with fail
  have RD : Calls Try.prog 31 #[.slice (some ⟨go, 0, none⟩) (m + 1) co, .int .i64 0, .int .i64 1] w2 _ := delete_any B go (m + 1) co 0 (x :: rest) w2 O2.out (by omega) (by omega)
  simp only [List.eraseIdx_cons_zero, Nat.add_sub_cancel] at RD
  refine Calls.mono RD ?_
  clear RD
  rintro e w3 ⟨rfl, p3, g3⟩
  obtain ⟨cur, hbp, _⟩ := O2.out.blk
  have P3 := Lib.hid p3
  have G3 := Lib.hid g3
  have K3 := Lib.hid (Blk.grown K2.out g3 (by intro q; injection q with q; exact Blk.ne_ K2.out hbp (by decide) q))
  have U3 := Lib.hid (U2.out.grown g3 (hbp.notT (by decide)))
  have E3 := Lib.hid (I2.out.peer.grown g3 (fun q => I2.out.ap go rfl q) (hbp.notT (by decide)))
  clear c0 c1 c2 c3 c4 c5 p3 g3 hbp
  obtain ⟨c0, c1, c2, c3, c4, c5⟩ := id_cells K3.out
  have f0 := Blk.frozen K3.out 0
  go_wp2_with fail
  go_ret
  have G4 : w3.grownBy (w3.setCell ⟨g, 0, none⟩ (.slice (some ⟨go, 0, none⟩) m co)) (some g) := set_only
  have hk := K3.out.notT (e := 47) (by decide)
  have hk8 := K3.out.notT (e := 5) (by decide)
  have hk64 := K3.out.notT (e := 27) (by decide)
  refine ⟨rfl, ⟨⟨vr2, Blk.cast (Blk.set_ K3.out 0 _) (by simp), U3.out.grown G4 hk64⟩, P3.out.grown G4 (row_ne P3.out hk) hk8, E3.out.grown G4 (row_ne E3.out hk) hk8, I2.out.ap⟩, w3, grown_cat_ (only_of_below B2.out (some go)) G3.out, G4⟩
theorem retired_nil (q : Int) (w : World) : Calls Try.prog 11 #[.pointer none, .int .u64 q] w fun e w' => e = .returned (.int .i64 1) ∧ w = w' := by
  go_enter Try.func11, Try.ntmps11
  go_wp2_with fail
  go_ret
  exact ⟨rfl, rfl⟩
theorem change_nil (w : World) : Calls Try.prog 9 #[.pointer none] w fun e w' => e = .returned (.int .i64 1) ∧ Below w.heap.size w w' := by
  have HB := Lib.hid ((Below.refl w.heap.size w).alloc (Nat.le_refl _) (.cells #[.pointer none] 24))
  go_enter Try.func9, Try.ntmps9
  go_wp2_with fail
  go_ret
  exact ⟨rfl, HB.out⟩
theorem tell_nil (w : World) : Calls Try.prog 10 #[.pointer none] w fun e w' => e = .returned (.slice none 0 0) ∧ w = w' := by
  go_enter Try.func10, Try.ntmps10
  go_wp2_with fail
  go_ret
  exact ⟨rfl, rfl⟩
theorem current_nil (w : World) : Calls Try.prog 16 #[.pointer none] w fun e w' => e = .returned (.tuple #[.slice none 0 0, .bool false]) ∧ w = w' := by
  go_enter Try.func16, Try.ntmps16
  go_wp2_with fail
  exact bodyPost_ret (results_tmp2 rfl _ _ _) rfl ⟨rfl, rfl⟩
end Go.Proofs.Ytghjlndkleclfaa
