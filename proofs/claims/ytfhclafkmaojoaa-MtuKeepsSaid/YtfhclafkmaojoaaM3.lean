/- Contracts of the methods of mtu.Search (layer 36), one and Lost. Conditions: as each theorem states them. -/
import Derived.Test.YtfhclafkmaojoaaM1
namespace Go.Proofs.Ytfhclafkmaojoaa
open Go.RowKit

/-- a packet lost -/
def oneS (s : MS) (n : Int) : MS :=
  if n = s.probe then (if s.tries + 1 = 3 then { s with probe := 0, bound := n - 1, tries := 0 } else { s with probe := 0, tries := s.tries + 1 })
  else if n ≤ 1200 ∨ s.size < n then s
  else if s.black + 1 = 6 then ⟨1200, n - 1, 0, 0, 0⟩ else { s with black := s.black + 1 }

set_option maxHeartbeats 4000000 in
theorem one_any (b : Nat) (s : MS) (n : Int) (w : World) (Hs : MSt b w s) (hf : s.Fit) (h1 : 1 ≤ n) (h2 : n ≤ 65527) :
    Calls Try.prog 19 #[.pointer (some ⟨b, 0, none⟩), .int .i64 n] w (MPost b (.tuple #[]) (oneS s n) w) := by
  obtain ⟨c0, c1, c2, c3, c4, f0, f1, f2, f3, f4⟩ := Hs.facts
  obtain ⟨p1, p2, p3, p4, p5, p6, p7, p8, p9, p10⟩ := hf
  rcases beq_ways n s.probe with ⟨e2, G2⟩ | ⟨e2, G2⟩
  · rcases beq_ways (s.tries + 1) 3 with ⟨e3, G3⟩ | ⟨e3, G3⟩
    · have HC := Lib.hid (show oneS s n = { s with probe := 0, bound := n - 1, tries := 0 } by unfold oneS; rw [if_pos G2.out, if_pos G3.out])
      go_enter Try.func19, Try.ntmps19
      go_wp2_with fail
      refine bodyPost_ret (results_none rfl _ _ _) rfl ⟨rfl, ?_, (by repeat' (first | with_reducible exact World.grownBy.refl _ _ | with_reducible apply only_drewN | with_reducible apply only_drew | with_reducible apply only_alloc | (with_reducible refine only_setCell ?_ (.inl rfl) _)))⟩
      rw [HC.out]
      unfold MSt at *
      apply Blk.cast
      · (repeat (first | with_reducible exact Hs | with_reducible apply Blk.set_ | with_reducible apply Blk.drewN))
      · simp [MS.cells]
    · have HC := Lib.hid (show oneS s n = { s with probe := 0, tries := s.tries + 1 } by unfold oneS; rw [if_pos G2.out, if_neg G3.out])
      go_enter Try.func19, Try.ntmps19
      go_wp2_with fail
      refine bodyPost_ret (results_none rfl _ _ _) rfl ⟨rfl, ?_, (by repeat' (first | with_reducible exact World.grownBy.refl _ _ | with_reducible apply only_drewN | with_reducible apply only_drew | with_reducible apply only_alloc | (with_reducible refine only_setCell ?_ (.inl rfl) _)))⟩
      rw [HC.out]
      unfold MSt at *
      apply Blk.cast
      · (repeat (first | with_reducible exact Hs | with_reducible apply Blk.set_ | with_reducible apply Blk.drewN))
      · simp [MS.cells]
  · by_cases g1 : n ≤ 1200 ∨ s.size < n
    · have HC := Lib.hid (show oneS s n = s by unfold oneS; rw [if_neg G2.out, if_pos g1])
      by_cases g2 : n ≤ 1200
      · clear g1
        go_enter Try.func19, Try.ntmps19
        go_wp2_with fail
        refine bodyPost_ret (results_none rfl _ _ _) rfl ⟨rfl, ?_, (by repeat' (first | with_reducible exact World.grownBy.refl _ _ | with_reducible apply only_drewN | with_reducible apply only_drew | with_reducible apply only_alloc | (with_reducible refine only_setCell ?_ (.inl rfl) _)))⟩
        rw [HC.out]
        exact Hs
      · have g3 : s.size < n := by omega
        have g2' : decide (n ≤ 1200) = false := by simp; omega
        clear g1
        go_enter Try.func19, Try.ntmps19
        go_wp2_with fail
        refine bodyPost_ret (results_none rfl _ _ _) rfl ⟨rfl, ?_, (by repeat' (first | with_reducible exact World.grownBy.refl _ _ | with_reducible apply only_drewN | with_reducible apply only_drew | with_reducible apply only_alloc | (with_reducible refine only_setCell ?_ (.inl rfl) _)))⟩
        rw [HC.out]
        exact Hs
    · have g2' : decide (n ≤ 1200) = false := by simp; omega
      have g3' : decide (s.size < n) = false := by simp; omega
      rcases beq_ways (s.black + 1) 6 with ⟨e3, G3⟩ | ⟨e3, G3⟩
      · have HC := Lib.hid (show oneS s n = ⟨1200, n - 1, 0, 0, 0⟩ by unfold oneS; rw [if_neg G2.out, if_neg g1, if_pos G3.out])
        clear g1
        go_enter Try.func19, Try.ntmps19
        go_wp2_with fail
        refine bodyPost_end (results_none rfl _ _ _) rfl ⟨rfl, ?_, (by repeat' (first | with_reducible exact World.grownBy.refl _ _ | with_reducible apply only_drewN | with_reducible apply only_drew | with_reducible apply only_alloc | (with_reducible refine only_setCell ?_ (.inl rfl) _)))⟩
        rw [HC.out]
        unfold MSt at *
        apply Blk.cast
        · (repeat (first | with_reducible exact Hs | with_reducible apply Blk.set_ | with_reducible apply Blk.drewN))
        · simp [MS.cells]
      · have HC := Lib.hid (show oneS s n = { s with black := s.black + 1 } by unfold oneS; rw [if_neg G2.out, if_neg g1, if_neg G3.out])
        clear g1
        go_enter Try.func19, Try.ntmps19
        go_wp2_with fail
        refine bodyPost_end (results_none rfl _ _ _) rfl ⟨rfl, ?_, (by repeat' (first | with_reducible exact World.grownBy.refl _ _ | with_reducible apply only_drewN | with_reducible apply only_drew | with_reducible apply only_alloc | (with_reducible refine only_setCell ?_ (.inl rfl) _)))⟩
        rw [HC.out]
        unfold MSt at *
        apply Blk.cast
        · (repeat (first | with_reducible exact Hs | with_reducible apply Blk.set_ | with_reducible apply Blk.drewN))
        · simp [MS.cells]
end Go.Proofs.Ytfhclafkmaojoaa
