/- Contracts of the methods of mtu.Search (layer 36), Came. Conditions: as each theorem states them. -/
import Derived.Test.YtfhclafkmaojoaaM1
namespace Go.Proofs.Ytfhclafkmaojoaa
open Go.RowKit
/-- Came -/
def cameS (s : MS) (n : Int) : MS :=
  { size := if s.size < n then n else s.size, bound := if s.size < n then (if s.bound ≤ n then n else s.bound) else s.bound, probe := if n = s.probe then 0 else s.probe,
    tries := if s.size < n then 0 else s.tries, black := if 1200 < n then 0 else s.black }
set_option maxHeartbeats 8000000 in
theorem came_yes (b : Nat) (s : MS) (n : Int) (w : World) (Hs : MSt b w s) (h1 : 1 ≤ n) (h2 : n ≤ 65527) :
    Calls Try.prog 13 #[.pointer (some ⟨b, 0, none⟩), .int .i64 n] w (MPost b (.int .i64 0) (cameS s n) w) := by
  obtain ⟨c0, c1, c2, c3, c4, f0, f1, f2, f3, f4⟩ := Hs.facts
  have hd : decide (1 ≤ n ∧ n ≤ 65527) = true := by simp; omega
  by_cases g1 : 1200 < n <;> rcases beq_ways n s.probe with ⟨e2, G2⟩ | ⟨e2, G2⟩ <;> by_cases g3 : s.size < n
  all_goals
    go_enter Try.func13, Try.ntmps13
    go_wp2_with (go_at_call 18; refine (may_any _ _ _).mono ?_; rintro e w' ⟨rfl, rfl⟩)
  all_goals go_ret
  all_goals refine ⟨rfl, ?_, ?_⟩
  all_goals first | (repeat' (first | with_reducible exact World.grownBy.refl _ _ | with_reducible apply only_drewN | with_reducible apply only_drew | with_reducible apply only_alloc | (with_reducible refine only_setCell ?_ (.inl rfl) _))) | skip
  all_goals
    unfold MSt at *
    apply Blk.cast
    (repeat (first | with_reducible exact Hs | with_reducible apply Blk.set_ | with_reducible apply Blk.drewN))
  all_goals
    have G2 := G2.out
    simp [MS.cells, cameS]
  all_goals (repeat' constructor) <;> intros <;> omega

theorem came_no (b : Nat) (s : MS) (n : Int) (w : World) (Hs : MSt b w s) (h1 : n < 1 ∨ 65527 < n) :
    Calls Try.prog 13 #[.pointer (some ⟨b, 0, none⟩), .int .i64 n] w (MPost b (.int .i64 2) s w) := by
  have hd : decide (1 ≤ n ∧ n ≤ 65527) = false := by simp; omega
  go_enter Try.func13, Try.ntmps13
  go_wp2_with (go_at_call 18; refine (may_any _ _ _).mono ?_; rintro e w' ⟨rfl, rfl⟩)
  go_ret
  exact ⟨rfl, Hs, World.grownBy.refl _ _⟩
end Go.Proofs.Ytfhclafkmaojoaa
