/- Contracts of the methods of mtu.Search (layer 36). Conditions: as each theorem states them. -/
import Derived.Test.YtfhclafkmaojoaaRows
import Derived.Test.YtfhclafkmaojoaaW
namespace Go.Proofs.Ytfhclafkmaojoaa
open Go.RowKit

/-- a search's five numbers -/
structure MS where
  size : Int
  bound : Int
  probe : Int
  tries : Int
  black : Int

def MS.cells (s : MS) : Array Value := #[.int .i64 s.size, .int .i64 s.bound, .int .i64 s.probe, .int .i64 s.tries, .int .i64 s.black]
def MSt (b : Nat) (w : World) (s : MS) : Prop := Blk w b 43 s.cells
/-- what keeps sums from wrapping -/
def MS.Fit (s : MS) : Prop := 0 ≤ s.size ∧ s.size ≤ 70000 ∧ 0 ≤ s.bound ∧ s.bound ≤ 70000 ∧ 0 ≤ s.probe ∧ s.probe ≤ 70000 ∧ 0 ≤ s.tries ∧ s.tries ≤ 70000 ∧ 0 ≤ s.black ∧ s.black ≤ 70000

theorem MSt.facts {b : Nat} {w : World} {s : MS} (h : MSt b w s) : w.cell? ⟨b, 0, none⟩ = some (.int .i64 s.size) ∧ w.cell? ⟨b, 1, none⟩ = some (.int .i64 s.bound) ∧ w.cell? ⟨b, 2, none⟩ = some (.int .i64 s.probe) ∧ w.cell? ⟨b, 3, none⟩ = some (.int .i64 s.tries) ∧ w.cell? ⟨b, 4, none⟩ = some (.int .i64 s.black) ∧
    w.frozen? ⟨b, 0, none⟩ = false ∧ w.frozen? ⟨b, 1, none⟩ = false ∧ w.frozen? ⟨b, 2, none⟩ = false ∧ w.frozen? ⟨b, 3, none⟩ = false ∧ w.frozen? ⟨b, 4, none⟩ = false :=
  ⟨Blk.cell h 0, Blk.cell h 1, Blk.cell h 2, Blk.cell h 3, Blk.cell h 4, Blk.frozen h 0, Blk.frozen h 1, Blk.frozen h 2, Blk.frozen h 3, Blk.frozen h 4⟩

def MPost (b : Nat) (r : Value) (s' : MS) (w : World) (e : Ending) (w' : World) : Prop := e = .returned r ∧ MSt b w' s' ∧ w.grownBy w' (some b)

theorem may_any (n from_ : Int) (w : World) :
    Calls Try.prog 18 #[.int .i64 n, .int .i64 from_] w fun e w' => e = .returned (.bool (decide (from_ ≤ n ∧ n ≤ 65527))) ∧ w = w' := by
  by_cases h1 : from_ ≤ n
  · by_cases h2 : n ≤ 65527
    · go_enter Try.func18, Try.ntmps18
      go_wp2
      go_ret
      exact ⟨ret_bool (by simp [h1, h2]), rfl⟩
    · go_enter Try.func18, Try.ntmps18
      go_wp2
      go_ret
      exact ⟨ret_bool (by simp; omega), rfl⟩
  · have h1' : decide (from_ ≤ n) = false := by simp [h1]
    go_enter Try.func18, Try.ntmps18
    go_wp2
    go_ret
    exact ⟨ret_bool (by simp; done), rfl⟩

theorem done_any (b : Nat) (s : MS) (w : World) (h : MSt b w s) (hf : s.Fit) :
    Calls Try.prog 10 #[.pointer (some ⟨b, 0, none⟩)] w fun e w' => e = .returned (.bool (decide (s.bound - s.size < 16))) ∧ ∃ n, w' = w.drewN n := by
  obtain ⟨c0, c1, c2, c3, c4, f0, f1, f2, f3, f4⟩ := h.facts
  obtain ⟨p1, p2, p3, p4, p5, p6, p7, p8, p9, p10⟩ := hf
  go_enter Try.func10, Try.ntmps10
  go_wp2
  go_quiet (fail)
  go_wp2
  go_ret
  exact ⟨rfl, _, rfl⟩

theorem size_any (b : Nat) (s : MS) (w : World) (h : MSt b w s) :
    Calls Try.prog 11 #[.pointer (some ⟨b, 0, none⟩)] w fun e w' => e = .returned (.int .i64 s.size) ∧ w = w' := by
  obtain ⟨c0, c1, c2, c3, c4, f0, f1, f2, f3, f4⟩ := h.facts
  go_enter Try.func11, Try.ntmps11
  go_wp2
  go_ret
  exact ⟨rfl, rfl⟩

theorem new_yes (m : Int) (w : World) (h1 : 1200 ≤ m) (h2 : m ≤ 65527) :
    Calls Try.prog 8 #[.int .i64 m] w fun e w' => e = .returned (.tuple #[.pointer (some ⟨w.heap.size, 0, none⟩), .int .i64 0]) ∧ MSt w.heap.size w' ⟨1200, m, 0, 0, 0⟩ ∧ w'.heap.size = w.heap.size + 1 ∧ Below w.heap.size w w' := by
  go_enter Try.func8, Try.ntmps8
  go_wp2_with (go_at_call 18; refine (may_any _ _ _).mono ?_; rintro e w' ⟨rfl, rfl⟩)
  go_ret2
  exact ⟨rfl, Blk.new _ _ _, by simp, (Below.refl _ _).alloc (Nat.le_refl _) _⟩
theorem new_no (m : Int) (w : World) (h : m < 1200 ∨ 65527 < m) :
    Calls Try.prog 8 #[.int .i64 m] w fun e w' => e = .returned (.tuple #[.pointer none, .int .i64 2]) ∧ w = w' := by
  have hd : decide (1200 ≤ m ∧ m ≤ 65527) = false := by simp; omega
  go_enter Try.func8, Try.ntmps8
  go_wp2_with (go_at_call 18; refine (may_any _ _ _).mono ?_; rintro e w' ⟨rfl, rfl⟩)
  go_ret2
  exact ⟨rfl, rfl⟩

/-- Probe -/
theorem probe_yes (b : Nat) (s : MS) (w : World) (h : MSt b w s) (hf : s.Fit) (h1 : 16 ≤ s.bound - s.size) (h2 : s.probe = 0) :
    Calls Try.prog 12 #[.pointer (some ⟨b, 0, none⟩)] w
      (MPost b (.tuple #[.int .i64 ((s.size + s.bound + 1) / 2), .int .i64 0]) { s with probe := (s.size + s.bound + 1) / 2 } w) := by
  obtain ⟨c0, c1, c2, c3, c4, f0, f1, f2, f3, f4⟩ := h.facts
  have hf' := hf
  obtain ⟨p1, p2, p3, p4, p5, p6, p7, p8, p9, p10⟩ := hf'
  rw [h2] at c2 p5 p6
  have hd : decide (s.bound - s.size < 16) = false := by simp; omega
  go_enter Try.func12, Try.ntmps12
  go_wp2_with fail
  refine (done_any b s _ h hf).mono ?_
  rintro e w' ⟨rfl, k, rfl⟩
  go_wp2_with fail
  go_region
  go_wp2_with fail
  go_ret2
  refine ⟨rfl, ?_, ?_⟩
  · have := Blk.set_ h 2 (.int .i64 ((s.size + s.bound + 1) / 2))
    simp [MS.cells] at this
    exact this
  · (repeat' (first | with_reducible exact World.grownBy.refl _ _ | with_reducible apply only_drewN | with_reducible apply only_drew | with_reducible apply only_alloc | (with_reducible refine only_setCell ?_ (.inl rfl) _)))
theorem probe_no (b : Nat) (s : MS) (w : World) (h : MSt b w s) (hf : s.Fit) (h1 : s.bound - s.size < 16 ∨ 0 < s.probe) :
    Calls Try.prog 12 #[.pointer (some ⟨b, 0, none⟩)] w
      (MPost b (.tuple #[.int .i64 0, .int .i64 6]) s w) := by
  obtain ⟨c0, c1, c2, c3, c4, f0, f1, f2, f3, f4⟩ := h.facts
  by_cases hd : s.bound - s.size < 16
  · have hd' : decide (s.bound - s.size < 16) = true := by simp [hd]
    go_enter Try.func12, Try.ntmps12
    go_wp2_with fail
    refine (done_any b s _ h hf).mono ?_
    rintro e w' ⟨rfl, k, rfl⟩
    go_wp2_with fail
    go_ret2
    exact ⟨rfl, h, only_drewN (World.grownBy.refl _ _) _⟩
  · have hd' : decide (s.bound - s.size < 16) = false := by simp; omega
    have hp : 0 < s.probe := by omega
    clear h1
    go_enter Try.func12, Try.ntmps12
    go_wp2_with fail
    refine (done_any b s _ h hf).mono ?_
    rintro e w' ⟨rfl, k, rfl⟩
    go_wp2_with fail
    go_ret2
    exact ⟨rfl, h, only_drewN (World.grownBy.refl _ _) _⟩

end Go.Proofs.Ytfhclafkmaojoaa
