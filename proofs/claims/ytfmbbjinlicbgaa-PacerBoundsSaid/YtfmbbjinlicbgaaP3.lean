/- Contracts of the methods of pacer.Pacer (layer 35): Rate, Next, those of a nil pacer, works, heavy. Conditions: as each theorem states them. -/
import Derived.Test.YtfmbbjinlicbgaaP2
namespace Go.Proofs.Ytfmbbjinlicbgaa
open Go.RowKit

set_option maxHeartbeats 1000000 in
theorem rate_yes (b : Nat) (p : PS) (now r : Int) (w : World) (Hs : PSt b w p) (ho : p.Ok) (h0 : 0 ≤ now) (h1 : now < 18446744073709551616) (hr1 : 1 ≤ r) (hr2 : r ≤ 1073741824) :
    Calls Try.prog 15 #[.pointer (some ⟨b, 0, none⟩), .int .u64 now, .int .u64 r] w (PPost b (.int .i64 0) { p.afterS now with rate := r } w) := by
  have hbl : b < w.heap.size := Blk.lt Hs
  have HA := Lib.hid (after_any b p now w Hs ho h0 h1)
  have hd : decide (1 ≤ r ∧ r ≤ 1073741824) = true := by simp; omega
  generalize p.afterS now = q at *
  have HS := Lib.hid Hs
  clear Hs ho
  go_enter Try.func15, Try.ntmps15
  go_wp2_with fail
  refine (rmay_any _ _).mono ?_
  rintro e w' ⟨rfl, rfl⟩
  go_wp2_with fail
  refine HA.out.mono ?_
  rintro e w1 ⟨rfl, hb1⟩
  have HB := Lib.hid hb1
  clear hb1
  have HSr := Lib.hid (Blk.below HS.out HB.out hbl)
  obtain ⟨d0, d1, d2, d3, k0, k1, k2, k3⟩ := PSt.facts (p := p) HSr.out
  unfold PS.cells
  go_wp2_with fail
  go_ret
  refine ⟨rfl, ?_, ?_⟩
  · unfold PSt
    apply Blk.cast
    · (repeat (first | with_reducible exact HSr.out | with_reducible apply Blk.set_ | with_reducible apply Blk.drewN))
    · simp [PS.cells]
  · have hon : w.grownBy w1 (some b) := only_of_below HB.out _
    (repeat' (first | with_reducible exact hon | with_reducible apply only_drewN | with_reducible apply only_drew | with_reducible apply only_alloc | (with_reducible refine only_setCell ?_ (.inl rfl) _)))
theorem rate_no (b : Nat) (now r : Int) (w : World) (hr : r < 1 ∨ 1073741824 < r) :
    Calls Try.prog 15 #[.pointer (some ⟨b, 0, none⟩), .int .u64 now, .int .u64 r] w fun e w' => e = .returned (.int .i64 2) ∧ w = w' := by
  have hd : decide (1 ≤ r ∧ r ≤ 1073741824) = false := by simp; omega
  go_enter Try.func15, Try.ntmps15
  go_wp2_with fail
  refine (rmay_any _ _).mono ?_
  rintro e w' ⟨rfl, rfl⟩
  go_wp2_with fail
  go_ret
  exact ⟨rfl, rfl⟩

/-- how long a packet waits, at q -/
def PS.waitS (q : PS) (n : Int) : Int := (n * 1000000 - q.level + q.rate - 1) / q.rate
def PS.nextS (q : PS) (n : Int) : Int := if n * 1000000 ≤ q.level then q.at_ else if q.at_ + q.waitS n < 18446744073709551615 then q.at_ + q.waitS n else 18446744073709551615
theorem next_long (b : Nat) (p : PS) (now n : Int) (w : World) (Hs : PSt b w p) (hn : p.burst < n) :
    Calls Try.prog 13 #[.pointer (some ⟨b, 0, none⟩), .int .u64 now, .int .u64 n] w fun e w' => e = .returned (.tuple #[.int .u64 0, .int .i64 3]) ∧ w = w' := by
  obtain ⟨d0, d1, d2, d3, k0, k1, k2, k3⟩ := Hs.facts
  go_enter Try.func13, Try.ntmps13
  go_wp2_with fail
  go_ret2
  exact ⟨rfl, rfl⟩
theorem ret_two {k : IntKind} {a b : Int} {v : Value} (h : a = b) : Ending.returned (.tuple #[.int k a, v]) = .returned (.tuple #[.int k b, v]) := by rw [h]
theorem div_le_of (a r : Int) (h0 : 0 ≤ a) (hr : 1 ≤ r) : 0 ≤ a / r ∧ a / r ≤ a :=
  ⟨Int.ediv_nonneg h0 (by omega), Int.ediv_le_self _ h0⟩
set_option maxHeartbeats 1000000 in
theorem next_yes (b : Nat) (p : PS) (now n : Int) (w : World) (Hs : PSt b w p) (ho : p.Ok) (h0 : 0 ≤ now) (h1 : now < 18446744073709551616) (hn0 : 0 ≤ n) (hn : n ≤ p.burst) :
    Calls Try.prog 13 #[.pointer (some ⟨b, 0, none⟩), .int .u64 now, .int .u64 n] w fun e w' => e = .returned (.tuple #[.int .u64 ((p.afterS now).nextS n), .int .i64 0]) ∧ Below w.heap.size w w' := by
  obtain ⟨d0, d1, d2, d3, k0, k1, k2, k3⟩ := Hs.facts
  have HA := Lib.hid (after_any b p now w Hs ho h0 h1)
  have hq := ho.after now h1
  have hpb : p.burst ≤ 1073741824 := by unfold PS.Ok at ho; omega
  have HS := Lib.hid Hs
  clear Hs ho
  generalize p.afterS now = q at *
  unfold PS.Ok at hq
  obtain ⟨q1, q2, q3, q4, q5, q6, q7, q8⟩ := hq
  by_cases g : n * 1000000 ≤ q.level
  · have HC := Lib.hid (show q.nextS n = q.at_ by unfold PS.nextS; rw [if_pos g])
    go_enter Try.func13, Try.ntmps13
    go_wp2_with fail
    refine HA.out.mono ?_
    rintro e w1 ⟨rfl, hb1⟩
    have HB := Lib.hid hb1
    clear hb1
    unfold PS.cells
    go_wp2_with fail
    go_ret2
    exact ⟨by rw [HC.out]; rfl, HB.out.alloc HB.out.size _⟩
  · have hwt := div_le_of (n * 1000000 - q.level + q.rate - 1) q.rate (by omega) q1
    have hC : q.nextS n = if q.at_ + (n * 1000000 - q.level + q.rate - 1) / q.rate < 18446744073709551615 then q.at_ + (n * 1000000 - q.level + q.rate - 1) / q.rate else 18446744073709551615 := by unfold PS.nextS; rw [if_neg g]; rfl
    by_cases g2 : 18446744073709551615 - q.at_ < (n * 1000000 - q.level + q.rate - 1) / q.rate
    · rw [if_neg (by omega)] at hC
      have HC := Lib.hid (show q.at_ + (18446744073709551615 - q.at_) = q.nextS n by omega)
      clear hC
      go_enter Try.func13, Try.ntmps13
      go_wp2_with fail
      refine HA.out.mono ?_
      rintro e w1 ⟨rfl, hb1⟩
      have HB := Lib.hid hb1
      clear hb1
      unfold PS.cells
      go_wp2_with fail
      go_ret2
      exact ⟨ret_two (by rw [HC.out]), HB.out.alloc HB.out.size _⟩
    · have HC := Lib.hid (show q.at_ + (n * 1000000 - q.level + q.rate - 1) / q.rate = q.nextS n by rw [hC]; split <;> omega)
      clear hC
      go_enter Try.func13, Try.ntmps13
      go_wp2_with fail
      refine HA.out.mono ?_
      rintro e w1 ⟨rfl, hb1⟩
      have HB := Lib.hid hb1
      clear hb1
      unfold PS.cells
      go_wp2_with fail
      go_ret2
      exact ⟨ret_two (by rw [HC.out]), HB.out.alloc HB.out.size _⟩
theorem next_nil (now n : Int) (w : World) :
    Calls Try.prog 13 #[.pointer none, .int .u64 now, .int .u64 n] w fun e w' => e = .returned (.tuple #[.int .u64 0, .int .i64 1]) ∧ w = w' := by
  go_enter Try.func13, Try.ntmps13
  go_wp2_with fail
  go_ret2
  exact ⟨rfl, rfl⟩
theorem rate_nil (now n : Int) (w : World) :
    Calls Try.prog 15 #[.pointer none, .int .u64 now, .int .u64 n] w fun e w' => e = .returned (.int .i64 1) ∧ w = w' := by
  go_enter Try.func15, Try.ntmps15
  go_wp2_with fail
  go_ret
  exact ⟨rfl, rfl⟩
theorem go_nil (now : Int) (v : Value) (w : World) :
    Calls Try.prog 11 #[.pointer none, .int .u64 now, v] w fun e w' => e = .returned (.int .i64 1) ∧ w = w' := by
  go_enter Try.func11, Try.ntmps11
  go_wp2_with fail
  go_ret
  exact ⟨rfl, rfl⟩
theorem may_nil (now n : Int) (w : World) :
    Calls Try.prog 14 #[.pointer none, .int .u64 now, .int .u64 n] w fun e w' => e = .returned (.bool false) ∧ w = w' := by
  go_enter Try.func14, Try.ntmps14
  go_wp2_with fail
  go_ret
  exact ⟨rfl, rfl⟩
theorem level_nil (now : Int) (w : World) :
    Calls Try.prog 10 #[.pointer none, .int .u64 now] w fun e w' => e = .returned (.int .u64 0) ∧ w = w' := by
  go_enter Try.func10, Try.ntmps10
  go_wp2_with fail
  go_ret
  exact ⟨rfl, rfl⟩
end Go.Proofs.Ytfmbbjinlicbgaa
