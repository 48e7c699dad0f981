/- Contracts of math/bits.Mul64 and of the methods of pacer.Pacer (layer 35): after, Level, May, New, Rate, Next. Conditions: as each theorem states them. -/
import Derived.Test.YtfmbbjinlicbgaaRows
import Derived.Test.YtfmbbjinlicbgaaW
import Derived.Lib.Mul64
import Derived.Laws.Bits64b
namespace Go.Proofs.Ytfmbbjinlicbgaa
open Go.RowKit

namespace Mul64
theorem maskN (a : Nat) (ha : a < 18446744073709551616) : bits .and .u64 (a : Int) 4294967295 = ((a % 4294967296 : Nat) : Int) := by
  have h := bits_and_u64_nat a 4294967295 ha (by omega)
  have e : a &&& 4294967295 = a % 4294967296 := Nat.and_two_pow_sub_one_eq_mod a 32
  rw [e] at h
  exact h
theorem divN (a : Nat) : (a : Int) / 4294967296 = ((a / 4294967296 : Nat) : Int) := by omega
theorem mulN (a b : Nat) : (a : Int) * (b : Int) = ((a * b : Nat) : Int) := (Int.natCast_mul a b).symm
theorem addN (a b : Nat) : (a : Int) + (b : Int) = ((a + b : Nat) : Int) := (Int.natCast_add a b).symm
theorem wrapN (a : Nat) (ha : a < 18446744073709551616) : IntKind.u64.wrap (a : Int) = (a : Int) := by rw [IntKind.wrap_u64]; omega
theorem wrapM (a : Nat) : IntKind.u64.wrap (a : Int) = ((a % 18446744073709551616 : Nat) : Int) := by rw [IntKind.wrap_u64]; omega
end Mul64

set_option maxHeartbeats 1000000 in
theorem mul64_nat (x y : Nat) (hx : x < 18446744073709551616) (hy : y < 18446744073709551616) (w : World) :
    Calls Try.prog 20 #[.int .u64 x, .int .u64 y] w fun e w' => e = .returned (.tuple #[.int .u64 ((x * y / 18446744073709551616 : Nat) : Int), .int .u64 ((x * y % 18446744073709551616 : Nat) : Int)]) ∧ w = w' := by
  obtain ⟨bd, bt, bw, hhi⟩ := Lib.mul64_hi x y hx hy
  have ba := Lib.half_mul_le (a := x / 4294967296) (b := y / 4294967296) (by omega) (by omega)
  have bb := Lib.half_mul_le (a := x / 4294967296) (b := y % 4294967296) (by omega) (by omega)
  have bc := Lib.half_mul_le (a := x % 4294967296) (b := y / 4294967296) (by omega) (by omega)
  have ba' : x / 4294967296 * (y / 4294967296) < 18446744073709551616 := by omega
  have bb' : x / 4294967296 * (y % 4294967296) < 18446744073709551616 := by omega
  have bc' : x % 4294967296 * (y / 4294967296) < 18446744073709551616 := by omega
  have bh1 : x / 4294967296 * (y / 4294967296) + (x / 4294967296 * (y % 4294967296) + x % 4294967296 * (y % 4294967296) / 4294967296) / 4294967296 < 18446744073709551616 := by omega
  have bh : x / 4294967296 * (y / 4294967296) + (x / 4294967296 * (y % 4294967296) + x % 4294967296 * (y % 4294967296) / 4294967296) / 4294967296 + ((x / 4294967296 * (y % 4294967296) + x % 4294967296 * (y % 4294967296) / 4294967296) % 4294967296 + x % 4294967296 * (y / 4294967296)) / 4294967296 < 18446744073709551616 := by omega
  go_enter Try.func20, Try.ntmps20
  go_wp2
  simp only [Mul64.maskN x hx, Mul64.maskN y hy, Mul64.divN, Mul64.mulN, Mul64.addN, Mul64.wrapN _ bd, Mul64.wrapN _ bb', Mul64.wrapN _ bt, Mul64.maskN _ bt, Mul64.wrapN _ bc', Mul64.wrapN _ bw, Mul64.wrapN _ ba', Mul64.wrapN _ bh1, Mul64.wrapN _ bh, Mul64.wrapM (x * y)]
  rw [hhi]
  go_ret2
  exact ⟨rfl, rfl⟩

theorem mul64_any (x y : Int) (hx0 : 0 ≤ x) (hx : x < 18446744073709551616) (hy0 : 0 ≤ y) (hy : y < 18446744073709551616) (w : World) :
    Calls Try.prog 20 #[.int .u64 x, .int .u64 y] w fun e w' => e = .returned (.tuple #[.int .u64 (x * y / 18446744073709551616), .int .u64 (x * y % 18446744073709551616)]) ∧ w = w' := by
  obtain ⟨a, rfl⟩ := Int.eq_ofNat_of_zero_le hx0
  obtain ⟨b, rfl⟩ := Int.eq_ofNat_of_zero_le hy0
  have h := mul64_nat a b (by omega) (by omega) w
  rw [Int.natCast_ediv, Int.natCast_emod, Int.natCast_mul] at h
  exact h

/-- a pacer's four numbers -/
structure PS where
  rate : Int
  burst : Int
  at_ : Int
  level : Int
def PS.cells (p : PS) : Array Value := #[.int .u64 p.rate, .int .u64 p.burst, .int .u64 p.at_, .int .u64 p.level]
def PSt (b : Nat) (w : World) (p : PS) : Prop := Blk w b 49 p.cells
/-- the invariant -/
def PS.Ok (p : PS) : Prop := 1 ≤ p.rate ∧ p.rate ≤ 1073741824 ∧ 1200 ≤ p.burst ∧ p.burst ≤ 1073741824 ∧ 0 ≤ p.at_ ∧ p.at_ < 18446744073709551616 ∧ 0 ≤ p.level ∧ p.level ≤ p.burst * 1000000
theorem PSt.facts {b : Nat} {w : World} {p : PS} (h : PSt b w p) : w.cell? ⟨b, 0, none⟩ = some (.int .u64 p.rate) ∧ w.cell? ⟨b, 1, none⟩ = some (.int .u64 p.burst) ∧ w.cell? ⟨b, 2, none⟩ = some (.int .u64 p.at_) ∧ w.cell? ⟨b, 3, none⟩ = some (.int .u64 p.level) ∧
    w.frozen? ⟨b, 0, none⟩ = false ∧ w.frozen? ⟨b, 1, none⟩ = false ∧ w.frozen? ⟨b, 2, none⟩ = false ∧ w.frozen? ⟨b, 3, none⟩ = false :=
  ⟨Blk.cell h 0, Blk.cell h 1, Blk.cell h 2, Blk.cell h 3, Blk.frozen h 0, Blk.frozen h 1, Blk.frozen h 2, Blk.frozen h 3⟩

/-- as it stands at a tick -/
def PS.afterS (p : PS) (now : Int) : PS :=
  if now ≤ p.at_ then p else { p with at_ := now, level := if p.burst * 1000000 ≤ p.level + (now - p.at_) * p.rate then p.burst * 1000000 else p.level + (now - p.at_) * p.rate }
theorem PS.Ok.after {p : PS} (h : p.Ok) (now : Int) (h1 : now < 18446744073709551616) : (p.afterS now).Ok := by
  unfold PS.Ok at *; unfold PS.afterS
  by_cases g : now ≤ p.at_
  · rw [if_pos g]; exact h
  · rw [if_neg g]
    have hp : 0 ≤ (now - p.at_) * p.rate := Int.mul_nonneg (by omega) (by omega)
    generalize (now - p.at_) * p.rate = z at *
    simp only
    split <;> omega

set_option maxHeartbeats 1000000 in
theorem after_any (b : Nat) (p : PS) (now : Int) (w : World) (Hs : PSt b w p) (ho : p.Ok) (h0 : 0 ≤ now) (h1 : now < 18446744073709551616) :
    Calls Try.prog 19 #[.pointer (some ⟨b, 0, none⟩), .int .u64 now] w fun e w' => e = .returned (.agg (p.afterS now).cells) ∧ Below w.heap.size w w' := by
  have hbl : b < w.heap.size := Blk.lt Hs
  obtain ⟨c0, c1, c2, c3, f0, f1, f2, f3⟩ := Hs.facts
  have HO := Lib.hid ho
  unfold PS.Ok at ho
  by_cases g : now ≤ p.at_
  · have HC := Lib.hid (show p.afterS now = p by unfold PS.afterS; rw [if_pos g])
    go_enter Try.func19, Try.ntmps19
    go_wp2_with fail
    refine bodyPost_ret (v := .agg p.cells) (by simp [results, Try.results19, go_sem, PS.cells]) rfl ⟨by rw [HC.out], ?_⟩
    (repeat' (first | with_reducible exact Below.refl _ _ | with_reducible assumption | with_reducible apply below_drewN | with_reducible apply Below.drew | with_reducible apply Below.alloc | with_reducible apply Below.setCell)) <;> (simp <;> omega)
  · have hP0 : 0 ≤ (now - p.at_) * p.rate := Int.mul_nonneg (by omega) (by omega)
    have hM := Lib.hid (mul64_any (now - p.at_) p.rate (by omega) (by omega) (by omega) (by omega))
    have hCa : Hid (∀ z, z = (now - p.at_) * p.rate → p.burst * 1000000 ≤ p.level + z → p.afterS now = { p with at_ := now, level := p.burst * 1000000 }) := Lib.hid (by
      rintro z rfl hz; unfold PS.afterS; rw [if_neg g, if_pos hz])
    have hCb : Hid (∀ z, z = (now - p.at_) * p.rate → p.level + z < p.burst * 1000000 → p.afterS now = { p with at_ := now, level := p.level + z }) := Lib.hid (by
      rintro z rfl hz; unfold PS.afterS; rw [if_neg g, if_neg (by omega)])
    generalize hz : (now - p.at_) * p.rate = z at *
    have HZ := Lib.hid hz
    clear hz
    by_cases gz : 18446744073709551616 ≤ z
    · have hhi : 0 < z / 18446744073709551616 := by omega
      have HC := Lib.hid (hCa.out z rfl (by omega))
      generalize z / 18446744073709551616 = hi at *
      generalize z % 18446744073709551616 = lo at *
      clear hCa hCb
      go_enter Try.func19, Try.ntmps19
      go_wp2_with fail
      refine (hM.out _).mono ?_
      rintro e w' ⟨rfl, rfl⟩
      go_wp2_with fail
      refine bodyPost_ret (v := .agg (PS.cells { p with at_ := now, level := p.burst * 1000000 })) (by simp [results, Try.results19, go_sem, PS.cells]) rfl ⟨by rw [HC.out], ?_⟩
      (repeat' (first | with_reducible exact Below.refl _ _ | with_reducible assumption | with_reducible apply below_drewN | with_reducible apply Below.drew | with_reducible apply Below.alloc | with_reducible apply Below.setCell)) <;> (simp <;> omega)
    · rw [show z / 18446744073709551616 = 0 by omega, show z % 18446744073709551616 = z by omega] at hM
      by_cases gf : p.burst * 1000000 - p.level ≤ z
      · have HC := Lib.hid (hCa.out z rfl (by omega))
        clear hCa hCb
        go_enter Try.func19, Try.ntmps19
        go_wp2_with fail
        refine (hM.out _).mono ?_
        rintro e w' ⟨rfl, rfl⟩
        go_wp2_with fail
        refine bodyPost_ret (v := .agg (PS.cells { p with at_ := now, level := p.burst * 1000000 })) (by simp [results, Try.results19, go_sem, PS.cells]) rfl ⟨by rw [HC.out], ?_⟩
        (repeat' (first | with_reducible exact Below.refl _ _ | with_reducible assumption | with_reducible apply below_drewN | with_reducible apply Below.drew | with_reducible apply Below.alloc | with_reducible apply Below.setCell)) <;> (simp <;> omega)
      · have HC := Lib.hid (hCb.out z rfl (by omega))
        clear hCa hCb
        go_enter Try.func19, Try.ntmps19
        go_wp2_with fail
        refine (hM.out _).mono ?_
        rintro e w' ⟨rfl, rfl⟩
        go_wp2_with fail
        refine bodyPost_ret (v := .agg (PS.cells { p with at_ := now, level := p.level + z })) (by simp [results, Try.results19, go_sem, PS.cells]) rfl ⟨by rw [HC.out], ?_⟩
        (repeat' (first | with_reducible exact Below.refl _ _ | with_reducible assumption | with_reducible apply below_drewN | with_reducible apply Below.drew | with_reducible apply Below.alloc | with_reducible apply Below.setCell)) <;> (simp <;> omega)

def PS.levelS (p : PS) (now : Int) : Int := (p.afterS now).level / 1000000
theorem level_any (b : Nat) (p : PS) (now : Int) (w : World) (Hs : PSt b w p) (ho : p.Ok) (h0 : 0 ≤ now) (h1 : now < 18446744073709551616) :
    Calls Try.prog 10 #[.pointer (some ⟨b, 0, none⟩), .int .u64 now] w fun e w' => e = .returned (.int .u64 (p.levelS now)) ∧ Below w.heap.size w w' := by
  have HA := Lib.hid (after_any b p now w Hs ho h0 h1)
  have hq := ho.after now h1
  unfold PS.levelS
  generalize p.afterS now = q at *
  unfold PS.Ok at hq
  go_enter Try.func10, Try.ntmps10
  go_wp2_with fail
  refine HA.out.mono ?_
  rintro e w1 ⟨rfl, hb1⟩
  have HB := Lib.hid hb1
  clear hb1
  unfold PS.cells
  go_wp2_with fail
  go_ret
  exact ⟨rfl, HB.out.alloc HB.out.size _⟩
def PS.mayS (p : PS) (now n : Int) : Bool := decide (n ≤ p.levelS now)
theorem may_any (b : Nat) (p : PS) (now n : Int) (w : World) (Hs : PSt b w p) (ho : p.Ok) (h0 : 0 ≤ now) (h1 : now < 18446744073709551616) :
    Calls Try.prog 14 #[.pointer (some ⟨b, 0, none⟩), .int .u64 now, .int .u64 n] w fun e w' => e = .returned (.bool (p.mayS now n)) ∧ Below w.heap.size w w' := by
  have HA := Lib.hid (level_any b p now w Hs ho h0 h1)
  unfold PS.mayS
  go_enter Try.func14, Try.ntmps14
  go_wp2_with fail
  refine HA.out.mono ?_
  rintro e w1 ⟨rfl, hb1⟩
  have HB := Lib.hid hb1
  clear hb1
  go_wp2_with fail
  go_ret
  exact ⟨rfl, HB.out⟩

theorem rmay_any (n : Int) (w : World) : Calls Try.prog 18 #[.int .u64 n] w fun e w' => e = .returned (.bool (decide (1 ≤ n ∧ n ≤ 1073741824))) ∧ w = w' := by
  by_cases h1 : 1 ≤ n
  · by_cases h2 : n ≤ 1073741824
    · go_enter Try.func18, Try.ntmps18
      go_wp2
      go_ret
      exact ⟨ret_bool (by simp [h1, h2]), rfl⟩
    · go_enter Try.func18, Try.ntmps18
      go_wp2
      go_ret
      exact ⟨ret_bool (by simp; omega), rfl⟩
  · have h1' : decide (1 ≤ n) = false := by simp [h1]
    go_enter Try.func18, Try.ntmps18
    go_wp2
    go_ret
    exact ⟨ret_bool (by simp; done), rfl⟩

def okNew (rate burst : Int) : Prop := 1 ≤ rate ∧ rate ≤ 1073741824 ∧ 1200 ≤ burst ∧ burst ≤ 1073741824
theorem new_yes (rate burst : Int) (w : World) (h : okNew rate burst) :
    Calls Try.prog 8 #[.int .u64 rate, .int .u64 burst] w fun e w' => e = .returned (.tuple #[.pointer (some ⟨w.heap.size, 0, none⟩), .int .i64 0]) ∧ PSt w.heap.size w' ⟨rate, burst, 0, burst * 1000000⟩ ∧ w'.heap.size = w.heap.size + 1 ∧ Below w.heap.size w w' := by
  obtain ⟨h1, h2, h3, h4⟩ := h
  have hd : decide (1 ≤ rate ∧ rate ≤ 1073741824) = true := by simp; omega
  have hd2 : decide (burst < 1200) = false := by simp; omega
  go_enter Try.func8, Try.ntmps8
  go_wp2_with (go_at_call 18; refine (rmay_any _ _).mono ?_; rintro e w' ⟨rfl, rfl⟩)
  go_ret2
  exact ⟨rfl, Blk.new _ _ _, by simp, (Below.refl _ _).alloc (Nat.le_refl _) _⟩
theorem new_no (rate burst : Int) (w : World) (h : ¬ okNew rate burst) :
    Calls Try.prog 8 #[.int .u64 rate, .int .u64 burst] w fun e w' => e = .returned (.tuple #[.pointer none, .int .i64 2]) ∧ w = w' := by
  unfold okNew at h
  by_cases g1 : 1 ≤ rate ∧ rate ≤ 1073741824
  · have hd : decide (1 ≤ rate ∧ rate ≤ 1073741824) = true := by simp; omega
    by_cases g2 : burst < 1200
    · go_enter Try.func8, Try.ntmps8
      go_wp2_with (go_at_call 18; refine (rmay_any _ _).mono ?_; rintro e w' ⟨rfl, rfl⟩)
      go_ret2
      exact ⟨rfl, rfl⟩
    · have hd2 : decide (burst < 1200) = false := by simp; omega
      have g3 : 1073741824 < burst := by omega
      clear h
      go_enter Try.func8, Try.ntmps8
      go_wp2_with (go_at_call 18; refine (rmay_any _ _).mono ?_; rintro e w' ⟨rfl, rfl⟩)
      go_ret2
      exact ⟨rfl, rfl⟩
  · have hd : decide (1 ≤ rate ∧ rate ≤ 1073741824) = false := by simp; omega
    clear h g1
    go_enter Try.func8, Try.ntmps8
    go_wp2_with (go_at_call 18; refine (rmay_any _ _).mono ?_; rintro e w' ⟨rfl, rfl⟩)
    go_ret2
    exact ⟨rfl, rfl⟩
end Go.Proofs.Ytfmbbjinlicbgaa
