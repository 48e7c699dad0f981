/- Layer 33, the reference's: contract of Take. Conditions: as each theorem states them. -/
import Derived.Test.YtieabfifaigjdaaF25
import Derived.Test.YtieabfifaigjdaaF21
import Derived.Test.YtieabfifaigjdaaF13
namespace Go.Proofs.Ytieabfifaigjdaa
open Go.RowKit
def RtNo (w : World) (e : Ending) (w' : World) : Prop := e = .returned (.tuple #[.slice none 0 0, .slice none 0 0, .slice none 0 0, .bool false]) ∧ Below w.heap.size w w'
def RtYes (b : List Int) (d s : Nat) (w : World) (e : Ending) (w' : World) : Prop :=
  ∃ A3 k3 A4 k4 A5 n5 k5, e = .returned (.tuple #[.slice A3 d k3, .slice A4 s k4, .slice A5 n5 k5, .bool true]) ∧ Rd w'.heap.size .u8 w' A3 (pkDst b d) ∧ Rd w'.heap.size .u8 w' A4 (pkSrc b d s) ∧ Rd w'.heap.size .u8 w' A5 (pkTok b d s) ∧ n5 = (pkTok b d s).length ∧ Below w.heap.size w w'
set_option maxRecDepth 100000 in
set_option maxHeartbeats 4000000 in
theorem rtake_no (A1 A2 : Option Addr) (n1 n2 c1 c2 : Nat) (b : List Int) (w : World) (hn1 : b.length = n1) (hr1 : Rd w.heap.size .u8 w A1 b) (hb1 : Byt b) (hl1 : n1 ≤ 1000) (hno : ¬ (n2 ≤ 20 ∧ ∃ d s, RkOk b d s)) :
    Calls Try.prog 12 #[.slice A1 n1 c1, .slice A2 n2 c2] w (RtNo w) := by
  by_cases h23 : n1 < 23
  · have d23 : decide ((n1 : Int) < 23) = true := decide_eq_true (by omega)
    go_enter Try.func12, Try.ntmps12
    go_wp2_with fail
    exact bodyPost_ret (results_tmp4 rfl _ _ _) rfl ⟨rfl, Below.refl _ _⟩
  have d23 : decide ((n1 : Int) < 23) = false := decide_eq_false (by omega)
  have g := fun k => hb1.getD k
  obtain ⟨ad, hA, hlt, hc0⟩ := hr1 0 (by omega)
  obtain ⟨ad5, hA5, -, hc5⟩ := hr1 5 (by omega)
  rw [hA] at hA5
  injection hA5 with hA5
  subst hA5
  obtain ⟨x0, hx0⟩ : ∃ z, b.getD 0 0 = z := ⟨_, rfl⟩
  obtain ⟨x5, hx5⟩ : ∃ z, b.getD 5 0 = z := ⟨_, rfl⟩
  have g0 := g 0
  have g5 := g 5
  rw [hx0] at hc0 g0
  rw [hx5] at hc5 g5
  obtain ⟨g00, g01⟩ := g0
  obtain ⟨g50, g51⟩ := g5
  have c0 : w.cell? ad = some (.int .u8 x0) := by simpa [Addr.add] using hc0
  have c5 : w.cell? ⟨ad.block, ad.off + 5, none⟩ = some (.int .u8 x5) := by simpa [Addr.add] using hc5
  clear hc0 hc5 hlt
  subst hA
  by_cases y0 : x0 < 240
  · have d0 : decide (x0 < 240) = true := decide_eq_true y0
    clear hr1 hb1 hn1 hno g hx0 hx5 c5 y0
    go_enter Try.func12, Try.ntmps12
    go_wp2_with fail
    exact bodyPost_ret (results_tmp4 rfl _ _ _) rfl ⟨rfl, Below.refl _ _⟩
  have d0 : decide (x0 < 240) = false := decide_eq_false y0
  by_cases y2 : 20 < n2
  · have d2 : decide ((20 : Int) < (n2 : Int)) = true := decide_eq_true (by omega)
    clear hr1 hb1 hn1 hno g hx0 hx5 c5 y0
    go_enter Try.func12, Try.ntmps12
    go_wp2_with fail
    exact bodyPost_ret (results_tmp4 rfl _ _ _) rfl ⟨rfl, Below.refl _ _⟩
  have d2 : decide ((20 : Int) < (n2 : Int)) = false := decide_eq_false (by omega)
  by_cases y5 : 20 < x5
  · have d5 : decide ((20 : Int) < x5) = true := decide_eq_true y5
    clear hr1 hb1 hn1 hno g hx0 hx5
    go_enter Try.func12, Try.ntmps12
    go_wp2_with fail
    exact bodyPost_ret (results_tmp4 rfl _ _ _) rfl ⟨rfl, Below.refl _ _⟩
  have d5 : decide ((20 : Int) < x5) = false := decide_eq_false y5
  by_cases y6 : (n1 : Int) - 16 ≤ 6 + x5
  · have d6 : decide ((n1 : Int) - 16 ≤ 6 + x5) = true := decide_eq_true y6
    clear hr1 hb1 hn1 hno g hx0 hx5
    go_enter Try.func12, Try.ntmps12
    go_wp2_with fail
    exact bodyPost_ret (results_tmp4 rfl _ _ _) rfl ⟨rfl, Below.refl _ _⟩
  have d6 : decide ((n1 : Int) - 16 ≤ 6 + x5) = false := decide_eq_false y6
  obtain ⟨d, rfl⟩ : ∃ d : Nat, x5 = (d : Int) := ⟨x5.toNat, by omega⟩
  obtain ⟨ad6, hA6, -, hc6⟩ := hr1 (6 + d) (by omega)
  injection hA6 with hA6
  subst hA6
  obtain ⟨x6, hx6⟩ : ∃ z, b.getD (6 + d) 0 = z := ⟨_, rfl⟩
  have g6 := g (6 + d)
  rw [hx6] at hc6 g6
  obtain ⟨g60, g61⟩ := g6
  by_cases y7 : 20 < x6
  · have d7 : decide ((20 : Int) < x6) = true := decide_eq_true y7
    clear hr1 hb1 hn1 hno g hx0 hx5 hx6
    go_enter Try.func12, Try.ntmps12
    go_wp2_with fail
    exact bodyPost_ret (results_tmp4 rfl _ _ _) rfl ⟨rfl, Below.refl _ _⟩
  have d7 : decide ((20 : Int) < x6) = false := decide_eq_false y7
  by_cases y8 : (n1 : Int) - 16 ≤ 7 + (d : Int) + x6
  · have d8 : decide ((n1 : Int) - 16 ≤ 7 + (d : Int) + x6) = true := decide_eq_true y8
    clear hr1 hb1 hn1 hno g hx0 hx5 hx6
    go_enter Try.func12, Try.ntmps12
    go_wp2_with fail
    exact bodyPost_ret (results_tmp4 rfl _ _ _) rfl ⟨rfl, Below.refl _ _⟩
  exact absurd ⟨by omega, d, x6.toNat, by omega, by omega, hx5, by omega, by omega, by omega, by omega, by omega⟩ hno
end Go.Proofs.Ytieabfifaigjdaa
