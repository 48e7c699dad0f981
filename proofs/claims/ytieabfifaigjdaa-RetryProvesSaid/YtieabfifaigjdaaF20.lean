/- Walk: the law RetryProves, whole. Conditions: as each theorem states them. -/
import Derived.Test.YtieabfifaigjdaaF19
namespace Go.Proofs.Ytieabfifaigjdaa
open Go.RowKit
set_option maxRecDepth 100000 in
set_option maxHeartbeats 4000000 in
theorem proves_out (sec : List Int) (life addr at_ later : Int) (A1 A2 A3 : Option Addr) (n1 n2 n3 c1 c2 c3 : Nat) (w : World) (i0 : 0 ≤ life) (i1 : life < 18446744073709551616) (t0 : 0 ≤ at_) (t1 : at_ < 18446744073709551616)
    (hm : ¬ (n1 ≤ 20 ∧ n2 ≤ 20 ∧ n3 ≤ 20 ∧ life ≤ 1152921504606846976 ∧ at_ ≤ 1152921504606846976)) :
    Calls Try.prog 7 #[.agg (cellsL .u8 sec), .int .u64 life, .int .u32 addr, .slice A1 n1 c1, .slice A2 n2 c2, .slice A3 n3 c3, .int .u64 at_, .int .u64 later] w fun e w' => e = .returned (.bool true) ∧ Below w.heap.size w w' := by
  have B0 := Lib.hid ((Below.refl w.heap.size w).alloc (Nat.le_refl _) (.cells (cellsL .u8 sec) 35))
  rcases (show 20 < n1 ∨ 20 < n2 ∨ 20 < n3 ∨ (n1 ≤ 20 ∧ n2 ≤ 20 ∧ n3 ≤ 20 ∧ 1152921504606846976 < life) ∨ (n1 ≤ 20 ∧ n2 ≤ 20 ∧ n3 ≤ 20 ∧ life ≤ 1152921504606846976 ∧ 1152921504606846976 < at_) by omega) with h | h | h | ⟨h1, h2, h3, h4⟩ | ⟨h1, h2, h3, h4, h5⟩
  · clear hm
    have h' : (20 : Int) < (n1 : Int) := by omega
    go_enter Try.func7, Try.ntmps7
    go_wp2_with fail
    all_goals first
      | (exfalso; omega)
      | (refine Calls.mono (works_any _) ?_
         rintro e w1 ⟨rfl, b1⟩
         have B1 := Lib.hid (B0.out.trans (b1.mono B0.out.size))
         clear b1
         go_wp2_with fail
         go_ret
         exact ⟨rfl, B1.out⟩)
  · clear hm
    have h' : (20 : Int) < (n2 : Int) := by omega
    go_enter Try.func7, Try.ntmps7
    go_wp2_with fail
    all_goals first
      | (exfalso; omega)
      | (refine Calls.mono (works_any _) ?_
         rintro e w1 ⟨rfl, b1⟩
         have B1 := Lib.hid (B0.out.trans (b1.mono B0.out.size))
         clear b1
         go_wp2_with fail
         go_ret
         exact ⟨rfl, B1.out⟩)
  · clear hm
    have h' : (20 : Int) < (n3 : Int) := by omega
    go_enter Try.func7, Try.ntmps7
    go_wp2_with fail
    all_goals first
      | (exfalso; omega)
      | (refine Calls.mono (works_any _) ?_
         rintro e w1 ⟨rfl, b1⟩
         have B1 := Lib.hid (B0.out.trans (b1.mono B0.out.size))
         clear b1
         go_wp2_with fail
         go_ret
         exact ⟨rfl, B1.out⟩)
  · clear hm
    obtain ⟨d1, d2, d3⟩ := max3_none h1 h2 h3
    have d4 : decide ((1152921504606846976 : Int) < life) = true := decide_eq_true h4
    go_enter Try.func7, Try.ntmps7
    go_wp2_with fail
    all_goals
      refine Calls.mono (works_any _) ?_
      rintro e w1 ⟨rfl, b1⟩
      have B1 := Lib.hid (B0.out.trans (b1.mono B0.out.size))
      clear b1
      go_wp2_with fail
      go_ret
      exact ⟨rfl, B1.out⟩
  · clear hm
    obtain ⟨d1, d2, d3⟩ := max3_none h1 h2 h3
    have d4 : decide ((1152921504606846976 : Int) < life) = false := decide_eq_false (by omega)
    have d5 : decide ((1152921504606846976 : Int) < at_) = true := decide_eq_true h5
    clear h4
    go_enter Try.func7, Try.ntmps7
    go_wp2_with fail
    all_goals
      refine Calls.mono (works_any _) ?_
      rintro e w1 ⟨rfl, b1⟩
      have B1 := Lib.hid (B0.out.trans (b1.mono B0.out.size))
      clear b1
      go_wp2_with fail
      go_ret
      exact ⟨rfl, B1.out⟩
theorem proves_walk (sec : List Int) (life addr at_ later : Int) (A1 A2 A3 : Option Addr) (c1 c2 c3 : Nat) (orig dst src : List Int) (w : World) (hs : sec.length = 32) (hsb : Byt sec) (hr1 : Rd w.heap.size .u8 w A1 orig) (hb1 : Byt orig) (hc1 : orig.length ≤ c1)
    (hr2 : Rd w.heap.size .u8 w A2 dst) (hb2 : Byt dst) (hc2 : dst.length ≤ c2) (hr3 : Rd w.heap.size .u8 w A3 src) (hb3 : Byt src) (hc3 : src.length ≤ c3)
    (i0 : 0 ≤ life) (i1 : life < 18446744073709551616) (a0 : 0 ≤ addr) (a1 : addr < 4294967296) (t0 : 0 ≤ at_) (t1 : at_ < 18446744073709551616) (s0 : 0 ≤ later) (s1 : later < 18446744073709551616) :
    Calls Try.prog 7 #[.agg (cellsL .u8 sec), .int .u64 life, .int .u32 addr, .slice A1 orig.length c1, .slice A2 dst.length c2, .slice A3 src.length c3, .int .u64 at_, .int .u64 later] w fun e w' => e = .returned (.bool true) ∧ Below w.heap.size w w' := by
  by_cases h : orig.length ≤ 20 ∧ dst.length ≤ 20 ∧ src.length ≤ 20 ∧ life ≤ 1152921504606846976 ∧ at_ ≤ 1152921504606846976
  · exact proves_in sec life addr at_ later A1 A2 A3 _ _ _ c1 c2 c3 orig dst src w hs hsb hr1 hb1 hc1 rfl hr2 hb2 hc2 rfl hr3 hb3 hc3 rfl i0 h.2.2.2.1 a0 a1 t0 h.2.2.2.2 s0 s1 h.1 h.2.1 h.2.2.1
  · exact proves_out sec life addr at_ later A1 A2 A3 _ _ _ c1 c2 c3 w i0 i1 t0 t1 h
end Go.Proofs.Ytieabfifaigjdaa
