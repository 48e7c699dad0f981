/- Walk: the law VnegMeets. Conditions: as each theorem states them. -/
import Derived.Test.YtakmaocfcmdpmaaV15
import Derived.Test.YtakmaocfcmdpmaaBZ
namespace Go.Proofs.Ytakmaocfcmdpmaa
open Go.RowKit
/-- what a client sends -/
def helloL (tried : Int) (ds ss more : List Int) : List Int := bgn 195 tried ds ss ++ (more ++ List.replicate 1200 0)
theorem nextMeet (ds ss vs : List Int) (tried : Int) (mine : List Int) (h : tried ∉ vs) : nextR ss ds vs ds ss tried mine = match chs mine vs with | none => (0, 4) | some v => (v, 0) := by
  unfold nextR; rw [if_pos ⟨rfl, rfl⟩, if_neg h]; rfl

set_option maxRecDepth 100000 in
set_option maxHeartbeats 4000000 in
theorem meets_bad (A0 A1 A3 A4 A5 : Option Addr) (c0 c1 c3 c4 c5 : Nat) (x0 x1 : List Int) (tried : Int) (x3 x4 x5 : List Int) (w : World)
    (s1 : Rd w.heap.size .u32 w A1 x1) (g0 : x0.length ≤ 140737488351232) (g1 : x1.length ≤ 140737488351232) (g3 : x3.length ≤ 140737488351232) (g4 : x4.length ≤ 140737488351232) (g5 : x5.length ≤ 140737488351232)
    (hbad : 64 < x0.length ∨ 64 < x1.length ∨ x1.length = 0 ∨ 255 < x3.length ∨ 255 < x4.length ∨ 1000 < x5.length ∨ tried = 0 ∨ tried ∈ x1) :
    Calls Try.prog 7 #[.slice A0 x0.length c0, .slice A1 x1.length c1, .int .u32 tried, .slice A3 x3.length c3, .slice A4 x4.length c4, .slice A5 x5.length c5] w fun e w' => e = .returned (.bool true) ∧ Below w.heap.size w w' := by
  have HC := Lib.hid (contains_any A1 c1 x1 tried w s1 (by omega))
  clear s1
  by_cases hmx : x3.length < x4.length
  all_goals
    by_cases b0 : 64 < x0.length
    · go_enter Try.func7, Try.ntmps7
      go_wp2_with (first | (go_at_call 8; refine (works_any _).mono ?_; rintro e w1 ⟨rfl, hb1⟩) | (go_at_call 22; refine HC.out.mono ?_; rintro e w' ⟨rfl, rfl⟩))
      go_ret
      exact ⟨rfl, hb1⟩
    by_cases b1 : 64 < x1.length
    · go_enter Try.func7, Try.ntmps7
      go_wp2_with (first | (go_at_call 8; refine (works_any _).mono ?_; rintro e w1 ⟨rfl, hb1⟩) | (go_at_call 22; refine HC.out.mono ?_; rintro e w' ⟨rfl, rfl⟩))
      go_ret
      exact ⟨rfl, hb1⟩
    rcases beq_ways (x1.length : Int) 0 with ⟨b2, B2⟩ | ⟨b2, B2⟩
    · go_enter Try.func7, Try.ntmps7
      go_wp2_with (first | (go_at_call 8; refine (works_any _).mono ?_; rintro e w1 ⟨rfl, hb1⟩) | (go_at_call 22; refine HC.out.mono ?_; rintro e w' ⟨rfl, rfl⟩))
      go_ret
      exact ⟨rfl, hb1⟩
    by_cases b3 : 255 < x3.length ∨ 255 < x4.length
    · go_enter Try.func7, Try.ntmps7
      go_wp2_with (first | (go_at_call 8; refine (works_any _).mono ?_; rintro e w1 ⟨rfl, hb1⟩) | (go_at_call 22; refine HC.out.mono ?_; rintro e w' ⟨rfl, rfl⟩))
      go_ret
      exact ⟨rfl, hb1⟩
    have b3a : x3.length ≤ 255 := by omega
    have b3b : x4.length ≤ 255 := by omega
    by_cases b5 : 1000 < x5.length
    · go_enter Try.func7, Try.ntmps7
      go_wp2_with (first | (go_at_call 8; refine (works_any _).mono ?_; rintro e w1 ⟨rfl, hb1⟩) | (go_at_call 22; refine HC.out.mono ?_; rintro e w' ⟨rfl, rfl⟩))
      go_ret
      exact ⟨rfl, hb1⟩
    rcases beq_ways tried 0 with ⟨b6, B6⟩ | ⟨b6, B6⟩
    · go_enter Try.func7, Try.ntmps7
      go_wp2_with (first | (go_at_call 8; refine (works_any _).mono ?_; rintro e w1 ⟨rfl, hb1⟩) | (go_at_call 22; refine HC.out.mono ?_; rintro e w' ⟨rfl, rfl⟩))
      go_ret
      exact ⟨rfl, hb1⟩
    have hin : decide (tried ∈ x1) = true := decide_eq_true (by
      have := B2.out
      have := B6.out
      rcases hbad with h | h | h | h | h | h | h | h
      · omega
      · omega
      · omega
      · omega
      · omega
      · omega
      · omega
      · exact h)
    clear hbad
    go_enter Try.func7, Try.ntmps7
    go_wp2_with (first | (go_at_call 8; refine (works_any _).mono ?_; rintro e w1 ⟨rfl, hb1⟩) | (go_at_call 22; refine HC.out.mono ?_; rintro e w' ⟨rfl, rfl⟩))
    go_ret
    exact ⟨rfl, hb1⟩
end Go.Proofs.Ytakmaocfcmdpmaa
