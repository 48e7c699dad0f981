/- Walk: the law VnegPackets. Conditions: as each theorem states them. -/
import Derived.Test.YtakmaocfcmdpmaaV19
import Derived.Test.YtakmaocfcmdpmaaB2
import Derived.Test.YtakmaocfcmdpmaaQN
namespace Go.Proofs.Ytakmaocfcmdpmaa
open Go.RowKit
set_option maxRecDepth 100000 in
set_option maxHeartbeats 4000000 in
theorem packets_bad (Ap As Av A : Option Addr) (cp cs cv c : Nat) (pd ps vs b : List Int) (w : World)
    (gp : pd.length ≤ 140737488351232) (gs : ps.length ≤ 140737488351232) (gv : vs.length ≤ 140737488351232) (gb : b.length ≤ 140737488351232)
    (hbad : 600 < pd.length + ps.length ∨ 900 < b.length ∨ 200 < vs.length) :
    Calls Try.prog 5 #[.agg #[.slice Ap pd.length cp, .slice As ps.length cs, .slice Av vs.length cv], .slice A b.length c] w fun e w' => e = .returned (.bool true) ∧ Below w.heap.size w w' := by
  have PN := Blk.new w 32 #[.slice Ap pd.length cp, .slice As ps.length cs, .slice Av vs.length cv]
  by_cases b0 : 600 < pd.length + ps.length
  · go_enter Try.func5, Try.ntmps5
    go_wp2_with (go_at_call 8; refine (works_any _).mono ?_; rintro e w1 ⟨rfl, hb1⟩)
    go_ret
    exact ⟨rfl, ((Below.refl _ _).alloc (Nat.le_refl _) _).trans (hb1.mono (by simp))⟩
  by_cases b1 : 900 < b.length
  · go_enter Try.func5, Try.ntmps5
    go_wp2_with (go_at_call 8; refine (works_any _).mono ?_; rintro e w1 ⟨rfl, hb1⟩)
    go_ret
    exact ⟨rfl, ((Below.refl _ _).alloc (Nat.le_refl _) _).trans (hb1.mono (by simp))⟩
  have b2 : 200 < vs.length := by omega
  go_enter Try.func5, Try.ntmps5
  go_wp2_with (go_at_call 8; refine (works_any _).mono ?_; rintro e w1 ⟨rfl, hb1⟩)
  go_ret
  exact ⟨rfl, ((Below.refl _ _).alloc (Nat.le_refl _) _).trans (hb1.mono (by simp))⟩

end Go.Proofs.Ytakmaocfcmdpmaa
