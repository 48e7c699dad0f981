/- The law MtuFinds (layer 36): the contract of works, and the law's walk. Conditions: as each theorem states them. -/
import Derived.Test.YtfhclafkmaojoaaM5
namespace Go.Proofs.Ytfhclafkmaojoaa
open Go.RowKit

set_option maxHeartbeats 1000000 in
theorem works_any (w : World) : Calls Try.prog 7 #[] w fun e w' => e = .returned (.bool true) ∧ Below w.heap.size w w' := by
  go_enter Try.func7, Try.ntmps7
  go_wp2_with fail
  refine (new_yes 1500 _ (by omega) (by omega)).mono ?_
  rintro e w1 ⟨rfl, hm1, hz1, hb1⟩
  have HM1 := Lib.hid hm1
  have HB1 := Lib.hid hb1
  clear hm1 hb1 hz1
  go_wp2_with fail
  refine (size_any _ _ _ HM1.out).mono ?_
  rintro e w' ⟨rfl, rfl⟩
  go_wp2_with fail
  refine (probe_yes _ _ _ HM1.out (by simp [MS.Fit]) (by simp) rfl).mono ?_
  rintro e w2 ⟨rfl, hm2, hg2⟩
  have HM2 : Hid (MSt w.heap.size w2 ⟨1200, 1500, 1350, 0, 0⟩) := Lib.hid hm2
  have HG2 := Lib.hid hg2
  clear hm2 hg2
  go_wp2_with fail
  refine (probe_no _ _ _ HM2.out (by simp [MS.Fit]) (by simp)).mono ?_
  rintro e w3 ⟨rfl, hm3, hg3⟩
  have HM3 := Lib.hid hm3
  have HG3 := Lib.hid (only_trans HG2.out hg3)
  clear hm3 hg3
  go_wp2_with fail
  refine (came_yes _ _ _ _ HM3.out (by omega) (by omega)).mono ?_
  rintro e w4 ⟨rfl, hm4, hg4⟩
  have HM4 : Hid (MSt w.heap.size w4 ⟨1350, 1500, 0, 0, 0⟩) := Lib.hid hm4
  have HG4 := Lib.hid (only_trans HG3.out hg4)
  clear hm4 hg4
  go_wp2_with fail
  refine (size_any _ _ _ HM4.out).mono ?_
  rintro e w' ⟨rfl, rfl⟩
  go_wp2_with fail
  refine (done_any _ _ _ HM4.out (by simp [MS.Fit])).mono ?_
  rintro e w' ⟨rfl, k, rfl⟩
  go_wp2_with fail
  go_ret
  exact ⟨rfl, below_drewN (HB1.out.trans (below_of_only HG4.out (Nat.le_refl _) HB1.out.size)) _⟩

set_option maxHeartbeats 1000000 in
theorem finds_walk (a0 a1 : Int) (w : World) : Calls Try.prog 3 #[.int .i64 a0, .int .i64 a1] w fun e w' => e = .returned (.bool true) ∧ Below w.heap.size w w' := by
  by_cases c1 : a0 < 1200
  · go_enter Try.func3, Try.ntmps3
    go_wp2_with (go_at_call 7; refine (works_any _).mono ?_; rintro e w1 ⟨rfl, hb1⟩)
    go_ret
    exact ⟨rfl, hb1⟩
  by_cases c2 : 65527 < a0
  · go_enter Try.func3, Try.ntmps3
    go_wp2_with (go_at_call 7; refine (works_any _).mono ?_; rintro e w1 ⟨rfl, hb1⟩)
    go_ret
    exact ⟨rfl, hb1⟩
  by_cases c3 : a1 < 1200
  · go_enter Try.func3, Try.ntmps3
    go_wp2_with (go_at_call 7; refine (works_any _).mono ?_; rintro e w1 ⟨rfl, hb1⟩)
    go_ret
    exact ⟨rfl, hb1⟩
  go_enter Try.func3, Try.ntmps3
  go_wp2_with fail
  refine (new_yes a0 _ (by omega) (by omega)).mono ?_
  rintro e w1 ⟨rfl, hm1, hz1, hb1⟩
  have HM1 := Lib.hid hm1
  have HB1 := Lib.hid hb1
  clear hm1 hb1 hz1
  go_wp2_with fail
  refine (search_any _ _ a1 _ HM1.out (by simp [MS.Ok]; omega) rfl rfl (by simp; omega)).mono ?_
  rintro e w2 ⟨s, j, n, rfl, hI, hd, hm2, hg2⟩
  have HM2 := Lib.hid hm2
  have HG2 := Lib.hid hg2
  clear hm2 hg2
  have hn0 := hI.pos
  have q1 := hI.szlim
  have q2 := hI.most
  have q3 := hI.least
  have hf := Lib.hid hI.ok.fit
  have hok := hI.ok
  unfold MS.Ok at hok
  have q4 : s.size ≤ a0 := by simp at q2; omega
  have q5 : s.size + 16 > a0 ∨ s.size + 16 > a1 := by simp at q3; omega
  have q6 : 0 ≤ s.size := by omega
  have hd' : decide (s.bound - s.size < 16) = true := by simp; omega
  have hI' := Lib.hid hI
  clear hI hok q2 q3 hd
  go_wp2_with fail
  refine (done_any _ _ _ HM2.out hf.out).mono ?_
  rintro e w' ⟨rfl, k, rfl⟩
  go_wp2_with fail
  refine (size_any _ s _ (by exact HM2.out)).mono ?_
  rintro e w' ⟨rfl, rfl⟩
  by_cases hmin : a1 ≤ a0
  all_goals
    go_wp2_with fail
    refine (works_any _).mono ?_
    rintro e w4 ⟨rfl, hb4⟩
    have HB4 := Lib.hid hb4
    clear hb4
    go_wp2_with fail
    go_ret
    have b12 := below_drewN (HB1.out.trans (below_of_only HG2.out (Nat.le_refl _) HB1.out.size)) k
    exact ⟨rfl, b12.trans (HB4.out.mono b12.size)⟩
end Go.Proofs.Ytfhclafkmaojoaa
