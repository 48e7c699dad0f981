/- Contracts of the Go functions that the laws of layer 5 (pnum) reach, and plain lemmas on them. Conditions: as each theorem states them. -/
import Derived.Test.YtookgmjdgcbdnaaT3
namespace Go.Proofs.Ytookgmjdgcbdnaa
open Go.RowKit

/-- the reference's answer, of h (one in next's own window) -/
theorem refx_fin (next t W nx h r : Int) (h0 : 0 ≤ next) (hW : W = 256 ∨ W = 65536 ∨ W = 16777216 ∨ W = 4294967296) (hnx : nx = if next ≤ 4611686018427387903 then next else 4611686018427387903)
    (hh : h = nx / W * W + t % W)
    (hr : (nx < h ∧ W ≤ h ∧ (4611686018427387903 < h ∨ nx - (h - W) < h - nx) ∧ r = h - W) ∨ (nx < h ∧ W ≤ h ∧ (h ≤ 4611686018427387903 ∧ h - nx ≤ nx - (h - W)) ∧ r = h) ∨ (nx < h ∧ h < W ∧ r = h)
      ∨ (h ≤ nx ∧ (4611686018427387903 < h + W ∨ nx - h < h + W - nx) ∧ r = h) ∨ (h ≤ nx ∧ (h + W ≤ 4611686018427387903 ∧ h + W - nx ≤ nx - h) ∧ r = h + W)) : r = expandS next t W := by
  have hb : 0 ≤ nx ∧ nx ≤ 4611686018427387903 := by rw [hnx]; split <;> omega
  unfold expandS
  simp only [← hnx]
  have hl : lowS nx t W = h := by unfold lowS; rw [hh]; rcases hW with rfl | rfl | rfl | rfl <;> omega
  rw [hl]
  clear hl hnx
  have hm : nx - W < h ∧ h < nx + W ∧ 0 ≤ h := by
    rcases hW with rfl | rfl | rfl | rfl <;> omega
  have hw : 256 ≤ W ∧ W ≤ 4294967296 := by omega
  clear hW hh
  have f1 : farS (h + W) nx = h + W - nx := by unfold farS; split <;> omega
  have f3 : W ≤ h → farS (h - W) nx = nx - h + W := by intro; unfold farS; split <;> omega
  have f2 : farS h nx = if h ≤ nx then nx - h else h - nx := rfl
  rw [f1]
  by_cases c1 : h + W ≤ 4611686018427387903 ∧ h + W - nx ≤ farS h nx
  · rw [if_pos c1]
    by_cases c2 : W ≤ h ∧ h - W ≤ 4611686018427387903 ∧ (4611686018427387903 < h + W ∨ farS (h - W) nx < farS (h + W) nx)
    · rw [if_pos c2]; rw [f2] at c1; rw [f1, f3 c2.1] at c2; split at c1 <;> omega
    · rw [if_neg c2]; rw [f2] at c1
      by_cases c3 : W ≤ h
      · rw [f1, f3 c3] at c2; split at c1 <;> omega
      · split at c1 <;> omega
  · rw [if_neg c1]
    by_cases c2 : W ≤ h ∧ h - W ≤ 4611686018427387903 ∧ (4611686018427387903 < h ∨ farS (h - W) nx < farS h nx)
    · rw [if_pos c2]; rw [f3 c2.1] at c2; rw [f2] at c1 c2; split at c1 <;> omega
    · rw [if_neg c2]
      by_cases c3 : W ≤ h
      · rw [f3 c3] at c2; rw [f2] at c1 c2; split at c1 <;> omega
      · rw [f2] at c1; split at c1 <;> omega

set_option maxHeartbeats 4000000 in
theorem refExpand_in (next t n W : Int) (w : World) (h0 : 0 ≤ next) (h1 : next < 18446744073709551616) (ht0 : 0 ≤ t) (ht1 : t < 18446744073709551616)
    (hn : (n = 1 ∧ W = 256) ∨ (n = 2 ∧ W = 65536) ∨ (n = 3 ∧ W = 16777216) ∨ (n = 4 ∧ W = 4294967296)) :
    Calls Try.prog 12 #[.int .u64 next, .int .u64 t, .int .i64 n] w fun e w' => e = .returned (.int .u64 (expandS next t W)) ∧ w = w' := by
  obtain ⟨nx, hnx⟩ : ∃ nx, nx = if next ≤ 4611686018427387903 then next else 4611686018427387903 := ⟨_, rfl⟩
  have hfin := Lib.hid (fun r => refx_fin next t W nx (nx / W * W + t % W) r h0 (by omega) hnx rfl)
  by_cases hx : next ≤ 4611686018427387903
  · rw [if_pos hx] at hnx
    subst hnx
    rcases hn with ⟨rfl, rfl⟩ | ⟨rfl, rfl⟩ | ⟨rfl, rfl⟩ | ⟨rfl, rfl⟩
    all_goals
      go_enter Try.func12, Try.ntmps12
      go_wp2_with (go_at_call 13; refine (window_any _ _ (by omega) (by omega)).mono ?_; rintro e w' ⟨rfl, rfl⟩)
    all_goals go_ret
    all_goals refine ⟨ret_int (hfin.out _ ?_), rfl⟩
    all_goals clear hfin
    all_goals omega
  · rw [if_neg hx] at hnx
    subst hnx
    rcases hn with ⟨rfl, rfl⟩ | ⟨rfl, rfl⟩ | ⟨rfl, rfl⟩ | ⟨rfl, rfl⟩
    all_goals
      go_enter Try.func12, Try.ntmps12
      go_wp2_with (go_at_call 13; refine (window_any _ _ (by omega) (by omega)).mono ?_; rintro e w' ⟨rfl, rfl⟩)
    all_goals go_ret
    all_goals refine ⟨ret_int (hfin.out _ ?_), rfl⟩
    all_goals clear hfin
    all_goals omega
theorem refExpand_out (next t n : Int) (w : World) (hn : n < 1 ∨ 4 < n) :
    Calls Try.prog 12 #[.int .u64 next, .int .u64 t, .int .i64 n] w fun e w' => e = .returned (.int .u64 0) ∧ w = w' := by
  rcases hn with hn | hn
  all_goals go_enter Try.func12, Try.ntmps12
  all_goals go_wp2
  all_goals go_ret
  all_goals exact ⟨rfl, rfl⟩
end Go.Proofs.Ytookgmjdgcbdnaa
