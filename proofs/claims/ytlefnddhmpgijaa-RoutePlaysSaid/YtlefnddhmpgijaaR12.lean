/- Contract: the reference's Split of bytes that begin as a long packet (8 bytes an id). Conditions: as each theorem states them. -/
import Derived.Test.YtlefnddhmpgijaaR11
namespace Go.Proofs.Ytlefnddhmpgijaa
open Go.RowKit
theorem four_of {b : List Int} (h : 5 ≤ b.length) : (b.drop 1).take 4 = [b.getD 1 0, b.getD 2 0, b.getD 3 0, b.getD 4 0] := by
  rw [drop_cons (show 1 < b.length by omega), drop_cons (show 1 + 1 < b.length by omega), drop_cons (show 1 + 1 + 1 < b.length by omega), drop_cons (show 1 + 1 + 1 + 1 < b.length by omega)]
  rfl
set_option maxRecDepth 100000 in
set_option maxHeartbeats 4000000 in
theorem rsplit_bad (A : Option Addr) (c : Nat) (b : List Int) (w : World) (hr : Rd w.heap.size .u8 w A b) (hb : Byt b) (hl : b.length ≤ 1000000000000)
    (h1 : 0 < b.length) (h2 : b.getD 0 0 / 64 % 2 ≠ 0) (h3 : 128 ≤ b.getD 0 0) (hbad : b.length < 5 ∨ (b.drop 1).take 4 ≠ [0, 0, 0, 1] ∨ (b.getD 0 0 / 16 % 4 ≠ 0 ∧ b.getD 0 0 / 16 % 4 ≠ 2)) :
    Calls Try.prog 13 #[.slice A b.length c, .int .i64 8] w (RSplPost b w) := by
  have HN : Hid (splitL b 8 = none) := Lib.hid (by
    unfold splitL longL
    rw [if_neg (by omega), if_pos h3, if_pos hbad])
  have hz : ((b.length : Int) == 0) = false := by rw [beq_eq_false_iff_ne]; omega
  obtain ⟨ad, rfl, -⟩ := hr.isSome h1
  have r2 := hr.two (Nat.le_refl _)
  have m0 := r2.at0 h1
  have hy := hb.getD 0
  have h2' : (b.getD 0 0 / 64 % 2 == 0) = false := by rw [beq_eq_false_iff_ne]; exact h2
  by_cases h5 : b.length < 5
  · generalize b.getD 0 0 = y at *
    obtain ⟨y0, y1⟩ := hy
    have h5' : (b.length : Int) < 5 := by omega
    clear hr hb r2 hbad h2
    go_enter Try.func13, Try.ntmps13
    go_wp2_with fail
    refine bodyPost_ret (results_p6 rfl rfl (Blk.alloc (Blk.new _ _ _) _)) rfl (RSplPost.no HN.out ?_)
    exact ((Below.refl _ _).alloc (Nat.le_refl _) _).alloc (by simp) _
  have h5' : (5 : Int) ≤ (b.length : Int) := by omega
  have m1 := r2.atN 1 (by omega) (by decide)
  have m2 := r2.atN 2 (by omega) (by decide)
  have m3 := r2.atN 3 (by omega) (by decide)
  have m4 := r2.atN 4 (by omega) (by decide)
  rw [four_of (by omega)] at hbad
  have n1 := hb.getD 1
  have n2 := hb.getD 2
  have n3 := hb.getD 3
  have n4 := hb.getD 4
  generalize b.getD 0 0 = y at *
  generalize b.getD 1 0 = b1 at *
  generalize b.getD 2 0 = b2 at *
  generalize b.getD 3 0 = b3 at *
  generalize b.getD 4 0 = b4 at *
  obtain ⟨y0, y1⟩ := hy
  obtain ⟨n10, n11⟩ := n1
  obtain ⟨n20, n21⟩ := n2
  obtain ⟨n30, n31⟩ := n3
  obtain ⟨n40, n41⟩ := n4
  clear hr hb r2 h2
  by_cases e1 : b1 = 0
  · subst e1
    by_cases e2 : b2 = 0
    · subst e2
      by_cases e3 : b3 = 0
      · subst e3
        by_cases e4 : b4 = 1
        · subst e4
          have hk : y / 16 % 4 ≠ 0 ∧ y / 16 % 4 ≠ 2 := by
            rcases hbad with h | h | h
            · exact absurd h h5
            · exact absurd rfl h
            · exact h
          obtain ⟨k, hkk⟩ : ∃ k, y / 16 % 4 = k := ⟨_, rfl⟩
          rw [hkk] at hk
          have hk0 : (k == 0) = false := by rw [beq_eq_false_iff_ne]; exact hk.1
          have hk2 : (k == 2) = false := by rw [beq_eq_false_iff_ne]; exact hk.2
          have hk0' : (k != 0) = true := by simp [hk.1]
          have hk2' : (k != 2) = true := by simp [hk.2]
          obtain ⟨hka, hkb⟩ := hk
          clear hbad
          go_enter Try.func13, Try.ntmps13
          go_wp2_with fail
          refine bodyPost_ret (results_p6 rfl rfl (Blk.alloc (Blk.new _ _ _) _)) rfl (RSplPost.no HN.out ?_)
          exact ((Below.refl _ _).alloc (Nat.le_refl _) _).alloc (by simp) _
        · have e4' : (b4 == 1) = false := by rw [beq_eq_false_iff_ne]; exact e4
          have e4'' : (b4 != 1) = true := by simp [e4]
          clear hbad
          go_enter Try.func13, Try.ntmps13
          go_wp2_with fail
          refine bodyPost_ret (results_p6 rfl rfl (Blk.alloc (Blk.new _ _ _) _)) rfl (RSplPost.no HN.out ?_)
          exact ((Below.refl _ _).alloc (Nat.le_refl _) _).alloc (by simp) _
      · have e3' : (b3 == 0) = false := by rw [beq_eq_false_iff_ne]; exact e3
        have e3'' : (b3 != 0) = true := by simp [e3]
        clear hbad
        go_enter Try.func13, Try.ntmps13
        go_wp2_with fail
        refine bodyPost_ret (results_p6 rfl rfl (Blk.alloc (Blk.new _ _ _) _)) rfl (RSplPost.no HN.out ?_)
        exact ((Below.refl _ _).alloc (Nat.le_refl _) _).alloc (by simp) _
    · have e2' : (b2 == 0) = false := by rw [beq_eq_false_iff_ne]; exact e2
      have e2'' : (b2 != 0) = true := by simp [e2]
      clear hbad
      go_enter Try.func13, Try.ntmps13
      go_wp2_with fail
      refine bodyPost_ret (results_p6 rfl rfl (Blk.alloc (Blk.new _ _ _) _)) rfl (RSplPost.no HN.out ?_)
      exact ((Below.refl _ _).alloc (Nat.le_refl _) _).alloc (by simp) _
  · have e1' : (b1 == 0) = false := by rw [beq_eq_false_iff_ne]; exact e1
    have e1'' : (b1 != 0) = true := by simp [e1]
    clear hbad
    go_enter Try.func13, Try.ntmps13
    go_wp2_with fail
    refine bodyPost_ret (results_p6 rfl rfl (Blk.alloc (Blk.new _ _ _) _)) rfl (RSplPost.no HN.out ?_)
    exact ((Below.refl _ _).alloc (Nat.le_refl _) _).alloc (by simp) _
end Go.Proofs.Ytlefnddhmpgijaa
