/- The law MtuKnown (layer 36): the document's examples. Conditions: as each theorem states them. -/
import Derived.Test.YtfhclafkmaojoaaM6
namespace Go.Proofs.Ytfhclafkmaojoaa
open Go.RowKit

theorem probe_nil (w : World) : Calls Try.prog 12 #[.pointer none] w fun e w' => e = .returned (.tuple #[.int .i64 0, .int .i64 1]) ∧ w = w' := by
  go_enter Try.func12, Try.ntmps12
  go_wp2_with fail
  go_ret2
  exact ⟨rfl, rfl⟩
theorem size_nil (w : World) : Calls Try.prog 11 #[.pointer none] w fun e w' => e = .returned (.int .i64 0) ∧ w = w' := by
  go_enter Try.func11, Try.ntmps11
  go_wp2_with fail
  go_ret
  exact ⟨rfl, rfl⟩
theorem done_nil (w : World) : Calls Try.prog 10 #[.pointer none] w fun e w' => e = .returned (.bool false) ∧ ∃ n, w' = w.drewN n := by
  go_enter Try.func10, Try.ntmps10
  go_wp2_with fail
  go_quiet (fail)
  go_wp2_with fail
  go_ret
  exact ⟨rfl, _, rfl⟩
theorem came_nil (n : Int) (w : World) : Calls Try.prog 13 #[.pointer none, .int .i64 n] w fun e w' => e = .returned (.int .i64 1) ∧ w = w' := by
  go_enter Try.func13, Try.ntmps13
  go_wp2_with fail
  go_ret
  exact ⟨rfl, rfl⟩
theorem again_nil (n : Int) (w : World) : Calls Try.prog 16 #[.pointer none, .int .i64 n] w fun e w' => e = .returned (.int .i64 1) ∧ w = w' := by
  go_enter Try.func16, Try.ntmps16
  go_wp2_with fail
  go_ret
  exact ⟨rfl, rfl⟩
theorem lost_nil (v : Value) (w : World) : Calls Try.prog 15 #[.pointer none, v] w fun e w' => e = .returned (.int .i64 1) ∧ w = w' := by
  go_enter Try.func15, Try.ntmps15
  go_wp2_with fail
  go_ret
  exact ⟨rfl, rfl⟩

def prS (k : Nat) : MS := if k = 0 then ⟨1350, 1500, 0, 0, 0⟩ else if k = 1 then ⟨1350, 1500, 0, 1, 0⟩ else if k = 2 then ⟨1350, 1500, 0, 2, 0⟩ else ⟨1350, 1424, 0, 0, 0⟩

set_option maxHeartbeats 1000000 in
theorem probes_any (b g : Nat) (w : World) (Hs : MSt b w ⟨1350, 1500, 0, 0, 0⟩) (h0 : w.cell? ⟨g, 0, none⟩ = some (.int .i64 1425)) (h1 : w.cell? ⟨g, 1, none⟩ = some (.int .i64 1425)) (h2 : w.cell? ⟨g, 2, none⟩ = some (.int .i64 1425)) (hne : g ≠ b) :
    Calls Try.prog 14 #[.pointer (some ⟨b, 0, none⟩), .slice (some ⟨g, 0, none⟩) 3 3] w (MPost b (.bool true) ⟨1350, 1424, 0, 0, 0⟩ w) := by
  have hbl : b < w.heap.size := Blk.lt Hs
  have HS := Lib.hid Hs
  clear Hs
  go_enter Try.func14, Try.ntmps14
  go_wp2_with fail
  go_loopw [11] (fun i wr => ∃ k : Nat, k ≤ 3 ∧ i = .int .i64 k ∧ Hid (MSt b wr (prS k)) ∧ Hid (w.grownBy wr (some b))) (fun i _ => (3 - intOf i).toNat)
  case atStart => exact ⟨0, by omega, rfl, HS, Lib.hid (World.grownBy.refl _ _)⟩
  case round =>
    obtain ⟨k, hk, rfl, HM, HG⟩ := hrel
    have hb2 : b < wr.heap.size := by have := HG.out.size; omega
    by_cases hk3 : k = 3
    · subst hk3
      go_wp2_with fail
      go_ret
      exact ⟨rfl, HM.out, HG.out⟩
    · have c0 := only_cell HG.out h0 hne
      have c1 := only_cell HG.out h1 hne
      have c2 := only_cell HG.out h2 hne
      have hfit : ∀ k : Nat, k < 3 → (prS k).Fit ∧ (prS k).probe = 0 ∧ 16 ≤ (prS k).bound - (prS k).size ∧ ((prS k).size + (prS k).bound + 1) / 2 = 1425 ∧ ({ prS k with probe := 1425 } : MS).Ok ∧ lostS { prS k with probe := 1425 } [1425] = prS (k + 1) := by
        intro k hk
        obtain rfl | rfl | rfl : k = 0 ∨ k = 1 ∨ k = 2 := by omega
        all_goals simp [prS, MS.Fit, MS.Ok, lostS, oneS]
      obtain ⟨x1, x2, x3, x4, x5, x6⟩ := hfit k (by omega)
      clear hfit
      have X1 := Lib.hid x1
      have X2 := Lib.hid x2
      have X4 := Lib.hid x4
      have X5 := Lib.hid x5
      have X6 := Lib.hid x6
      clear x1 x2 x4 x5 x6 h0 h1 h2
      have hPr := Lib.hid (probe_yes b (prS k) wr HM.out X1.out x3 X2.out)
      rw [X4.out] at hPr
      obtain rfl | rfl | rfl : k = 0 ∨ k = 1 ∨ k = 2 := by omega
      all_goals
        go_wp2_with fail
        refine hPr.out.mono ?_
        rintro e w2 ⟨rfl, hm2, hg2⟩
        have HM2 := Lib.hid hm2
        have HG2 := Lib.hid (only_trans HG.out hg2)
        clear hm2 hg2
        have hb3 : b < w2.heap.size := by have := HG2.out.size; omega
        go_wp2_with fail
        have hm3 := HM2.out.alloc (.cells #[.int .i64 1425] 3)
        have hrd : RdI b (w2.alloc (.cells #[.int .i64 1425] 3)) (some ⟨w2.heap.size, 0, none⟩) [1425] := rdI_one (by go_simp) (by omega)
        refine (lost_yes b _ _ _ [1425] _ hm3 X5.out hrd (by simp) (by simp [inB])).mono ?_
        rintro e w3 ⟨rfl, hm3, hg3⟩
        rw [X6.out] at hm3
        have HM3 := Lib.hid hm3
        have HG3 := Lib.hid (only_trans (only_alloc HG2.out _) hg3)
        clear hm3 hg3 hrd
        go_wp2_with fail
        go_roundw
        first | exact ⟨1, by omega, rfl, HM3, HG3⟩ | exact ⟨2, by omega, rfl, HM3, HG3⟩ | exact ⟨3, by omega, rfl, HM3, HG3⟩
        simp [intOf]

end Go.Proofs.Ytfhclafkmaojoaa
