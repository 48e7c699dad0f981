/- Contracts of the reference's pacer (layer 35): After, Go. Conditions: as each theorem states them. -/
import Derived.Test.YtfmbbjinlicbgaaP8
namespace Go.Proofs.Ytfmbbjinlicbgaa
open Go.RowKit

/-- the reference's loop: S is what the level comes to without a limit -/
def RI (S full rate lv left : Int) : Prop := (lv < full ∧ lv + left * rate = S) ∨ (lv = full ∧ full ≤ S)
theorem RI.next {S full rate lv left step : Int} (h : RI S full rate lv left) (h1 : lv < full) (hr : 1 ≤ rate) (hs1 : step ≤ left) : RI S full rate (if full < lv + step * rate then full else lv + step * rate) (left - step) := by
  rcases h with ⟨_, h⟩ | ⟨h, _⟩
  · have e := mul_add_split 0 step left rate
    simp only [Int.sub_zero] at e
    have h0 : 0 ≤ (left - step) * rate := Int.mul_nonneg (by omega) (by omega)
    unfold RI
    generalize (left - step) * rate = x at *
    generalize step * rate = y at *
    generalize left * rate = z at *
    split <;> omega
  · omega
theorem RI.fin {S full rate lv left : Int} (h : RI S full rate lv left) (hl : left = 0 ∨ full ≤ lv) : lv = if full ≤ S then full else S := by
  rcases h with ⟨h1, h2⟩ | ⟨h1, h2⟩
  · have : left = 0 := by omega
    subst this
    simp only [Int.zero_mul, Int.add_zero] at h2
    rw [if_neg (by omega)]
    exact h2
  · rw [if_pos h2]; exact h1

theorem results_ps {w : World} {g : Nat} {t : TypeId} {c0 c1 c2 c3 : Value} {fn : Func} {x : Tmp} {tmps : Array Value} (hr : fn.results = #[.cell x 43]) (hx : tmps.getD x undef = .pointer (some ⟨g, 0, none⟩)) (h : Blk w g t #[c0, c1, c2, c3]) :
    (results fn tmps).run Try.prog w = .ok (.agg #[c0, c1, c2, c3]) w := by
  have a0 := Blk.cell h 0
  have a1 := Blk.cell h 1
  have a2 := Blk.cell h 2
  have a3 := Blk.cell h 3
  simp at a0 a1 a2 a3
  have hx' : tmps[x]?.getD undef = .pointer (some ⟨g, 0, none⟩) := by simpa using hx
  simp [results, hr, hx', go_sem, a0, a1, a2, a3]

set_option maxHeartbeats 2000000 in
theorem refAfter_any (p : PS) (now : Int) (w : World) (ho : p.Ok) (h0 : 0 ≤ now) (h1 : now < 18446744073709551616) :
    Calls Try.prog 16 #[.agg p.cells, .int .u64 now] w fun e w' => e = .returned (.agg (p.afterS now).cells) ∧ Below w.heap.size w w' := by
  have HO := Lib.hid ho
  unfold PS.Ok at ho
  obtain ⟨o1, o2, o3, o4, o5, o6, o7, o8⟩ := ho
  unfold PS.cells
  by_cases g : now ≤ p.at_
  · have HC := Lib.hid (show p.afterS now = p by unfold PS.afterS; rw [if_pos g])
    go_enter Try.func16, Try.ntmps16
    go_wp2_with fail
    refine bodyPost_ret (v := .agg p.cells) (by simp [results, Try.results16, go_sem, PS.cells]) rfl ⟨by rw [HC.out]; rfl, ?_⟩
    (repeat' (first | with_reducible exact Below.refl _ _ | with_reducible assumption | with_reducible apply below_drewN | with_reducible apply Below.drew | with_reducible apply Below.alloc | with_reducible apply Below.setCell)) <;> (simp <;> omega)
  · have HC : Hid (∀ lv, lv = (if p.burst * 1000000 ≤ p.level + (now - p.at_) * p.rate then p.burst * 1000000 else p.level + (now - p.at_) * p.rate) → p.afterS now = { p with at_ := now, level := lv }) := Lib.hid (by
      rintro lv rfl; unfold PS.afterS; rw [if_neg g])
    have hst : Hid (RI (p.level + (now - p.at_) * p.rate) (p.burst * 1000000) p.rate p.level (now - p.at_)) := Lib.hid (by
      have : 0 ≤ (now - p.at_) * p.rate := Int.mul_nonneg (by omega) (by omega)
      unfold RI
      omega)
    generalize hS : p.level + (now - p.at_) * p.rate = S at *
    clear hS
    go_enter Try.func16, Try.ntmps16
    go_wp2_with fail
    go_loopw [6] (fun l wr => ∃ (left lv : Int), l = .int .u64 left ∧ 0 ≤ left ∧ left < 18446744073709551616 ∧ 0 ≤ lv ∧ lv ≤ p.burst * 1000000 ∧ Hid (RI S (p.burst * 1000000) p.rate lv left) ∧ Hid (Blk wr w.heap.size 43 (PS.cells { p with level := lv })) ∧ Hid (Blk wr (w.heap.size + 1) 43 #[.int .u64 0, .int .u64 0, .int .u64 0, .int .u64 0]) ∧ Hid (Below w.heap.size w wr)) (fun l _ => (intOf l).toNat)
    case atStart => exact ⟨now - p.at_, p.level, rfl, by omega, by omega, by omega, by omega, hst, Lib.hid (Blk.alloc (Blk.new _ _ _) _), Lib.hid (by have := Blk.new (w.alloc (.cells #[.int .u64 p.rate, .int .u64 p.burst, .int .u64 p.at_, .int .u64 p.level] 43)) 43 #[.int .u64 0, .int .u64 0, .int .u64 0, .int .u64 0]; simpa using this), Lib.hid (((Below.refl _ _).alloc (Nat.le_refl _) _).alloc (by simp) _)⟩
    case round =>
      obtain ⟨left, lv, rfl, hl0, hl1, hv0, hv1, HRI, HK, HE, HB⟩ := hrel
      have c0 := Blk.cell HK.out 0
      have c1 := Blk.cell HK.out 1
      have c2 := Blk.cell HK.out 2
      have c3 := Blk.cell HK.out 3
      have f0 := Blk.frozen HK.out 0
      have f1 := Blk.frozen HK.out 1
      have f2 := Blk.frozen HK.out 2
      have f3 := Blk.frozen HK.out 3
      simp [PS.cells] at c0 c1 c2 c3
      by_cases gl : 0 < left ∧ lv < p.burst * 1000000
      · obtain ⟨gl1, gl2⟩ := gl
        go_wp2_with fail
        go_loop [7] (fun s => ∃ step : Int, s = .int .u64 step ∧ 1 ≤ step ∧ step ≤ left ∧ step ≤ 1125899906842624 ∧ step * p.rate ≤ 1125899906842624) (fun s => (2251799813685248 - intOf s).toNat)
        case atStart => exact ⟨1, rfl, by omega, by omega, by omega, by omega⟩
        case round =>
          obtain ⟨step, rfl, s1, s2, s3, s4⟩ := hrel
          have hm2 : step * 2 * p.rate = 2 * (step * p.rate) := by rw [Int.mul_comm step 2, Int.mul_assoc]
          have s5 : step ≤ step * p.rate := by
            have := Int.mul_le_mul_of_nonneg_left o1 (show 0 ≤ step by omega)
            omega
          have s6 : 0 ≤ step * 2 * p.rate ∧ step * 2 * p.rate ≤ 2251799813685248 := by omega
          by_cases gs : step * 2 ≤ left ∧ step * 2 * p.rate ≤ p.burst * 1000000
          · obtain ⟨gs1, gs2⟩ := gs
            have HM2 := Lib.hid hm2
            clear hm2
            go_wp2_with fail
            go_round
            case rel => exact ⟨step * 2, rfl, by omega, by omega, by have := HM2.out; omega, by have := HM2.out; omega⟩
            case measure => simp [intOf]; omega
          · have hri := HRI.out.next gl2 o1 s2
            by_cases gs1 : step * 2 ≤ left
            · have gs2 : ¬ step * 2 * p.rate ≤ p.burst * 1000000 := by omega
              have HM2 := Lib.hid hm2
              clear hm2 gs
              by_cases gf : p.burst * 1000000 < lv + step * p.rate
              · rw [if_pos gf] at hri
                have HRI2 := Lib.hid hri
                clear hri
                go_wp2_with fail
                go_roundw
                case rel =>
                  refine ⟨left - step, p.burst * 1000000, rfl, by omega, by omega, by omega, by omega, HRI2, Lib.hid ?_, Lib.hid ?_, Lib.hid ?_⟩
                  · apply Blk.cast
                    · (repeat (first | with_reducible exact HK.out | with_reducible apply Blk.set_ | with_reducible apply Blk.drewN))
                    · simp [PS.cells]
                  · (repeat (first | with_reducible exact HE.out | (with_reducible refine Blk.far ?_ (by simp) _)))
                  · (repeat (first | with_reducible exact HB.out | (with_reducible refine Below.setCell ?_ (by simp) _)))
                case measure => simp [intOf]; omega
              · rw [if_neg gf] at hri
                have HRI2 := Lib.hid hri
                clear hri
                go_wp2_with fail
                go_roundw
                case rel =>
                  refine ⟨left - step, lv + step * p.rate, rfl, by omega, by omega, by omega, by omega, HRI2, Lib.hid ?_, Lib.hid ?_, Lib.hid ?_⟩
                  · apply Blk.cast
                    · (repeat (first | with_reducible exact HK.out | with_reducible apply Blk.set_ | with_reducible apply Blk.drewN))
                    · simp [PS.cells]
                  · (repeat (first | with_reducible exact HE.out | (with_reducible refine Blk.far ?_ (by simp) _)))
                  · (repeat (first | with_reducible exact HB.out | (with_reducible refine Below.setCell ?_ (by simp) _)))
                case measure => simp [intOf]; omega
            · have gs1' : decide (step * 2 ≤ left) = false := by simp; omega
              have HM2 := Lib.hid hm2
              clear hm2 gs
              by_cases gf : p.burst * 1000000 < lv + step * p.rate
              · rw [if_pos gf] at hri
                have HRI2 := Lib.hid hri
                clear hri
                go_wp2_with fail
                go_roundw
                case rel =>
                  refine ⟨left - step, p.burst * 1000000, rfl, by omega, by omega, by omega, by omega, HRI2, Lib.hid ?_, Lib.hid ?_, Lib.hid ?_⟩
                  · apply Blk.cast
                    · (repeat (first | with_reducible exact HK.out | with_reducible apply Blk.set_ | with_reducible apply Blk.drewN))
                    · simp [PS.cells]
                  · (repeat (first | with_reducible exact HE.out | (with_reducible refine Blk.far ?_ (by simp) _)))
                  · (repeat (first | with_reducible exact HB.out | (with_reducible refine Below.setCell ?_ (by simp) _)))
                case measure => simp [intOf]; omega
              · rw [if_neg gf] at hri
                have HRI2 := Lib.hid hri
                clear hri
                go_wp2_with fail
                go_roundw
                case rel =>
                  refine ⟨left - step, lv + step * p.rate, rfl, by omega, by omega, by omega, by omega, HRI2, Lib.hid ?_, Lib.hid ?_, Lib.hid ?_⟩
                  · apply Blk.cast
                    · (repeat (first | with_reducible exact HK.out | with_reducible apply Blk.set_ | with_reducible apply Blk.drewN))
                    · simp [PS.cells]
                  · (repeat (first | with_reducible exact HE.out | (with_reducible refine Blk.far ?_ (by simp) _)))
                  · (repeat (first | with_reducible exact HB.out | (with_reducible refine Below.setCell ?_ (by simp) _)))
                case measure => simp [intOf]; omega
      · by_cases gl0 : 0 < left
        · have gl1 : ¬ lv < p.burst * 1000000 := by omega
          have c4 := Blk.cell HE.out 0
          have c5 := Blk.cell HE.out 1
          have c6 := Blk.cell HE.out 2
          have c7 := Blk.cell HE.out 3
          have f4 := Blk.frozen HE.out 0
          have f5 := Blk.frozen HE.out 1
          have f6 := Blk.frozen HE.out 2
          have f7 := Blk.frozen HE.out 3
          simp at c4 c5 c6 c7
          have HF := Lib.hid (HC.out lv (HRI.out.fin (by omega)))
          go_wp2_with fail
          have HE2 := Blk.far (p := ⟨w.heap.size, 2, none⟩) HE.out (by simp) (.int .u64 now)
          refine bodyPost_ret (v := .agg (PS.cells { p with at_ := now, level := lv })) (results_ps (t := 43) (g := w.heap.size + 1) rfl rfl ?_) rfl ⟨by rw [HF.out]; rfl, ?_⟩
          · apply Blk.cast
            · (repeat (first | with_reducible exact HE2 | with_reducible apply Blk.set_))
            · simp
          (repeat (first | with_reducible exact HB.out | (with_reducible refine Below.setCell ?_ (by simp) _)))
        · have gl0' : decide (0 < left) = false := by simp; omega
          have c4 := Blk.cell HE.out 0
          have c5 := Blk.cell HE.out 1
          have c6 := Blk.cell HE.out 2
          have c7 := Blk.cell HE.out 3
          have f4 := Blk.frozen HE.out 0
          have f5 := Blk.frozen HE.out 1
          have f6 := Blk.frozen HE.out 2
          have f7 := Blk.frozen HE.out 3
          simp at c4 c5 c6 c7
          have HF := Lib.hid (HC.out lv (HRI.out.fin (by omega)))
          go_wp2_with fail
          have HE2 := Blk.far (p := ⟨w.heap.size, 2, none⟩) HE.out (by simp) (.int .u64 now)
          refine bodyPost_ret (v := .agg (PS.cells { p with at_ := now, level := lv })) (results_ps (t := 43) (g := w.heap.size + 1) rfl rfl ?_) rfl ⟨by rw [HF.out]; rfl, ?_⟩
          · apply Blk.cast
            · (repeat (first | with_reducible exact HE2 | with_reducible apply Blk.set_))
            · simp
          (repeat (first | with_reducible exact HB.out | (with_reducible refine Below.setCell ?_ (by simp) _)))
end Go.Proofs.Ytfmbbjinlicbgaa
