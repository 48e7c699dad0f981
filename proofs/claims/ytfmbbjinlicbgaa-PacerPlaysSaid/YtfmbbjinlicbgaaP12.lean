/- The law PacerPlays (layer 35): its walk. Conditions: as each theorem states them. -/
import Derived.Test.YtfmbbjinlicbgaaP11
import Derived.Test.YtfmbbjinlicbgaaP9
import Derived.Test.YtfmbbjinlicbgaaWQ
namespace Go.Proofs.Ytfmbbjinlicbgaa
open Go.RowKit
theorem refAfter_lit (p : PS) (now : Int) (w : World) (ho : p.Ok) (h0 : 0 ≤ now) (h1 : now < 18446744073709551616) :
    Calls Try.prog 16 #[.agg #[.int .u64 p.rate, .int .u64 p.burst, .int .u64 p.at_, .int .u64 p.level], .int .u64 now] w fun e w' => e = .returned (.agg #[.int .u64 (p.afterS now).rate, .int .u64 (p.afterS now).burst, .int .u64 (p.afterS now).at_, .int .u64 (p.afterS now).level]) ∧ Below w.heap.size w w' := refAfter_any p now w ho h0 h1

theorem field_level (c0 c1 c2 c3 : Value) (w : World) : (Instr.field 43 (.agg #[c0, c1, c2, c3]) 3).run Try.prog w = .ok c3 w := by kernel_rfl

theorem next_fact {p : PS} (ho : p.Ok) (dt dn : Int) (h1 : dt < 18446744073709551616) (_h2 : 0 ≤ dn) (h3 : dn ≤ p.burst) :
    (p.afterS dt).at_ ≤ (p.afterS dt).nextS dn ∧ (p.afterS dt).nextS dn < 18446744073709551616 ∧
    ((dn * 1000000 ≤ (p.afterS dt).level ∧ (p.afterS dt).nextS dn = (p.afterS dt).at_) ∨
     ((p.afterS dt).level < dn * 1000000 ∧ 0 ≤ (dn * 1000000 - (p.afterS dt).level + p.rate - 1) / p.rate ∧ (p.afterS dt).at_ + (dn * 1000000 - (p.afterS dt).level + p.rate - 1) / p.rate < 18446744073709551616 ∧ (p.afterS dt).nextS dn = (p.afterS dt).at_ + (dn * 1000000 - (p.afterS dt).level + p.rate - 1) / p.rate) ∨
     ((p.afterS dt).level < dn * 1000000 ∧ 18446744073709551615 - (p.afterS dt).at_ < (dn * 1000000 - (p.afterS dt).level + p.rate - 1) / p.rate ∧ (dn * 1000000 - (p.afterS dt).level + p.rate - 1) / p.rate ≤ 2251799813685248 ∧ (p.afterS dt).nextS dn = 18446744073709551615)) := by
  have hq := ho.after dt h1
  have hr := (after_rate p dt).1
  have ho' := ho
  unfold PS.Ok at hq ho'
  unfold PS.nextS PS.waitS
  rw [hr]
  generalize p.afterS dt = q at *
  by_cases g : dn * 1000000 ≤ q.level
  · rw [if_pos g]; exact ⟨by omega, by omega, .inl ⟨g, rfl⟩⟩
  · rw [if_neg g]
    have hwt := div_le_of (dn * 1000000 - q.level + p.rate - 1) p.rate (by omega) ho'.1
    generalize (dn * 1000000 - q.level + p.rate - 1) / p.rate = W at *
    by_cases g2 : q.at_ + W < 18446744073709551615
    · rw [if_pos g2]; exact ⟨by omega, by omega, .inr (.inl ⟨by omega, by omega, by omega, rfl⟩)⟩
    · rw [if_neg g2]
      by_cases g3 : q.at_ + W = 18446744073709551615
      · exact ⟨by omega, by omega, .inr (.inl ⟨by omega, by omega, by omega, by omega⟩)⟩
      · exact ⟨by omega, by omega, .inr (.inr ⟨by omega, by omega, by omega, rfl⟩)⟩

set_option maxRecDepth 100000 in
set_option maxHeartbeats 8000000 in
theorem plays_walk (a0 a1 : Int) (A : Option Addr) (cap : Nat) (ds : List DoP) (w : World) (hA : IsDoPs w A ds) :
    Calls Try.prog 7 #[.int .u64 a0, .int .u64 a1, .slice A ds.length cap] w fun e w' => e = .returned (.bool true) ∧ Below w.heap.size w w' := by
  have HA := Lib.hid hA
  have hl := hA.1
  clear hA
  by_cases c1 : okNew a0 a1
  case neg =>
    go_enter Try.func7, Try.ntmps7
    go_wp2_with fail
    refine (new_no _ _ _ c1).mono ?_
    rintro e w' ⟨rfl, rfl⟩
    unfold okNew at c1
    by_cases y1 : a0 < 1
    · go_wp2_with (go_at_call 9; refine (works_any _).mono ?_; rintro e w1 ⟨rfl, hb1⟩)
      go_ret
      exact ⟨rfl, hb1⟩
    have y1' : decide (a0 < 1) = false := by simp; omega
    by_cases y2 : 1073741824 < a0
    · go_wp2_with (go_at_call 9; refine (works_any _).mono ?_; rintro e w1 ⟨rfl, hb1⟩)
      go_ret
      exact ⟨rfl, hb1⟩
    have y2' : decide (1073741824 < a0) = false := by simp; omega
    by_cases y3 : a1 < 1200
    · go_wp2_with (go_at_call 9; refine (works_any _).mono ?_; rintro e w1 ⟨rfl, hb1⟩)
      go_ret
      exact ⟨rfl, hb1⟩
    have y3' : decide (a1 < 1200) = false := by simp; omega
    have y4 : 1073741824 < a1 := by omega
    go_wp2_with (go_at_call 9; refine (works_any _).mono ?_; rintro e w1 ⟨rfl, hb1⟩)
    go_ret
    exact ⟨rfl, hb1⟩
  have C1 := Lib.hid c1
  unfold okNew at c1
  obtain ⟨c10, c11, c12, c13⟩ := c1
  have hok : PS.Ok ⟨a0, a1, 0, a1 * 1000000⟩ := by unfold PS.Ok; simp only; omega
  have HOK := Lib.hid hok
  clear hok
  go_enter Try.func7, Try.ntmps7
  go_wp2_with fail
  refine (new_yes _ _ _ C1.out).mono ?_
  rintro e w1 ⟨rfl, hm1, hz1, hb1⟩
  have HM1 := Lib.hid hm1
  have HB1 := Lib.hid hb1
  clear hm1 hb1 hz1
  have x1 : decide (a0 < 1) = false := by simp; omega
  have x2 : decide (1073741824 < a0) = false := by simp; omega
  have x3 : decide (a1 < 1200) = false := by simp; omega
  go_wp2_with fail
  refine (heavy_any A ds cap _ (HA.out.below HB1.out)).mono ?_
  rintro e w2 ⟨b, rfl, _, _, hb2⟩
  have HM2 := Lib.hid (Blk.below HM1.out hb2 (Blk.lt HM1.out))
  have HB2 := Lib.hid (HB1.out.trans (hb2.mono HB1.out.size))
  clear hb2
  cases b with
  | true =>
    go_wp2_with (go_at_call 9; refine (works_any _).mono ?_; rintro e w3 ⟨rfl, hb3⟩)
    go_ret
    exact ⟨rfl, HB2.out.trans (hb3.mono HB2.out.size)⟩
  | false =>
    go_wp2_with fail
    go_loopw [69] (fun i wr => ∃ (k : Nat) (p : PS), k ≤ ds.length ∧ i = .int .i64 k ∧ Hid (p.Ok ∧ p.burst = a1) ∧ Hid (PSt w.heap.size wr p) ∧ Hid (Blk wr w2.heap.size 43 p.cells) ∧ Hid (Below w.heap.size w wr)) (fun i _ => ds.length - (intOf i).toNat)
    case atStart => exact ⟨0, ⟨a0, a1, 0, a1 * 1000000⟩, by omega, rfl, Lib.hid ⟨HOK.out, rfl⟩, Lib.hid (Blk.alloc HM2.out _), Lib.hid (Blk.new _ _ _), Lib.hid (HB2.out.alloc HB2.out.size _)⟩
    case round =>
      obtain ⟨k, p, hk, rfl, HP, HM, HK, HB⟩ := hrel
      clear x1 x2 x3
      by_cases hlt : k < ds.length
      case neg =>
        go_wp2_with (go_at_call 9; refine (works_any _).mono ?_; rintro e w3 ⟨rfl, hb3⟩)
        go_ret
        exact ⟨rfl, HB.out.trans (hb3.mono HB.out.size)⟩
      obtain ⟨a, hA, d1, d2, d3, d4, d5⟩ := HA.out.2.2 k hlt
      have hfit := HA.out.fit hlt
      generalize ds.getD k DoP.none = d at *
      obtain ⟨kd, dt, dn, dA, dc, ns⟩ := d
      simp only [DoP.Fit] at d1 d2 d3 d4 d5 hfit
      obtain ⟨q1, q2, q3, q4, q5, q6, q7⟩ := hfit
      have u1 := Below.cell_some HB.out d1 (cell_lt d1)
      have u2 := Below.cell_some HB.out d2 (cell_lt d2)
      have u3 := Below.cell_some HB.out d3 (cell_lt d3)
      have u4 := Below.cell_some HB.out d4 (cell_lt d4)
      have D5 := Lib.hid d5
      subst hA
      clear d1 d2 d3 d4 d5
      have v0 := Blk.cell HK.out 0
      have v1 := Blk.cell HK.out 1
      have v2 := Blk.cell HK.out 2
      have v3 := Blk.cell HK.out 3
      simp [PS.cells] at v0 v1 v2 v3
      have hKl : w2.heap.size < wr.heap.size := Blk.lt HK.out
      have hAf := Lib.hid (fun w => refAfter_any p dt w HP.out.1 (by omega) (by omega))
      unfold PS.cells at hAf
      go_wp2_with fail
      refine (hAf.out _).mono ?_
      rintro e w3 ⟨rfl, hb3⟩
      have HX3 : Hid (Blk w3 wr.heap.size 35 #[.int .u8 kd, .int .u64 dt, .int .u64 dn, .slice dA ns.length dc]) := Lib.hid (Blk.below (Blk.new _ _ _) hb3 (by simp))
      have HM3 := Lib.hid (Blk.below (Blk.alloc HM.out _) hb3 (by have := Blk.lt HM.out; simp; omega))
      have HK3 := Lib.hid (Blk.below (Blk.alloc HK.out _) hb3 (by simp; omega))
      have HB3 := Lib.hid ((HB.out.alloc HB.out.size (.cells #[.int .u8 kd, .int .u64 dt, .int .u64 dn, .slice dA ns.length dc] 35)).trans (hb3.mono (by have := HB.out.size; simp; omega)))
      clear hb3 hAf u1 u2 u3 u4 v0 v1 v2 v3 HM HK HB
      have HPz := HP
      have HO := Lib.hid HP.out.1
      have hX3 : wr.heap.size < w3.heap.size := Blk.lt HX3.out
      generalize wr.heap.size = X at *
      have HM4 := Lib.hid (Blk.alloc HM3.out (.cells #[.int .u64 (p.afterS dt).rate, .int .u64 (p.afterS dt).burst, .int .u64 (p.afterS dt).at_, .int .u64 (p.afterS dt).level] 43))
      have HK4 := Lib.hid (Blk.alloc HK3.out (.cells #[.int .u64 (p.afterS dt).rate, .int .u64 (p.afterS dt).burst, .int .u64 (p.afterS dt).at_, .int .u64 (p.afterS dt).level] 43))
      have HX4 := Lib.hid (Blk.alloc HX3.out (.cells #[.int .u64 (p.afterS dt).rate, .int .u64 (p.afterS dt).burst, .int .u64 (p.afterS dt).at_, .int .u64 (p.afterS dt).level] 43))
      have HN4 := Lib.hid (Blk.new w3 43 #[.int .u64 (p.afterS dt).rate, .int .u64 (p.afterS dt).burst, .int .u64 (p.afterS dt).at_, .int .u64 (p.afterS dt).level])
      have HB4 := Lib.hid (HB3.out.alloc HB3.out.size (.cells #[.int .u64 (p.afterS dt).rate, .int .u64 (p.afterS dt).burst, .int .u64 (p.afterS dt).at_, .int .u64 (p.afterS dt).level] 43))
      have hqok : 0 ≤ (p.afterS dt).level ∧ (p.afterS dt).level ≤ 1073741824000000 := by have := HO.out.after dt (by omega); unfold PS.Ok at this; omega
      have m0 := Blk.cell HX3.out 0
      have m1 := Blk.cell HX3.out 1
      have m2 := Blk.cell HX3.out 2
      have m3 := Blk.cell HX3.out 3
      simp at m0 m1 m2 m3
      have n0 := Blk.cell HK3.out 0
      have n1 := Blk.cell HK3.out 1
      have n2 := Blk.cell HK3.out 2
      have n3 := Blk.cell HK3.out 3
      simp [PS.cells] at n0 n1 n2 n3
      have hR3 : w2.heap.size < w3.heap.size := Blk.lt HK3.out
      have hbR : w.heap.size < w2.heap.size := Blk.lt HM2.out
      by_cases k0 : kd = 0
      · subst k0
        as_aux_lemma =>
          rcases hgo : goL (p.afterS dt).level ns with _ | m
          · have HGO := Lib.hid hgo
            clear hgo
            have hRef := Lib.hid (fun w hr => refGo_no p dt dA dc ns w HO.out (by omega) (by omega) hr (by omega) HGO.out)
            unfold PS.cells at hRef
            go_wp2_with fail
            refine (hRef.out _ (D5.out.below HB4.out)).mono ?_
            rintro e w5 ⟨rfl, hb5⟩
            have HM5 := Lib.hid (Blk.below HM4.out hb5 (Blk.lt HM4.out))
            have HK5 := Lib.hid (Blk.below HK4.out hb5 (Blk.lt HK4.out))
            have HX5 := Lib.hid (Blk.below HX4.out hb5 (Blk.lt HX4.out))
            have HB5 := Lib.hid (HB4.out.trans (hb5.mono HB4.out.size))
            have o1 := Blk.cell HX5.out 1
            have o3 := Blk.cell HX5.out 3
            simp at o1 o3
            have hX5 : X < w5.heap.size := Blk.lt HX5.out
            clear hb5 hRef m0 m1 m2 m3 n0 n1 n2 n3
            have HM6 := Lib.hid (Blk.alloc HM5.out (.cells #[.int .u64 p.rate, .int .u64 p.burst, .int .u64 p.at_, .int .u64 p.level] 43))
            have HB6 := Lib.hid (HB5.out.alloc HB5.out.size (.cells #[.int .u64 p.rate, .int .u64 p.burst, .int .u64 p.at_, .int .u64 p.level] 43))
            go_wp2_with fail
            refine (go_no _ p dt dA dc ns _ (by exact HM6.out) HO.out (by omega) (by omega) (by exact (D5.out.below HB6.out)) (by omega) HGO.out).mono ?_
            rintro e w7 ⟨rfl, hb7⟩
            have HK7 := Lib.hid (Blk.below (Blk.alloc HK5.out (.cells #[.int .u64 p.rate, .int .u64 p.burst, .int .u64 p.at_, .int .u64 p.level] 43)) hb7 (by have := Blk.lt HK5.out; simp; omega))
            have HX7 := Lib.hid (Blk.below (Blk.alloc HX5.out (.cells #[.int .u64 p.rate, .int .u64 p.burst, .int .u64 p.at_, .int .u64 p.level] 43)) hb7 (by simp; omega))
            have HM7 := Lib.hid (Blk.below HM6.out hb7 (Blk.lt HM6.out))
            have HE7 := Lib.hid (Blk.below (Blk.new w5 43 #[.int .u64 p.rate, .int .u64 p.burst, .int .u64 p.at_, .int .u64 p.level]) hb7 (by simp))
            have HB7 := Lib.hid (HB6.out.trans (hb7.mono HB6.out.size))
            have r0 := Blk.cell HE7.out 0
            have r1 := Blk.cell HE7.out 1
            have r2 := Blk.cell HE7.out 2
            have r3 := Blk.cell HE7.out 3
            have s0 := Blk.cell HK7.out 0
            have s1 := Blk.cell HK7.out 1
            have s2 := Blk.cell HK7.out 2
            have s3 := Blk.cell HK7.out 3
            have f0 := Blk.frozen HK7.out 0
            have f1 := Blk.frozen HK7.out 1
            have f2 := Blk.frozen HK7.out 2
            have f3 := Blk.frozen HK7.out 3
            simp [PS.cells] at r0 r1 r2 r3 s0 s1 s2 s3
            clear hb7 o1 o3
            go_wp2_with fail
            have HM8 := Lib.hid (Blk.far (p := ⟨w2.heap.size, 3, none⟩) (Blk.far (p := ⟨w2.heap.size, 2, none⟩) (Blk.far (p := ⟨w2.heap.size, 1, none⟩) (Blk.far (p := ⟨w2.heap.size, 0, none⟩) HM7.out (by simp; omega) (.int .u64 p.rate)) (by simp; omega) (.int .u64 p.burst)) (by simp; omega) (.int .u64 p.at_)) (by simp; omega) (.int .u64 p.level))
            have HX8 := Lib.hid (Blk.far (p := ⟨w2.heap.size, 3, none⟩) (Blk.far (p := ⟨w2.heap.size, 2, none⟩) (Blk.far (p := ⟨w2.heap.size, 1, none⟩) (Blk.far (p := ⟨w2.heap.size, 0, none⟩) HX7.out (by simp; omega) (.int .u64 p.rate)) (by simp; omega) (.int .u64 p.burst)) (by simp; omega) (.int .u64 p.at_)) (by simp; omega) (.int .u64 p.level))
            have HK8 : Hid (Blk ((((w7.setCell ⟨w2.heap.size, 0, none⟩ (.int .u64 p.rate)).setCell ⟨w2.heap.size, 1, none⟩ (.int .u64 p.burst)).setCell ⟨w2.heap.size, 2, none⟩ (.int .u64 p.at_)).setCell ⟨w2.heap.size, 3, none⟩ (.int .u64 p.level)) w2.heap.size 43 p.cells) := Lib.hid (Blk.cast (Blk.set_ (Blk.set_ (Blk.set_ (Blk.set_ HK7.out 0 _) 1 _) 2 _) 3 _) (by simp [PS.cells]))
            have HB8 := Lib.hid ((((HB7.out.setCell (p := ⟨w2.heap.size, 0, none⟩) (by simp; omega) (.int .u64 p.rate)).setCell (p := ⟨w2.heap.size, 1, none⟩) (by simp; omega) (.int .u64 p.burst)).setCell (p := ⟨w2.heap.size, 2, none⟩) (by simp; omega) (.int .u64 p.at_)).setCell (p := ⟨w2.heap.size, 3, none⟩) (by simp; omega) (.int .u64 p.level))
            generalize (((w7.setCell ⟨w2.heap.size, 0, none⟩ (.int .u64 p.rate)).setCell ⟨w2.heap.size, 1, none⟩ (.int .u64 p.burst)).setCell ⟨w2.heap.size, 2, none⟩ (.int .u64 p.at_)).setCell ⟨w2.heap.size, 3, none⟩ (.int .u64 p.level) = w8 at *
            as_aux_lemma =>
              have zat : 0 ≤ p.at_ := by have := HO.out; unfold PS.Ok at this; omega
              have z1 : (p.levelS dt != (p.afterS dt).level / 1000000) = false := by simp [PS.levelS]
              have z2 : (p.levelS 0 != p.level / 1000000) = false := by simp [PS.levelS, after_old zat]
              have zl : 0 ≤ (p.afterS dt).level ∧ (p.afterS dt).level ≤ 1073741824000000 := by have := HO.out.after dt (by omega); unfold PS.Ok at this; omega
              have zl2 : 0 ≤ p.level ∧ p.level ≤ 1073741824000000 := by have := HO.out; unfold PS.Ok at this; omega
              have y0 : ∀ r : BW w8.heap.size w8, r.world.cell? ⟨w2.heap.size, 0, none⟩ = some (.int .u64 p.rate) := fun r => BW.cell (w := w8) (N := w8.heap.size) (p := ⟨w2.heap.size, 0, none⟩) (Blk.cell HK8.out 0) (Blk.lt HK8.out) r
              have y1 : ∀ r : BW w8.heap.size w8, r.world.cell? ⟨w2.heap.size, 1, none⟩ = some (.int .u64 p.burst) := fun r => BW.cell (w := w8) (N := w8.heap.size) (p := ⟨w2.heap.size, 1, none⟩) (Blk.cell HK8.out 1) (Blk.lt HK8.out) r
              have y2 : ∀ r : BW w8.heap.size w8, r.world.cell? ⟨w2.heap.size, 2, none⟩ = some (.int .u64 p.at_) := fun r => BW.cell (w := w8) (N := w8.heap.size) (p := ⟨w2.heap.size, 2, none⟩) (Blk.cell HK8.out 2) (Blk.lt HK8.out) r
              have y3 : ∀ r : BW w8.heap.size w8, r.world.cell? ⟨w2.heap.size, 3, none⟩ = some (.int .u64 p.level) := fun r => BW.cell (w := w8) (N := w8.heap.size) (p := ⟨w2.heap.size, 3, none⟩) (Blk.cell HK8.out 3) (Blk.lt HK8.out) r
              have y4 : ∀ r : BW w8.heap.size w8, r.world.cell? ⟨X, 1, none⟩ = some (.int .u64 dt) := fun r => BW.cell (w := w8) (N := w8.heap.size) (p := ⟨X, 1, none⟩) (Blk.cell HX8.out 1) (Blk.lt HX8.out) r
              have yP := Lib.hid (fun r : BW w8.heap.size w8 => (Blk.below HM8.out r.below (Blk.lt HM8.out) : PSt w.heap.size r.world p))
              have hfd := fun (c0 c1 c2 c3 : Int) => field_level (.int .u64 c0) (.int .u64 c1) (.int .u64 c2) (.int .u64 c3)
              go_wp2_with fail
              refine wp_region_below_lit w8.heap.size (by kernel_rfl) (by kernel_rfl) ?_
              repeat (go_big_quiet_step (first | (go_at_call 10; exact Calls.bw (Nat.le_refl _) (level_any w.heap.size p _ _ (yP.out _) HO.out (by omega) (by omega))) | (go_at_call 16; exact Calls.bw (Nat.le_refl _) (refAfter_lit p dt _ HO.out (by omega) (by omega)))))
              refine wpQuiet_nil ?_
              intro _ hw'
              obtain ⟨r, rfl⟩ := hw'
              have HMz := Lib.hid (yP.out r)
              have HKz := Lib.hid (Blk.below HK8.out r.below (Blk.lt HK8.out))
              have HBz := Lib.hid (HB8.out.trans (r.below.mono HB8.out.size))
              clear y0 y1 y2 y3 y4 yP z1 z2 hfd
              go_wp2_with fail
              go_roundw
              case rel => exact ⟨k + 1, p, by omega, by go_num, HPz, HMz, HKz, HBz⟩
              case measure => simp [intOf]; omega
          · have HGO := Lib.hid hgo
            have HOn : Hid (({ p.afterS dt with level := m } : PS).Ok) := Lib.hid (go_ok HO.out (by omega) hgo (fun n hn => (D5.out.1 n hn).1))
            have HPz : Hid (({ p.afterS dt with level := m } : PS).Ok ∧ ({ p.afterS dt with level := m } : PS).burst = a1) := Lib.hid ⟨HOn.out, (after_rate p dt).2.trans HP.out.2⟩
            clear hgo
            have hRef := Lib.hid (fun w hr => refGo_yes p dt dA dc ns m w HO.out (by omega) (by omega) hr (by omega) HGO.out)
            unfold PS.cells at hRef
            go_wp2_with fail
            refine (hRef.out _ (D5.out.below HB4.out)).mono ?_
            rintro e w5 ⟨rfl, hb5⟩
            have HM5 := Lib.hid (Blk.below HM4.out hb5 (Blk.lt HM4.out))
            have HK5 := Lib.hid (Blk.below HK4.out hb5 (Blk.lt HK4.out))
            have HX5 := Lib.hid (Blk.below HX4.out hb5 (Blk.lt HX4.out))
            have HB5 := Lib.hid (HB4.out.trans (hb5.mono HB4.out.size))
            have o1 := Blk.cell HX5.out 1
            have o3 := Blk.cell HX5.out 3
            simp at o1 o3
            have hX5 : X < w5.heap.size := Blk.lt HX5.out
            have hb5w : w.heap.size < w5.heap.size := Blk.lt HM5.out
            clear hb5 hRef m0 m1 m2 m3 n0 n1 n2 n3
            have HM6 := Lib.hid (Blk.alloc HM5.out (.cells #[.int .u64 (p.afterS dt).rate, .int .u64 (p.afterS dt).burst, .int .u64 (p.afterS dt).at_, .int .u64 m] 43))
            have HB6 := Lib.hid (HB5.out.alloc HB5.out.size (.cells #[.int .u64 (p.afterS dt).rate, .int .u64 (p.afterS dt).burst, .int .u64 (p.afterS dt).at_, .int .u64 m] 43))
            go_wp2_with fail
            refine (go_yes _ p dt dA dc ns m _ (by exact HM6.out) HO.out (by omega) (by omega) (by exact (D5.out.below HB6.out)) (by omega) HGO.out).mono ?_
            rintro e w7 ⟨rfl, hm7, hg7⟩
            have HK7 := Lib.hid (Blk.grown (Blk.alloc HK5.out (.cells #[.int .u64 (p.afterS dt).rate, .int .u64 (p.afterS dt).burst, .int .u64 (p.afterS dt).at_, .int .u64 m] 43)) hg7 (by simp; omega))
            have HX7 := Lib.hid (Blk.grown (Blk.alloc HX5.out (.cells #[.int .u64 (p.afterS dt).rate, .int .u64 (p.afterS dt).burst, .int .u64 (p.afterS dt).at_, .int .u64 m] 43)) hg7 (by simp; omega))
            have HM7 := Lib.hid hm7
            have HE7 := Lib.hid (Blk.grown (Blk.new w5 43 #[.int .u64 (p.afterS dt).rate, .int .u64 (p.afterS dt).burst, .int .u64 (p.afterS dt).at_, .int .u64 m]) hg7 (by simp; omega))
            have HB7 := Lib.hid (HB6.out.trans (below_of_only hg7 (Nat.le_refl _) (by simp; omega)))
            clear hm7 hg7 o1 o3
            obtain ⟨pz, hpz⟩ : ∃ pz : PS, pz = { p.afterS dt with level := m } := ⟨_, rfl⟩
            have HE7' : Hid (Blk w7 w5.heap.size 43 #[.int .u64 pz.rate, .int .u64 pz.burst, .int .u64 pz.at_, .int .u64 pz.level]) := Lib.hid (by rw [hpz]; exact HE7.out)
            have HPz' : Hid (pz.Ok ∧ pz.burst = a1) := Lib.hid (by rw [hpz]; exact HPz.out)
            rw [← hpz] at HM7 HOn
            clear hpz HPz
            have HPz := HPz'
            have r0 := Blk.cell HE7'.out 0
            have r1 := Blk.cell HE7'.out 1
            have r2 := Blk.cell HE7'.out 2
            have r3 := Blk.cell HE7'.out 3
            have s0 := Blk.cell HK7.out 0
            have s1 := Blk.cell HK7.out 1
            have s2 := Blk.cell HK7.out 2
            have s3 := Blk.cell HK7.out 3
            have f0 := Blk.frozen HK7.out 0
            have f1 := Blk.frozen HK7.out 1
            have f2 := Blk.frozen HK7.out 2
            have f3 := Blk.frozen HK7.out 3
            simp [PS.cells] at r0 r1 r2 r3 s0 s1 s2 s3
            go_wp2_with fail
            have HM8 := Lib.hid (Blk.far (p := ⟨w2.heap.size, 3, none⟩) (Blk.far (p := ⟨w2.heap.size, 2, none⟩) (Blk.far (p := ⟨w2.heap.size, 1, none⟩) (Blk.far (p := ⟨w2.heap.size, 0, none⟩) HM7.out (by simp; omega) (.int .u64 pz.rate)) (by simp; omega) (.int .u64 pz.burst)) (by simp; omega) (.int .u64 pz.at_)) (by simp; omega) (.int .u64 pz.level))
            have HX8 := Lib.hid (Blk.far (p := ⟨w2.heap.size, 3, none⟩) (Blk.far (p := ⟨w2.heap.size, 2, none⟩) (Blk.far (p := ⟨w2.heap.size, 1, none⟩) (Blk.far (p := ⟨w2.heap.size, 0, none⟩) HX7.out (by simp; omega) (.int .u64 pz.rate)) (by simp; omega) (.int .u64 pz.burst)) (by simp; omega) (.int .u64 pz.at_)) (by simp; omega) (.int .u64 pz.level))
            have HK8 : Hid (Blk ((((w7.setCell ⟨w2.heap.size, 0, none⟩ (.int .u64 pz.rate)).setCell ⟨w2.heap.size, 1, none⟩ (.int .u64 pz.burst)).setCell ⟨w2.heap.size, 2, none⟩ (.int .u64 pz.at_)).setCell ⟨w2.heap.size, 3, none⟩ (.int .u64 pz.level)) w2.heap.size 43 pz.cells) := Lib.hid (Blk.cast (Blk.set_ (Blk.set_ (Blk.set_ (Blk.set_ HK7.out 0 _) 1 _) 2 _) 3 _) (by simp [PS.cells]))
            have HB8 := Lib.hid ((((HB7.out.setCell (p := ⟨w2.heap.size, 0, none⟩) (by simp; omega) (.int .u64 pz.rate)).setCell (p := ⟨w2.heap.size, 1, none⟩) (by simp; omega) (.int .u64 pz.burst)).setCell (p := ⟨w2.heap.size, 2, none⟩) (by simp; omega) (.int .u64 pz.at_)).setCell (p := ⟨w2.heap.size, 3, none⟩) (by simp; omega) (.int .u64 pz.level))
            generalize (((w7.setCell ⟨w2.heap.size, 0, none⟩ (.int .u64 pz.rate)).setCell ⟨w2.heap.size, 1, none⟩ (.int .u64 pz.burst)).setCell ⟨w2.heap.size, 2, none⟩ (.int .u64 pz.at_)).setCell ⟨w2.heap.size, 3, none⟩ (.int .u64 pz.level) = w8 at *
            as_aux_lemma =>
              have zat : 0 ≤ pz.at_ := by have := HOn.out; unfold PS.Ok at this; omega
              have z1 : (pz.levelS dt != (pz.afterS dt).level / 1000000) = false := by simp [PS.levelS]
              have z2 : (pz.levelS 0 != pz.level / 1000000) = false := by simp [PS.levelS, after_old zat]
              have zl : 0 ≤ (pz.afterS dt).level ∧ (pz.afterS dt).level ≤ 1073741824000000 := by have := HOn.out.after dt (by omega); unfold PS.Ok at this; omega
              have zl2 : 0 ≤ pz.level ∧ pz.level ≤ 1073741824000000 := by have := HOn.out; unfold PS.Ok at this; omega
              have y0 : ∀ r : BW w8.heap.size w8, r.world.cell? ⟨w2.heap.size, 0, none⟩ = some (.int .u64 pz.rate) := fun r => BW.cell (w := w8) (N := w8.heap.size) (p := ⟨w2.heap.size, 0, none⟩) (Blk.cell HK8.out 0) (Blk.lt HK8.out) r
              have y1 : ∀ r : BW w8.heap.size w8, r.world.cell? ⟨w2.heap.size, 1, none⟩ = some (.int .u64 pz.burst) := fun r => BW.cell (w := w8) (N := w8.heap.size) (p := ⟨w2.heap.size, 1, none⟩) (Blk.cell HK8.out 1) (Blk.lt HK8.out) r
              have y2 : ∀ r : BW w8.heap.size w8, r.world.cell? ⟨w2.heap.size, 2, none⟩ = some (.int .u64 pz.at_) := fun r => BW.cell (w := w8) (N := w8.heap.size) (p := ⟨w2.heap.size, 2, none⟩) (Blk.cell HK8.out 2) (Blk.lt HK8.out) r
              have y3 : ∀ r : BW w8.heap.size w8, r.world.cell? ⟨w2.heap.size, 3, none⟩ = some (.int .u64 pz.level) := fun r => BW.cell (w := w8) (N := w8.heap.size) (p := ⟨w2.heap.size, 3, none⟩) (Blk.cell HK8.out 3) (Blk.lt HK8.out) r
              have y4 : ∀ r : BW w8.heap.size w8, r.world.cell? ⟨X, 1, none⟩ = some (.int .u64 dt) := fun r => BW.cell (w := w8) (N := w8.heap.size) (p := ⟨X, 1, none⟩) (Blk.cell HX8.out 1) (Blk.lt HX8.out) r
              have yP := Lib.hid (fun r : BW w8.heap.size w8 => (Blk.below HM8.out r.below (Blk.lt HM8.out) : PSt w.heap.size r.world pz))
              have hfd := fun (c0 c1 c2 c3 : Int) => field_level (.int .u64 c0) (.int .u64 c1) (.int .u64 c2) (.int .u64 c3)
              go_wp2_with fail
              refine wp_region_below_lit w8.heap.size (by kernel_rfl) (by kernel_rfl) ?_
              repeat (go_big_quiet_step (first | (go_at_call 10; exact Calls.bw (Nat.le_refl _) (level_any w.heap.size pz _ _ (yP.out _) HOn.out (by omega) (by omega))) | (go_at_call 16; exact Calls.bw (Nat.le_refl _) (refAfter_lit pz dt _ HOn.out (by omega) (by omega)))))
              refine wpQuiet_nil ?_
              intro _ hw'
              obtain ⟨r, rfl⟩ := hw'
              have HMz := Lib.hid (yP.out r)
              have HKz := Lib.hid (Blk.below HK8.out r.below (Blk.lt HK8.out))
              have HBz := Lib.hid (HB8.out.trans (r.below.mono HB8.out.size))
              clear y0 y1 y2 y3 y4 yP z1 z2 hfd
              go_wp2_with fail
              go_roundw
              case rel => exact ⟨k + 1, pz, by omega, by go_num, HPz, HMz, HKz, HBz⟩
              case measure => simp [intOf]; omega
      have k0' : (kd == 0) = false := by simp [k0]
      clear k0
      by_cases k1 : kd = 1
      · subst k1
        as_aux_lemma =>
          by_cases hrt : 1 ≤ dn ∧ dn ≤ 1073741824
          · obtain ⟨hr1, hr2⟩ := hrt
            have HOn : Hid (({ p.afterS dt with rate := dn } : PS).Ok) := Lib.hid (by have := HO.out.after dt (by omega); unfold PS.Ok at *; simp only; omega)
            have HPz : Hid (({ p.afterS dt with rate := dn } : PS).Ok ∧ ({ p.afterS dt with rate := dn } : PS).burst = a1) := Lib.hid ⟨HOn.out, (after_rate p dt).2.trans HP.out.2⟩
            go_wp2_with fail
            refine (rate_yes _ p dt dn _ (by exact HM4.out) HO.out (by omega) (by omega) (by omega) (by omega)).mono ?_
            rintro e w7 ⟨rfl, hm7, hg7⟩
            have HK7 := Lib.hid (Blk.grown HK4.out hg7 (by simp; omega))
            have HX7 := Lib.hid (Blk.grown HX4.out hg7 (by simp; omega))
            have HN7 := Lib.hid (Blk.grown HN4.out hg7 (by simp; omega))
            have HM7 := Lib.hid hm7
            have HB7 := Lib.hid (HB4.out.trans (below_of_only hg7 (Nat.le_refl _) (by simp; omega)))
            clear hm7 hg7 m0 m1 m2 m3 n0 n1 n2 n3
            have r0 := Blk.cell HN7.out 0
            have r1 := Blk.cell HN7.out 1
            have r2 := Blk.cell HN7.out 2
            have r3 := Blk.cell HN7.out 3
            have s0 := Blk.cell HK7.out 0
            have s1 := Blk.cell HK7.out 1
            have s2 := Blk.cell HK7.out 2
            have s3 := Blk.cell HK7.out 3
            have o2 := Blk.cell HX7.out 2
            have f0 := Blk.frozen HK7.out 0
            have f1 := Blk.frozen HK7.out 1
            have f2 := Blk.frozen HK7.out 2
            have f3 := Blk.frozen HK7.out 3
            simp [PS.cells] at r0 r1 r2 r3 s0 s1 s2 s3 o2
            go_wp2_with fail
            have HM8 := Lib.hid (Blk.far (p := ⟨w2.heap.size, 0, none⟩) (Blk.far (p := ⟨w2.heap.size, 3, none⟩) (Blk.far (p := ⟨w2.heap.size, 2, none⟩) (Blk.far (p := ⟨w2.heap.size, 1, none⟩) (Blk.far (p := ⟨w2.heap.size, 0, none⟩) HM7.out (by simp; omega) (.int .u64 (p.afterS dt).rate)) (by simp; omega) (.int .u64 (p.afterS dt).burst)) (by simp; omega) (.int .u64 (p.afterS dt).at_)) (by simp; omega) (.int .u64 (p.afterS dt).level)) (by simp; omega) (.int .u64 dn))
            have HX8 := Lib.hid (Blk.far (p := ⟨w2.heap.size, 0, none⟩) (Blk.far (p := ⟨w2.heap.size, 3, none⟩) (Blk.far (p := ⟨w2.heap.size, 2, none⟩) (Blk.far (p := ⟨w2.heap.size, 1, none⟩) (Blk.far (p := ⟨w2.heap.size, 0, none⟩) HX7.out (by simp; omega) (.int .u64 (p.afterS dt).rate)) (by simp; omega) (.int .u64 (p.afterS dt).burst)) (by simp; omega) (.int .u64 (p.afterS dt).at_)) (by simp; omega) (.int .u64 (p.afterS dt).level)) (by simp; omega) (.int .u64 dn))
            have HK8 : Hid (Blk (((((w7.setCell ⟨w2.heap.size, 0, none⟩ (.int .u64 (p.afterS dt).rate)).setCell ⟨w2.heap.size, 1, none⟩ (.int .u64 (p.afterS dt).burst)).setCell ⟨w2.heap.size, 2, none⟩ (.int .u64 (p.afterS dt).at_)).setCell ⟨w2.heap.size, 3, none⟩ (.int .u64 (p.afterS dt).level)).setCell ⟨w2.heap.size, 0, none⟩ (.int .u64 dn)) w2.heap.size 43 ({ p.afterS dt with rate := dn } : PS).cells) := Lib.hid (Blk.cast (Blk.set_ (Blk.set_ (Blk.set_ (Blk.set_ (Blk.set_ HK7.out 0 _) 1 _) 2 _) 3 _) 0 _) (by simp [PS.cells]))
            have HB8 := Lib.hid (((((HB7.out.setCell (p := ⟨w2.heap.size, 0, none⟩) (by simp; omega) (.int .u64 (p.afterS dt).rate)).setCell (p := ⟨w2.heap.size, 1, none⟩) (by simp; omega) (.int .u64 (p.afterS dt).burst)).setCell (p := ⟨w2.heap.size, 2, none⟩) (by simp; omega) (.int .u64 (p.afterS dt).at_)).setCell (p := ⟨w2.heap.size, 3, none⟩) (by simp; omega) (.int .u64 (p.afterS dt).level)).setCell (p := ⟨w2.heap.size, 0, none⟩) (by simp; omega) (.int .u64 dn))
            generalize (((((w7.setCell ⟨w2.heap.size, 0, none⟩ (.int .u64 (p.afterS dt).rate)).setCell ⟨w2.heap.size, 1, none⟩ (.int .u64 (p.afterS dt).burst)).setCell ⟨w2.heap.size, 2, none⟩ (.int .u64 (p.afterS dt).at_)).setCell ⟨w2.heap.size, 3, none⟩ (.int .u64 (p.afterS dt).level)).setCell ⟨w2.heap.size, 0, none⟩ (.int .u64 dn)) = w8 at *
            obtain ⟨pz, hpz⟩ : ∃ pz : PS, pz = { p.afterS dt with rate := dn } := ⟨_, rfl⟩
            have HPz' : Hid (pz.Ok ∧ pz.burst = a1) := Lib.hid (by rw [hpz]; exact HPz.out)
            rw [← hpz] at HM8 HOn HK8
            clear hpz HPz
            have HPz := HPz'
            as_aux_lemma =>
              have zat : 0 ≤ pz.at_ := by have := HOn.out; unfold PS.Ok at this; omega
              have z1 : (pz.levelS dt != (pz.afterS dt).level / 1000000) = false := by simp [PS.levelS]
              have z2 : (pz.levelS 0 != pz.level / 1000000) = false := by simp [PS.levelS, after_old zat]
              have zl : 0 ≤ (pz.afterS dt).level ∧ (pz.afterS dt).level ≤ 1073741824000000 := by have := HOn.out.after dt (by omega); unfold PS.Ok at this; omega
              have zl2 : 0 ≤ pz.level ∧ pz.level ≤ 1073741824000000 := by have := HOn.out; unfold PS.Ok at this; omega
              have y0 : ∀ r : BW w8.heap.size w8, r.world.cell? ⟨w2.heap.size, 0, none⟩ = some (.int .u64 pz.rate) := fun r => BW.cell (w := w8) (N := w8.heap.size) (p := ⟨w2.heap.size, 0, none⟩) (Blk.cell HK8.out 0) (Blk.lt HK8.out) r
              have y1 : ∀ r : BW w8.heap.size w8, r.world.cell? ⟨w2.heap.size, 1, none⟩ = some (.int .u64 pz.burst) := fun r => BW.cell (w := w8) (N := w8.heap.size) (p := ⟨w2.heap.size, 1, none⟩) (Blk.cell HK8.out 1) (Blk.lt HK8.out) r
              have y2 : ∀ r : BW w8.heap.size w8, r.world.cell? ⟨w2.heap.size, 2, none⟩ = some (.int .u64 pz.at_) := fun r => BW.cell (w := w8) (N := w8.heap.size) (p := ⟨w2.heap.size, 2, none⟩) (Blk.cell HK8.out 2) (Blk.lt HK8.out) r
              have y3 : ∀ r : BW w8.heap.size w8, r.world.cell? ⟨w2.heap.size, 3, none⟩ = some (.int .u64 pz.level) := fun r => BW.cell (w := w8) (N := w8.heap.size) (p := ⟨w2.heap.size, 3, none⟩) (Blk.cell HK8.out 3) (Blk.lt HK8.out) r
              have y4 : ∀ r : BW w8.heap.size w8, r.world.cell? ⟨X, 1, none⟩ = some (.int .u64 dt) := fun r => BW.cell (w := w8) (N := w8.heap.size) (p := ⟨X, 1, none⟩) (Blk.cell HX8.out 1) (Blk.lt HX8.out) r
              have yP := Lib.hid (fun r : BW w8.heap.size w8 => (Blk.below HM8.out r.below (Blk.lt HM8.out) : PSt w.heap.size r.world pz))
              have hfd := fun (c0 c1 c2 c3 : Int) => field_level (.int .u64 c0) (.int .u64 c1) (.int .u64 c2) (.int .u64 c3)
              go_wp2_with fail
              refine wp_region_below_lit w8.heap.size (by kernel_rfl) (by kernel_rfl) ?_
              repeat (go_big_quiet_step (first | (go_at_call 10; exact Calls.bw (Nat.le_refl _) (level_any w.heap.size pz _ _ (yP.out _) HOn.out (by omega) (by omega))) | (go_at_call 16; exact Calls.bw (Nat.le_refl _) (refAfter_lit pz dt _ HOn.out (by omega) (by omega)))))
              refine wpQuiet_nil ?_
              intro _ hw'
              obtain ⟨r, rfl⟩ := hw'
              have HMz := Lib.hid (yP.out r)
              have HKz := Lib.hid (Blk.below HK8.out r.below (Blk.lt HK8.out))
              have HBz := Lib.hid (HB8.out.trans (r.below.mono HB8.out.size))
              clear y0 y1 y2 y3 y4 yP z1 z2 hfd
              go_wp2_with fail
              go_roundw
              case rel => exact ⟨k + 1, pz, by omega, by go_num, HPz, HMz, HKz, HBz⟩
              case measure => simp [intOf]; omega
          · have hrt' : dn < 1 ∨ 1073741824 < dn := by omega
            have HRT := Lib.hid hrt'
            clear hrt'
            rcases Decidable.em (1 ≤ dn) with g1 | g1
            · have g2 : ¬ dn ≤ 1073741824 := by omega
              clear hrt
              go_wp2_with fail
              refine (rate_no _ dt dn _ HRT.out).mono ?_
              rintro e w' ⟨rfl, rfl⟩
              go_wp2_with fail
              generalize w3.alloc (.cells #[.int .u64 (p.afterS dt).rate, .int .u64 (p.afterS dt).burst, .int .u64 (p.afterS dt).at_, .int .u64 (p.afterS dt).level] 43) = w4 at *
              clear m0 m1 m2 m3 n0 n1 n2 n3
              as_aux_lemma =>
                have zat : 0 ≤ p.at_ := by have := HO.out; unfold PS.Ok at this; omega
                have z1 : (p.levelS dt != (p.afterS dt).level / 1000000) = false := by simp [PS.levelS]
                have z2 : (p.levelS 0 != p.level / 1000000) = false := by simp [PS.levelS, after_old zat]
                have zl : 0 ≤ (p.afterS dt).level ∧ (p.afterS dt).level ≤ 1073741824000000 := by have := HO.out.after dt (by omega); unfold PS.Ok at this; omega
                have zl2 : 0 ≤ p.level ∧ p.level ≤ 1073741824000000 := by have := HO.out; unfold PS.Ok at this; omega
                have y0 : ∀ r : BW w4.heap.size w4, r.world.cell? ⟨w2.heap.size, 0, none⟩ = some (.int .u64 p.rate) := fun r => BW.cell (w := w4) (N := w4.heap.size) (p := ⟨w2.heap.size, 0, none⟩) (Blk.cell HK4.out 0) (Blk.lt HK4.out) r
                have y1 : ∀ r : BW w4.heap.size w4, r.world.cell? ⟨w2.heap.size, 1, none⟩ = some (.int .u64 p.burst) := fun r => BW.cell (w := w4) (N := w4.heap.size) (p := ⟨w2.heap.size, 1, none⟩) (Blk.cell HK4.out 1) (Blk.lt HK4.out) r
                have y2 : ∀ r : BW w4.heap.size w4, r.world.cell? ⟨w2.heap.size, 2, none⟩ = some (.int .u64 p.at_) := fun r => BW.cell (w := w4) (N := w4.heap.size) (p := ⟨w2.heap.size, 2, none⟩) (Blk.cell HK4.out 2) (Blk.lt HK4.out) r
                have y3 : ∀ r : BW w4.heap.size w4, r.world.cell? ⟨w2.heap.size, 3, none⟩ = some (.int .u64 p.level) := fun r => BW.cell (w := w4) (N := w4.heap.size) (p := ⟨w2.heap.size, 3, none⟩) (Blk.cell HK4.out 3) (Blk.lt HK4.out) r
                have y4 : ∀ r : BW w4.heap.size w4, r.world.cell? ⟨X, 1, none⟩ = some (.int .u64 dt) := fun r => BW.cell (w := w4) (N := w4.heap.size) (p := ⟨X, 1, none⟩) (Blk.cell HX4.out 1) (Blk.lt HX4.out) r
                have yP := Lib.hid (fun r : BW w4.heap.size w4 => (Blk.below HM4.out r.below (Blk.lt HM4.out) : PSt w.heap.size r.world p))
                have hfd := fun (c0 c1 c2 c3 : Int) => field_level (.int .u64 c0) (.int .u64 c1) (.int .u64 c2) (.int .u64 c3)
                go_wp2_with fail
                refine wp_region_below_lit w4.heap.size (by kernel_rfl) (by kernel_rfl) ?_
                repeat (go_big_quiet_step (first | (go_at_call 10; exact Calls.bw (Nat.le_refl _) (level_any w.heap.size p _ _ (yP.out _) HO.out (by omega) (by omega))) | (go_at_call 16; exact Calls.bw (Nat.le_refl _) (refAfter_lit p dt _ HO.out (by omega) (by omega)))))
                refine wpQuiet_nil ?_
                intro _ hw'
                obtain ⟨r, rfl⟩ := hw'
                have HMz := Lib.hid (yP.out r)
                have HKz := Lib.hid (Blk.below HK4.out r.below (Blk.lt HK4.out))
                have HBz := Lib.hid (HB4.out.trans (r.below.mono HB4.out.size))
                clear y0 y1 y2 y3 y4 yP z1 z2 hfd
                go_wp2_with fail
                go_roundw
                case rel => exact ⟨k + 1, p, by omega, by go_num, HPz, HMz, HKz, HBz⟩
                case measure => simp [intOf]; omega
            · have g2 : decide (1 ≤ dn) = false := by simp; omega
              clear hrt
              go_wp2_with fail
              refine (rate_no _ dt dn _ HRT.out).mono ?_
              rintro e w' ⟨rfl, rfl⟩
              go_wp2_with fail
              generalize w3.alloc (.cells #[.int .u64 (p.afterS dt).rate, .int .u64 (p.afterS dt).burst, .int .u64 (p.afterS dt).at_, .int .u64 (p.afterS dt).level] 43) = w4 at *
              clear m0 m1 m2 m3 n0 n1 n2 n3
              as_aux_lemma =>
                have zat : 0 ≤ p.at_ := by have := HO.out; unfold PS.Ok at this; omega
                have z1 : (p.levelS dt != (p.afterS dt).level / 1000000) = false := by simp [PS.levelS]
                have z2 : (p.levelS 0 != p.level / 1000000) = false := by simp [PS.levelS, after_old zat]
                have zl : 0 ≤ (p.afterS dt).level ∧ (p.afterS dt).level ≤ 1073741824000000 := by have := HO.out.after dt (by omega); unfold PS.Ok at this; omega
                have zl2 : 0 ≤ p.level ∧ p.level ≤ 1073741824000000 := by have := HO.out; unfold PS.Ok at this; omega
                have y0 : ∀ r : BW w4.heap.size w4, r.world.cell? ⟨w2.heap.size, 0, none⟩ = some (.int .u64 p.rate) := fun r => BW.cell (w := w4) (N := w4.heap.size) (p := ⟨w2.heap.size, 0, none⟩) (Blk.cell HK4.out 0) (Blk.lt HK4.out) r
                have y1 : ∀ r : BW w4.heap.size w4, r.world.cell? ⟨w2.heap.size, 1, none⟩ = some (.int .u64 p.burst) := fun r => BW.cell (w := w4) (N := w4.heap.size) (p := ⟨w2.heap.size, 1, none⟩) (Blk.cell HK4.out 1) (Blk.lt HK4.out) r
                have y2 : ∀ r : BW w4.heap.size w4, r.world.cell? ⟨w2.heap.size, 2, none⟩ = some (.int .u64 p.at_) := fun r => BW.cell (w := w4) (N := w4.heap.size) (p := ⟨w2.heap.size, 2, none⟩) (Blk.cell HK4.out 2) (Blk.lt HK4.out) r
                have y3 : ∀ r : BW w4.heap.size w4, r.world.cell? ⟨w2.heap.size, 3, none⟩ = some (.int .u64 p.level) := fun r => BW.cell (w := w4) (N := w4.heap.size) (p := ⟨w2.heap.size, 3, none⟩) (Blk.cell HK4.out 3) (Blk.lt HK4.out) r
                have y4 : ∀ r : BW w4.heap.size w4, r.world.cell? ⟨X, 1, none⟩ = some (.int .u64 dt) := fun r => BW.cell (w := w4) (N := w4.heap.size) (p := ⟨X, 1, none⟩) (Blk.cell HX4.out 1) (Blk.lt HX4.out) r
                have yP := Lib.hid (fun r : BW w4.heap.size w4 => (Blk.below HM4.out r.below (Blk.lt HM4.out) : PSt w.heap.size r.world p))
                have hfd := fun (c0 c1 c2 c3 : Int) => field_level (.int .u64 c0) (.int .u64 c1) (.int .u64 c2) (.int .u64 c3)
                go_wp2_with fail
                refine wp_region_below_lit w4.heap.size (by kernel_rfl) (by kernel_rfl) ?_
                repeat (go_big_quiet_step (first | (go_at_call 10; exact Calls.bw (Nat.le_refl _) (level_any w.heap.size p _ _ (yP.out _) HO.out (by omega) (by omega))) | (go_at_call 16; exact Calls.bw (Nat.le_refl _) (refAfter_lit p dt _ HO.out (by omega) (by omega)))))
                refine wpQuiet_nil ?_
                intro _ hw'
                obtain ⟨r, rfl⟩ := hw'
                have HMz := Lib.hid (yP.out r)
                have HKz := Lib.hid (Blk.below HK4.out r.below (Blk.lt HK4.out))
                have HBz := Lib.hid (HB4.out.trans (r.below.mono HB4.out.size))
                clear y0 y1 y2 y3 y4 yP z1 z2 hfd
                go_wp2_with fail
                go_roundw
                case rel => exact ⟨k + 1, p, by omega, by go_num, HPz, HMz, HKz, HBz⟩
                case measure => simp [intOf]; omega
      have k1' : (kd == 1) = false := by simp [k1]
      clear k1
      by_cases k2 : kd = 2
      · subst k2
        as_aux_lemma =>
          have hpb : p.burst = a1 := HP.out.2
          have HPB := Lib.hid hpb
          by_cases gb : a1 < dn
          · have HL := Lib.hid (fun w h => next_long w.heap.size p dt dn w h)
            go_wp2_with fail
            refine (next_long _ p dt dn _ (by exact HM4.out) (by omega)).mono ?_
            rintro e w' ⟨rfl, rfl⟩
            go_wp2_with fail
            generalize w3.alloc (.cells #[.int .u64 (p.afterS dt).rate, .int .u64 (p.afterS dt).burst, .int .u64 (p.afterS dt).at_, .int .u64 (p.afterS dt).level] 43) = w4 at *
            clear m0 m1 m2 m3 n0 n1 n2 n3 hpb HL
            as_aux_lemma =>
              have zat : 0 ≤ p.at_ := by have := HO.out; unfold PS.Ok at this; omega
              have z1 : (p.levelS dt != (p.afterS dt).level / 1000000) = false := by simp [PS.levelS]
              have z2 : (p.levelS 0 != p.level / 1000000) = false := by simp [PS.levelS, after_old zat]
              have zl : 0 ≤ (p.afterS dt).level ∧ (p.afterS dt).level ≤ 1073741824000000 := by have := HO.out.after dt (by omega); unfold PS.Ok at this; omega
              have zl2 : 0 ≤ p.level ∧ p.level ≤ 1073741824000000 := by have := HO.out; unfold PS.Ok at this; omega
              have y0 : ∀ r : BW w4.heap.size w4, r.world.cell? ⟨w2.heap.size, 0, none⟩ = some (.int .u64 p.rate) := fun r => BW.cell (w := w4) (N := w4.heap.size) (p := ⟨w2.heap.size, 0, none⟩) (Blk.cell HK4.out 0) (Blk.lt HK4.out) r
              have y1 : ∀ r : BW w4.heap.size w4, r.world.cell? ⟨w2.heap.size, 1, none⟩ = some (.int .u64 p.burst) := fun r => BW.cell (w := w4) (N := w4.heap.size) (p := ⟨w2.heap.size, 1, none⟩) (Blk.cell HK4.out 1) (Blk.lt HK4.out) r
              have y2 : ∀ r : BW w4.heap.size w4, r.world.cell? ⟨w2.heap.size, 2, none⟩ = some (.int .u64 p.at_) := fun r => BW.cell (w := w4) (N := w4.heap.size) (p := ⟨w2.heap.size, 2, none⟩) (Blk.cell HK4.out 2) (Blk.lt HK4.out) r
              have y3 : ∀ r : BW w4.heap.size w4, r.world.cell? ⟨w2.heap.size, 3, none⟩ = some (.int .u64 p.level) := fun r => BW.cell (w := w4) (N := w4.heap.size) (p := ⟨w2.heap.size, 3, none⟩) (Blk.cell HK4.out 3) (Blk.lt HK4.out) r
              have y4 : ∀ r : BW w4.heap.size w4, r.world.cell? ⟨X, 1, none⟩ = some (.int .u64 dt) := fun r => BW.cell (w := w4) (N := w4.heap.size) (p := ⟨X, 1, none⟩) (Blk.cell HX4.out 1) (Blk.lt HX4.out) r
              have yP := Lib.hid (fun r : BW w4.heap.size w4 => (Blk.below HM4.out r.below (Blk.lt HM4.out) : PSt w.heap.size r.world p))
              have hfd := fun (c0 c1 c2 c3 : Int) => field_level (.int .u64 c0) (.int .u64 c1) (.int .u64 c2) (.int .u64 c3)
              go_wp2_with fail
              refine wp_region_below_lit w4.heap.size (by kernel_rfl) (by kernel_rfl) ?_
              repeat (go_big_quiet_step (first | (go_at_call 10; exact Calls.bw (Nat.le_refl _) (level_any w.heap.size p _ _ (yP.out _) HO.out (by omega) (by omega))) | (go_at_call 16; exact Calls.bw (Nat.le_refl _) (refAfter_lit p dt _ HO.out (by omega) (by omega)))))
              refine wpQuiet_nil ?_
              intro _ hw'
              obtain ⟨r, rfl⟩ := hw'
              have HMz := Lib.hid (yP.out r)
              have HKz := Lib.hid (Blk.below HK4.out r.below (Blk.lt HK4.out))
              have HBz := Lib.hid (HB4.out.trans (r.below.mono HB4.out.size))
              clear y0 y1 y2 y3 y4 yP z1 z2 hfd
              go_wp2_with fail
              go_roundw
              case rel => exact ⟨k + 1, p, by omega, by go_num, HPz, HMz, HKz, HBz⟩
              case measure => simp [intOf]; omega
          · obtain ⟨z1, z2, z3⟩ := next_fact HO.out dt dn (by omega) (by omega) (by omega)
            have hqo := HO.out.after dt (by omega)
            unfold PS.Ok at hqo
            obtain ⟨i1, i2, i3, i4, i5, i6, i7, i8⟩ := hqo
            have hpo := HO.out
            unfold PS.Ok at hpo
            obtain ⟨j1, j2, j3, j4, j5, j6, j7, j8⟩ := hpo
            clear hpb
            rcases z3 with ⟨y1, y2⟩ | ⟨y1, y2, y3, y4⟩ | ⟨y1, y2, y3, y4⟩
            · have yb : ((p.afterS dt).nextS dn == (p.afterS dt).at_) = true := by simp [y2]
              clear y2
              go_wp2_with fail
              refine (next_yes _ p dt dn _ (by exact HM4.out) HO.out (by omega) (by omega) (by omega) (by have := HPB.out; omega)).mono ?_
              rintro e w5 ⟨rfl, hb5⟩
              have HM5 := Lib.hid (Blk.below HM4.out hb5 (Blk.lt HM4.out))
              have HK5 := Lib.hid (Blk.below HK4.out hb5 (Blk.lt HK4.out))
              have HX5 := Lib.hid (Blk.below HX4.out hb5 (Blk.lt HX4.out))
              have HN5 := Lib.hid (Blk.below HN4.out hb5 (Blk.lt HN4.out))
              have HB5 := Lib.hid (HB4.out.trans (hb5.mono HB4.out.size))
              clear hb5 m0 m1 m2 m3 n0 n1 n2 n3
              have r0 := Blk.cell HN5.out 0
              have r1 := Blk.cell HN5.out 1
              have r2 := Blk.cell HN5.out 2
              have r3 := Blk.cell HN5.out 3
              have s0 := Blk.cell HK5.out 0
              have s1 := Blk.cell HK5.out 1
              have s2 := Blk.cell HK5.out 2
              have s3 := Blk.cell HK5.out 3
              have o2 := Blk.cell HX5.out 2
              simp [PS.cells] at r0 r1 r2 r3 s0 s1 s2 s3 o2
              go_wp2_with fail
              clear r0 r1 r2 r3 s0 s1 s2 s3 o2
              as_aux_lemma =>
                have zat : 0 ≤ p.at_ := by have := HO.out; unfold PS.Ok at this; omega
                have z1 : (p.levelS dt != (p.afterS dt).level / 1000000) = false := by simp [PS.levelS]
                have z2 : (p.levelS 0 != p.level / 1000000) = false := by simp [PS.levelS, after_old zat]
                have zl : 0 ≤ (p.afterS dt).level ∧ (p.afterS dt).level ≤ 1073741824000000 := by have := HO.out.after dt (by omega); unfold PS.Ok at this; omega
                have zl2 : 0 ≤ p.level ∧ p.level ≤ 1073741824000000 := by have := HO.out; unfold PS.Ok at this; omega
                have y0 : ∀ r : BW w5.heap.size w5, r.world.cell? ⟨w2.heap.size, 0, none⟩ = some (.int .u64 p.rate) := fun r => BW.cell (w := w5) (N := w5.heap.size) (p := ⟨w2.heap.size, 0, none⟩) (Blk.cell HK5.out 0) (Blk.lt HK5.out) r
                have y1 : ∀ r : BW w5.heap.size w5, r.world.cell? ⟨w2.heap.size, 1, none⟩ = some (.int .u64 p.burst) := fun r => BW.cell (w := w5) (N := w5.heap.size) (p := ⟨w2.heap.size, 1, none⟩) (Blk.cell HK5.out 1) (Blk.lt HK5.out) r
                have y2 : ∀ r : BW w5.heap.size w5, r.world.cell? ⟨w2.heap.size, 2, none⟩ = some (.int .u64 p.at_) := fun r => BW.cell (w := w5) (N := w5.heap.size) (p := ⟨w2.heap.size, 2, none⟩) (Blk.cell HK5.out 2) (Blk.lt HK5.out) r
                have y3 : ∀ r : BW w5.heap.size w5, r.world.cell? ⟨w2.heap.size, 3, none⟩ = some (.int .u64 p.level) := fun r => BW.cell (w := w5) (N := w5.heap.size) (p := ⟨w2.heap.size, 3, none⟩) (Blk.cell HK5.out 3) (Blk.lt HK5.out) r
                have y4 : ∀ r : BW w5.heap.size w5, r.world.cell? ⟨X, 1, none⟩ = some (.int .u64 dt) := fun r => BW.cell (w := w5) (N := w5.heap.size) (p := ⟨X, 1, none⟩) (Blk.cell HX5.out 1) (Blk.lt HX5.out) r
                have yP := Lib.hid (fun r : BW w5.heap.size w5 => (Blk.below HM5.out r.below (Blk.lt HM5.out) : PSt w.heap.size r.world p))
                have hfd := fun (c0 c1 c2 c3 : Int) => field_level (.int .u64 c0) (.int .u64 c1) (.int .u64 c2) (.int .u64 c3)
                go_wp2_with fail
                refine wp_region_below_lit w5.heap.size (by kernel_rfl) (by kernel_rfl) ?_
                repeat (go_big_quiet_step (first | (go_at_call 10; exact Calls.bw (Nat.le_refl _) (level_any w.heap.size p _ _ (yP.out _) HO.out (by omega) (by omega))) | (go_at_call 16; exact Calls.bw (Nat.le_refl _) (refAfter_lit p dt _ HO.out (by omega) (by omega)))))
                refine wpQuiet_nil ?_
                intro _ hw'
                obtain ⟨r, rfl⟩ := hw'
                have HMz := Lib.hid (yP.out r)
                have HKz := Lib.hid (Blk.below HK5.out r.below (Blk.lt HK5.out))
                have HBz := Lib.hid (HB5.out.trans (r.below.mono HB5.out.size))
                clear y0 y1 y2 y3 y4 yP z1 z2 hfd
                go_wp2_with fail
                go_roundw
                case rel => exact ⟨k + 1, p, by omega, by go_num, HPz, HMz, HKz, HBz⟩
                case measure => simp [intOf]; omega
            · have yb : ((p.afterS dt).nextS dn == (p.afterS dt).at_ + (dn * 1000000 - (p.afterS dt).level + p.rate - 1) / p.rate) = true := by simp [y4]
              clear y4
              go_wp2_with fail
              refine (next_yes _ p dt dn _ (by exact HM4.out) HO.out (by omega) (by omega) (by omega) (by have := HPB.out; omega)).mono ?_
              rintro e w5 ⟨rfl, hb5⟩
              have HM5 := Lib.hid (Blk.below HM4.out hb5 (Blk.lt HM4.out))
              have HK5 := Lib.hid (Blk.below HK4.out hb5 (Blk.lt HK4.out))
              have HX5 := Lib.hid (Blk.below HX4.out hb5 (Blk.lt HX4.out))
              have HN5 := Lib.hid (Blk.below HN4.out hb5 (Blk.lt HN4.out))
              have HB5 := Lib.hid (HB4.out.trans (hb5.mono HB4.out.size))
              clear hb5 m0 m1 m2 m3 n0 n1 n2 n3
              have r0 := Blk.cell HN5.out 0
              have r1 := Blk.cell HN5.out 1
              have r2 := Blk.cell HN5.out 2
              have r3 := Blk.cell HN5.out 3
              have s0 := Blk.cell HK5.out 0
              have s1 := Blk.cell HK5.out 1
              have s2 := Blk.cell HK5.out 2
              have s3 := Blk.cell HK5.out 3
              have o2 := Blk.cell HX5.out 2
              simp [PS.cells] at r0 r1 r2 r3 s0 s1 s2 s3 o2
              go_wp2_with fail
              clear r0 r1 r2 r3 s0 s1 s2 s3 o2
              as_aux_lemma =>
                have zat : 0 ≤ p.at_ := by have := HO.out; unfold PS.Ok at this; omega
                have z1 : (p.levelS dt != (p.afterS dt).level / 1000000) = false := by simp [PS.levelS]
                have z2 : (p.levelS 0 != p.level / 1000000) = false := by simp [PS.levelS, after_old zat]
                have zl : 0 ≤ (p.afterS dt).level ∧ (p.afterS dt).level ≤ 1073741824000000 := by have := HO.out.after dt (by omega); unfold PS.Ok at this; omega
                have zl2 : 0 ≤ p.level ∧ p.level ≤ 1073741824000000 := by have := HO.out; unfold PS.Ok at this; omega
                have y0 : ∀ r : BW w5.heap.size w5, r.world.cell? ⟨w2.heap.size, 0, none⟩ = some (.int .u64 p.rate) := fun r => BW.cell (w := w5) (N := w5.heap.size) (p := ⟨w2.heap.size, 0, none⟩) (Blk.cell HK5.out 0) (Blk.lt HK5.out) r
                have y1 : ∀ r : BW w5.heap.size w5, r.world.cell? ⟨w2.heap.size, 1, none⟩ = some (.int .u64 p.burst) := fun r => BW.cell (w := w5) (N := w5.heap.size) (p := ⟨w2.heap.size, 1, none⟩) (Blk.cell HK5.out 1) (Blk.lt HK5.out) r
                have y2 : ∀ r : BW w5.heap.size w5, r.world.cell? ⟨w2.heap.size, 2, none⟩ = some (.int .u64 p.at_) := fun r => BW.cell (w := w5) (N := w5.heap.size) (p := ⟨w2.heap.size, 2, none⟩) (Blk.cell HK5.out 2) (Blk.lt HK5.out) r
                have y3 : ∀ r : BW w5.heap.size w5, r.world.cell? ⟨w2.heap.size, 3, none⟩ = some (.int .u64 p.level) := fun r => BW.cell (w := w5) (N := w5.heap.size) (p := ⟨w2.heap.size, 3, none⟩) (Blk.cell HK5.out 3) (Blk.lt HK5.out) r
                have y4 : ∀ r : BW w5.heap.size w5, r.world.cell? ⟨X, 1, none⟩ = some (.int .u64 dt) := fun r => BW.cell (w := w5) (N := w5.heap.size) (p := ⟨X, 1, none⟩) (Blk.cell HX5.out 1) (Blk.lt HX5.out) r
                have yP := Lib.hid (fun r : BW w5.heap.size w5 => (Blk.below HM5.out r.below (Blk.lt HM5.out) : PSt w.heap.size r.world p))
                have hfd := fun (c0 c1 c2 c3 : Int) => field_level (.int .u64 c0) (.int .u64 c1) (.int .u64 c2) (.int .u64 c3)
                go_wp2_with fail
                refine wp_region_below_lit w5.heap.size (by kernel_rfl) (by kernel_rfl) ?_
                repeat (go_big_quiet_step (first | (go_at_call 10; exact Calls.bw (Nat.le_refl _) (level_any w.heap.size p _ _ (yP.out _) HO.out (by omega) (by omega))) | (go_at_call 16; exact Calls.bw (Nat.le_refl _) (refAfter_lit p dt _ HO.out (by omega) (by omega)))))
                refine wpQuiet_nil ?_
                intro _ hw'
                obtain ⟨r, rfl⟩ := hw'
                have HMz := Lib.hid (yP.out r)
                have HKz := Lib.hid (Blk.below HK5.out r.below (Blk.lt HK5.out))
                have HBz := Lib.hid (HB5.out.trans (r.below.mono HB5.out.size))
                clear y0 y1 y2 y3 y4 yP z1 z2 hfd
                go_wp2_with fail
                go_roundw
                case rel => exact ⟨k + 1, p, by omega, by go_num, HPz, HMz, HKz, HBz⟩
                case measure => simp [intOf]; omega
            · have yb : ((p.afterS dt).nextS dn == 18446744073709551615) = true := by simp [y4]
              clear y4
              rcases hq : ((p.afterS dt).nextS dn == IntKind.u64.wrap ((p.afterS dt).at_ + (dn * 1000000 - (p.afterS dt).level + p.rate - 1) / p.rate)) with _ | _
              · go_wp2_with fail
                refine (next_yes _ p dt dn _ (by exact HM4.out) HO.out (by omega) (by omega) (by omega) (by have := HPB.out; omega)).mono ?_
                rintro e w5 ⟨rfl, hb5⟩
                have HM5 := Lib.hid (Blk.below HM4.out hb5 (Blk.lt HM4.out))
                have HK5 := Lib.hid (Blk.below HK4.out hb5 (Blk.lt HK4.out))
                have HX5 := Lib.hid (Blk.below HX4.out hb5 (Blk.lt HX4.out))
                have HN5 := Lib.hid (Blk.below HN4.out hb5 (Blk.lt HN4.out))
                have HB5 := Lib.hid (HB4.out.trans (hb5.mono HB4.out.size))
                clear hb5 m0 m1 m2 m3 n0 n1 n2 n3
                have r0 := Blk.cell HN5.out 0
                have r1 := Blk.cell HN5.out 1
                have r2 := Blk.cell HN5.out 2
                have r3 := Blk.cell HN5.out 3
                have s0 := Blk.cell HK5.out 0
                have s1 := Blk.cell HK5.out 1
                have s2 := Blk.cell HK5.out 2
                have s3 := Blk.cell HK5.out 3
                have o2 := Blk.cell HX5.out 2
                simp [PS.cells] at r0 r1 r2 r3 s0 s1 s2 s3 o2
                go_wp2_with fail
                clear r0 r1 r2 r3 s0 s1 s2 s3 o2
                as_aux_lemma =>
                  have zat : 0 ≤ p.at_ := by have := HO.out; unfold PS.Ok at this; omega
                  have z1 : (p.levelS dt != (p.afterS dt).level / 1000000) = false := by simp [PS.levelS]
                  have z2 : (p.levelS 0 != p.level / 1000000) = false := by simp [PS.levelS, after_old zat]
                  have zl : 0 ≤ (p.afterS dt).level ∧ (p.afterS dt).level ≤ 1073741824000000 := by have := HO.out.after dt (by omega); unfold PS.Ok at this; omega
                  have zl2 : 0 ≤ p.level ∧ p.level ≤ 1073741824000000 := by have := HO.out; unfold PS.Ok at this; omega
                  have y0 : ∀ r : BW w5.heap.size w5, r.world.cell? ⟨w2.heap.size, 0, none⟩ = some (.int .u64 p.rate) := fun r => BW.cell (w := w5) (N := w5.heap.size) (p := ⟨w2.heap.size, 0, none⟩) (Blk.cell HK5.out 0) (Blk.lt HK5.out) r
                  have y1 : ∀ r : BW w5.heap.size w5, r.world.cell? ⟨w2.heap.size, 1, none⟩ = some (.int .u64 p.burst) := fun r => BW.cell (w := w5) (N := w5.heap.size) (p := ⟨w2.heap.size, 1, none⟩) (Blk.cell HK5.out 1) (Blk.lt HK5.out) r
                  have y2 : ∀ r : BW w5.heap.size w5, r.world.cell? ⟨w2.heap.size, 2, none⟩ = some (.int .u64 p.at_) := fun r => BW.cell (w := w5) (N := w5.heap.size) (p := ⟨w2.heap.size, 2, none⟩) (Blk.cell HK5.out 2) (Blk.lt HK5.out) r
                  have y3 : ∀ r : BW w5.heap.size w5, r.world.cell? ⟨w2.heap.size, 3, none⟩ = some (.int .u64 p.level) := fun r => BW.cell (w := w5) (N := w5.heap.size) (p := ⟨w2.heap.size, 3, none⟩) (Blk.cell HK5.out 3) (Blk.lt HK5.out) r
                  have y4 : ∀ r : BW w5.heap.size w5, r.world.cell? ⟨X, 1, none⟩ = some (.int .u64 dt) := fun r => BW.cell (w := w5) (N := w5.heap.size) (p := ⟨X, 1, none⟩) (Blk.cell HX5.out 1) (Blk.lt HX5.out) r
                  have yP := Lib.hid (fun r : BW w5.heap.size w5 => (Blk.below HM5.out r.below (Blk.lt HM5.out) : PSt w.heap.size r.world p))
                  have hfd := fun (c0 c1 c2 c3 : Int) => field_level (.int .u64 c0) (.int .u64 c1) (.int .u64 c2) (.int .u64 c3)
                  go_wp2_with fail
                  refine wp_region_below_lit w5.heap.size (by kernel_rfl) (by kernel_rfl) ?_
                  repeat (go_big_quiet_step (first | (go_at_call 10; exact Calls.bw (Nat.le_refl _) (level_any w.heap.size p _ _ (yP.out _) HO.out (by omega) (by omega))) | (go_at_call 16; exact Calls.bw (Nat.le_refl _) (refAfter_lit p dt _ HO.out (by omega) (by omega)))))
                  refine wpQuiet_nil ?_
                  intro _ hw'
                  obtain ⟨r, rfl⟩ := hw'
                  have HMz := Lib.hid (yP.out r)
                  have HKz := Lib.hid (Blk.below HK5.out r.below (Blk.lt HK5.out))
                  have HBz := Lib.hid (HB5.out.trans (r.below.mono HB5.out.size))
                  clear y0 y1 y2 y3 y4 yP z1 z2 hfd
                  go_wp2_with fail
                  go_roundw
                  case rel => exact ⟨k + 1, p, by omega, by go_num, HPz, HMz, HKz, HBz⟩
                  case measure => simp [intOf]; omega
              · go_wp2_with fail
                refine (next_yes _ p dt dn _ (by exact HM4.out) HO.out (by omega) (by omega) (by omega) (by have := HPB.out; omega)).mono ?_
                rintro e w5 ⟨rfl, hb5⟩
                have HM5 := Lib.hid (Blk.below HM4.out hb5 (Blk.lt HM4.out))
                have HK5 := Lib.hid (Blk.below HK4.out hb5 (Blk.lt HK4.out))
                have HX5 := Lib.hid (Blk.below HX4.out hb5 (Blk.lt HX4.out))
                have HN5 := Lib.hid (Blk.below HN4.out hb5 (Blk.lt HN4.out))
                have HB5 := Lib.hid (HB4.out.trans (hb5.mono HB4.out.size))
                clear hb5 m0 m1 m2 m3 n0 n1 n2 n3
                have r0 := Blk.cell HN5.out 0
                have r1 := Blk.cell HN5.out 1
                have r2 := Blk.cell HN5.out 2
                have r3 := Blk.cell HN5.out 3
                have s0 := Blk.cell HK5.out 0
                have s1 := Blk.cell HK5.out 1
                have s2 := Blk.cell HK5.out 2
                have s3 := Blk.cell HK5.out 3
                have o2 := Blk.cell HX5.out 2
                simp [PS.cells] at r0 r1 r2 r3 s0 s1 s2 s3 o2
                go_wp2_with fail
                clear r0 r1 r2 r3 s0 s1 s2 s3 o2
                as_aux_lemma =>
                  have zat : 0 ≤ p.at_ := by have := HO.out; unfold PS.Ok at this; omega
                  have z1 : (p.levelS dt != (p.afterS dt).level / 1000000) = false := by simp [PS.levelS]
                  have z2 : (p.levelS 0 != p.level / 1000000) = false := by simp [PS.levelS, after_old zat]
                  have zl : 0 ≤ (p.afterS dt).level ∧ (p.afterS dt).level ≤ 1073741824000000 := by have := HO.out.after dt (by omega); unfold PS.Ok at this; omega
                  have zl2 : 0 ≤ p.level ∧ p.level ≤ 1073741824000000 := by have := HO.out; unfold PS.Ok at this; omega
                  have y0 : ∀ r : BW w5.heap.size w5, r.world.cell? ⟨w2.heap.size, 0, none⟩ = some (.int .u64 p.rate) := fun r => BW.cell (w := w5) (N := w5.heap.size) (p := ⟨w2.heap.size, 0, none⟩) (Blk.cell HK5.out 0) (Blk.lt HK5.out) r
                  have y1 : ∀ r : BW w5.heap.size w5, r.world.cell? ⟨w2.heap.size, 1, none⟩ = some (.int .u64 p.burst) := fun r => BW.cell (w := w5) (N := w5.heap.size) (p := ⟨w2.heap.size, 1, none⟩) (Blk.cell HK5.out 1) (Blk.lt HK5.out) r
                  have y2 : ∀ r : BW w5.heap.size w5, r.world.cell? ⟨w2.heap.size, 2, none⟩ = some (.int .u64 p.at_) := fun r => BW.cell (w := w5) (N := w5.heap.size) (p := ⟨w2.heap.size, 2, none⟩) (Blk.cell HK5.out 2) (Blk.lt HK5.out) r
                  have y3 : ∀ r : BW w5.heap.size w5, r.world.cell? ⟨w2.heap.size, 3, none⟩ = some (.int .u64 p.level) := fun r => BW.cell (w := w5) (N := w5.heap.size) (p := ⟨w2.heap.size, 3, none⟩) (Blk.cell HK5.out 3) (Blk.lt HK5.out) r
                  have y4 : ∀ r : BW w5.heap.size w5, r.world.cell? ⟨X, 1, none⟩ = some (.int .u64 dt) := fun r => BW.cell (w := w5) (N := w5.heap.size) (p := ⟨X, 1, none⟩) (Blk.cell HX5.out 1) (Blk.lt HX5.out) r
                  have yP := Lib.hid (fun r : BW w5.heap.size w5 => (Blk.below HM5.out r.below (Blk.lt HM5.out) : PSt w.heap.size r.world p))
                  have hfd := fun (c0 c1 c2 c3 : Int) => field_level (.int .u64 c0) (.int .u64 c1) (.int .u64 c2) (.int .u64 c3)
                  go_wp2_with fail
                  refine wp_region_below_lit w5.heap.size (by kernel_rfl) (by kernel_rfl) ?_
                  repeat (go_big_quiet_step (first | (go_at_call 10; exact Calls.bw (Nat.le_refl _) (level_any w.heap.size p _ _ (yP.out _) HO.out (by omega) (by omega))) | (go_at_call 16; exact Calls.bw (Nat.le_refl _) (refAfter_lit p dt _ HO.out (by omega) (by omega)))))
                  refine wpQuiet_nil ?_
                  intro _ hw'
                  obtain ⟨r, rfl⟩ := hw'
                  have HMz := Lib.hid (yP.out r)
                  have HKz := Lib.hid (Blk.below HK5.out r.below (Blk.lt HK5.out))
                  have HBz := Lib.hid (HB5.out.trans (r.below.mono HB5.out.size))
                  clear y0 y1 y2 y3 y4 yP z1 z2 hfd
                  go_wp2_with fail
                  go_roundw
                  case rel => exact ⟨k + 1, p, by omega, by go_num, HPz, HMz, HKz, HBz⟩
                  case measure => simp [intOf]; omega
      have k2' : (kd == 2) = false := by simp [k2]
      clear k2
      have zm : (p.mayS dt dn == decide (dn ≤ (p.afterS dt).level / 1000000)) = true := by rw [beq_iff_eq]; rfl
      go_wp2_with fail
      generalize w3.alloc (.cells #[.int .u64 (p.afterS dt).rate, .int .u64 (p.afterS dt).burst, .int .u64 (p.afterS dt).at_, .int .u64 (p.afterS dt).level] 43) = w4 at *
      generalize w3.heap.size = NB at *
      have e4 : ∀ r : BW w4.heap.size w4, r.world.cell? ⟨X, 1, none⟩ = some (.int .u64 dt) := fun r => BW.cell (w := w4) (N := w4.heap.size) (p := ⟨X, 1, none⟩) (Blk.cell HX4.out 1) (Blk.lt HX4.out) r
      have e5 : ∀ r : BW w4.heap.size w4, r.world.cell? ⟨X, 2, none⟩ = some (.int .u64 dn) := fun r => BW.cell (w := w4) (N := w4.heap.size) (p := ⟨X, 2, none⟩) (Blk.cell HX4.out 2) (Blk.lt HX4.out) r
      have e6 : ∀ r : BW w4.heap.size w4, r.world.cell? ⟨NB, 3, none⟩ = some (.int .u64 (p.afterS dt).level) := fun r => BW.cell (w := w4) (N := w4.heap.size) (p := ⟨NB, 3, none⟩) (Blk.cell HN4.out 3) (Blk.lt HN4.out) r
      have yQ := Lib.hid (fun r : BW w4.heap.size w4 => (Blk.below HM4.out r.below (Blk.lt HM4.out) : PSt w.heap.size r.world p))
      refine wp_region_below_lit w4.heap.size (by kernel_rfl) (by kernel_rfl) ?_
      repeat (go_big_quiet_step (first | (go_at_call 14; exact Calls.bw (Nat.le_refl _) (may_any w.heap.size p dt dn _ (yQ.out _) HO.out (by omega) (by omega)))))
      refine wpQuiet_nil ?_
      intro _ hw'
      obtain ⟨r4, rfl⟩ := hw'
      have HM5 := Lib.hid (yQ.out r4)
      have HK5 := Lib.hid (Blk.below HK4.out r4.below (Blk.lt HK4.out))
      have HX5 := Lib.hid (Blk.below HX4.out r4.below (Blk.lt HX4.out))
      have HB5 := Lib.hid (HB4.out.trans (r4.below.mono HB4.out.size))
      generalize r4.world = w5 at *
      clear e4 e5 e6 yQ zm
      as_aux_lemma =>
        have zat : 0 ≤ p.at_ := by have := HO.out; unfold PS.Ok at this; omega
        have z1 : (p.levelS dt != (p.afterS dt).level / 1000000) = false := by simp [PS.levelS]
        have z2 : (p.levelS 0 != p.level / 1000000) = false := by simp [PS.levelS, after_old zat]
        have zl : 0 ≤ (p.afterS dt).level ∧ (p.afterS dt).level ≤ 1073741824000000 := by have := HO.out.after dt (by omega); unfold PS.Ok at this; omega
        have zl2 : 0 ≤ p.level ∧ p.level ≤ 1073741824000000 := by have := HO.out; unfold PS.Ok at this; omega
        have y0 : ∀ r : BW w5.heap.size w5, r.world.cell? ⟨w2.heap.size, 0, none⟩ = some (.int .u64 p.rate) := fun r => BW.cell (w := w5) (N := w5.heap.size) (p := ⟨w2.heap.size, 0, none⟩) (Blk.cell HK5.out 0) (Blk.lt HK5.out) r
        have y1 : ∀ r : BW w5.heap.size w5, r.world.cell? ⟨w2.heap.size, 1, none⟩ = some (.int .u64 p.burst) := fun r => BW.cell (w := w5) (N := w5.heap.size) (p := ⟨w2.heap.size, 1, none⟩) (Blk.cell HK5.out 1) (Blk.lt HK5.out) r
        have y2 : ∀ r : BW w5.heap.size w5, r.world.cell? ⟨w2.heap.size, 2, none⟩ = some (.int .u64 p.at_) := fun r => BW.cell (w := w5) (N := w5.heap.size) (p := ⟨w2.heap.size, 2, none⟩) (Blk.cell HK5.out 2) (Blk.lt HK5.out) r
        have y3 : ∀ r : BW w5.heap.size w5, r.world.cell? ⟨w2.heap.size, 3, none⟩ = some (.int .u64 p.level) := fun r => BW.cell (w := w5) (N := w5.heap.size) (p := ⟨w2.heap.size, 3, none⟩) (Blk.cell HK5.out 3) (Blk.lt HK5.out) r
        have y4 : ∀ r : BW w5.heap.size w5, r.world.cell? ⟨X, 1, none⟩ = some (.int .u64 dt) := fun r => BW.cell (w := w5) (N := w5.heap.size) (p := ⟨X, 1, none⟩) (Blk.cell HX5.out 1) (Blk.lt HX5.out) r
        have yP := Lib.hid (fun r : BW w5.heap.size w5 => (Blk.below HM5.out r.below (Blk.lt HM5.out) : PSt w.heap.size r.world p))
        have hfd := fun (c0 c1 c2 c3 : Int) => field_level (.int .u64 c0) (.int .u64 c1) (.int .u64 c2) (.int .u64 c3)
        go_wp2_with fail
        refine wp_region_below_lit w5.heap.size (by kernel_rfl) (by kernel_rfl) ?_
        repeat (go_big_quiet_step (first | (go_at_call 10; exact Calls.bw (Nat.le_refl _) (level_any w.heap.size p _ _ (yP.out _) HO.out (by omega) (by omega))) | (go_at_call 16; exact Calls.bw (Nat.le_refl _) (refAfter_lit p dt _ HO.out (by omega) (by omega)))))
        refine wpQuiet_nil ?_
        intro _ hw'
        obtain ⟨r, rfl⟩ := hw'
        have HMz := Lib.hid (yP.out r)
        have HKz := Lib.hid (Blk.below HK5.out r.below (Blk.lt HK5.out))
        have HBz := Lib.hid (HB5.out.trans (r.below.mono HB5.out.size))
        clear y0 y1 y2 y3 y4 yP z1 z2 hfd
        go_wp2_with fail
        go_roundw
        case rel => exact ⟨k + 1, p, by omega, by go_num, HPz, HMz, HKz, HBz⟩
        case measure => simp [intOf]; omega
end Go.Proofs.Ytfmbbjinlicbgaa
