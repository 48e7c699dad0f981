/- The law PacerWaits (layer 35): its walk. Conditions: as each theorem states them. -/
import Derived.Test.YtfmbbjinlicbgaaP8
namespace Go.Proofs.Ytfmbbjinlicbgaa
open Go.RowKit

theorem go_at_le {p : PS} {now m : Int} (h : now ≤ 1152921504606846976) (hp : p.at_ ≤ 1152921504606846976) : ({ p.afterS now with level := m } : PS).at_ ≤ 1152921504606846976 := by
  simp only
  rw [after_at]
  split <;> omega
theorem go_ok {p : PS} (ho : p.Ok) {now m : Int} {ns : List Int} (h1 : now < 18446744073709551616) (hg : goL (p.afterS now).level ns = some m) (hn : ∀ n ∈ ns, 0 ≤ n) : ({ p.afterS now with level := m } : PS).Ok := by
  have hq := ho.after now h1
  generalize p.afterS now = q at *
  have hmr := goL_range hg (by unfold PS.Ok at hq; omega) hn
  unfold PS.Ok at *
  simp only at *
  omega

set_option maxRecDepth 100000 in
set_option maxHeartbeats 4000000 in
theorem waits_walk (a0 a1 : Int) (A : Option Addr) (cap : Nat) (ds : List DoP) (a3 a4 : Int) (w : World) (h30 : 0 ≤ a3) (h31 : a3 < 18446744073709551616) (h40 : 0 ≤ a4) (h41 : a4 < 18446744073709551616)
    (hA : IsDoPs w A ds) :
    Calls Try.prog 5 #[.int .u64 a0, .int .u64 a1, .slice A ds.length cap, .int .u64 a3, .int .u64 a4] w fun e w' => e = .returned (.bool true) ∧ Below w.heap.size w w' := by
  have HA := Lib.hid hA
  have hl := hA.1
  clear hA
  by_cases c1 : okNew a0 a1
  case neg =>
    go_enter Try.func5, Try.ntmps5
    go_wp2_with fail
    refine (new_no _ _ _ c1).mono ?_
    rintro e w' ⟨rfl, rfl⟩
    go_wp2_with (go_at_call 9; refine (works_any _).mono ?_; rintro e w1 ⟨rfl, hb1⟩)
    go_ret
    exact ⟨rfl, hb1⟩
  have hok : PS.Ok ⟨a0, a1, 0, a1 * 1000000⟩ := by unfold okNew at c1; unfold PS.Ok; simp only; omega
  have HOK := Lib.hid hok
  clear hok
  go_enter Try.func5, Try.ntmps5
  go_wp2_with fail
  refine (new_yes _ _ _ c1).mono ?_
  rintro e w1 ⟨rfl, hm1, hz1, hb1⟩
  have HM1 := Lib.hid hm1
  have HB1 := Lib.hid hb1
  clear hm1 hb1 hz1 c1
  go_wp2_with fail
  refine (heavy_any A ds cap _ (HA.out.below HB1.out)).mono ?_
  rintro e w2 ⟨b, rfl, _, _, hb2⟩
  have HM2 := Lib.hid (Blk.below HM1.out hb2 (Blk.lt HM1.out))
  have HB2 := Lib.hid (HB1.out.trans (hb2.mono HB1.out.size))
  clear hb2
  cases b with
  | true =>
    go_wp2_with (go_at_call 9; refine (works_any _).mono ?_; rintro e w3 ⟨rfl, hb3⟩)
    go_ret
    exact ⟨rfl, HB2.out.trans (hb3.mono HB2.out.size)⟩
  | false =>
    by_cases c3 : 1152921504606846976 < a3
    · go_wp2_with (go_at_call 9; refine (works_any _).mono ?_; rintro e w3 ⟨rfl, hb3⟩)
      go_ret
      exact ⟨rfl, HB2.out.trans (hb3.mono HB2.out.size)⟩
    go_wp2_with fail
    go_loopw [35] (fun i wr => ∃ (k : Nat) (p : PS), k ≤ ds.length ∧ i = .int .i64 k ∧ Hid (p.Ok ∧ p.burst = a1 ∧ p.at_ ≤ 1152921504606846976) ∧ Hid (PSt w.heap.size wr p) ∧ Hid (Below w.heap.size w wr)) (fun i _ => ds.length - (intOf i).toNat)
    case atStart => exact ⟨0, ⟨a0, a1, 0, a1 * 1000000⟩, by omega, rfl, Lib.hid ⟨HOK.out, rfl, by simp⟩, HM2, HB2⟩
    case round =>
      obtain ⟨k, p, hk, rfl, HP, HM, HB⟩ := hrel
      have hwr : w.heap.size < wr.heap.size := Blk.lt HM.out
      by_cases hlt : k < ds.length
      · obtain ⟨a, hA, d1, d2, d3, d4, d5⟩ := HA.out.2.2 k hlt
        have hfit := HA.out.fit hlt
        generalize ds.getD k DoP.none = d at *
        obtain ⟨kd, dt, dn, dA, dc, ns⟩ := d
        simp only [DoP.Fit] at d1 d2 d3 d4 d5 hfit
        obtain ⟨q1, q2, q3, q4, q5, q6, q7⟩ := hfit
        have y1 := Below.cell_some HB.out d1 (cell_lt d1)
        have y2 := Below.cell_some HB.out d2 (cell_lt d2)
        have y3 := Below.cell_some HB.out d3 (cell_lt d3)
        have y4 := Below.cell_some HB.out d4 (cell_lt d4)
        have D5 := Lib.hid (d5.below (HB.out.alloc HB.out.size (.cells #[.int .u8 kd, .int .u64 dt, .int .u64 dn, .slice dA ns.length dc] 35)))
        have HMA := Lib.hid (HM.out.alloc (.cells #[.int .u8 kd, .int .u64 dt, .int .u64 dn, .slice dA ns.length dc] 35))
        have HBA := Lib.hid (HB.out.alloc HB.out.size (.cells #[.int .u8 kd, .int .u64 dt, .int .u64 dn, .slice dA ns.length dc] 35))
        subst hA
        clear d1 d2 d3 d4 d5
        by_cases g60 : 1152921504606846976 < dt
        · go_wp2_with (go_at_call 9; refine (works_any _).mono ?_; rintro e w3 ⟨rfl, hb3⟩)
          go_ret
          exact ⟨rfl, HBA.out.trans (hb3.mono HBA.out.size)⟩
        · rcases hgo : goL (p.afterS dt).level ns with _ | m
          · have HGO := Lib.hid hgo
            clear hgo
            go_wp2_with fail
            refine (go_no _ p dt dA dc ns _ (by exact HMA.out) HP.out.1 (by omega) (by omega) (by exact D5.out) (by omega) HGO.out).mono ?_
            rintro e w3 ⟨rfl, hb3⟩
            have HM3 := Lib.hid (Blk.below HMA.out hb3 (Blk.lt HMA.out))
            have HB3 := Lib.hid (HBA.out.trans (hb3.mono HBA.out.size))
            clear hb3
            go_wp2_with fail
            go_roundw
            case rel => exact ⟨k + 1, p, by omega, by go_num, HP, HM3, HB3⟩
            case measure => simp [intOf]; omega
          · have hnew : Hid (({ p.afterS dt with level := m } : PS).Ok ∧ ({ p.afterS dt with level := m } : PS).burst = a1 ∧ ({ p.afterS dt with level := m } : PS).at_ ≤ 1152921504606846976) :=
              Lib.hid ⟨go_ok HP.out.1 (by omega) hgo (fun n hn => (D5.out.1 n hn).1), (after_rate p dt).2.trans HP.out.2.1, go_at_le (by omega) HP.out.2.2⟩
            have HGO := Lib.hid hgo
            clear hgo
            go_wp2_with fail
            refine (go_yes _ p dt dA dc ns m _ (by exact HMA.out) HP.out.1 (by omega) (by omega) (by exact D5.out) (by omega) HGO.out).mono ?_
            rintro e w3 ⟨rfl, hm3, hg3⟩
            have HM3 := Lib.hid hm3
            have HB3 := Lib.hid (HBA.out.trans (below_of_only hg3 (Nat.le_refl _) (by simp; omega)))
            clear hm3 hg3
            go_wp2_with fail
            go_roundw
            case rel => exact ⟨k + 1, _, by omega, by go_num, hnew, HM3, HB3⟩
            case measure => simp [intOf]; omega
      · have hpb := HP.out.2.1
        by_cases gb : a1 < a4
        · go_wp2_with fail
          refine (next_long _ p a3 a4 _ HM.out (by omega)).mono ?_
          rintro e w' ⟨rfl, rfl⟩
          go_wp2_with (go_at_call 9; refine (works_any _).mono ?_; rintro e w3 ⟨rfl, hb3⟩)
          go_ret
          exact ⟨rfl, HB.out.trans (hb3.mono HB.out.size)⟩
        · have hW := waits_plain HP.out.1 a3 a4 h30 (by omega) HP.out.2.2 (by omega)
          have HN := Lib.hid (next_yes w.heap.size p a3 a4 wr HM.out HP.out.1 h30 h31 h40 (by omega))
          have HPO := Lib.hid HP.out.1
          clear hpb HP
          generalize (p.afterS a3).nextS a4 = T at *
          obtain ⟨t1, t2, t3, t4, t5, m, t6⟩ := hW
          have T4 := Lib.hid t4
          have T5 := Lib.hid t5
          have T6 := Lib.hid t6
          clear t4 t5 t6
          go_wp2_with fail
          refine HN.out.mono ?_
          rintro e w3 ⟨rfl, hb3⟩
          have HM3 := Lib.hid (Blk.below HM.out hb3 (Blk.lt HM.out))
          have HB3 := Lib.hid (HB.out.trans (hb3.mono HB.out.size))
          have HY := Lib.hid (may_any w.heap.size p T a4 w3 HM3.out HPO.out t3 t2)
          rw [T4.out] at HY
          clear hb3
          go_wp2_with fail
          refine HY.out.mono ?_
          rintro e w4 ⟨rfl, hb4⟩
          have HM4 := Lib.hid (Blk.below HM3.out hb4 (Blk.lt HM3.out))
          have HB4 := Lib.hid (HB3.out.trans (hb4.mono HB3.out.size))
          clear hb4 HY
          have HMw4 := HM4
          have HBw4 := HB4
          by_cases gT : a3 < T
          · rcases hmb : p.mayS (T - 1) a4 with _ | _
            · have HY := Lib.hid (may_any w.heap.size p (T - 1) a4 w4 HM4.out HPO.out (by omega) (by omega))
              rw [hmb] at HY
              clear hmb
              go_wp2_with fail
              refine HY.out.mono ?_
              rintro e w5 ⟨rfl, hb5⟩
              have HMw5 := Lib.hid (Blk.below HM4.out hb5 (Blk.lt HM4.out))
              have HBw5 := Lib.hid (HB4.out.trans (hb5.mono HB4.out.size))
              clear hb5 HY
              go_wp2_with fail
              have hm9 := (show PSt w.heap.size w5 p from HMw5.out).alloc (.cells #[.int .u64 a4] 22)
              have hr9 : RdU (w5.alloc (.cells #[.int .u64 a4] 22)) (some ⟨w5.heap.size, 0, none⟩) [a4] := rdU_one (by go_simp) h40 h41
              refine (go_yes _ p T _ _ [a4] m _ hm9 HPO.out t3 t2 hr9 (by simp) T6.out).mono ?_
              rintro e w9 ⟨rfl, _, hg9⟩
              have HB9 := Lib.hid ((HBw5.out.alloc HBw5.out.size (.cells #[.int .u64 a4] 22)).trans (below_of_only hg9 (Nat.le_refl _) (by have := HBw5.out.size; simp; omega)))
              clear hm9 hr9 hg9
              go_wp2_with fail
              refine (works_any _).mono ?_
              rintro e w10 ⟨rfl, hb10⟩
              have HB10 := Lib.hid (HB9.out.trans (hb10.mono HB9.out.size))
              clear hb10
              go_wp2_with fail
              go_ret
              exact ⟨rfl, HB10.out⟩
            · have HY := Lib.hid (may_any w.heap.size p (T - 1) a4 w4 HM4.out HPO.out (by omega) (by omega))
              have HE := Lib.hid (T5.out gT hmb)
              rw [hmb] at HY
              clear hmb
              go_wp2_with fail
              refine HY.out.mono ?_
              rintro e w5 ⟨rfl, hb5⟩
              have HM5 := Lib.hid (Blk.below HM4.out hb5 (Blk.lt HM4.out))
              have HB5 := Lib.hid (HB4.out.trans (hb5.mono HB4.out.size))
              have HL := Lib.hid (level_any w.heap.size p (T - 1) w5 HM5.out HPO.out (by omega) (by omega))
              rw [HE.out] at HL
              clear hb5 HY
              go_wp2_with fail
              refine HL.out.mono ?_
              rintro e w6 ⟨rfl, hb6⟩
              have HM6 := Lib.hid (Blk.below HM5.out hb6 (Blk.lt HM5.out))
              have HB6 := Lib.hid (HB5.out.trans (hb6.mono HB5.out.size))
              clear hb6 HL
              go_wp2_with fail
              refine (level_any w.heap.size p 0 w6 HM6.out HPO.out (by omega) (by omega)).mono ?_
              rintro e w7 ⟨rfl, hb7⟩
              have HMw7 := Lib.hid (Blk.below HM6.out hb7 (Blk.lt HM6.out))
              have HBw7 := Lib.hid (HB6.out.trans (hb7.mono HB6.out.size))
              clear hb7
              go_wp2_with fail
              have hm9 := (show PSt w.heap.size w7 p from HMw7.out).alloc (.cells #[.int .u64 a4] 22)
              have hr9 : RdU (w7.alloc (.cells #[.int .u64 a4] 22)) (some ⟨w7.heap.size, 0, none⟩) [a4] := rdU_one (by go_simp) h40 h41
              refine (go_yes _ p T _ _ [a4] m _ hm9 HPO.out t3 t2 hr9 (by simp) T6.out).mono ?_
              rintro e w9 ⟨rfl, _, hg9⟩
              have HB9 := Lib.hid ((HBw7.out.alloc HBw7.out.size (.cells #[.int .u64 a4] 22)).trans (below_of_only hg9 (Nat.le_refl _) (by have := HBw7.out.size; simp; omega)))
              clear hm9 hr9 hg9
              go_wp2_with fail
              refine (works_any _).mono ?_
              rintro e w10 ⟨rfl, hb10⟩
              have HB10 := Lib.hid (HB9.out.trans (hb10.mono HB9.out.size))
              clear hb10
              go_wp2_with fail
              go_ret
              exact ⟨rfl, HB10.out⟩
          · have gT' : decide (a3 < T) = false := by simp; omega
            go_wp2_with fail
            have hm9 := (show PSt w.heap.size w4 p from HMw4.out).alloc (.cells #[.int .u64 a4] 22)
            have hr9 : RdU (w4.alloc (.cells #[.int .u64 a4] 22)) (some ⟨w4.heap.size, 0, none⟩) [a4] := rdU_one (by go_simp) h40 h41
            refine (go_yes _ p T _ _ [a4] m _ hm9 HPO.out t3 t2 hr9 (by simp) T6.out).mono ?_
            rintro e w9 ⟨rfl, _, hg9⟩
            have HB9 := Lib.hid ((HBw4.out.alloc HBw4.out.size (.cells #[.int .u64 a4] 22)).trans (below_of_only hg9 (Nat.le_refl _) (by have := HBw4.out.size; simp; omega)))
            clear hm9 hr9 hg9
            go_wp2_with fail
            refine (works_any _).mono ?_
            rintro e w10 ⟨rfl, hb10⟩
            have HB10 := Lib.hid (HB9.out.trans (hb10.mono HB9.out.size))
            clear hb10
            go_wp2_with fail
            go_ret
            exact ⟨rfl, HB10.out⟩
end Go.Proofs.Ytfmbbjinlicbgaa
