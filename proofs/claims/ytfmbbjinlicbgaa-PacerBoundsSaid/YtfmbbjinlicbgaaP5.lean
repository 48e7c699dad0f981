/- The law PacerTogether (layer 35): its walk. Conditions: as each theorem states them. -/
import Derived.Test.YtfmbbjinlicbgaaP4
namespace Go.Proofs.Ytfmbbjinlicbgaa
open Go.RowKit

theorem TB.go {q st : PS} {at_ : Int} {ns : List Int} {m : Int} {k : Nat} (hk : k < ns.length) (hg : goL q.level (ns.take k) = some m) (ha : st.afterS at_ = { q with level := m }) (hle : ns.getD k 0 ≤ m / 1000000) :
    goL (st.afterS at_).level [ns.getD k 0] = some (m - ns.getD k 0 * 1000000) ∧ goL q.level (ns.take (k + 1)) = some (m - ns.getD k 0 * 1000000) := by
  constructor
  · rw [ha]; simp only [goL]; rw [if_pos hle]
  · rw [goL_snoc _ _ _ hk, hg]; simp only [Option.bind_some]; rw [if_pos hle]
theorem TB.stop {q st : PS} {at_ : Int} {ns : List Int} {m : Int} {k : Nat} (hk : k < ns.length) (hg : goL q.level (ns.take k) = some m) (ha : st.afterS at_ = { q with level := m }) (hle : ¬ ns.getD k 0 ≤ m / 1000000) :
    goL (st.afterS at_).level [ns.getD k 0] = none ∧ goL q.level (ns.take (k + 1)) = none := by
  constructor
  · rw [ha]; simp only [goL]; rw [if_neg hle]
  · rw [goL_snoc _ _ _ hk, hg]; simp only [Option.bind_some]; rw [if_neg hle]
theorem goL_none_succ {l : Int} {ns : List Int} {k : Nat} (hk : k < ns.length) (h : goL l (ns.take k) = none) : goL l (ns.take (k + 1)) = none := by
  rw [goL_snoc _ _ _ hk, h]; rfl

set_option maxRecDepth 100000 in
set_option maxHeartbeats 4000000 in
theorem together_walk (a0 a1 a2 : Int) (A : Option Addr) (cap : Nat) (ns : List Int) (w : World) (h00 : 0 ≤ a0) (h01 : a0 < 18446744073709551616) (h10 : 0 ≤ a1) (h11 : a1 < 18446744073709551616) (h0 : 0 ≤ a2) (h1 : a2 < 18446744073709551616)
    (hr : RdU w A ns) (hl : ns.length ≤ 9223372036854775807) :
    Calls Try.prog 3 #[.int .u64 a0, .int .u64 a1, .int .u64 a2, .slice A ns.length cap] w fun e w' => e = .returned (.bool true) ∧ Below w.heap.size w w' := by
  have HR := Lib.hid hr
  clear hr
  by_cases c1 : okNew a0 a1
  case neg =>
    go_enter Try.func3, Try.ntmps3
    go_wp2_with fail
    refine (new_no _ _ _ c1).mono ?_
    rintro e w' ⟨rfl, rfl⟩
    go_wp2_with fail
    refine (new_no _ _ _ c1).mono ?_
    rintro e w' ⟨rfl, rfl⟩
    go_wp2_with (go_at_call 9; refine (works_any _).mono ?_; rintro e w1 ⟨rfl, hb1⟩)
    go_ret
    exact ⟨rfl, hb1⟩
  have hok : PS.Ok ⟨a0, a1, 0, a1 * 1000000⟩ := by unfold okNew at c1; unfold PS.Ok; simp only; omega
  have HOK := Lib.hid hok
  clear hok
  obtain ⟨p0, hp0⟩ : ∃ p0 : PS, p0 = ⟨a0, a1, 0, a1 * 1000000⟩ := ⟨_, rfl⟩
  rw [← hp0] at HOK
  have HQ := Lib.hid (HOK.out.after a2 h1)
  go_enter Try.func3, Try.ntmps3
  have N1 := fun w => new_yes a0 a1 w c1
  rw [← hp0] at N1
  have HN1 := Lib.hid N1
  have C1 := Lib.hid c1
  clear hp0 N1 c1
  go_wp2_with fail
  refine (HN1.out _).mono ?_
  rintro e w1 ⟨rfl, hm1, hz1, hb1⟩
  have HM1 := Lib.hid hm1
  have HB1 := Lib.hid hb1
  have hz1a : w1.heap.size ≤ w.heap.size + 1 := by omega
  have hz1b : w.heap.size + 1 ≤ w1.heap.size := by omega
  clear hm1 hb1 hz1
  go_wp2_with fail
  refine (HN1.out _).mono ?_
  rintro e w2 ⟨rfl, hm2, hz2, hb2⟩
  have HM2 := Lib.hid hm2
  have HB2 := Lib.hid (HB1.out.trans (hb2.mono HB1.out.size))
  have HA2 := Lib.hid (Blk.below HM1.out hb2 (Blk.lt HM1.out))
  have hz2b : w1.heap.size + 1 ≤ w2.heap.size := by omega
  clear hm2 hb2 hz2
  by_cases c2 : 100 < ns.length
  · have c2' : (100 : Int) < (ns.length : Int) := by omega
    go_wp2_with (go_at_call 9; refine (works_any _).mono ?_; rintro e w3 ⟨rfl, hb3⟩)
    go_ret
    exact ⟨rfl, HB2.out.trans (hb3.mono HB2.out.size)⟩
  have c2' : decide ((100 : Int) < (ns.length : Int)) = false := by simp; omega
  go_wp2_with fail
  refine (level_any w.heap.size p0 a2 w2 HA2.out HOK.out h0 h1).mono ?_
  rintro e w3 ⟨rfl, hb3⟩
  have HM3 := Lib.hid (Blk.below HM2.out hb3 (Blk.lt HM2.out))
  have HA3 := Lib.hid (Blk.below HA2.out hb3 (Blk.lt HA2.out))
  have HB3 := Lib.hid (HB2.out.trans (hb3.mono HB2.out.size))
  have hz3 : w1.heap.size + 1 ≤ w3.heap.size := by have := hb3.size; omega
  clear hb3
  go_wp2_with fail
  go_loopw [14, 51] (fun al i wr => ∃ (k : Nat) (all : Bool) (st : PS), k ≤ ns.length ∧ i = .int .i64 k ∧ al = .bool all ∧ Hid (TB (p0.afterS a2) a2 (ns.take k) all st) ∧ Hid (PSt w1.heap.size wr st) ∧ Hid (w3.grownBy wr (some w1.heap.size))) (fun _ i _ => ns.length - (intOf i).toNat)
  case atStart => exact ⟨0, true, p0, by omega, rfl, rfl, Lib.hid ⟨HOK.out, .inl ⟨rfl, _, rfl, rfl⟩⟩, HM3, Lib.hid (World.grownBy.refl _ _)⟩
  case round =>
    obtain ⟨k, all, st, hk, rfl, rfl, HT, HM, HG⟩ := hrel
    have hwr : w1.heap.size + 1 ≤ wr.heap.size := by have := HG.out.size; omega
    have HBr : Hid (Below w.heap.size w wr) := Lib.hid (HB3.out.trans (below_of_only HG.out (by omega) (by omega)))
    have HAr := Lib.hid (Blk.grown HA3.out HG.out (by simp; omega))
    have HRr := Lib.hid (HR.out.below HBr.out)
    have hsok := Lib.hid HT.out.1
    by_cases hlt : k < ns.length
    · obtain ⟨ad, hA, hc⟩ := HRr.out.2 k hlt
      have hmem := HRr.out.mem hlt
      cases all with
      | false =>
        have hnone : goL (p0.afterS a2).level (ns.take k) = none := by
          rcases HT.out.2 with ⟨h, _⟩ | ⟨_, h⟩
          · cases h
          · exact h
        have HN := Lib.hid (goL_none_succ hlt hnone)
        clear hnone
        subst hA
        generalize hn : ns.getD k 0 = n at *
        clear hn
        go_wp2_with fail
        go_roundw
        case rel => exact ⟨k + 1, false, st, by omega, by go_num, rfl, Lib.hid ⟨hsok.out, .inr ⟨rfl, HN.out⟩⟩, HM, HG⟩
        case measure => simp [intOf]; omega
      | true =>
        have hsome : ∃ m, goL (p0.afterS a2).level (ns.take k) = some m ∧ st.afterS a2 = { p0.afterS a2 with level := m } := by
          rcases HT.out.2 with ⟨_, h⟩ | ⟨h, _⟩
          · exact h
          · cases h
        obtain ⟨m, hm1, hm2⟩ := hsome
        by_cases hle : ns.getD k 0 ≤ m / 1000000
        · obtain ⟨g1, g2⟩ := TB.go hlt hm1 hm2 hle
          have hnew : Hid (TB (p0.afterS a2) a2 (ns.take (k + 1)) true { st.afterS a2 with level := m - ns.getD k 0 * 1000000 }) := Lib.hid (by
            have hmr := goL_range hm1 (by have := HQ.out; unfold PS.Ok at this; omega) (fun n hn => (HR.out.1 n (List.mem_of_mem_take hn)).1)
            have hq := hsok.out.after a2 h1
            refine ⟨?_, .inl ⟨rfl, _, g2, ?_⟩⟩
            · rw [hm2] at hq ⊢
              unfold PS.Ok at *
              simp only at *
              omega
            · rw [after_idem, hm2])
          have G1 := Lib.hid g1
          clear g1 g2 hm1 hm2 hle
          subst hA
          generalize hn : ns.getD k 0 = n at *
          clear hn
          go_wp2_with fail
          have hm3 := HM.out.alloc (.cells #[.int .u64 n] 22)
          have hr3 : RdU (wr.alloc (.cells #[.int .u64 n] 22)) (some ⟨wr.heap.size, 0, none⟩) [n] := rdU_one (by go_simp) (by omega) (by omega)
          refine (go_yes _ st a2 _ _ [n] _ _ hm3 hsok.out h0 h1 hr3 (by simp) G1.out).mono ?_
          rintro e w4 ⟨rfl, hm4, hg4⟩
          have HM4 := Lib.hid hm4
          have HG4 := Lib.hid (only_trans (only_alloc HG.out _) hg4)
          clear hm3 hr3 hm4 hg4
          go_wp2_with fail
          go_roundw
          case rel => exact ⟨k + 1, true, _, by omega, by go_num, rfl, hnew, HM4, HG4⟩
          case measure => simp [intOf]; omega
        · obtain ⟨g1, g2⟩ := TB.stop hlt hm1 hm2 hle
          have hnew : Hid (TB (p0.afterS a2) a2 (ns.take (k + 1)) false st) := Lib.hid ⟨hsok.out, .inr ⟨rfl, g2⟩⟩
          have G1 := Lib.hid g1
          clear g1 g2 hm1 hm2 hle
          subst hA
          generalize hn : ns.getD k 0 = n at *
          clear hn
          go_wp2_with fail
          have hm3 := HM.out.alloc (.cells #[.int .u64 n] 22)
          have hr3 : RdU (wr.alloc (.cells #[.int .u64 n] 22)) (some ⟨wr.heap.size, 0, none⟩) [n] := rdU_one (by go_simp) (by omega) (by omega)
          refine (go_no _ st a2 _ _ [n] _ hm3 hsok.out h0 h1 hr3 (by simp) G1.out).mono ?_
          rintro e w4 ⟨rfl, hb4⟩
          have HM4 := Lib.hid (Blk.below hm3 hb4 (Blk.lt hm3))
          have HG4 := Lib.hid (only_trans (only_alloc HG.out _) (only_of_below hb4 _))
          clear hm3 hr3 hb4
          go_wp2_with fail
          go_roundw
          case rel => exact ⟨k + 1, false, st, by omega, by go_num, rfl, hnew, HM4, HG4⟩
          case measure => simp [intOf]; omega
    · have hT := HT.out.2
      rw [List.take_of_length_le (by omega)] at hT
      cases all with
      | true =>
        obtain ⟨m, hm1, hm2⟩ : ∃ m, goL (p0.afterS a2).level ns = some m ∧ st.afterS a2 = { p0.afterS a2 with level := m } := by
          rcases hT with ⟨_, h⟩ | ⟨h, _⟩
          · exact h
          · cases h
        have hl2 : Hid (PS.levelS { p0.afterS a2 with level := m } a2 = st.levelS a2) := Lib.hid (by unfold PS.levelS; rw [after_idem, hm2])
        have hqok : Hid (PS.Ok { p0.afterS a2 with level := m }) := Lib.hid (by
          have hmr := goL_range hm1 (by have := HQ.out; unfold PS.Ok at this; omega) (fun n hn => (HR.out.1 n hn).1)
          have := HQ.out
          unfold PS.Ok at *
          simp only at *
          omega)
        have HM1' := Lib.hid hm1
        clear hm1 hm2 hT
        go_wp2_with fail
        refine (go_yes _ p0 a2 A cap ns m _ HAr.out HOK.out h0 h1 HRr.out hl HM1'.out).mono ?_
        rintro e w4 ⟨rfl, hm4, hg4⟩
        have HA4 := Lib.hid hm4
        have HM4 := Lib.hid (Blk.grown HM.out hg4 (by simp; omega))
        have HB4 := Lib.hid (HBr.out.trans (below_of_only hg4 (Nat.le_refl _) (by omega)))
        clear hm4 hg4
        go_wp2_with fail
        refine (level_any _ _ a2 _ HA4.out hqok.out h0 h1).mono ?_
        rintro e w5 ⟨rfl, hb5⟩
        rw [hl2.out]
        have HM5 := Lib.hid (Blk.below HM4.out hb5 (Blk.lt HM4.out))
        have HB5 := Lib.hid (HB4.out.trans (hb5.mono HB4.out.size))
        clear hb5
        go_wp2_with fail
        refine (level_any _ st a2 _ HM5.out hsok.out h0 h1).mono ?_
        rintro e w6 ⟨rfl, hb6⟩
        have HB6 := Lib.hid (HB5.out.trans (hb6.mono HB5.out.size))
        clear hb6
        go_wp2_with fail
        refine (works_any _).mono ?_
        rintro e w7 ⟨rfl, hb7⟩
        have HB7 := Lib.hid (HB6.out.trans (hb7.mono HB6.out.size))
        clear hb7
        go_wp2_with fail
        go_ret
        exact ⟨rfl, HB7.out⟩
      | false =>
        have hnone : Hid (goL (p0.afterS a2).level ns = none) := Lib.hid (by
          rcases hT with ⟨h, _⟩ | ⟨_, h⟩
          · cases h
          · exact h)
        clear hT
        go_wp2_with fail
        refine (go_no _ p0 a2 A cap ns _ HAr.out HOK.out h0 h1 HRr.out hl hnone.out).mono ?_
        rintro e w4 ⟨rfl, hb4⟩
        have HA4 := Lib.hid (Blk.below HAr.out hb4 (Blk.lt HAr.out))
        have HB4 := Lib.hid (HBr.out.trans (hb4.mono HBr.out.size))
        clear hb4
        go_wp2_with fail
        refine (level_any _ p0 a2 _ HA4.out HOK.out h0 h1).mono ?_
        rintro e w5 ⟨rfl, hb5⟩
        have HB5 := Lib.hid (HB4.out.trans (hb5.mono HB4.out.size))
        clear hb5
        go_wp2_with fail
        refine (works_any _).mono ?_
        rintro e w7 ⟨rfl, hb7⟩
        have HB7 := Lib.hid (HB5.out.trans (hb7.mono HB5.out.size))
        clear hb7
        go_wp2_with fail
        go_ret
        exact ⟨rfl, HB7.out⟩
end Go.Proofs.Ytfmbbjinlicbgaa
