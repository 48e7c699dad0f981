/- The law MtuFalls (layer 36): the law's walk. Conditions: as each theorem states them. -/
import Derived.Test.YtfhclafkmaojoaaM6
namespace Go.Proofs.Ytfhclafkmaojoaa
open Go.RowKit

def resetS (s : MS) : MS := ⟨1200, s.size - 1, 0, 0, 0⟩
/-- what stands in the loop of lost packets, at its k-th round -/
def TI (s : MS) (nx : Int) (k : Nat) (t : MS) : Prop := (k = 6 ∧ t = resetS s ∧ nx < s.size ∧ s.size ≠ 1200) ∨ (k < 6 ∧ t = { s with black := k })
/-- what the rest needs -/
def TR (nx : Int) (t : MS) : Prop := t.Ok ∧ t.probe = 0 ∧ t.tries = 0 ∧ t.size ≤ nx
theorem TI.next {s : MS} {nx : Int} {k : Nat} {t : MS} (h : TI s nx k t) (hs : s.Ok) (hk : k < 6) (h1 : nx < s.size) (h2 : s.size ≠ 1200) (hp : s.probe = 0) : TI s nx (k + 1) (lostS t [s.size]) := by
  rcases h with ⟨h, _⟩ | ⟨_, rfl⟩
  · omega
  · unfold lostS
    simp only [List.foldl]
    unfold MS.Ok at hs
    have e1 : ¬ s.size = s.probe := by omega
    have e2 : ¬ (s.size ≤ 1200 ∨ s.size < s.size) := by omega
    unfold oneS
    simp only [if_neg e1, if_neg e2]
    by_cases h5 : k = 5
    · rw [if_pos (by omega)]
      exact .inl ⟨by omega, rfl, h1, h2⟩
    · rw [if_neg (by omega)]
      exact .inr ⟨by omega, by simp⟩

set_option maxHeartbeats 4000000 in
theorem falls_walk (a0 a1 a2 : Int) (w : World) : Calls Try.prog 6 #[.int .i64 a0, .int .i64 a1, .int .i64 a2] w fun e w' => e = .returned (.bool true) ∧ Below w.heap.size w w' := by
  by_cases c1 : a0 < 1200
  · go_enter Try.func6, Try.ntmps6
    go_wp2_with (go_at_call 7; refine (works_any _).mono ?_; rintro e w1 ⟨rfl, hb1⟩)
    go_ret
    exact ⟨rfl, hb1⟩
  by_cases c2 : 65527 < a0
  · go_enter Try.func6, Try.ntmps6
    go_wp2_with (go_at_call 7; refine (works_any _).mono ?_; rintro e w1 ⟨rfl, hb1⟩)
    go_ret
    exact ⟨rfl, hb1⟩
  by_cases c3 : a1 < 1200
  · go_enter Try.func6, Try.ntmps6
    go_wp2_with (go_at_call 7; refine (works_any _).mono ?_; rintro e w1 ⟨rfl, hb1⟩)
    go_ret
    exact ⟨rfl, hb1⟩
  by_cases c4 : a2 < 1200
  · go_enter Try.func6, Try.ntmps6
    go_wp2_with (go_at_call 7; refine (works_any _).mono ?_; rintro e w1 ⟨rfl, hb1⟩)
    go_ret
    exact ⟨rfl, hb1⟩
  go_enter Try.func6, Try.ntmps6
  go_wp2_with fail
  refine (new_yes a0 _ (by omega) (by omega)).mono ?_
  rintro e w1 ⟨rfl, hm1, hz1, hb1⟩
  have HM1 := Lib.hid hm1
  have HB1 := Lib.hid hb1
  clear hm1 hb1
  have hz1' : w.heap.size < w1.heap.size := by omega
  clear hz1
  go_wp2_with fail
  refine (search_any _ _ a1 _ HM1.out (by simp [MS.Ok]; omega) rfl rfl (by simp; omega)).mono ?_
  rintro e w2 ⟨s, j, n, rfl, hI, hd, hm2, hg2⟩
  have HM2 := Lib.hid hm2
  have HG2 := Lib.hid hg2
  clear hm2 hg2
  have hn0 := hI.pos
  have sok := hI.ok
  have SP := Lib.hid hI.probe
  have ST : Hid (s.tries = 0) := Lib.hid (by have := hI.busy; unfold MS.Ok at sok; omega)
  have SB := Lib.hid (hI.black rfl)
  have SOK := Lib.hid sok
  have ss : 1200 ≤ s.size := sok.1
  have ss2 : s.size ≤ 65527 := by unfold MS.Ok at sok; omega
  clear hI sok hd
  go_wp2_with fail
  go_loopw [37] (fun i wr => ∃ (k : Nat) (t : MS), k ≤ 6 ∧ i = .int .i64 k ∧ Hid (TI s a2 k t) ∧ Hid (MSt w.heap.size wr t) ∧ Hid (w1.grownBy wr (some w.heap.size))) (fun i _ => (6 - intOf i).toNat)
  case atStart => exact ⟨0, s, by omega, rfl, Lib.hid (.inr ⟨by omega, by have := SB.out; cases s; simp_all⟩), HM2, HG2⟩
  case round =>
    obtain ⟨k, t, hk, rfl, HTI, HM, HG⟩ := hrel
    by_cases hk6 : k = 6
    · subst hk6
      have HT : Hid (TR a2 t) := Lib.hid (by
        rcases HTI.out with ⟨_, rfl, h1, h2⟩ | ⟨h, _⟩
        · refine ⟨?_, rfl, rfl, ?_⟩
          · unfold MS.Ok resetS; simp; omega
          · unfold resetS; simp; omega
        · omega)
      have ht0 := HT.out
      obtain ⟨hto, htp, htt, htn⟩ := ht0
      have htf := Lib.hid hto.fit
      have HTO := Lib.hid hto
      have HTP := Lib.hid htp
      have HTT := Lib.hid htt
      clear hto htp htt
      go_wp2_with fail
      refine (size_any _ t _ (by exact HM.out)).mono ?_
      rintro e w' ⟨rfl, rfl⟩
      go_wp2_with fail
      refine (search_any _ t a2 _ (by exact HM.out) HTO.out HTP.out HTT.out htn).mono ?_
      rintro e w3 ⟨t1, j1, n1, rfl, hI1, hd1, hm3, hg3⟩
      have HM3 := Lib.hid hm3
      have HG3 := Lib.hid (only_trans HG.out hg3)
      clear hm3 hg3
      have n1p := hI1.pos
      have t1l := hI1.szlim
      have t1ok := hI1.ok
      have T1OK := Lib.hid t1ok
      have t1b : 1200 ≤ t1.size := t1ok.1
      clear hI1 t1ok hd1
      go_wp2_with fail
      refine (size_any _ t1 _ (by exact HM3.out)).mono ?_
      rintro e w' ⟨rfl, rfl⟩
      go_wp2_with fail
      refine (size_any _ t1 _ (by exact HM3.out)).mono ?_
      rintro e w' ⟨rfl, rfl⟩
      go_wp2_with fail
      refine (again_yes _ t1 a0 _ (by exact HM3.out) (by omega) (by omega)).mono ?_
      rintro e w4 ⟨rfl, hm4, hg4⟩
      have HM4 := Lib.hid hm4
      have HG4 := Lib.hid (only_trans HG3.out hg4)
      clear hm4 hg4
      go_wp2_with fail
      refine (search_any _ (againS t1 a0) a2 _ (by exact HM4.out) (ok_again T1OK.out a0 (by omega)) rfl rfl t1l).mono ?_
      rintro e w5 ⟨t2, j2, n2, rfl, hI2, hd2, hm5, hg5⟩
      have HM5 := Lib.hid hm5
      have HG5 := Lib.hid (only_trans HG4.out hg5)
      clear hm5 hg5
      have n2p := hI2.pos
      have t2l := hI2.szlim
      have t2ok := hI2.ok
      have t2lo := hI2.least
      unfold MS.Ok at t2ok
      have t2b : a0 < t2.size + 16 ∨ a2 < t2.size + 16 := by
        unfold againS at t2lo
        simp only at t2lo
        split at t2lo <;> omega
      have t2s : 0 ≤ t2.size := by omega
      have t2m : t2.size ≤ 65527 := by omega
      clear hI2 t2ok t2lo hd2
      go_wp2_with fail
      refine (size_any _ t2 _ (by exact HM5.out)).mono ?_
      rintro e w' ⟨rfl, rfl⟩
      by_cases hmin : a2 ≤ a0
      all_goals
        go_wp2_with fail
        refine (size_any _ t2 _ (by exact HM5.out)).mono ?_
        rintro e w' ⟨rfl, rfl⟩
        go_wp2_with fail
        refine (works_any _).mono ?_
        rintro e w6 ⟨rfl, hb6⟩
        have HB6 := Lib.hid hb6
        clear hb6
        go_wp2_with fail
        go_ret
        have b12 := HB1.out.trans (below_of_only HG5.out (Nat.le_refl _) HB1.out.size)
        exact ⟨rfl, b12.trans (HB6.out.mono b12.size)⟩
    · have hk' : k < 6 := by omega
      have htk : t = { s with black := (k : Int) } := by
        rcases HTI.out with ⟨h, _⟩ | ⟨_, h⟩
        · omega
        · exact h
      subst htk
      have hf0 := SOK.out
      have htok : ({ s with black := (k : Int) } : MS).Ok := by unfold MS.Ok at *; simp only; omega
      have HTOK := Lib.hid htok
      clear htok hf0
      by_cases hbr : s.size ≤ a2 ∨ s.size = 1200
      · have HT : Hid (TR a2 { s with black := (k : Int) }) := Lib.hid ⟨HTOK.out, SP.out, ST.out, by simp only; omega⟩
        generalize ht : ({ s with black := (k : Int) } : MS) = t at *
        have hts : t.size = s.size := by rw [← ht]
        clear ht HTI HTOK
        by_cases hb1 : t.size ≤ a2
        · clear hbr hts
          go_wp2_with fail
          refine (size_any _ t _ (by exact HM.out)).mono ?_
          rintro e w' ⟨rfl, rfl⟩
          have ht0 := HT.out
          obtain ⟨hto, htp, htt, htn⟩ := ht0
          have htf := Lib.hid hto.fit
          have HTO := Lib.hid hto
          have HTP := Lib.hid htp
          have HTT := Lib.hid htt
          clear hto htp htt
          go_wp2_with fail
          refine (size_any _ t _ (by exact HM.out)).mono ?_
          rintro e w' ⟨rfl, rfl⟩
          go_wp2_with fail
          refine (search_any _ t a2 _ (by exact HM.out) HTO.out HTP.out HTT.out htn).mono ?_
          rintro e w3 ⟨t1, j1, n1, rfl, hI1, hd1, hm3, hg3⟩
          have HM3 := Lib.hid hm3
          have HG3 := Lib.hid (only_trans HG.out hg3)
          clear hm3 hg3
          have n1p := hI1.pos
          have t1l := hI1.szlim
          have t1ok := hI1.ok
          have T1OK := Lib.hid t1ok
          have t1b : 1200 ≤ t1.size := t1ok.1
          clear hI1 t1ok hd1
          go_wp2_with fail
          refine (size_any _ t1 _ (by exact HM3.out)).mono ?_
          rintro e w' ⟨rfl, rfl⟩
          go_wp2_with fail
          refine (size_any _ t1 _ (by exact HM3.out)).mono ?_
          rintro e w' ⟨rfl, rfl⟩
          go_wp2_with fail
          refine (again_yes _ t1 a0 _ (by exact HM3.out) (by omega) (by omega)).mono ?_
          rintro e w4 ⟨rfl, hm4, hg4⟩
          have HM4 := Lib.hid hm4
          have HG4 := Lib.hid (only_trans HG3.out hg4)
          clear hm4 hg4
          go_wp2_with fail
          refine (search_any _ (againS t1 a0) a2 _ (by exact HM4.out) (ok_again T1OK.out a0 (by omega)) rfl rfl t1l).mono ?_
          rintro e w5 ⟨t2, j2, n2, rfl, hI2, hd2, hm5, hg5⟩
          have HM5 := Lib.hid hm5
          have HG5 := Lib.hid (only_trans HG4.out hg5)
          clear hm5 hg5
          have n2p := hI2.pos
          have t2l := hI2.szlim
          have t2ok := hI2.ok
          have t2lo := hI2.least
          unfold MS.Ok at t2ok
          have t2b : a0 < t2.size + 16 ∨ a2 < t2.size + 16 := by
            unfold againS at t2lo
            simp only at t2lo
            split at t2lo <;> omega
          have t2s : 0 ≤ t2.size := by omega
          have t2m : t2.size ≤ 65527 := by omega
          clear hI2 t2ok t2lo hd2
          go_wp2_with fail
          refine (size_any _ t2 _ (by exact HM5.out)).mono ?_
          rintro e w' ⟨rfl, rfl⟩
          by_cases hmin : a2 ≤ a0
          all_goals
            go_wp2_with fail
            refine (size_any _ t2 _ (by exact HM5.out)).mono ?_
            rintro e w' ⟨rfl, rfl⟩
            go_wp2_with fail
            refine (works_any _).mono ?_
            rintro e w6 ⟨rfl, hb6⟩
            have HB6 := Lib.hid hb6
            clear hb6
            go_wp2_with fail
            go_ret
            have b12 := HB1.out.trans (below_of_only HG5.out (Nat.le_refl _) HB1.out.size)
            exact ⟨rfl, b12.trans (HB6.out.mono b12.size)⟩
        · exfalso
          omega
      · have hs1 : a2 < s.size := by omega
        have hs2 : (s.size == 1200) = false := by simp; omega
        have hnext := Lib.hid (HTI.out.next SOK.out hk' hs1 (by omega) SP.out)
        have hd1 : decide (s.size ≤ a2) = false := by simp; omega
        clear hbr HTI
        go_wp2_with fail
        refine (size_any _ _ _ (by exact HM.out)).mono ?_
        rintro e w' ⟨rfl, rfl⟩
        go_wp2_with fail
        refine (size_any _ _ _ (by exact HM.out)).mono ?_
        rintro e w' ⟨rfl, rfl⟩
        go_wp2_with fail
        refine (size_any _ _ _ (by exact HM.out)).mono ?_
        rintro e w' ⟨rfl, rfl⟩
        go_wp2_with fail
        have hb2 : w.heap.size < wr.heap.size := by have := HG.out.size; omega
        have hm3 := HM.out.alloc (.cells #[.int .i64 s.size] 3)
        have hrd : RdI w.heap.size (wr.alloc (.cells #[.int .i64 s.size] 3)) (some ⟨wr.heap.size, 0, none⟩) [s.size] := rdI_one (by go_simp) (by omega)
        refine (lost_yes _ _ _ _ [s.size] _ hm3 HTOK.out hrd (by simp) (by simp [inB]; omega)).mono ?_
        rintro e w3 ⟨rfl, hm3, hg3⟩
        have HM3 := Lib.hid hm3
        have HG3 := Lib.hid (only_trans (only_alloc HG.out _) hg3)
        clear hm3 hg3 hrd
        go_wp2_with fail
        go_roundw
        case rel => exact ⟨k + 1, _, by omega, by go_num, hnext, HM3, HG3⟩
        case measure => simp [intOf]; omega
end Go.Proofs.Ytfhclafkmaojoaa
