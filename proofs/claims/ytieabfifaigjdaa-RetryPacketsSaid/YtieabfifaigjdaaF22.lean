/- Layer 33: contract of Take's closure, where it answers nothing. Conditions: as each theorem states them. -/
import Derived.Test.YtieabfifaigjdaaF16
namespace Go.Proofs.Ytieabfifaigjdaa
open Go.RowKit
set_option maxRecDepth 100000 in
set_option maxHeartbeats 4000000 in
theorem cid_no (B gk gr : Nat) (rest : List Int) (ok : Bool) (w : World) (hS : CidS B gk gr w ok rest) (hbt : Byt rest) (h : ¬ (ok = true ∧ 0 < rest.length ∧ rest.getD 0 0 ≤ 20 ∧ rest.getD 0 0 < (rest.length : Int))) (hk : B ≤ gk) (hr : B ≤ gr) (hne : gk ≠ gr) :
    Calls Try.prog 24 #[.pointer (some ⟨gk, 0, none⟩), .pointer (some ⟨gr, 0, none⟩)] w fun e w' => e = .returned (.slice none 0 0) ∧ CidS B gk gr w' false rest ∧ Fr2 gk gr w w' := by
  obtain ⟨hK, A, c, hR, hc, hrd⟩ := hS
  obtain ⟨m, hm⟩ : ∃ z, rest.length = z := ⟨_, rfl⟩
  rw [hm] at hR hc h
  have hgk := hK.lt
  have hgr := hR.lt
  have HK := Lib.hid hK
  have HR := Lib.hid hR
  have HD := Lib.hid hrd
  have HM := Lib.hid hm
  have k0 : ∀ r : BW w.heap.size w, r.world.cell? ⟨gk, 0, none⟩ = some (.bool ok) := fun r => by simpa using Blk.cell (hK.below r.below hgk) 0
  by_cases ho : ok = true
  · subst ho
    by_cases h0 : 0 < m
    · obtain ⟨ad, hA, hlb, hcell⟩ := hrd 0 (by omega)
      subst hA
      have r0 : ∀ r : BW w.heap.size w, r.world.cell? ⟨gr, 0, none⟩ = some (.slice (some ad) m c) := fun r => by simpa using Blk.cell (hR.below r.below hgr) 0
      obtain ⟨x, hx⟩ : ∃ z, rest.getD 0 0 = z := ⟨_, rfl⟩
      have hxb := hbt.getD 0
      rw [hx] at hcell h hxb
      obtain ⟨x0, x1⟩ := hxb
      have b0 : ∀ r : BW w.heap.size w, r.world.cell? ad = some (.int .u8 x) := fun r => by
        have h := Below.cell_some r.below hcell (by rw [block_of_add]; omega)
        simpa [Addr.add] using h
      by_cases hx20 : x ≤ 20
      · have hmx : (m : Int) ≤ x := by
          rcases Int.lt_or_le x m with q | q
          · exact absurd ⟨rfl, h0, hx20, q⟩ h
          · exact q
        have d1 : decide (x < (m : Int)) = false := decide_eq_false (by omega)
        clear hK hR hrd hm hcell hx h hbt
        go_enter Try.func24, Try.ntmps24
        go_wp2_with fail
        refine wp_region_mixOB w.heap.size [([0, 1, 2, 3, 4, 5, 6, 7, 8, 9, 10, 11, 12, 13, 14, 15, 16, 17, 18, 19, 20], 21)] (by kernel_rfl) (by kernel_rfl) (by kernel_rfl) (by kernel_rfl) (by kernel_rfl) ?_
        try (rw [put_none])
        simp only [pickL, List.map_cons, List.map_nil, List.filterMap_cons, List.filterMap_nil, List.getElem?_cons_succ, List.getElem?_cons_zero]
        refine mixO_cons ?_
        repeat (show wpQuiet _ _ _ _ (_ :: _) _; go_big_quiet_step (fail))
        refine wpQuiet_nil ?_
        show wpList _ _ _ [_] _ _
        clear k0 r0 b0 d1
        have ck : w.drew.cell? ⟨gk, 0, none⟩ = some (.bool true) := by simpa using Blk.cell HK.out.drew 0
        have fk : w.drew.frozen? ⟨gk, 0, none⟩ = false := HK.out.drew.frozen 0
        have G1 : Hid (w.grownBy (w.setCell ⟨gk, 0, none⟩ (.bool false)).drew (some gk)) := Lib.hid (grown_drew_ (only_setCell (p := ⟨gk, 0, none⟩) (World.grownBy.refl w (some gk)) (.inl rfl) _))
        have K1 : Hid (Blk (w.setCell ⟨gk, 0, none⟩ (.bool false)).drew gk 4 #[.bool false]) := Lib.hid (Blk.drew (Blk.cast (HK.out.set_ 0 _) (by simp)))
        go_wp2_with fail
        refine MixO.last ?_
        refine mixO_nil ?_
        refine wpQuiet_nil ?_
        refine NoPanic.normal ?_
        generalize hw1 : (w.setCell ⟨gk, 0, none⟩ (.bool false)).drew = w1 at *
        clear hw1 ck fk
        have R1 := Lib.hid (HR.out.grown G1.out (by intro q; injection q with q; exact hne q.symm))
        have F1 : Hid (Fr2 gk gr w w1) := Lib.hid (Fr2.one G1.out)
        have S1 := Lib.hid (HD.out.below (F1.out.below (by omega) hk hr) (Nat.le_refl _))
        have ck : w1.cell? ⟨gk, 0, none⟩ = some (.bool false) := by simpa using Blk.cell K1.out 0
        go_wp2_with fail
        go_ret
        exact ⟨rfl, ⟨K1.out, some ad, c, by rw [HM.out]; exact R1.out, by rw [HM.out]; exact hc, S1.out⟩, F1.out⟩
      · have d1 : decide (x ≤ 20) = false := decide_eq_false hx20
        clear hK hR hrd hm hcell hx h hbt
        go_enter Try.func24, Try.ntmps24
        go_wp2_with fail
        refine wp_region_mixOB w.heap.size [([0, 1, 2, 3, 4, 5, 6, 7, 8, 9, 10, 11, 12, 13, 14, 15, 16, 17, 18, 19, 20], 21)] (by kernel_rfl) (by kernel_rfl) (by kernel_rfl) (by kernel_rfl) (by kernel_rfl) ?_
        try (rw [put_none])
        simp only [pickL, List.map_cons, List.map_nil, List.filterMap_cons, List.filterMap_nil, List.getElem?_cons_succ, List.getElem?_cons_zero]
        refine mixO_cons ?_
        repeat (show wpQuiet _ _ _ _ (_ :: _) _; go_big_quiet_step (fail))
        refine wpQuiet_nil ?_
        show wpList _ _ _ [_] _ _
        clear k0 r0 b0 d1
        have ck : w.drew.cell? ⟨gk, 0, none⟩ = some (.bool true) := by simpa using Blk.cell HK.out.drew 0
        have fk : w.drew.frozen? ⟨gk, 0, none⟩ = false := HK.out.drew.frozen 0
        have G1 : Hid (w.grownBy (w.setCell ⟨gk, 0, none⟩ (.bool false)).drew (some gk)) := Lib.hid (grown_drew_ (only_setCell (p := ⟨gk, 0, none⟩) (World.grownBy.refl w (some gk)) (.inl rfl) _))
        have K1 : Hid (Blk (w.setCell ⟨gk, 0, none⟩ (.bool false)).drew gk 4 #[.bool false]) := Lib.hid (Blk.drew (Blk.cast (HK.out.set_ 0 _) (by simp)))
        go_wp2_with fail
        refine MixO.last ?_
        refine mixO_nil ?_
        refine wpQuiet_nil ?_
        refine NoPanic.normal ?_
        generalize hw1 : (w.setCell ⟨gk, 0, none⟩ (.bool false)).drew = w1 at *
        clear hw1 ck fk
        have R1 := Lib.hid (HR.out.grown G1.out (by intro q; injection q with q; exact hne q.symm))
        have F1 : Hid (Fr2 gk gr w w1) := Lib.hid (Fr2.one G1.out)
        have S1 := Lib.hid (HD.out.below (F1.out.below (by omega) hk hr) (Nat.le_refl _))
        have ck : w1.cell? ⟨gk, 0, none⟩ = some (.bool false) := by simpa using Blk.cell K1.out 0
        go_wp2_with fail
        go_ret
        exact ⟨rfl, ⟨K1.out, some ad, c, by rw [HM.out]; exact R1.out, by rw [HM.out]; exact hc, S1.out⟩, F1.out⟩
    · have d1 : decide (0 < m) = false := decide_eq_false h0
      have r0 : ∀ r : BW w.heap.size w, r.world.cell? ⟨gr, 0, none⟩ = some (.slice A m c) := fun r => by simpa using Blk.cell (hR.below r.below hgr) 0
      clear hK hR hrd hm h hbt h0
      go_enter Try.func24, Try.ntmps24
      go_wp2_with fail
      refine wp_region_mixOB w.heap.size [([0, 1, 2, 3, 4, 5, 6, 7, 8, 9, 10, 11, 12, 13, 14, 15, 16, 17, 18, 19, 20], 21)] (by kernel_rfl) (by kernel_rfl) (by kernel_rfl) (by kernel_rfl) (by kernel_rfl) ?_
      try (rw [put_none])
      simp only [pickL, List.map_cons, List.map_nil, List.filterMap_cons, List.filterMap_nil, List.getElem?_cons_succ, List.getElem?_cons_zero]
      refine mixO_cons ?_
      repeat (show wpQuiet _ _ _ _ (_ :: _) _; go_big_quiet_step (fail))
      refine wpQuiet_nil ?_
      show wpList _ _ _ [_] _ _
      clear k0 r0 d1
      have ck : w.drew.cell? ⟨gk, 0, none⟩ = some (.bool true) := by simpa using Blk.cell HK.out.drew 0
      have fk : w.drew.frozen? ⟨gk, 0, none⟩ = false := HK.out.drew.frozen 0
      have G1 : Hid (w.grownBy (w.setCell ⟨gk, 0, none⟩ (.bool false)).drew (some gk)) := Lib.hid (grown_drew_ (only_setCell (p := ⟨gk, 0, none⟩) (World.grownBy.refl w (some gk)) (.inl rfl) _))
      have K1 : Hid (Blk (w.setCell ⟨gk, 0, none⟩ (.bool false)).drew gk 4 #[.bool false]) := Lib.hid (Blk.drew (Blk.cast (HK.out.set_ 0 _) (by simp)))
      go_wp2_with fail
      refine MixO.last ?_
      refine mixO_nil ?_
      refine wpQuiet_nil ?_
      refine NoPanic.normal ?_
      generalize hw1 : (w.setCell ⟨gk, 0, none⟩ (.bool false)).drew = w1 at *
      clear hw1 ck fk
      have R1 := Lib.hid (HR.out.grown G1.out (by intro q; injection q with q; exact hne q.symm))
      have F1 : Hid (Fr2 gk gr w w1) := Lib.hid (Fr2.one G1.out)
      have S1 := Lib.hid (HD.out.below (F1.out.below (by omega) hk hr) (Nat.le_refl _))
      have ck : w1.cell? ⟨gk, 0, none⟩ = some (.bool false) := by simpa using Blk.cell K1.out 0
      go_wp2_with fail
      go_ret
      exact ⟨rfl, ⟨K1.out, A, c, by rw [HM.out]; exact R1.out, by rw [HM.out]; exact hc, S1.out⟩, F1.out⟩
  · obtain rfl : ok = false := by cases ok; rfl; exact absurd rfl ho
    clear hK hR hrd hm h hbt ho
    go_enter Try.func24, Try.ntmps24
    go_wp2_with fail
    refine wp_region_mixOB w.heap.size [([0, 1, 2, 3, 4, 5, 6, 7, 8, 9, 10, 11, 12, 13, 14, 15, 16, 17, 18, 19, 20], 21)] (by kernel_rfl) (by kernel_rfl) (by kernel_rfl) (by kernel_rfl) (by kernel_rfl) ?_
    try (rw [put_none])
    simp only [pickL, List.map_cons, List.map_nil, List.filterMap_cons, List.filterMap_nil, List.getElem?_cons_succ, List.getElem?_cons_zero]
    refine mixO_cons ?_
    repeat (show wpQuiet _ _ _ _ (_ :: _) _; go_big_quiet_step (fail))
    refine wpQuiet_nil ?_
    show wpList _ _ _ [_] _ _
    clear k0
    have ck : w.drew.cell? ⟨gk, 0, none⟩ = some (.bool false) := by simpa using Blk.cell HK.out.drew 0
    have fk : w.drew.frozen? ⟨gk, 0, none⟩ = false := HK.out.drew.frozen 0
    have G1 : Hid (w.grownBy (w.setCell ⟨gk, 0, none⟩ (.bool false)).drew (some gk)) := Lib.hid (grown_drew_ (only_setCell (p := ⟨gk, 0, none⟩) (World.grownBy.refl w (some gk)) (.inl rfl) _))
    have K1 : Hid (Blk (w.setCell ⟨gk, 0, none⟩ (.bool false)).drew gk 4 #[.bool false]) := Lib.hid (Blk.drew (Blk.cast (HK.out.set_ 0 _) (by simp)))
    go_wp2_with fail
    refine MixO.last ?_
    refine mixO_nil ?_
    refine wpQuiet_nil ?_
    refine NoPanic.normal ?_
    generalize hw1 : (w.setCell ⟨gk, 0, none⟩ (.bool false)).drew = w1 at *
    clear hw1 ck fk
    have R1 := Lib.hid (HR.out.grown G1.out (by intro q; injection q with q; exact hne q.symm))
    have F1 : Hid (Fr2 gk gr w w1) := Lib.hid (Fr2.one G1.out)
    have S1 := Lib.hid (HD.out.below (F1.out.below (by omega) hk hr) (Nat.le_refl _))
    have ck : w1.cell? ⟨gk, 0, none⟩ = some (.bool false) := by simpa using Blk.cell K1.out 0
    go_wp2_with fail
    go_ret
    exact ⟨rfl, ⟨K1.out, A, c, by rw [HM.out]; exact R1.out, by rw [HM.out]; exact hc, S1.out⟩, F1.out⟩
end Go.Proofs.Ytieabfifaigjdaa
