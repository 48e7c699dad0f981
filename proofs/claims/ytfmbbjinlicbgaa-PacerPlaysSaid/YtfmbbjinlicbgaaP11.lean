/- Contract of the reference's pacer (layer 35): Go. Conditions: as each theorem states them. -/
import Derived.Test.YtfmbbjinlicbgaaP10
namespace Go.Proofs.Ytfmbbjinlicbgaa
open Go.RowKit

theorem results_psb {w : World} {g : Nat} {t : TypeId} {c0 c1 c2 c3 : Value} {fn : Func} {x y : Tmp} {tmps : Array Value} {b : Bool} (hr : fn.results = #[.cell x 43, .tmp y]) (hx : tmps.getD x undef = .pointer (some ⟨g, 0, none⟩)) (hy : tmps.getD y undef = .bool b) (h : Blk w g t #[c0, c1, c2, c3]) :
    (results fn tmps).run Try.prog w = .ok (.tuple #[.agg #[c0, c1, c2, c3], .bool b]) w := by
  have a0 := Blk.cell h 0
  have a1 := Blk.cell h 1
  have a2 := Blk.cell h 2
  have a3 := Blk.cell h 3
  simp at a0 a1 a2 a3
  have hx' : tmps[x]?.getD undef = .pointer (some ⟨g, 0, none⟩) := by simpa using hx
  have hy' : tmps[y]?.getD undef = .bool b := by simpa using hy
  simp [results, hr, hx', hy', go_sem, a0, a1, a2, a3]

set_option maxHeartbeats 2000000 in
theorem refGo_yes (p : PS) (now : Int) (A : Option Addr) (cap : Nat) (ns : List Int) (m : Int) (w : World) (ho : p.Ok) (h0 : 0 ≤ now) (h1 : now < 18446744073709551616)
    (hr : RdU w A ns) (hl : ns.length ≤ 9223372036854775807) (hg : goL (p.afterS now).level ns = some m) :
    Calls Try.prog 17 #[.agg p.cells, .int .u64 now, .slice A ns.length cap] w fun e w' => e = .returned (.tuple #[.agg (PS.cells { p.afterS now with level := m }), .bool true]) ∧ Below w.heap.size w w' := by
  have HR := Lib.hid hr
  have hq := ho.after now h1
  have hqb := (after_rate p now).2
  have HA := Lib.hid (fun w => refAfter_any p now w ho h0 h1)
  have HG := Lib.hid hg
  clear hr hg
  generalize p.afterS now = q at *
  have HQ := Lib.hid hq
  have hpb : p.burst ≤ 1073741824 := by unfold PS.Ok at ho; omega
  have hql : 0 ≤ q.level := by unfold PS.Ok at hq; omega
  have hqf : q.level ≤ p.burst * 1000000 := by unfold PS.Ok at hq; omega
  clear hq ho hqb
  unfold PS.cells
  go_enter Try.func17, Try.ntmps17
  go_wp2_with fail
  refine (HA.out _).mono ?_
  rintro e w1 ⟨rfl, hb1⟩
  have HB1 := Lib.hid hb1
  have hz1 := hb1.size
  simp at hz1
  have HP1 : Hid (Blk w1 w.heap.size 43 p.cells) := Lib.hid (Blk.below (Blk.alloc (Blk.new _ _ _) _) hb1 (by simp; omega))
  have HE1 : Hid (Blk w1 (w.heap.size + 1) 43 #[.int .u64 0, .int .u64 0, .int .u64 0, .int .u64 0]) := Lib.hid (Blk.below (by have := Blk.new (w.alloc (.cells #[.int .u64 p.rate, .int .u64 p.burst, .int .u64 p.at_, .int .u64 p.level] 43)) 43 #[.int .u64 0, .int .u64 0, .int .u64 0, .int .u64 0]; simpa using this) hb1 (by simp))
  have HBw : Hid (Below w.heap.size w w1) := Lib.hid ((((Below.refl _ _).alloc (Nat.le_refl _) _).alloc (by simp) _).trans (hb1.mono (by simp; omega)))
  clear hb1
  unfold PS.cells
  go_wp2_with fail
  go_loopw [9] (fun i wr => ∃ (k : Nat) (l : Int), k ≤ ns.length ∧ i = .int .i64 k ∧ 0 ≤ l ∧ l ≤ q.level ∧ Hid (goL q.level (ns.take k) = some l) ∧ Hid (Blk wr w1.heap.size 43 (PS.cells { q with level := l })) ∧ Hid (Below w1.heap.size w1 wr)) (fun i _ => ns.length - (intOf i).toNat)
  case atStart => exact ⟨0, q.level, by omega, rfl, by omega, by omega, Lib.hid rfl, Lib.hid (Blk.new _ _ _), Lib.hid ((Below.refl _ _).alloc (Nat.le_refl _) _)⟩
  case round =>
    obtain ⟨k, l, hk, rfl, hl0, hl1, HL, HK, HW⟩ := hrel
    have HPr := Lib.hid (Blk.below HP1.out HW.out (by omega))
    have HEr := Lib.hid (Blk.below HE1.out HW.out (by omega))
    have HBr : Hid (Below w.heap.size w wr) := Lib.hid (HBw.out.trans (HW.out.mono (by omega)))
    have c0 := Blk.cell HK.out 0
    have c1 := Blk.cell HK.out 1
    have c2 := Blk.cell HK.out 2
    have c3 := Blk.cell HK.out 3
    have f3 := Blk.frozen HK.out 3
    have d0 := Blk.cell HPr.out 0
    have d1 := Blk.cell HPr.out 1
    have d2 := Blk.cell HPr.out 2
    have d3 := Blk.cell HPr.out 3
    have e0 := Blk.cell HEr.out 0
    have e1 := Blk.cell HEr.out 1
    have e2 := Blk.cell HEr.out 2
    have e3 := Blk.cell HEr.out 3
    have g0 := Blk.frozen HEr.out 0
    have g1 := Blk.frozen HEr.out 1
    have g2 := Blk.frozen HEr.out 2
    have g3 := Blk.frozen HEr.out 3
    simp [PS.cells] at c0 c1 c2 c3 d0 d1 d2 d3 e0 e1 e2 e3
    by_cases hlt : k < ns.length
    · obtain ⟨ad, hA, hc⟩ := HR.out.2 k hlt
      have hmem := HR.out.mem hlt
      have hc' := Below.cell_some HBr.out hc (cell_lt hc)
      have hne : ad.block ≠ w1.heap.size := by have := cell_lt hc; rw [block_of_add] at this; omega
      have hsn := goL_snoc q.level ns k hlt
      rw [HL.out] at hsn
      simp only [Option.bind_some] at hsn
      subst hA
      have hle : ns.getD k 0 ≤ l / 1000000 := by
        by_cases h : ns.getD k 0 ≤ l / 1000000
        · exact h
        · rw [if_neg h] at hsn
          have := goL_none hsn
          rw [HG.out] at this
          cases this
      rw [if_pos hle] at hsn
      have HSN := Lib.hid hsn
      clear hsn hc
      generalize ns.getD k 0 = n at *
      have t1 : decide (p.burst < n) = false := by simp; omega
      have t2 : decide (l < n * 1000000) = false := by simp; omega
      go_wp2_with fail
      go_quiet (fail)
      go_wp2_with fail
      go_region
      go_wp2_with fail
      go_roundw
      case rel =>
        refine ⟨k + 1, l - n * 1000000, by omega, by go_num, by omega, by omega, HSN, Lib.hid ?_, Lib.hid ?_⟩
        · apply Blk.cast
          · (repeat (first | with_reducible exact HK.out | with_reducible apply Blk.set_ | with_reducible apply Blk.drewN | with_reducible apply Blk.drew))
          · simp [PS.cells]
        · (repeat (first | with_reducible exact HW.out | with_reducible apply below_drewN | with_reducible apply Below.drew | (with_reducible refine Below.setCell ?_ (by simp) _)))
      case measure => simp [intOf]; omega
    · have hml : l = m := by
        have h2 := HL.out
        rw [List.take_of_length_le (by omega), HG.out] at h2
        injection h2 with h2
        exact h2.symm
      subst hml
      go_wp2_with fail
      refine bodyPost_ret (v := .tuple #[.agg (PS.cells { q with level := l }), .bool true]) (results_psb (t := 43) (g := w.heap.size + 1) rfl rfl rfl ?_) rfl ⟨rfl, ?_⟩
      · apply Blk.cast
        · (repeat (first | with_reducible exact HEr.out | with_reducible apply Blk.set_))
        · simp
      (repeat (first | with_reducible exact HBr.out | (with_reducible refine Below.setCell ?_ (by simp) _)))

set_option maxHeartbeats 2000000 in
theorem refGo_no (p : PS) (now : Int) (A : Option Addr) (cap : Nat) (ns : List Int) (w : World) (ho : p.Ok) (h0 : 0 ≤ now) (h1 : now < 18446744073709551616)
    (hr : RdU w A ns) (hl : ns.length ≤ 9223372036854775807) (hg : goL (p.afterS now).level ns = none) :
    Calls Try.prog 17 #[.agg p.cells, .int .u64 now, .slice A ns.length cap] w fun e w' => e = .returned (.tuple #[.agg p.cells, .bool false]) ∧ Below w.heap.size w w' := by
  have HR := Lib.hid hr
  have hq := ho.after now h1
  have hqb := (after_rate p now).2
  have HA := Lib.hid (fun w => refAfter_any p now w ho h0 h1)
  have HG := Lib.hid hg
  clear hr hg
  generalize p.afterS now = q at *
  have HQ := Lib.hid hq
  have hpb : p.burst ≤ 1073741824 := by unfold PS.Ok at ho; omega
  have hql : 0 ≤ q.level := by unfold PS.Ok at hq; omega
  have hqf : q.level ≤ p.burst * 1000000 := by unfold PS.Ok at hq; omega
  clear hq ho hqb
  unfold PS.cells
  go_enter Try.func17, Try.ntmps17
  go_wp2_with fail
  refine (HA.out _).mono ?_
  rintro e w1 ⟨rfl, hb1⟩
  have HB1 := Lib.hid hb1
  have hz1 := hb1.size
  simp at hz1
  have HP1 : Hid (Blk w1 w.heap.size 43 p.cells) := Lib.hid (Blk.below (Blk.alloc (Blk.new _ _ _) _) hb1 (by simp; omega))
  have HE1 : Hid (Blk w1 (w.heap.size + 1) 43 #[.int .u64 0, .int .u64 0, .int .u64 0, .int .u64 0]) := Lib.hid (Blk.below (by have := Blk.new (w.alloc (.cells #[.int .u64 p.rate, .int .u64 p.burst, .int .u64 p.at_, .int .u64 p.level] 43)) 43 #[.int .u64 0, .int .u64 0, .int .u64 0, .int .u64 0]; simpa using this) hb1 (by simp))
  have HBw : Hid (Below w.heap.size w w1) := Lib.hid ((((Below.refl _ _).alloc (Nat.le_refl _) _).alloc (by simp) _).trans (hb1.mono (by simp; omega)))
  clear hb1
  unfold PS.cells
  go_wp2_with fail
  go_loopw [9] (fun i wr => ∃ (k : Nat) (l : Int), k ≤ ns.length ∧ i = .int .i64 k ∧ 0 ≤ l ∧ l ≤ q.level ∧ Hid (goL q.level (ns.take k) = some l) ∧ Hid (Blk wr w1.heap.size 43 (PS.cells { q with level := l })) ∧ Hid (Below w1.heap.size w1 wr)) (fun i _ => ns.length - (intOf i).toNat)
  case atStart => exact ⟨0, q.level, by omega, rfl, by omega, by omega, Lib.hid rfl, Lib.hid (Blk.new _ _ _), Lib.hid ((Below.refl _ _).alloc (Nat.le_refl _) _)⟩
  case round =>
    obtain ⟨k, l, hk, rfl, hl0, hl1, HL, HK, HW⟩ := hrel
    have HPr := Lib.hid (Blk.below HP1.out HW.out (by omega))
    have HEr := Lib.hid (Blk.below HE1.out HW.out (by omega))
    have HBr : Hid (Below w.heap.size w wr) := Lib.hid (HBw.out.trans (HW.out.mono (by omega)))
    have c0 := Blk.cell HK.out 0
    have c1 := Blk.cell HK.out 1
    have c2 := Blk.cell HK.out 2
    have c3 := Blk.cell HK.out 3
    have f3 := Blk.frozen HK.out 3
    have d0 := Blk.cell HPr.out 0
    have d1 := Blk.cell HPr.out 1
    have d2 := Blk.cell HPr.out 2
    have d3 := Blk.cell HPr.out 3
    have e0 := Blk.cell HEr.out 0
    have e1 := Blk.cell HEr.out 1
    have e2 := Blk.cell HEr.out 2
    have e3 := Blk.cell HEr.out 3
    have g0 := Blk.frozen HEr.out 0
    have g1 := Blk.frozen HEr.out 1
    have g2 := Blk.frozen HEr.out 2
    have g3 := Blk.frozen HEr.out 3
    simp [PS.cells] at c0 c1 c2 c3 d0 d1 d2 d3 e0 e1 e2 e3
    by_cases hlt : k < ns.length
    · obtain ⟨ad, hA, hc⟩ := HR.out.2 k hlt
      have hmem := HR.out.mem hlt
      have hc' := Below.cell_some HBr.out hc (cell_lt hc)
      have hne : ad.block ≠ w1.heap.size := by have := cell_lt hc; rw [block_of_add] at this; omega
      have hsn := goL_snoc q.level ns k hlt
      rw [HL.out] at hsn
      simp only [Option.bind_some] at hsn
      subst hA
      by_cases hle : ns.getD k 0 ≤ l / 1000000
      · skip
        rw [if_pos hle] at hsn
        have HSN := Lib.hid hsn
        clear hsn hc
        generalize ns.getD k 0 = n at *
        have t1 : decide (p.burst < n) = false := by simp; omega
        have t2 : decide (l < n * 1000000) = false := by simp; omega
        go_wp2_with fail
        go_quiet (fail)
        go_wp2_with fail
        go_region
        go_wp2_with fail
        go_roundw
        case rel =>
          refine ⟨k + 1, l - n * 1000000, by omega, by go_num, by omega, by omega, HSN, Lib.hid ?_, Lib.hid ?_⟩
          · apply Blk.cast
            · (repeat (first | with_reducible exact HK.out | with_reducible apply Blk.set_ | with_reducible apply Blk.drewN | with_reducible apply Blk.drew))
            · simp [PS.cells]
          · (repeat (first | with_reducible exact HW.out | with_reducible apply below_drewN | with_reducible apply Below.drew | (with_reducible refine Below.setCell ?_ (by simp) _)))
        case measure => simp [intOf]; omega
      · clear hsn hc
        generalize ns.getD k 0 = n at *
        by_cases t0 : p.burst < n
        · go_wp2_with fail
          go_quiet (fail)
          go_wp2_with fail
          refine bodyPost_ret (v := .tuple #[.agg p.cells, .bool false]) (results_psb (t := 43) (g := w.heap.size + 1) rfl rfl rfl ?_) rfl ⟨rfl, ?_⟩
          · apply Blk.cast
            · (repeat (first | with_reducible exact HEr.out | with_reducible apply Blk.set_ | with_reducible apply Blk.drewN))
            · simp
          (repeat (first | with_reducible exact HBr.out | with_reducible apply below_drewN | (with_reducible refine Below.setCell ?_ (by simp) _)))
        · have t1 : decide (p.burst < n) = false := by simp; omega
          have t2 : l < n * 1000000 := by omega
          go_wp2_with fail
          go_quiet (fail)
          go_wp2_with fail
          refine bodyPost_ret (v := .tuple #[.agg p.cells, .bool false]) (results_psb (t := 43) (g := w.heap.size + 1) rfl rfl rfl ?_) rfl ⟨rfl, ?_⟩
          · apply Blk.cast
            · (repeat (first | with_reducible exact HEr.out | with_reducible apply Blk.set_ | with_reducible apply Blk.drewN))
            · simp
          (repeat (first | with_reducible exact HBr.out | with_reducible apply below_drewN | (with_reducible refine Below.setCell ?_ (by simp) _)))
    · exfalso
      have h2 := HL.out
      rw [List.take_of_length_le (by omega), HG.out] at h2
      cases h2
end Go.Proofs.Ytfmbbjinlicbgaa
