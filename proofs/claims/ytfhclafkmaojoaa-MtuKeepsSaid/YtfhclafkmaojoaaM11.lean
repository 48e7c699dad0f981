/- The law MtuKeeps (layer 36): its walk. Conditions: as each theorem states them. -/
import Derived.Test.YtfhclafkmaojoaaM10
namespace Go.Proofs.Ytfhclafkmaojoaa
open Go.RowKit

/-- the invariant, and that nothing is above the greatest that was told, or came -/
def MS.In (s : MS) (top : Int) : Prop := s.Ok ∧ s.bound ≤ top ∧ s.probe ≤ top
theorem in_more {s : MS} {a b : Int} (h : s.In a) (hab : a ≤ b) : s.In b := ⟨h.1, by have := h.2.1; omega, by have := h.2.2; omega⟩
theorem in_probe {s : MS} {top : Int} (h : s.In top) (hd : 16 ≤ s.bound - s.size) : ({ s with probe := (s.size + s.bound + 1) / 2 } : MS).In top :=
  ⟨ok_probe h.1 hd, h.2.1, by have := h.2.1; simp only; omega⟩
theorem in_came {s : MS} {n top : Int} (h : s.In top) (h1 : 1 ≤ n) (h2 : n ≤ 65527) : (cameS s n).In (if top < n then n else top) := by
  refine ⟨ok_came h.1 n h1 h2, ?_, ?_⟩
  · have := h.2.1
    unfold cameS; simp only
    by_cases g1 : s.size < n <;> by_cases g2 : s.bound ≤ n <;> by_cases g3 : top < n <;> simp only [g1, g2, g3, if_true, if_false] <;> omega
  · have a := h.2.2
    have b := h.1
    unfold MS.Ok at b
    unfold cameS; simp only
    by_cases g1 : n = s.probe <;> by_cases g3 : top < n <;> simp only [g1, g3, if_true, if_false] <;> (try split) <;> omega
theorem in_one {s : MS} {n top : Int} (h : s.In top) (h1 : 1 ≤ n) (h2 : n ≤ 65527) : (oneS s n).In top := by
  have a := h.2.1
  have b := h.2.2
  have c := h.1
  refine ⟨ok_one h.1 n h1 h2, ?_, ?_⟩
  · unfold MS.Ok at c
    unfold oneS
    by_cases g1 : n = s.probe
    · rw [if_pos g1]; split <;> simp only <;> omega
    · rw [if_neg g1]
      by_cases g2 : n ≤ 1200 ∨ s.size < n
      · rw [if_pos g2]; omega
      · rw [if_neg g2]; split <;> simp only <;> omega
  · unfold MS.Ok at c
    unfold oneS
    by_cases g1 : n = s.probe
    · rw [if_pos g1]; split <;> simp only <;> omega
    · rw [if_neg g1]
      by_cases g2 : n ≤ 1200 ∨ s.size < n
      · rw [if_pos g2]; omega
      · rw [if_neg g2]; split <;> simp only <;> omega
theorem in_lost {s : MS} {top : Int} (h : s.In top) (zs : List Int) (hz : ∀ n ∈ zs, inB n = true) : (lostS s zs).In top := by
  unfold lostS
  induction zs generalizing s with
  | nil => exact h
  | cons n l ih =>
    have hn : 1 ≤ n ∧ n ≤ 65527 := by have := hz n (by simp); simpa [inB] using this
    exact ih (in_one h hn.1 hn.2) (fun m hm => hz m (by simp [hm]))
theorem in_again {s : MS} {n top : Int} (h : s.In top) (h2 : n ≤ 65527) : (againS s n).In (if top < n then n else top) := by
  have a := h.2.1
  have c := h.1
  refine ⟨ok_again h.1 n h2, ?_, ?_⟩
  · unfold MS.Ok at c
    unfold againS; simp only
    by_cases g1 : s.size ≤ n <;> by_cases g3 : top < n <;> simp only [g1, g3, if_true, if_false] <;> omega
  · unfold MS.Ok at c
    unfold againS; simp only
    split <;> omega

set_option maxRecDepth 100000 in
set_option maxHeartbeats 8000000 in
theorem keeps_walk (a0 : Int) (A : Option Addr) (len cap : Nat) (w : World) (hA : IsDos w A len) :
    Calls Try.prog 5 #[.int .i64 a0, .slice A len cap] w fun e w' => e = .returned (.bool true) ∧ Below w.heap.size w w' := by
  by_cases c1 : a0 < 1200 ∨ 65527 < a0
  · go_enter Try.func5, Try.ntmps5
    go_wp2_with fail
    refine (new_no a0 _ c1).mono ?_
    rintro e w' ⟨rfl, rfl⟩
    go_wp2_with (go_at_call 7; refine (works_any _).mono ?_; rintro e w1 ⟨rfl, hb1⟩)
    go_ret
    exact ⟨rfl, hb1⟩
  have hl := hA.1
  have HA := Lib.hid hA
  clear hA
  go_enter Try.func5, Try.ntmps5
  go_wp2_with fail
  refine (new_yes a0 _ (by omega) (by omega)).mono ?_
  rintro e w1 ⟨rfl, hm1, hz1, hb1⟩
  have HM1 := Lib.hid hm1
  have HB1 := Lib.hid hb1
  have hz1' : w.heap.size < w1.heap.size := by omega
  clear hm1 hb1 hz1
  have HA1 : Hid (IsDos w1 A len) := Lib.hid ⟨HA.out.1, fun i hi => by
    obtain ⟨a, d, e0, d1, d2, d3, d4, d5, d6, d7⟩ := HA.out.2 i hi
    refine ⟨a, d, e0, Below.cell_some HB1.out d1 (cell_lt d1), Below.cell_some HB1.out d2 (cell_lt d2), Below.cell_some HB1.out d3 (cell_lt d3), d4, d5, d6, fun k hk => ?_⟩
    obtain ⟨ad, x1, x2⟩ := d7 k hk
    exact ⟨ad, x1, Below.cell_some HB1.out x2 (cell_lt x2)⟩⟩
  go_wp2_with fail
  refine (heavy_any A len cap _ HA1.out).mono ?_
  rintro e w2 ⟨b, rfl, hb2⟩
  have HM2 := Lib.hid (Blk.below HM1.out hb2 (Blk.lt HM1.out))
  have HB2 := Lib.hid (HB1.out.trans (hb2.mono HB1.out.size))
  have hz2 : w.heap.size < w2.heap.size := by have := hb2.size; omega
  clear hb2 HA1 HM1 HB1
  cases b with
  | true =>
    go_wp2_with (go_at_call 7; refine (works_any _).mono ?_; rintro e w3 ⟨rfl, hb3⟩)
    go_ret
    exact ⟨rfl, HB2.out.trans (hb3.mono HB2.out.size)⟩
  | false =>
    go_wp2_with fail
    go_loopw [7, 8, 28] (fun tp pr i wr => ∃ (top pb : Int) (k : Nat) (s : MS), k ≤ len ∧ tp = .int .i64 top ∧ pr = .int .i64 pb ∧ i = .int .i64 k ∧ 0 ≤ pb ∧ pb ≤ top ∧ top ≤ 65527 ∧ Hid (s.In top) ∧ Hid (MSt w.heap.size wr s) ∧ Hid (Below w.heap.size w wr)) (fun _ _ i _ => len - (intOf i).toNat)
    case atStart => exact ⟨a0, 0, 0, ⟨1200, a0, 0, 0, 0⟩, by omega, rfl, rfl, rfl, by omega, by omega, by omega, Lib.hid ⟨by simp [MS.Ok]; omega, by simp, by simp; omega⟩, HM2, HB2⟩
    case round =>
      obtain ⟨top, pb, k, s, hk, rfl, rfl, rfl, hpb0, hpb1, htop, HIN, HM, HB⟩ := hrel
      clear hz1' hz2 HM2 HB2
      have hwr : w.heap.size < wr.heap.size := Blk.lt HM.out
      by_cases hlt : k < len
      · obtain ⟨a, ⟨kd, dn, dA, dc, zs⟩, rfl, d1, d2, d3, d4, d5, d6, d7⟩ := HA.out.2 k hlt
        simp only at d1 d2 d3 d4 d5 d6 d7
        have D7 := Lib.hid d7
        have q1 := Below.cell_some HB.out d1 (cell_lt d1)
        have q2 := Below.cell_some HB.out d2 (cell_lt d2)
        have q3 := Below.cell_some HB.out d3 (cell_lt d3)
        clear d1 d2 d3 d7
        have HMA := Lib.hid (HM.out.alloc (.cells #[.int .u8 kd, .int .i64 dn, .slice dA zs.length dc] 39))
        by_cases k0 : kd = 0
        · subst k0
          by_cases hpr : 16 ≤ s.bound - s.size ∧ s.probe = 0
          · have hin := HIN.out
            have pp : s.size < (s.size + s.bound + 1) / 2 ∧ (s.size + s.bound + 1) / 2 ≤ top := by have := hin.1; have := hin.2.1; unfold MS.Ok at *; omega
            have TIN := Lib.hid (in_probe hin hpr.1)
            have hfit := Lib.hid hin.1.fit
            clear hin
            go_wp2_with fail
            refine (probe_yes _ s _ (by exact HMA.out) hfit.out hpr.1 hpr.2).mono ?_
            rintro e w3 ⟨rfl, hm3, hg3⟩
            have HM3 := Lib.hid hm3
            have HC3 := Lib.hid (only_cell hg3 (show (wr.alloc (.cells #[.int .u8 0, .int .i64 dn, .slice dA zs.length dc] 39)).cell? ⟨wr.heap.size, 1, none⟩ = some (.int .i64 dn) by go_simp) (by simp; omega))
            have HB3 := Lib.hid ((HB.out.alloc HB.out.size (.cells #[.int .u8 0, .int .i64 dn, .slice dA zs.length dc] 39)).trans (below_of_only hg3 (Nat.le_refl _) (by have := HB.out.size; simp; omega)))
            clear hm3 hg3
            clear hpr HIN
            generalize (s.size + s.bound + 1) / 2 = p at *
            obtain ⟨t, ht⟩ : ∃ t : MS, t = { s with probe := p } := ⟨_, rfl⟩
            have hts : s.size = t.size := by rw [ht]
            rw [← ht] at HM3 TIN
            clear ht
            rw [hts] at pp
            obtain ⟨pp1, pp2⟩ := pp
            go_wp2_with fail
            refine (size_any _ t _ (by exact HM3.out)).mono ?_
            rintro e w' ⟨rfl, rfl⟩
            have tok := TIN.out
            have ts1 : 1200 ≤ t.size := tok.1.1
            have ts2 : t.size ≤ 65527 := by have := tok.1; unfold MS.Ok at this; omega
            clear tok
            go_wp2_with fail
            refine (size_any _ t _ (by exact HM3.out)).mono ?_
            rintro e w' ⟨rfl, rfl⟩
            go_wp2_with fail
            refine (size_any _ t _ (by exact HM3.out)).mono ?_
            rintro e w' ⟨rfl, rfl⟩
            go_wp2_with fail
            go_roundw
            case rel => exact ⟨top, p, k + 1, t, by omega, rfl, rfl, by go_num, by omega, by omega, by omega, TIN, HM3, HB3⟩
            case measure => simp [intOf]; omega
          · have hfit := Lib.hid HIN.out.1.fit
            have hno : s.bound - s.size < 16 ∨ 0 < s.probe := by have := HIN.out.1; unfold MS.Ok at this; omega
            clear hpr
            go_wp2_with fail
            refine (probe_no _ s _ (by exact HMA.out) hfit.out hno).mono ?_
            rintro e w3 ⟨rfl, hm3, hg3⟩
            have HM3 := Lib.hid hm3
            have HC3 := Lib.hid (only_cell hg3 (show (wr.alloc (.cells #[.int .u8 0, .int .i64 dn, .slice dA zs.length dc] 39)).cell? ⟨wr.heap.size, 1, none⟩ = some (.int .i64 dn) by go_simp) (by simp; omega))
            have HB3 := Lib.hid ((HB.out.alloc HB.out.size (.cells #[.int .u8 0, .int .i64 dn, .slice dA zs.length dc] 39)).trans (below_of_only hg3 (Nat.le_refl _) (by have := HB.out.size; simp; omega)))
            clear hm3 hg3
            have TIN := HIN
            clear HIN hno
            obtain ⟨t, ht⟩ : ∃ t : MS, t = s := ⟨_, rfl⟩
            rw [← ht] at HM3 TIN
            clear ht
            have tok := TIN.out
            have ts1 : 1200 ≤ t.size := tok.1.1
            have ts2 : t.size ≤ 65527 := by have := tok.1; unfold MS.Ok at this; omega
            clear tok
            go_wp2_with fail
            refine (size_any _ t _ (by exact HM3.out)).mono ?_
            rintro e w' ⟨rfl, rfl⟩
            go_wp2_with fail
            refine (size_any _ t _ (by exact HM3.out)).mono ?_
            rintro e w' ⟨rfl, rfl⟩
            go_wp2_with fail
            go_roundw
            case rel => exact ⟨top, pb, k + 1, t, by omega, rfl, rfl, by go_num, by omega, by omega, by omega, TIN, HM3, HB3⟩
            case measure => simp [intOf]; omega
        have k0' : (kd == 0) = false := by simp [k0]
        clear k0
        by_cases k1 : kd = 1
        · subst k1
          by_cases hok : 1 ≤ dn ∧ dn ≤ 65527
          · have TIN := Lib.hid (in_came HIN.out hok.1 hok.2)
            go_wp2_with fail
            refine (came_yes _ s dn _ (by exact HMA.out) hok.1 hok.2).mono ?_
            rintro e w3 ⟨rfl, hm3, hg3⟩
            have HM3 := Lib.hid hm3
            have HC3 := Lib.hid (only_cell hg3 (show (wr.alloc (.cells #[.int .u8 1, .int .i64 dn, .slice dA zs.length dc] 39)).cell? ⟨wr.heap.size, 1, none⟩ = some (.int .i64 dn) by go_simp) (by simp; omega))
            have HB3 := Lib.hid ((HB.out.alloc HB.out.size (.cells #[.int .u8 1, .int .i64 dn, .slice dA zs.length dc] 39)).trans (below_of_only hg3 (Nat.le_refl _) (by have := HB.out.size; simp; omega)))
            clear hm3 hg3
            obtain ⟨t, ht⟩ : ∃ t : MS, t = cameS s dn := ⟨_, rfl⟩
            rw [← ht] at HM3 TIN
            clear ht
            have hc3 := HC3.out
            by_cases hmx : top < dn
            · rw [if_pos hmx] at TIN
              have tok := TIN.out
              have ts1 : 1200 ≤ t.size := tok.1.1
              have ts2 : t.size ≤ 65527 := by have := tok.1; unfold MS.Ok at this; omega
              clear tok
              go_wp2_with fail
              refine (size_any _ t _ (by exact HM3.out)).mono ?_
              rintro e w' ⟨rfl, rfl⟩
              go_wp2_with fail
              refine (size_any _ t _ (by exact HM3.out)).mono ?_
              rintro e w' ⟨rfl, rfl⟩
              go_wp2_with fail
              go_roundw
              case rel => exact ⟨dn, pb, k + 1, t, by omega, rfl, rfl, by go_num, by omega, by omega, by omega, TIN, HM3, HB3⟩
              case measure => simp [intOf]; omega
            · rw [if_neg hmx] at TIN
              have tok := TIN.out
              have ts1 : 1200 ≤ t.size := tok.1.1
              have ts2 : t.size ≤ 65527 := by have := tok.1; unfold MS.Ok at this; omega
              clear tok
              go_wp2_with fail
              refine (size_any _ t _ (by exact HM3.out)).mono ?_
              rintro e w' ⟨rfl, rfl⟩
              go_wp2_with fail
              refine (size_any _ t _ (by exact HM3.out)).mono ?_
              rintro e w' ⟨rfl, rfl⟩
              go_wp2_with fail
              go_roundw
              case rel => exact ⟨top, pb, k + 1, t, by omega, rfl, rfl, by go_num, by omega, by omega, by omega, TIN, HM3, HB3⟩
              case measure => simp [intOf]; omega
          · go_wp2_with fail
            refine (came_no _ s dn _ (by exact HMA.out) (by omega)).mono ?_
            rintro e w3 ⟨rfl, hm3, hg3⟩
            have HM3 := Lib.hid hm3
            have HC3 := Lib.hid (only_cell hg3 (show (wr.alloc (.cells #[.int .u8 1, .int .i64 dn, .slice dA zs.length dc] 39)).cell? ⟨wr.heap.size, 1, none⟩ = some (.int .i64 dn) by go_simp) (by simp; omega))
            have HB3 := Lib.hid ((HB.out.alloc HB.out.size (.cells #[.int .u8 1, .int .i64 dn, .slice dA zs.length dc] 39)).trans (below_of_only hg3 (Nat.le_refl _) (by have := HB.out.size; simp; omega)))
            clear hm3 hg3
            have TIN := HIN
            obtain ⟨t, ht⟩ : ∃ t : MS, t = s := ⟨_, rfl⟩
            rw [← ht] at HM3 TIN
            clear ht
            have tok := TIN.out
            have ts1 : 1200 ≤ t.size := tok.1.1
            have ts2 : t.size ≤ 65527 := by have := tok.1; unfold MS.Ok at this; omega
            clear tok
            go_wp2_with fail
            refine (size_any _ t _ (by exact HM3.out)).mono ?_
            rintro e w' ⟨rfl, rfl⟩
            go_wp2_with fail
            refine (size_any _ t _ (by exact HM3.out)).mono ?_
            rintro e w' ⟨rfl, rfl⟩
            go_wp2_with fail
            go_roundw
            case rel => exact ⟨top, pb, k + 1, t, by omega, rfl, rfl, by go_num, by omega, by omega, by omega, TIN, HM3, HB3⟩
            case measure => simp [intOf]; omega
        have k1' : (kd == 1) = false := by simp [k1]
        clear k1
        by_cases k2 : kd = 2
        · subst k2
          have hrd : RdI w.heap.size (wr.alloc (.cells #[.int .u8 2, .int .i64 dn, .slice dA zs.length dc] 39)) dA zs := by
            intro q hq
            obtain ⟨ad, e1, e2⟩ := D7.out q hq
            have e3 := cell_lt e2
            rw [block_of_add] at e3
            have e4 := Below.cell_some (HB.out.alloc HB.out.size (.cells #[.int .u8 2, .int .i64 dn, .slice dA zs.length dc] 39)) e2 (cell_lt e2)
            exact ⟨ad, e1, by omega, e4⟩
          have HRD := Lib.hid hrd
          clear hrd
          by_cases hok : ∀ n ∈ zs, inB n = true
          · have TIN := Lib.hid (in_lost HIN.out zs hok)
            have HOK := Lib.hid hok
            clear hok
            go_wp2_with fail
            refine (lost_yes _ s dA dc zs _ (by exact HMA.out) HIN.out.1 (by exact HRD.out) d6 HOK.out).mono ?_
            rintro e w3 ⟨rfl, hm3, hg3⟩
            have HM3 := Lib.hid hm3
            have HC3 := Lib.hid (only_cell hg3 (show (wr.alloc (.cells #[.int .u8 2, .int .i64 dn, .slice dA zs.length dc] 39)).cell? ⟨wr.heap.size, 1, none⟩ = some (.int .i64 dn) by go_simp) (by simp; omega))
            have HB3 := Lib.hid ((HB.out.alloc HB.out.size (.cells #[.int .u8 2, .int .i64 dn, .slice dA zs.length dc] 39)).trans (below_of_only hg3 (Nat.le_refl _) (by have := HB.out.size; simp; omega)))
            clear hm3 hg3
            obtain ⟨t, ht⟩ : ∃ t : MS, t = lostS s zs := ⟨_, rfl⟩
            rw [← ht] at HM3 TIN
            clear ht
            have tok := TIN.out
            have ts1 : 1200 ≤ t.size := tok.1.1
            have ts2 : t.size ≤ 65527 := by have := tok.1; unfold MS.Ok at this; omega
            clear tok
            go_wp2_with fail
            refine (size_any _ t _ (by exact HM3.out)).mono ?_
            rintro e w' ⟨rfl, rfl⟩
            go_wp2_with fail
            refine (size_any _ t _ (by exact HM3.out)).mono ?_
            rintro e w' ⟨rfl, rfl⟩
            go_wp2_with fail
            go_roundw
            case rel => exact ⟨top, pb, k + 1, t, by omega, rfl, rfl, by go_num, by omega, by omega, by omega, TIN, HM3, HB3⟩
            case measure => simp [intOf]; omega
          · have HOK : Hid (∃ n ∈ zs, inB n = false) := Lib.hid (by
              simp only [Classical.not_forall] at hok
              obtain ⟨n, hn, h⟩ := hok
              exact ⟨n, hn, by simpa using h⟩)
            clear hok
            go_wp2_with fail
            refine (lost_no _ s dA dc zs _ (by exact HMA.out) (by exact HRD.out) d6 HOK.out).mono ?_
            rintro e w3 ⟨rfl, hm3, hg3⟩
            have HM3 := Lib.hid hm3
            have HC3 := Lib.hid (only_cell hg3 (show (wr.alloc (.cells #[.int .u8 2, .int .i64 dn, .slice dA zs.length dc] 39)).cell? ⟨wr.heap.size, 1, none⟩ = some (.int .i64 dn) by go_simp) (by simp; omega))
            have HB3 := Lib.hid ((HB.out.alloc HB.out.size (.cells #[.int .u8 2, .int .i64 dn, .slice dA zs.length dc] 39)).trans (below_of_only hg3 (Nat.le_refl _) (by have := HB.out.size; simp; omega)))
            clear hm3 hg3
            have TIN := HIN
            obtain ⟨t, ht⟩ : ∃ t : MS, t = s := ⟨_, rfl⟩
            rw [← ht] at HM3 TIN
            clear ht
            have tok := TIN.out
            have ts1 : 1200 ≤ t.size := tok.1.1
            have ts2 : t.size ≤ 65527 := by have := tok.1; unfold MS.Ok at this; omega
            clear tok
            go_wp2_with fail
            refine (size_any _ t _ (by exact HM3.out)).mono ?_
            rintro e w' ⟨rfl, rfl⟩
            go_wp2_with fail
            refine (size_any _ t _ (by exact HM3.out)).mono ?_
            rintro e w' ⟨rfl, rfl⟩
            go_wp2_with fail
            go_roundw
            case rel => exact ⟨top, pb, k + 1, t, by omega, rfl, rfl, by go_num, by omega, by omega, by omega, TIN, HM3, HB3⟩
            case measure => simp [intOf]; omega
        have k2' : (kd == 2) = false := by simp [k2]
        clear k2
        by_cases k3 : kd = 3
        · subst k3
          by_cases hok : 1200 ≤ dn ∧ dn ≤ 65527
          · have TIN := Lib.hid (in_again HIN.out hok.2)
            go_wp2_with fail
            refine (again_yes _ s dn _ (by exact HMA.out) hok.1 hok.2).mono ?_
            rintro e w3 ⟨rfl, hm3, hg3⟩
            have HM3 := Lib.hid hm3
            have HC3 := Lib.hid (only_cell hg3 (show (wr.alloc (.cells #[.int .u8 3, .int .i64 dn, .slice dA zs.length dc] 39)).cell? ⟨wr.heap.size, 1, none⟩ = some (.int .i64 dn) by go_simp) (by simp; omega))
            have HB3 := Lib.hid ((HB.out.alloc HB.out.size (.cells #[.int .u8 3, .int .i64 dn, .slice dA zs.length dc] 39)).trans (below_of_only hg3 (Nat.le_refl _) (by have := HB.out.size; simp; omega)))
            clear hm3 hg3
            obtain ⟨t, ht⟩ : ∃ t : MS, t = againS s dn := ⟨_, rfl⟩
            rw [← ht] at HM3 TIN
            clear ht
            have hc3 := HC3.out
            by_cases hmx : top < dn
            · rw [if_pos hmx] at TIN
              have tok := TIN.out
              have ts1 : 1200 ≤ t.size := tok.1.1
              have ts2 : t.size ≤ 65527 := by have := tok.1; unfold MS.Ok at this; omega
              clear tok
              go_wp2_with fail
              refine (size_any _ t _ (by exact HM3.out)).mono ?_
              rintro e w' ⟨rfl, rfl⟩
              go_wp2_with fail
              refine (size_any _ t _ (by exact HM3.out)).mono ?_
              rintro e w' ⟨rfl, rfl⟩
              go_wp2_with fail
              go_roundw
              case rel => exact ⟨dn, pb, k + 1, t, by omega, rfl, rfl, by go_num, by omega, by omega, by omega, TIN, HM3, HB3⟩
              case measure => simp [intOf]; omega
            · rw [if_neg hmx] at TIN
              have tok := TIN.out
              have ts1 : 1200 ≤ t.size := tok.1.1
              have ts2 : t.size ≤ 65527 := by have := tok.1; unfold MS.Ok at this; omega
              clear tok
              go_wp2_with fail
              refine (size_any _ t _ (by exact HM3.out)).mono ?_
              rintro e w' ⟨rfl, rfl⟩
              go_wp2_with fail
              refine (size_any _ t _ (by exact HM3.out)).mono ?_
              rintro e w' ⟨rfl, rfl⟩
              go_wp2_with fail
              go_roundw
              case rel => exact ⟨top, pb, k + 1, t, by omega, rfl, rfl, by go_num, by omega, by omega, by omega, TIN, HM3, HB3⟩
              case measure => simp [intOf]; omega
          · go_wp2_with fail
            refine (again_no _ s dn _ (by exact HMA.out) (by omega)).mono ?_
            rintro e w3 ⟨rfl, hm3, hg3⟩
            have HM3 := Lib.hid hm3
            have HC3 := Lib.hid (only_cell hg3 (show (wr.alloc (.cells #[.int .u8 3, .int .i64 dn, .slice dA zs.length dc] 39)).cell? ⟨wr.heap.size, 1, none⟩ = some (.int .i64 dn) by go_simp) (by simp; omega))
            have HB3 := Lib.hid ((HB.out.alloc HB.out.size (.cells #[.int .u8 3, .int .i64 dn, .slice dA zs.length dc] 39)).trans (below_of_only hg3 (Nat.le_refl _) (by have := HB.out.size; simp; omega)))
            clear hm3 hg3
            have TIN := HIN
            obtain ⟨t, ht⟩ : ∃ t : MS, t = s := ⟨_, rfl⟩
            rw [← ht] at HM3 TIN
            clear ht
            have tok := TIN.out
            have ts1 : 1200 ≤ t.size := tok.1.1
            have ts2 : t.size ≤ 65527 := by have := tok.1; unfold MS.Ok at this; omega
            clear tok
            go_wp2_with fail
            refine (size_any _ t _ (by exact HM3.out)).mono ?_
            rintro e w' ⟨rfl, rfl⟩
            go_wp2_with fail
            refine (size_any _ t _ (by exact HM3.out)).mono ?_
            rintro e w' ⟨rfl, rfl⟩
            go_wp2_with fail
            go_roundw
            case rel => exact ⟨top, pb, k + 1, t, by omega, rfl, rfl, by go_num, by omega, by omega, by omega, TIN, HM3, HB3⟩
            case measure => simp [intOf]; omega
        have k3' : (kd == 3) = false := by simp [k3]
        clear k3
        by_cases k4 : kd = 4
        · subst k4
          by_cases hok : 1 ≤ pb
          · have TIN := Lib.hid (in_came HIN.out hok (by omega : pb ≤ 65527))
            go_wp2_with fail
            refine (came_yes _ s pb _ (by exact HMA.out) hok (by omega)).mono ?_
            rintro e w3 ⟨rfl, hm3, hg3⟩
            have HM3 := Lib.hid hm3
            have HC3 := Lib.hid (only_cell hg3 (show (wr.alloc (.cells #[.int .u8 4, .int .i64 dn, .slice dA zs.length dc] 39)).cell? ⟨wr.heap.size, 1, none⟩ = some (.int .i64 dn) by go_simp) (by simp; omega))
            have HB3 := Lib.hid ((HB.out.alloc HB.out.size (.cells #[.int .u8 4, .int .i64 dn, .slice dA zs.length dc] 39)).trans (below_of_only hg3 (Nat.le_refl _) (by have := HB.out.size; simp; omega)))
            clear hm3 hg3
            obtain ⟨t, ht⟩ : ∃ t : MS, t = cameS s pb := ⟨_, rfl⟩
            rw [← ht] at HM3 TIN
            clear ht
            have TIN := Lib.hid (in_more TIN.out (show (if top < pb then pb else top) ≤ top by split <;> omega))
            have tok := TIN.out
            have ts1 : 1200 ≤ t.size := tok.1.1
            have ts2 : t.size ≤ 65527 := by have := tok.1; unfold MS.Ok at this; omega
            clear tok
            go_wp2_with fail
            refine (size_any _ t _ (by exact HM3.out)).mono ?_
            rintro e w' ⟨rfl, rfl⟩
            go_wp2_with fail
            refine (size_any _ t _ (by exact HM3.out)).mono ?_
            rintro e w' ⟨rfl, rfl⟩
            go_wp2_with fail
            go_roundw
            case rel => exact ⟨top, pb, k + 1, t, by omega, rfl, rfl, by go_num, by omega, by omega, by omega, TIN, HM3, HB3⟩
            case measure => simp [intOf]; omega
          · go_wp2_with fail
            refine (came_no _ s pb _ (by exact HMA.out) (by omega)).mono ?_
            rintro e w3 ⟨rfl, hm3, hg3⟩
            have HM3 := Lib.hid hm3
            have HC3 := Lib.hid (only_cell hg3 (show (wr.alloc (.cells #[.int .u8 4, .int .i64 dn, .slice dA zs.length dc] 39)).cell? ⟨wr.heap.size, 1, none⟩ = some (.int .i64 dn) by go_simp) (by simp; omega))
            have HB3 := Lib.hid ((HB.out.alloc HB.out.size (.cells #[.int .u8 4, .int .i64 dn, .slice dA zs.length dc] 39)).trans (below_of_only hg3 (Nat.le_refl _) (by have := HB.out.size; simp; omega)))
            clear hm3 hg3
            have TIN := HIN
            obtain ⟨t, ht⟩ : ∃ t : MS, t = s := ⟨_, rfl⟩
            rw [← ht] at HM3 TIN
            clear ht
            have tok := TIN.out
            have ts1 : 1200 ≤ t.size := tok.1.1
            have ts2 : t.size ≤ 65527 := by have := tok.1; unfold MS.Ok at this; omega
            clear tok
            go_wp2_with fail
            refine (size_any _ t _ (by exact HM3.out)).mono ?_
            rintro e w' ⟨rfl, rfl⟩
            go_wp2_with fail
            refine (size_any _ t _ (by exact HM3.out)).mono ?_
            rintro e w' ⟨rfl, rfl⟩
            go_wp2_with fail
            go_roundw
            case rel => exact ⟨top, pb, k + 1, t, by omega, rfl, rfl, by go_num, by omega, by omega, by omega, TIN, HM3, HB3⟩
            case measure => simp [intOf]; omega
        have k4' : (kd == 4) = false := by simp [k4]
        clear k4
        by_cases k5 : kd = 5
        · subst k5
          have hrd : RdI w.heap.size ((wr.alloc (.cells #[.int .u8 5, .int .i64 dn, .slice dA zs.length dc] 39)).alloc (.cells #[.int .i64 pb] 3)) (some ⟨wr.heap.size + 1, 0, none⟩) [pb] := rdI_one (by go_simp) (by omega)
          have HRD := Lib.hid hrd
          have HMB := Lib.hid (HMA.out.alloc (.cells #[.int .i64 pb] 3))
          clear hrd
          by_cases hok : 1 ≤ pb
          · have TIN := Lib.hid (in_lost HIN.out [pb] (by simp [inB]; omega))
            go_wp2_with fail
            refine (lost_yes _ s _ _ [pb] _ (by exact HMB.out) HIN.out.1 (by exact HRD.out) (by simp) (by simp [inB]; omega)).mono ?_
            rintro e w3 ⟨rfl, hm3, hg3⟩
            have HM3 := Lib.hid hm3
            have HC3 := Lib.hid trivial
            have HB3 := Lib.hid (((HB.out.alloc HB.out.size (.cells #[.int .u8 5, .int .i64 dn, .slice dA zs.length dc] 39)).alloc (by have := HB.out.size; simp; omega) (.cells #[.int .i64 pb] 3)).trans (below_of_only hg3 (Nat.le_refl _) (by have := HB.out.size; simp; omega)))
            clear hm3 hg3
            obtain ⟨t, ht⟩ : ∃ t : MS, t = lostS s [pb] := ⟨_, rfl⟩
            rw [← ht] at HM3 TIN
            clear ht
            have tok := TIN.out
            have ts1 : 1200 ≤ t.size := tok.1.1
            have ts2 : t.size ≤ 65527 := by have := tok.1; unfold MS.Ok at this; omega
            clear tok
            go_wp2_with fail
            refine (size_any _ t _ (by exact HM3.out)).mono ?_
            rintro e w' ⟨rfl, rfl⟩
            go_wp2_with fail
            refine (size_any _ t _ (by exact HM3.out)).mono ?_
            rintro e w' ⟨rfl, rfl⟩
            go_wp2_with fail
            go_roundw
            case rel => exact ⟨top, pb, k + 1, t, by omega, rfl, rfl, by go_num, by omega, by omega, by omega, TIN, HM3, HB3⟩
            case measure => simp [intOf]; omega
          · go_wp2_with fail
            refine (lost_no _ s _ _ [pb] _ (by exact HMB.out) (by exact HRD.out) (by simp) (by simp [inB]; omega)).mono ?_
            rintro e w3 ⟨rfl, hm3, hg3⟩
            have HM3 := Lib.hid hm3
            have HC3 := Lib.hid trivial
            have HB3 := Lib.hid (((HB.out.alloc HB.out.size (.cells #[.int .u8 5, .int .i64 dn, .slice dA zs.length dc] 39)).alloc (by have := HB.out.size; simp; omega) (.cells #[.int .i64 pb] 3)).trans (below_of_only hg3 (Nat.le_refl _) (by have := HB.out.size; simp; omega)))
            clear hm3 hg3
            have TIN := HIN
            obtain ⟨t, ht⟩ : ∃ t : MS, t = s := ⟨_, rfl⟩
            rw [← ht] at HM3 TIN
            clear ht
            have tok := TIN.out
            have ts1 : 1200 ≤ t.size := tok.1.1
            have ts2 : t.size ≤ 65527 := by have := tok.1; unfold MS.Ok at this; omega
            clear tok
            go_wp2_with fail
            refine (size_any _ t _ (by exact HM3.out)).mono ?_
            rintro e w' ⟨rfl, rfl⟩
            go_wp2_with fail
            refine (size_any _ t _ (by exact HM3.out)).mono ?_
            rintro e w' ⟨rfl, rfl⟩
            go_wp2_with fail
            go_roundw
            case rel => exact ⟨top, pb, k + 1, t, by omega, rfl, rfl, by go_num, by omega, by omega, by omega, TIN, HM3, HB3⟩
            case measure => simp [intOf]; omega
        have k5' : (kd == 5) = false := by simp [k5]
        clear k5
        have HM3 := HMA
        have HB3 := Lib.hid (HB.out.alloc HB.out.size (.cells #[.int .u8 kd, .int .i64 dn, .slice dA zs.length dc] 39))
        have TIN := HIN
        obtain ⟨t, ht⟩ : ∃ t : MS, t = s := ⟨_, rfl⟩
        rw [← ht] at HM3 TIN
        clear ht
        have tok := TIN.out
        have ts1 : 1200 ≤ t.size := tok.1.1
        have ts2 : t.size ≤ 65527 := by have := tok.1; unfold MS.Ok at this; omega
        clear tok
        go_wp2_with fail
        refine (size_any _ t _ (by exact HM3.out)).mono ?_
        rintro e w' ⟨rfl, rfl⟩
        go_wp2_with fail
        refine (size_any _ t _ (by exact HM3.out)).mono ?_
        rintro e w' ⟨rfl, rfl⟩
        go_wp2_with fail
        go_roundw
        case rel => exact ⟨top, pb, k + 1, t, by omega, rfl, rfl, by go_num, by omega, by omega, by omega, TIN, HM3, HB3⟩
        case measure => simp [intOf]; omega
      · go_wp2_with (go_at_call 7; refine (works_any _).mono ?_; rintro e w3 ⟨rfl, hb3⟩)
        go_ret
        exact ⟨rfl, HB.out.trans (hb3.mono HB.out.size)⟩
end Go.Proofs.Ytfhclafkmaojoaa
