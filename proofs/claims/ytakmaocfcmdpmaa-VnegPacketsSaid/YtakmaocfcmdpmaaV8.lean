/- Contracts: bytes.Equal, vneg.Next, vneg.Reply, the reference's Begin. Conditions: as each theorem states them. -/
import Derived.Test.YtakmaocfcmdpmaaV7
namespace Go.Proofs.Ytakmaocfcmdpmaa
open Go.RowKit

theorem equal_any (A A2 : Option Addr) (c c2 : Nat) (xs ys : List Int) (w : World) (hr : Rd w.heap.size .u8 w A xs) (hr2 : Rd w.heap.size .u8 w A2 ys) (hb : Byt xs) (hb2 : Byt ys) :
    Calls Try.prog 24 #[.slice A xs.length c, .slice A2 ys.length c2] w fun e w' => e = .returned (.bool (decide (xs = ys))) ∧ w = w' := by
  have h1 := conv_rd elU8 Try.underlying9 hr c
  have h2 := conv_rd elU8 Try.underlying9 hr2 c2
  have HE := Lib.hid (str_eq hb hb2)
  clear hr hr2 hb hb2
  generalize strOfNums xs = s1 at *
  generalize strOfNums ys = s2 at *
  go_enter Try.func24, Try.ntmps24
  go_wp2_with fail
  go_ret
  exact ⟨ret_bool HE.out, rfl⟩

/-- what a client does with a packet -/
def nextR (pd ps vs ds ss : List Int) (tried : Int) (mine : List Int) : Int × Int :=
  if pd = ss ∧ ps = ds then (if tried ∈ vs then (0, 6) else match chs mine vs with | none => (0, 4) | some v => (v, 0)) else (0, 2)

set_option maxHeartbeats 1000000 in
theorem next_any (Ap As Av Ad Ar Am : Option Addr) (cp cs cv cd cr cm : Nat) (pd ps vs ds ss : List Int) (tried : Int) (mine : List Int) (w : World)
    (hp : Rd w.heap.size .u8 w Ap pd) (hs : Rd w.heap.size .u8 w As ps) (hv : Rd w.heap.size .u32 w Av vs) (hd : Rd w.heap.size .u8 w Ad ds) (hr : Rd w.heap.size .u8 w Ar ss) (hm : Rd w.heap.size .u32 w Am mine)
    (bp : Byt pd) (bs : Byt ps) (bd : Byt ds) (br : Byt ss) (lv : vs.length ≤ 1099511627776) (lm : mine.length ≤ 1099511627776) :
    Calls Try.prog 17 #[.agg #[.slice Ap pd.length cp, .slice As ps.length cs, .slice Av vs.length cv], .slice Ad ds.length cd, .slice Ar ss.length cr, .int .u32 tried, .slice Am mine.length cm] w
      fun e w' => e = .returned (.tuple #[.int .u32 (nextR pd ps vs ds ss tried mine).1, .int .i64 (nextR pd ps vs ds ss tried mine).2]) ∧ Below w.heap.size w w' := by
  have E1 := Lib.hid (equal_any Ap Ar cp cr pd ss _ ((hp.alloc (Nat.le_refl _) (.cells #[.slice Ap pd.length cp, .slice As ps.length cs, .slice Av vs.length cv] 32)).mono (by simp)) ((hr.alloc (Nat.le_refl _) _).mono (by simp)) bp br)
  have E2 := Lib.hid (equal_any As Ad cs cd ps ds _ ((hs.alloc (Nat.le_refl _) (.cells #[.slice Ap pd.length cp, .slice As ps.length cs, .slice Av vs.length cv] 32)).mono (by simp)) ((hd.alloc (Nat.le_refl _) _).mono (by simp)) bs bd)
  have E3 := Lib.hid (contains_any Av cv vs tried _ ((hv.alloc (Nat.le_refl _) (.cells #[.slice Ap pd.length cp, .slice As ps.length cs, .slice Av vs.length cv] 32)).mono (by simp)) (by omega))
  have E4 := Lib.hid (choose_any Am Av cm cv mine vs _ ((hm.alloc (Nat.le_refl _) (.cells #[.slice Ap pd.length cp, .slice As ps.length cs, .slice Av vs.length cv] 32)).mono (by simp)) ((hv.alloc (Nat.le_refl _) _).mono (by simp)) (by omega) (by omega))
  clear hp hs hv hd hr hm bp bs bd br
  by_cases g1 : pd = ss
  · rw [decide_eq_true g1] at E1
    by_cases g2 : ps = ds
    · rw [decide_eq_true g2] at E2
      by_cases g3 : tried ∈ vs
      · rw [decide_eq_true g3] at E3
        have HF : Hid (nextR pd ps vs ds ss tried mine = (0, 6)) := Lib.hid (by unfold nextR; rw [if_pos ⟨g1, g2⟩, if_pos g3])
        clear g1 g2 g3
        go_enter Try.func17, Try.ntmps17
        go_wp2_with fail
        refine E1.out.mono ?_
        rintro e w' ⟨rfl, rfl⟩
        go_wp2_with fail
        refine E2.out.mono ?_
        rintro e w' ⟨rfl, rfl⟩
        go_wp2_with fail
        refine E3.out.mono ?_
        rintro e w' ⟨rfl, rfl⟩
        go_wp2_with fail
        go_ret2
        exact ⟨by rw [HF.out]; rfl, (Below.refl _ _).alloc (Nat.le_refl _) _⟩
      · rw [decide_eq_false g3] at E3
        rcases h4 : chs mine vs with _ | v
        · rw [h4] at E4
          unfold chsV at E4
          have HF : Hid (nextR pd ps vs ds ss tried mine = (0, 4)) := Lib.hid (by unfold nextR; rw [if_pos ⟨g1, g2⟩, if_neg g3, h4])
          clear g1 g2 g3 h4
          go_enter Try.func17, Try.ntmps17
          go_wp2_with fail
          refine E1.out.mono ?_
          rintro e w' ⟨rfl, rfl⟩
          go_wp2_with fail
          refine E2.out.mono ?_
          rintro e w' ⟨rfl, rfl⟩
          go_wp2_with fail
          refine E3.out.mono ?_
          rintro e w' ⟨rfl, rfl⟩
          go_wp2_with fail
          refine E4.out.mono ?_
          rintro e w' ⟨rfl, rfl⟩
          go_wp2_with fail
          go_ret2
          exact ⟨by rw [HF.out]; rfl, (Below.refl _ _).alloc (Nat.le_refl _) _⟩
        · rw [h4] at E4
          unfold chsV at E4
          have HF : Hid (nextR pd ps vs ds ss tried mine = (v, 0)) := Lib.hid (by unfold nextR; rw [if_pos ⟨g1, g2⟩, if_neg g3, h4])
          clear g1 g2 g3 h4
          go_enter Try.func17, Try.ntmps17
          go_wp2_with fail
          refine E1.out.mono ?_
          rintro e w' ⟨rfl, rfl⟩
          go_wp2_with fail
          refine E2.out.mono ?_
          rintro e w' ⟨rfl, rfl⟩
          go_wp2_with fail
          refine E3.out.mono ?_
          rintro e w' ⟨rfl, rfl⟩
          go_wp2_with fail
          refine E4.out.mono ?_
          rintro e w' ⟨rfl, rfl⟩
          go_wp2_with fail
          go_ret2
          exact ⟨by rw [HF.out]; rfl, (Below.refl _ _).alloc (Nat.le_refl _) _⟩
    · rw [decide_eq_false g2] at E2
      have HF : Hid (nextR pd ps vs ds ss tried mine = (0, 2)) := Lib.hid (by unfold nextR; rw [if_neg (fun h => g2 h.2)])
      clear g1 g2
      go_enter Try.func17, Try.ntmps17
      go_wp2_with fail
      refine E1.out.mono ?_
      rintro e w' ⟨rfl, rfl⟩
      go_wp2_with fail
      refine E2.out.mono ?_
      rintro e w' ⟨rfl, rfl⟩
      go_wp2_with fail
      go_ret2
      exact ⟨by rw [HF.out]; rfl, (Below.refl _ _).alloc (Nat.le_refl _) _⟩
  · rw [decide_eq_false g1] at E1
    have HF : Hid (nextR pd ps vs ds ss tried mine = (0, 2)) := Lib.hid (by unfold nextR; rw [if_neg (fun h => g1 h.1)])
    clear g1
    go_enter Try.func17, Try.ntmps17
    go_wp2_with fail
    refine E1.out.mono ?_
    rintro e w' ⟨rfl, rfl⟩
    go_wp2_with fail
    go_ret2
    exact ⟨by rw [HF.out]; rfl, (Below.refl _ _).alloc (Nat.le_refl _) _⟩

/-- the reference's Begin -/
def BegYes (b : List Int) (d s : Nat) (w : World) (e : Ending) (w' : World) : Prop :=
  ∃ A2 c2 A3 c3 n, e = .returned (.tuple #[.int .u32 (ver b), .slice A2 d c2, .slice A3 s c3, .int .i64 (7 + (d : Int) + (s : Int))]) ∧ Rd w.heap.size .u8 w A2 (dstL b d) ∧ (dstL b d).length = d ∧ Rd w.heap.size .u8 w A3 (srcL b d s) ∧ (srcL b d s).length = s ∧ d ≤ c2 ∧ s ≤ c3 ∧ w' = w.drewN n
theorem ver_eq (b : List Int) : ver b = 256 * (256 * (256 * b.getD 1 0 + b.getD 2 0) + b.getD 3 0) + b.getD 4 0 := by
  have e : ∀ i, i < 4 → ((b.drop 1).take 4).getD i 0 = b.getD (1 + i) 0 := fun i hi => by
    rw [List.getD_eq_getElem?_getD, List.getElem?_take, if_pos hi, List.getElem?_drop, List.getD_eq_getElem?_getD]
  unfold ver wd
  rw [e 0 (by omega), e 1 (by omega), e 2 (by omega), e 3 (by omega)]
  simp only [Nat.add_zero, Nat.reduceAdd]
  omega

set_option maxRecDepth 100000 in
set_option maxHeartbeats 2000000 in
theorem begin_ref (A : Option Addr) (c : Nat) (b : List Int) (w : World) (hr : Rd w.heap.size .u8 w A b) (hb : Byt b) (hl : b.length ≤ 1099511627776) (hc : b.length ≤ c) :
    Calls Try.prog 14 #[.slice A b.length c] w fun e w' => match spl b with | none => e = .returned (.tuple #[.int .u32 0, .slice none 0 0, .slice none 0 0, .int .i64 (-1)]) ∧ w = w' | some (d, s) => BegYes b d s w e w' := by
  by_cases g1 : b.length < 6
  · rw [show spl b = none by unfold spl; rw [if_pos (.inl g1)]]
    clear hr
    go_enter Try.func14, Try.ntmps14
    go_wp2_with fail
    refine bodyPost_ret (results_tmp4 rfl _ _ _) rfl ?_
    exact ⟨rfl, rfl⟩
  have g1' : decide (b.length < 6) = false := by simp; omega
  obtain ⟨ad, rfl, _⟩ := hr.isSome (by omega)
  have c0 := hr.at0 (by omega)
  have b0 := hb.getD 0
  by_cases g2 : b.getD 0 0 < 128
  · rw [show spl b = none by unfold spl; rw [if_pos (.inr g2)]]
    generalize b.getD 0 0 = x at *
    clear hr
    go_enter Try.func14, Try.ntmps14
    go_wp2_with fail
    refine bodyPost_ret (results_tmp4 rfl _ _ _) rfl ?_
    exact ⟨rfl, rfl⟩
  have g2' : decide (b.getD 0 0 < 128) = false := decide_eq_false g2
  have HSP : Hid (∀ D : Nat, b.getD 5 0 = (D : Int) → spl b = if b.length ≤ 6 + D then none else if b.length < 7 + D + (b.getD (6 + D) 0).toNat then none else some (D, (b.getD (6 + D) 0).toNat)) := Lib.hid (fun D hD => by
    unfold spl; rw [if_neg (by omega), hD]; rfl)
  have c1 := hr.atN 1 (by omega) (by decide)
  have c2 := hr.atN 2 (by omega) (by decide)
  have c3 := hr.atN 3 (by omega) (by decide)
  have c4 := hr.atN 4 (by omega) (by decide)
  have c5 := hr.atN 5 (by omega) (by decide)
  have HV := Lib.hid (ver_eq b)
  obtain ⟨b10, b11⟩ := hb.getD 1
  obtain ⟨b20, b21⟩ := hb.getD 2
  obtain ⟨b30, b31⟩ := hb.getD 3
  obtain ⟨b40, b41⟩ := hb.getD 4
  obtain ⟨b50, b51⟩ := hb.getD 5
  have HR := Lib.hid hr
  have HBY := Lib.hid hb
  have HC6 := Lib.hid (fun i (hi : i < b.length) => hr.at_ hi)
  obtain ⟨D, hD⟩ := Int.eq_ofNat_of_zero_le b50
  rw [hD] at c5 b50 b51
  have HS2 := Lib.hid (HSP.out D hD)
  generalize b.getD 0 0 = x0 at *
  generalize b.getD 1 0 = x1 at *
  generalize b.getD 2 0 = x2 at *
  generalize b.getD 3 0 = x3 at *
  generalize b.getD 4 0 = x4 at *
  clear hr hb hD HSP b0
  have hD6 : (6 + (D : Int)).toNat = 6 + D := by omega
  have key : ∀ (Q : Prop), (b.length ≤ 6 + D → Q) → (6 + D < b.length → b.length < 7 + D + (b.getD (6 + D) 0).toNat → Q) → (6 + D < b.length → 7 + D + (b.getD (6 + D) 0).toNat ≤ b.length → Q) → Q := fun Q h1 h2 h3 => by
    by_cases g : b.length ≤ 6 + D
    · exact h1 g
    · by_cases g' : b.length < 7 + D + (b.getD (6 + D) 0).toNat
      · exact h2 (by omega) g'
      · exact h3 (by omega) (by omega)
  apply key
  case a =>
    intro k1
    rw [show spl b = none by rw [HS2.out, if_pos k1]]
    clear key
    go_enter Try.func14, Try.ntmps14
    go_wp2_with fail
    go_loop [6, 7] (fun v i => (i = .int .i64 1 ∧ v = .int .u32 0) ∨ (i = .int .i64 2 ∧ v = .int .u32 x1) ∨ (i = .int .i64 3 ∧ v = .int .u32 (256 * x1 + x2)) ∨ (i = .int .i64 4 ∧ v = .int .u32 (256 * (256 * x1 + x2) + x3)) ∨ (i = .int .i64 5 ∧ v = .int .u32 (256 * (256 * (256 * x1 + x2) + x3) + x4))) (fun _ i => 5 - (intOf i).toNat)
    case atStart => exact .inl ⟨rfl, rfl⟩
    case round =>
      rcases hrel with ⟨rfl, rfl⟩ | ⟨rfl, rfl⟩ | ⟨rfl, rfl⟩ | ⟨rfl, rfl⟩ | ⟨rfl, rfl⟩
      · go_wp2_with fail
        go_round
        case rel => exact .inr (.inl ⟨rfl, by go_num⟩)
        case measure => simp [intOf]
      · go_wp2_with fail
        go_round
        case rel => exact .inr (.inr (.inl ⟨rfl, rfl⟩))
        case measure => simp [intOf]
      · go_wp2_with fail
        go_round
        case rel => exact .inr (.inr (.inr (.inl ⟨rfl, rfl⟩)))
        case measure => simp [intOf]
      · go_wp2_with fail
        go_round
        case rel => exact .inr (.inr (.inr (.inr ⟨rfl, rfl⟩)))
        case measure => simp [intOf]
      go_wp2_with fail
      refine bodyPost_ret (results_tmp4 rfl _ _ _) rfl ?_
      exact ⟨rfl, rfl⟩
  case a =>
    intro k1 k2
    rw [show spl b = none by rw [HS2.out, if_neg (by omega), if_pos k2]]
    have c6 := HC6.out _ k1
    have b6 := HBY.out.getD (6 + D)
    generalize b.getD (6 + D) 0 = x6 at *
    obtain ⟨S, rfl⟩ := Int.eq_ofNat_of_zero_le b6.1
    simp only [Int.toNat_natCast] at k2
    clear key
    go_enter Try.func14, Try.ntmps14
    go_wp2_with fail
    go_loop [6, 7] (fun v i => (i = .int .i64 1 ∧ v = .int .u32 0) ∨ (i = .int .i64 2 ∧ v = .int .u32 x1) ∨ (i = .int .i64 3 ∧ v = .int .u32 (256 * x1 + x2)) ∨ (i = .int .i64 4 ∧ v = .int .u32 (256 * (256 * x1 + x2) + x3)) ∨ (i = .int .i64 5 ∧ v = .int .u32 (256 * (256 * (256 * x1 + x2) + x3) + x4))) (fun _ i => 5 - (intOf i).toNat)
    case atStart => exact .inl ⟨rfl, rfl⟩
    case round =>
      rcases hrel with ⟨rfl, rfl⟩ | ⟨rfl, rfl⟩ | ⟨rfl, rfl⟩ | ⟨rfl, rfl⟩ | ⟨rfl, rfl⟩
      · go_wp2_with fail
        go_round
        case rel => exact .inr (.inl ⟨rfl, by go_num⟩)
        case measure => simp [intOf]
      · go_wp2_with fail
        go_round
        case rel => exact .inr (.inr (.inl ⟨rfl, rfl⟩))
        case measure => simp [intOf]
      · go_wp2_with fail
        go_round
        case rel => exact .inr (.inr (.inr (.inl ⟨rfl, rfl⟩)))
        case measure => simp [intOf]
      · go_wp2_with fail
        go_round
        case rel => exact .inr (.inr (.inr (.inr ⟨rfl, rfl⟩)))
        case measure => simp [intOf]
      go_wp2_with fail
      refine bodyPost_ret (results_tmp4 rfl _ _ _) rfl ?_
      exact ⟨rfl, rfl⟩
  case a =>
    intro k1 k2
    rw [show spl b = some (D, (b.getD (6 + D) 0).toNat) by rw [HS2.out, if_neg (by omega), if_neg (by omega)]]
    have c6 := HC6.out _ k1
    have b6 := HBY.out.getD (6 + D)
    generalize b.getD (6 + D) 0 = x6 at *
    obtain ⟨S, rfl⟩ := Int.eq_ofNat_of_zero_le b6.1
    simp only [Int.toNat_natCast] at k2 ⊢
    obtain ⟨A1, e1, p1, p2, p3, p4, p5⟩ := slice_lh elU8 HR.out hc 6 (6 + (D : Int)) D (by omega) (by omega) (by omega) (by omega)
    obtain ⟨A2, e2, q1, q2, q3, q4, q5⟩ := slice_lh elU8 HR.out hc (7 + (D : Int)) (7 + (D : Int) + (S : Int)) S (by omega) (by omega) (by omega) (by omega)
    rw [show (7 + (D : Int)).toNat = 7 + D by omega] at q3 q4
    have P3 := Lib.hid p3
    have P4 := Lib.hid p4
    have Q3 := Lib.hid q3
    have Q4 := Lib.hid q4
    clear key p3 p4 q3 q4
    go_enter Try.func14, Try.ntmps14
    go_wp2_with fail
    go_loop [6, 7] (fun v i => (i = .int .i64 1 ∧ v = .int .u32 0) ∨ (i = .int .i64 2 ∧ v = .int .u32 x1) ∨ (i = .int .i64 3 ∧ v = .int .u32 (256 * x1 + x2)) ∨ (i = .int .i64 4 ∧ v = .int .u32 (256 * (256 * x1 + x2) + x3)) ∨ (i = .int .i64 5 ∧ v = .int .u32 (256 * (256 * (256 * x1 + x2) + x3) + x4))) (fun _ i => 5 - (intOf i).toNat)
    case atStart => exact .inl ⟨rfl, rfl⟩
    case round =>
      rcases hrel with ⟨rfl, rfl⟩ | ⟨rfl, rfl⟩ | ⟨rfl, rfl⟩ | ⟨rfl, rfl⟩ | ⟨rfl, rfl⟩
      · go_wp2_with fail
        go_round
        case rel => exact .inr (.inl ⟨rfl, by go_num⟩)
        case measure => simp [intOf]
      · go_wp2_with fail
        go_round
        case rel => exact .inr (.inr (.inl ⟨rfl, rfl⟩))
        case measure => simp [intOf]
      · go_wp2_with fail
        go_round
        case rel => exact .inr (.inr (.inr (.inl ⟨rfl, rfl⟩)))
        case measure => simp [intOf]
      · go_wp2_with fail
        go_round
        case rel => exact .inr (.inr (.inr (.inr ⟨rfl, rfl⟩)))
        case measure => simp [intOf]
      go_wp2_with fail
      go_quiet (fail)
      go_wp2_with fail
      refine bodyPost_ret (results_tmp4 rfl _ _ _) rfl ?_
      exact ⟨A1, e1, A2, e2, nq, by rw [HV.out]; rfl, P3.out, P4.out, Q3.out, Q4.out, p1, q1, rfl⟩
end Go.Proofs.Ytakmaocfcmdpmaa
