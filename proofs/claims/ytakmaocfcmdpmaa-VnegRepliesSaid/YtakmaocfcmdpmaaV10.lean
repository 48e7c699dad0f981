/- The law VnegReplies (layer 34): its walk. Conditions: as each theorem states them. -/
import Derived.Test.YtakmaocfcmdpmaaV9
import Derived.Deep.RegionWith
namespace Go.Proofs.Ytakmaocfcmdpmaa
open Go.RowKit

theorem bytes_n (first : Int) (A A2 A3 : Option Addr) (n n2 c c2 c3 : Nat) (ds ss vs : List Int) (w : World) (hn : n = ds.length) (hn2 : n2 = ss.length) (hr : Rd w.heap.size .u8 w A ds) (hr2 : Rd w.heap.size .u8 w A2 ss) (hr3 : Rd w.heap.size .u32 w A3 vs) (hw : Wrd vs) (hl : n ≤ 1099511627776) (hl2 : n2 ≤ 1099511627776) (hl3 : vs.length ≤ 1099511627776) :
    Calls Try.prog 16 #[.int .u8 first, .slice A n c, .slice A2 n2 c2, .slice A3 vs.length c3] w (RetOwn 5 .u8 (putL first ds ss vs) w) := by
  subst hn; subst hn2; exact bytes_any first A A2 A3 c c2 c3 ds ss vs w hr hr2 hr3 hw hl hl2 hl3

set_option maxRecDepth 100000 in
set_option maxHeartbeats 8000000 in
theorem replies_walk (A0 Am Ap As Av Ad Ar : Option Addr) (c0 cm cp cs cv cd cr : Nat) (b mine pd ps vs ds ss : List Int) (tried : Int) (w : World)
    (r0 : Rd w.heap.size .u8 w A0 b) (rm : Rd w.heap.size .u32 w Am mine) (rp : Rd w.heap.size .u8 w Ap pd) (rs : Rd w.heap.size .u8 w As ps) (rv : Rd w.heap.size .u32 w Av vs) (rd : Rd w.heap.size .u8 w Ad ds) (rr : Rd w.heap.size .u8 w Ar ss)
    (y0 : Byt b) (ym : Wrd mine) (yp : Byt pd) (ys : Byt ps) (yd : Byt ds) (yr : Byt ss) (hc0 : b.length ≤ c0)
    (l0 : b.length ≤ 140737488351232) (lm : mine.length ≤ 140737488351232) (lp : pd.length ≤ 140737488351232) (ls : ps.length ≤ 140737488351232) (lv : vs.length ≤ 140737488351232) (ld : ds.length ≤ 140737488351232) (lr : ss.length ≤ 140737488351232) :
    Calls Try.prog 4 #[.slice A0 b.length c0, .slice Am mine.length cm, .agg #[.slice Ap pd.length cp, .slice As ps.length cs, .slice Av vs.length cv], .slice Ad ds.length cd, .slice Ar ss.length cr, .int .u32 tried] w fun e w' => e = .returned (.bool true) ∧ Below w.heap.size w w' := by
  have R0 := Lib.hid r0
  have Rm := Lib.hid rm
  have Rp := Lib.hid rp
  have Rs := Lib.hid rs
  have Rv := Lib.hid rv
  have Rd := Lib.hid rd
  have Rr := Lib.hid rr
  have Y0 := Lib.hid y0
  have Ym := Lib.hid ym
  have Yp := Lib.hid yp
  have Ys := Lib.hid ys
  have Yd := Lib.hid yd
  have Yr := Lib.hid yr
  clear r0 rm rp rs rv rd rr y0 ym yp ys yd yr
  by_cases g0 : 3000 < b.length
  · go_enter Try.func4, Try.ntmps4
    go_wp2_with (go_at_call 8; refine (works_any _).mono ?_; rintro e w9 ⟨rfl, hb9⟩)
    go_ret
    exact ⟨rfl, ((Below.refl _ _).alloc (Nat.le_refl _) _).trans (hb9.mono (by simp))⟩
  have g0' : decide (3000 < b.length) = false := decide_eq_false g0
  by_cases g1 : 200 < mine.length
  · go_enter Try.func4, Try.ntmps4
    go_wp2_with (go_at_call 8; refine (works_any _).mono ?_; rintro e w9 ⟨rfl, hb9⟩)
    go_ret
    exact ⟨rfl, ((Below.refl _ _).alloc (Nat.le_refl _) _).trans (hb9.mono (by simp))⟩
  have g1' : decide (200 < mine.length) = false := decide_eq_false g1
  by_cases g2 : 200 < vs.length
  · go_enter Try.func4, Try.ntmps4
    go_wp2_with (go_at_call 8; refine (works_any _).mono ?_; rintro e w9 ⟨rfl, hb9⟩)
    go_ret
    exact ⟨rfl, ((Below.refl _ _).alloc (Nat.le_refl _) _).trans (hb9.mono (by simp))⟩
  have g2' : decide (200 < vs.length) = false := decide_eq_false g2
  by_cases g3 : 3000 < pd.length + ps.length + ds.length + ss.length
  · go_enter Try.func4, Try.ntmps4
    go_wp2_with (go_at_call 8; refine (works_any _).mono ?_; rintro e w9 ⟨rfl, hb9⟩)
    go_ret
    exact ⟨rfl, ((Below.refl _ _).alloc (Nat.le_refl _) _).trans (hb9.mono (by simp))⟩
  have g3' : decide (3000 < pd.length + ps.length + ds.length + ss.length) = false := decide_eq_false g3
  go_enter Try.func4, Try.ntmps4
  go_wp2_with fail
  have X0 := Lib.hid (Blk.new w 32 #[.slice Ap pd.length cp, .slice As ps.length cs, .slice Av vs.length cv])
  have B0 := Lib.hid ((Below.refl w.heap.size w).alloc (Nat.le_refl _) (.cells #[.slice Ap pd.length cp, .slice As ps.length cs, .slice Av vs.length cv] 32))
  generalize w.alloc (.cells #[.slice Ap pd.length cp, .slice As ps.length cs, .slice Av vs.length cv] 32) = w0 at *
  clear g0' g1' g2' g3'
  rcases hsp : spl b with _ | ⟨d, s⟩
  · have HSP := Lib.hid hsp
    have HB := Lib.hid (begin_ref A0 c0 b)
    clear hsp
    refine (reply_none A0 Am c0 cm b mine _ (by exact ((R0.out.below B0.out (Nat.le_refl _)).mono B0.out.size)) (by exact ((Rm.out.below B0.out (Nat.le_refl _)).mono B0.out.size)) Y0.out (by omega) hc0 (by omega) (.inl HSP.out)).mono ?_
    rintro e w1 ⟨rfl, hb1⟩
    have B1 := Lib.hid (B0.out.trans (hb1.mono B0.out.size))
    have X1 := Lib.hid (Blk.below X0.out hb1 (Blk.lt X0.out))
    clear hb1
    go_wp2_with fail
    refine (HB.out _ (by exact ((R0.out.below B1.out (Nat.le_refl _)).mono B1.out.size)) Y0.out (by omega) hc0).mono ?_
    intro e w2 h2
    rw [HSP.out] at h2
    obtain ⟨rfl, rfl⟩ := h2
    as_aux_lemma =>
      have x0 := Blk.cell X1.out 0
      have x1 := Blk.cell X1.out 1
      have x2 := Blk.cell X1.out 2
      simp at x0 x1 x2
      go_wp2_with fail
      refine (next_any Ap As Av Ad Ar Am cp cs cv cd cr cm pd ps vs ds ss tried mine _ (by exact ((Rp.out.below B1.out (Nat.le_refl _)).mono B1.out.size)) (by exact ((Rs.out.below B1.out (Nat.le_refl _)).mono B1.out.size)) (by exact ((Rv.out.below B1.out (Nat.le_refl _)).mono B1.out.size)) (by exact ((Rd.out.below B1.out (Nat.le_refl _)).mono B1.out.size)) (by exact ((Rr.out.below B1.out (Nat.le_refl _)).mono B1.out.size)) (by exact ((Rm.out.below B1.out (Nat.le_refl _)).mono B1.out.size)) Yp.out Ys.out Yd.out Yr.out (by omega) (by omega)).mono ?_
      rintro e w7 ⟨rfl, hb7⟩
      have B7 := Lib.hid (B1.out.trans (hb7.mono B1.out.size))
      have X7 := Lib.hid (Blk.below X1.out hb7 (Blk.lt X1.out))
      clear x0 x1 x2 hb7
      have x0 := Blk.cell X7.out 0
      have x1 := Blk.cell X7.out 1
      have x2 := Blk.cell X7.out 2
      simp at x0 x1 x2
      have v1 := conv_rd elU8 Try.underlying9 ((Rp.out.below B7.out (Nat.le_refl _)).mono B7.out.size) cp
      have v2 := conv_rd elU8 Try.underlying9 ((Rr.out.below B7.out (Nat.le_refl _)).mono B7.out.size) cr
      have v3 := conv_rd elU8 Try.underlying9 ((Rs.out.below B7.out (Nat.le_refl _)).mono B7.out.size) cs
      have v4 := conv_rd elU8 Try.underlying9 ((Rd.out.below B7.out (Nat.le_refl _)).mono B7.out.size) cd
      have s1 := str_eq Yp.out Yr.out
      have s2 := str_eq Ys.out Yd.out
      generalize strOfNums pd = z1 at *
      generalize strOfNums ss = z2 at *
      generalize strOfNums ps = z3 at *
      generalize strOfNums ds = z4 at *
      by_cases t1 : pd = ss
      case neg =>
        rw [decide_eq_false t1] at s1
        have s1' : (z1.toList != z2.toList) = true := by simp only [bne, s1]; rfl
        have hN : nextR pd ps vs ds ss tried mine = (0, 2) := by unfold nextR; rw [if_neg (fun h => t1 h.1)]
        rw [hN]
        clear t1 s2 hN
        go_wp2_with fail
        refine (rchoose_any Am Av cm cv mine vs _ (by exact ((Rm.out.below B7.out (Nat.le_refl _)).mono B7.out.size)) (by exact ((Rv.out.below B7.out (Nat.le_refl _)).mono B7.out.size)) (by omega) (by omega) Ym.out).mono ?_
        rintro e w' ⟨rfl, rfl⟩
        unfold chsV
        go_wp2_with (first
          | (go_at_call 15; refine (has_any Av cv vs tried _ (by exact ((Rv.out.below B7.out (Nat.le_refl _)).mono B7.out.size)) (by omega)).mono ?_; rintro e w' ⟨rfl, rfl⟩)
          | (go_at_call 8; refine (works_any _).mono ?_; rintro e w9 ⟨rfl, hb9⟩))
        go_ret
        exact ⟨rfl, B7.out.trans (hb9.mono B7.out.size)⟩
      rw [decide_eq_true t1] at s1
      have s1' : (z1.toList != z2.toList) = false := by simp only [bne, s1]; rfl
      by_cases t2 : ps = ds
      case neg =>
        rw [decide_eq_false t2] at s2
        have s2' : (z3.toList != z4.toList) = true := by simp only [bne, s2]; rfl
        have hN : nextR pd ps vs ds ss tried mine = (0, 2) := by unfold nextR; rw [if_neg (fun h => t2 h.2)]
        rw [hN]
        clear t1 t2 hN
        go_wp2_with fail
        refine (rchoose_any Am Av cm cv mine vs _ (by exact ((Rm.out.below B7.out (Nat.le_refl _)).mono B7.out.size)) (by exact ((Rv.out.below B7.out (Nat.le_refl _)).mono B7.out.size)) (by omega) (by omega) Ym.out).mono ?_
        rintro e w' ⟨rfl, rfl⟩
        unfold chsV
        go_wp2_with (first
          | (go_at_call 15; refine (has_any Av cv vs tried _ (by exact ((Rv.out.below B7.out (Nat.le_refl _)).mono B7.out.size)) (by omega)).mono ?_; rintro e w' ⟨rfl, rfl⟩)
          | (go_at_call 8; refine (works_any _).mono ?_; rintro e w9 ⟨rfl, hb9⟩))
        go_ret
        exact ⟨rfl, B7.out.trans (hb9.mono B7.out.size)⟩
      rw [decide_eq_true t2] at s2
      have s2' : (z3.toList != z4.toList) = false := by simp only [bne, s2]; rfl
      rcases t3 : decide (tried ∈ vs) with _ | _
      case true =>
        have hN : nextR pd ps vs ds ss tried mine = (0, 6) := by unfold nextR; rw [if_pos ⟨t1, t2⟩, if_pos (of_decide_eq_true t3)]
        rw [hN]
        clear t1 t2 hN
        go_wp2_with fail
        refine (rchoose_any Am Av cm cv mine vs _ (by exact ((Rm.out.below B7.out (Nat.le_refl _)).mono B7.out.size)) (by exact ((Rv.out.below B7.out (Nat.le_refl _)).mono B7.out.size)) (by omega) (by omega) Ym.out).mono ?_
        rintro e w' ⟨rfl, rfl⟩
        unfold chsV
        go_wp2_with (first
          | (go_at_call 15; refine (has_any Av cv vs tried _ (by exact ((Rv.out.below B7.out (Nat.le_refl _)).mono B7.out.size)) (by omega)).mono ?_; rintro e w' ⟨rfl, rfl⟩)
          | (go_at_call 8; refine (works_any _).mono ?_; rintro e w9 ⟨rfl, hb9⟩))
        go_ret
        exact ⟨rfl, B7.out.trans (hb9.mono B7.out.size)⟩
      rcases t4 : chs mine vs with _ | v
      · have hN : nextR pd ps vs ds ss tried mine = (0, 4) := by unfold nextR; rw [if_pos ⟨t1, t2⟩, if_neg (of_decide_eq_false t3), t4]
        rw [hN]
        have T4 := Lib.hid t4
        clear t1 t2 hN t4
        go_wp2_with fail
        refine (rchoose_any Am Av cm cv mine vs _ (by exact ((Rm.out.below B7.out (Nat.le_refl _)).mono B7.out.size)) (by exact ((Rv.out.below B7.out (Nat.le_refl _)).mono B7.out.size)) (by omega) (by omega) Ym.out).mono ?_
        rintro e w' ⟨rfl, rfl⟩
        rw [T4.out]
        unfold chsV
        go_wp2_with (first
          | (go_at_call 15; refine (has_any Av cv vs tried _ (by exact ((Rv.out.below B7.out (Nat.le_refl _)).mono B7.out.size)) (by omega)).mono ?_; rintro e w' ⟨rfl, rfl⟩)
          | (go_at_call 8; refine (works_any _).mono ?_; rintro e w9 ⟨rfl, hb9⟩))
        go_ret
        exact ⟨rfl, B7.out.trans (hb9.mono B7.out.size)⟩
      · have hN : nextR pd ps vs ds ss tried mine = (v, 0) := by unfold nextR; rw [if_pos ⟨t1, t2⟩, if_neg (of_decide_eq_false t3), t4]
        rw [hN]
        have T4 := Lib.hid t4
        clear t1 t2 hN t4
        go_wp2_with fail
        refine (rchoose_any Am Av cm cv mine vs _ (by exact ((Rm.out.below B7.out (Nat.le_refl _)).mono B7.out.size)) (by exact ((Rv.out.below B7.out (Nat.le_refl _)).mono B7.out.size)) (by omega) (by omega) Ym.out).mono ?_
        rintro e w' ⟨rfl, rfl⟩
        rw [T4.out]
        unfold chsV
        go_wp2_with (first
          | (go_at_call 15; refine (has_any Av cv vs tried _ (by exact ((Rv.out.below B7.out (Nat.le_refl _)).mono B7.out.size)) (by omega)).mono ?_; rintro e w' ⟨rfl, rfl⟩)
          | (go_at_call 8; refine (works_any _).mono ?_; rintro e w9 ⟨rfl, hb9⟩))
        go_ret
        exact ⟨rfl, B7.out.trans (hb9.mono B7.out.size)⟩
  · have HSP := Lib.hid hsp
    have HB := Lib.hid (begin_ref A0 c0 b)
    obtain ⟨f1, f2, f3, f4, f5⟩ := spl_facts Y0.out hsp
    have F3 := Lib.hid f3
    have F4 := Lib.hid f4
    clear hsp f3 f4
    by_cases q1 : b.length < 1200
    · refine (reply_none A0 Am c0 cm b mine _ (by exact ((R0.out.below B0.out (Nat.le_refl _)).mono B0.out.size)) (by exact ((Rm.out.below B0.out (Nat.le_refl _)).mono B0.out.size)) Y0.out (by omega) hc0 (by omega) (.inr (.inl q1))).mono ?_
      rintro e w1 ⟨rfl, hb1⟩
      have B1 := Lib.hid (B0.out.trans (hb1.mono B0.out.size))
      have X1 := Lib.hid (Blk.below X0.out hb1 (Blk.lt X0.out))
      clear hb1
      go_wp2_with fail
      refine (HB.out _ (by exact ((R0.out.below B1.out (Nat.le_refl _)).mono B1.out.size)) Y0.out (by omega) hc0).mono ?_
      intro e w2 h2
      rw [HSP.out] at h2
      obtain ⟨A2, c2, A3, c3, n, rfl, -, -, -, -, -, -, rfl⟩ := h2
      have B2 := Lib.hid (below_drewN B1.out n)
      have X2 := Lib.hid (Blk.drewN X1.out n)
      generalize w1.drewN n = w2 at *
      have nn : decide (7 + (d : Int) + (s : Int) < 0) = false := decide_eq_false (by omega)
      as_aux_lemma =>
        have x0 := Blk.cell X2.out 0
        have x1 := Blk.cell X2.out 1
        have x2 := Blk.cell X2.out 2
        simp at x0 x1 x2
        go_wp2_with fail
        refine (next_any Ap As Av Ad Ar Am cp cs cv cd cr cm pd ps vs ds ss tried mine _ (by exact ((Rp.out.below B2.out (Nat.le_refl _)).mono B2.out.size)) (by exact ((Rs.out.below B2.out (Nat.le_refl _)).mono B2.out.size)) (by exact ((Rv.out.below B2.out (Nat.le_refl _)).mono B2.out.size)) (by exact ((Rd.out.below B2.out (Nat.le_refl _)).mono B2.out.size)) (by exact ((Rr.out.below B2.out (Nat.le_refl _)).mono B2.out.size)) (by exact ((Rm.out.below B2.out (Nat.le_refl _)).mono B2.out.size)) Yp.out Ys.out Yd.out Yr.out (by omega) (by omega)).mono ?_
        rintro e w7 ⟨rfl, hb7⟩
        have B7 := Lib.hid (B2.out.trans (hb7.mono B2.out.size))
        have X7 := Lib.hid (Blk.below X2.out hb7 (Blk.lt X2.out))
        clear x0 x1 x2 hb7
        have x0 := Blk.cell X7.out 0
        have x1 := Blk.cell X7.out 1
        have x2 := Blk.cell X7.out 2
        simp at x0 x1 x2
        have v1 := conv_rd elU8 Try.underlying9 ((Rp.out.below B7.out (Nat.le_refl _)).mono B7.out.size) cp
        have v2 := conv_rd elU8 Try.underlying9 ((Rr.out.below B7.out (Nat.le_refl _)).mono B7.out.size) cr
        have v3 := conv_rd elU8 Try.underlying9 ((Rs.out.below B7.out (Nat.le_refl _)).mono B7.out.size) cs
        have v4 := conv_rd elU8 Try.underlying9 ((Rd.out.below B7.out (Nat.le_refl _)).mono B7.out.size) cd
        have s1 := str_eq Yp.out Yr.out
        have s2 := str_eq Ys.out Yd.out
        generalize strOfNums pd = z1 at *
        generalize strOfNums ss = z2 at *
        generalize strOfNums ps = z3 at *
        generalize strOfNums ds = z4 at *
        by_cases t1 : pd = ss
        case neg =>
          rw [decide_eq_false t1] at s1
          have s1' : (z1.toList != z2.toList) = true := by simp only [bne, s1]; rfl
          have hN : nextR pd ps vs ds ss tried mine = (0, 2) := by unfold nextR; rw [if_neg (fun h => t1 h.1)]
          rw [hN]
          clear t1 s2 hN
          go_wp2_with fail
          refine (rchoose_any Am Av cm cv mine vs _ (by exact ((Rm.out.below B7.out (Nat.le_refl _)).mono B7.out.size)) (by exact ((Rv.out.below B7.out (Nat.le_refl _)).mono B7.out.size)) (by omega) (by omega) Ym.out).mono ?_
          rintro e w' ⟨rfl, rfl⟩
          unfold chsV
          go_wp2_with (first
            | (go_at_call 15; refine (has_any Av cv vs tried _ (by exact ((Rv.out.below B7.out (Nat.le_refl _)).mono B7.out.size)) (by omega)).mono ?_; rintro e w' ⟨rfl, rfl⟩)
            | (go_at_call 8; refine (works_any _).mono ?_; rintro e w9 ⟨rfl, hb9⟩))
          go_ret
          exact ⟨rfl, B7.out.trans (hb9.mono B7.out.size)⟩
        rw [decide_eq_true t1] at s1
        have s1' : (z1.toList != z2.toList) = false := by simp only [bne, s1]; rfl
        by_cases t2 : ps = ds
        case neg =>
          rw [decide_eq_false t2] at s2
          have s2' : (z3.toList != z4.toList) = true := by simp only [bne, s2]; rfl
          have hN : nextR pd ps vs ds ss tried mine = (0, 2) := by unfold nextR; rw [if_neg (fun h => t2 h.2)]
          rw [hN]
          clear t1 t2 hN
          go_wp2_with fail
          refine (rchoose_any Am Av cm cv mine vs _ (by exact ((Rm.out.below B7.out (Nat.le_refl _)).mono B7.out.size)) (by exact ((Rv.out.below B7.out (Nat.le_refl _)).mono B7.out.size)) (by omega) (by omega) Ym.out).mono ?_
          rintro e w' ⟨rfl, rfl⟩
          unfold chsV
          go_wp2_with (first
            | (go_at_call 15; refine (has_any Av cv vs tried _ (by exact ((Rv.out.below B7.out (Nat.le_refl _)).mono B7.out.size)) (by omega)).mono ?_; rintro e w' ⟨rfl, rfl⟩)
            | (go_at_call 8; refine (works_any _).mono ?_; rintro e w9 ⟨rfl, hb9⟩))
          go_ret
          exact ⟨rfl, B7.out.trans (hb9.mono B7.out.size)⟩
        rw [decide_eq_true t2] at s2
        have s2' : (z3.toList != z4.toList) = false := by simp only [bne, s2]; rfl
        rcases t3 : decide (tried ∈ vs) with _ | _
        case true =>
          have hN : nextR pd ps vs ds ss tried mine = (0, 6) := by unfold nextR; rw [if_pos ⟨t1, t2⟩, if_pos (of_decide_eq_true t3)]
          rw [hN]
          clear t1 t2 hN
          go_wp2_with fail
          refine (rchoose_any Am Av cm cv mine vs _ (by exact ((Rm.out.below B7.out (Nat.le_refl _)).mono B7.out.size)) (by exact ((Rv.out.below B7.out (Nat.le_refl _)).mono B7.out.size)) (by omega) (by omega) Ym.out).mono ?_
          rintro e w' ⟨rfl, rfl⟩
          unfold chsV
          go_wp2_with (first
            | (go_at_call 15; refine (has_any Av cv vs tried _ (by exact ((Rv.out.below B7.out (Nat.le_refl _)).mono B7.out.size)) (by omega)).mono ?_; rintro e w' ⟨rfl, rfl⟩)
            | (go_at_call 8; refine (works_any _).mono ?_; rintro e w9 ⟨rfl, hb9⟩))
          go_ret
          exact ⟨rfl, B7.out.trans (hb9.mono B7.out.size)⟩
        rcases t4 : chs mine vs with _ | v
        · have hN : nextR pd ps vs ds ss tried mine = (0, 4) := by unfold nextR; rw [if_pos ⟨t1, t2⟩, if_neg (of_decide_eq_false t3), t4]
          rw [hN]
          have T4 := Lib.hid t4
          clear t1 t2 hN t4
          go_wp2_with fail
          refine (rchoose_any Am Av cm cv mine vs _ (by exact ((Rm.out.below B7.out (Nat.le_refl _)).mono B7.out.size)) (by exact ((Rv.out.below B7.out (Nat.le_refl _)).mono B7.out.size)) (by omega) (by omega) Ym.out).mono ?_
          rintro e w' ⟨rfl, rfl⟩
          rw [T4.out]
          unfold chsV
          go_wp2_with (first
            | (go_at_call 15; refine (has_any Av cv vs tried _ (by exact ((Rv.out.below B7.out (Nat.le_refl _)).mono B7.out.size)) (by omega)).mono ?_; rintro e w' ⟨rfl, rfl⟩)
            | (go_at_call 8; refine (works_any _).mono ?_; rintro e w9 ⟨rfl, hb9⟩))
          go_ret
          exact ⟨rfl, B7.out.trans (hb9.mono B7.out.size)⟩
        · have hN : nextR pd ps vs ds ss tried mine = (v, 0) := by unfold nextR; rw [if_pos ⟨t1, t2⟩, if_neg (of_decide_eq_false t3), t4]
          rw [hN]
          have T4 := Lib.hid t4
          clear t1 t2 hN t4
          go_wp2_with fail
          refine (rchoose_any Am Av cm cv mine vs _ (by exact ((Rm.out.below B7.out (Nat.le_refl _)).mono B7.out.size)) (by exact ((Rv.out.below B7.out (Nat.le_refl _)).mono B7.out.size)) (by omega) (by omega) Ym.out).mono ?_
          rintro e w' ⟨rfl, rfl⟩
          rw [T4.out]
          unfold chsV
          go_wp2_with (first
            | (go_at_call 15; refine (has_any Av cv vs tried _ (by exact ((Rv.out.below B7.out (Nat.le_refl _)).mono B7.out.size)) (by omega)).mono ?_; rintro e w' ⟨rfl, rfl⟩)
            | (go_at_call 8; refine (works_any _).mono ?_; rintro e w9 ⟨rfl, hb9⟩))
          go_ret
          exact ⟨rfl, B7.out.trans (hb9.mono B7.out.size)⟩
    have q1' : decide (b.length < 1200) = false := decide_eq_false q1
    have nn : decide (7 + (d : Int) + (s : Int) < 0) = false := decide_eq_false (by omega)
    rcases beq_ways (ver b) 0 with ⟨q2, Q2⟩ | ⟨q2, Q2⟩
    · refine (reply_none A0 Am c0 cm b mine _ (by exact ((R0.out.below B0.out (Nat.le_refl _)).mono B0.out.size)) (by exact ((Rm.out.below B0.out (Nat.le_refl _)).mono B0.out.size)) Y0.out (by omega) hc0 (by omega) (.inr (.inr (.inl Q2.out)))).mono ?_
      rintro e w1 ⟨rfl, hb1⟩
      have B1 := Lib.hid (B0.out.trans (hb1.mono B0.out.size))
      have X1 := Lib.hid (Blk.below X0.out hb1 (Blk.lt X0.out))
      clear hb1
      go_wp2_with fail
      refine (HB.out _ (by exact ((R0.out.below B1.out (Nat.le_refl _)).mono B1.out.size)) Y0.out (by omega) hc0).mono ?_
      intro e w2 h2
      rw [HSP.out] at h2
      obtain ⟨A2, c2, A3, c3, n, rfl, -, -, -, -, -, -, rfl⟩ := h2
      have B2 := Lib.hid (below_drewN B1.out n)
      have X2 := Lib.hid (Blk.drewN X1.out n)
      generalize w1.drewN n = w2 at *
      as_aux_lemma =>
        have x0 := Blk.cell X2.out 0
        have x1 := Blk.cell X2.out 1
        have x2 := Blk.cell X2.out 2
        simp at x0 x1 x2
        go_wp2_with fail
        refine (next_any Ap As Av Ad Ar Am cp cs cv cd cr cm pd ps vs ds ss tried mine _ (by exact ((Rp.out.below B2.out (Nat.le_refl _)).mono B2.out.size)) (by exact ((Rs.out.below B2.out (Nat.le_refl _)).mono B2.out.size)) (by exact ((Rv.out.below B2.out (Nat.le_refl _)).mono B2.out.size)) (by exact ((Rd.out.below B2.out (Nat.le_refl _)).mono B2.out.size)) (by exact ((Rr.out.below B2.out (Nat.le_refl _)).mono B2.out.size)) (by exact ((Rm.out.below B2.out (Nat.le_refl _)).mono B2.out.size)) Yp.out Ys.out Yd.out Yr.out (by omega) (by omega)).mono ?_
        rintro e w7 ⟨rfl, hb7⟩
        have B7 := Lib.hid (B2.out.trans (hb7.mono B2.out.size))
        have X7 := Lib.hid (Blk.below X2.out hb7 (Blk.lt X2.out))
        clear x0 x1 x2 hb7
        have x0 := Blk.cell X7.out 0
        have x1 := Blk.cell X7.out 1
        have x2 := Blk.cell X7.out 2
        simp at x0 x1 x2
        have v1 := conv_rd elU8 Try.underlying9 ((Rp.out.below B7.out (Nat.le_refl _)).mono B7.out.size) cp
        have v2 := conv_rd elU8 Try.underlying9 ((Rr.out.below B7.out (Nat.le_refl _)).mono B7.out.size) cr
        have v3 := conv_rd elU8 Try.underlying9 ((Rs.out.below B7.out (Nat.le_refl _)).mono B7.out.size) cs
        have v4 := conv_rd elU8 Try.underlying9 ((Rd.out.below B7.out (Nat.le_refl _)).mono B7.out.size) cd
        have s1 := str_eq Yp.out Yr.out
        have s2 := str_eq Ys.out Yd.out
        generalize strOfNums pd = z1 at *
        generalize strOfNums ss = z2 at *
        generalize strOfNums ps = z3 at *
        generalize strOfNums ds = z4 at *
        by_cases t1 : pd = ss
        case neg =>
          rw [decide_eq_false t1] at s1
          have s1' : (z1.toList != z2.toList) = true := by simp only [bne, s1]; rfl
          have hN : nextR pd ps vs ds ss tried mine = (0, 2) := by unfold nextR; rw [if_neg (fun h => t1 h.1)]
          rw [hN]
          clear t1 s2 hN
          go_wp2_with fail
          refine (rchoose_any Am Av cm cv mine vs _ (by exact ((Rm.out.below B7.out (Nat.le_refl _)).mono B7.out.size)) (by exact ((Rv.out.below B7.out (Nat.le_refl _)).mono B7.out.size)) (by omega) (by omega) Ym.out).mono ?_
          rintro e w' ⟨rfl, rfl⟩
          unfold chsV
          go_wp2_with (first
            | (go_at_call 15; refine (has_any Av cv vs tried _ (by exact ((Rv.out.below B7.out (Nat.le_refl _)).mono B7.out.size)) (by omega)).mono ?_; rintro e w' ⟨rfl, rfl⟩)
            | (go_at_call 8; refine (works_any _).mono ?_; rintro e w9 ⟨rfl, hb9⟩))
          go_ret
          exact ⟨rfl, B7.out.trans (hb9.mono B7.out.size)⟩
        rw [decide_eq_true t1] at s1
        have s1' : (z1.toList != z2.toList) = false := by simp only [bne, s1]; rfl
        by_cases t2 : ps = ds
        case neg =>
          rw [decide_eq_false t2] at s2
          have s2' : (z3.toList != z4.toList) = true := by simp only [bne, s2]; rfl
          have hN : nextR pd ps vs ds ss tried mine = (0, 2) := by unfold nextR; rw [if_neg (fun h => t2 h.2)]
          rw [hN]
          clear t1 t2 hN
          go_wp2_with fail
          refine (rchoose_any Am Av cm cv mine vs _ (by exact ((Rm.out.below B7.out (Nat.le_refl _)).mono B7.out.size)) (by exact ((Rv.out.below B7.out (Nat.le_refl _)).mono B7.out.size)) (by omega) (by omega) Ym.out).mono ?_
          rintro e w' ⟨rfl, rfl⟩
          unfold chsV
          go_wp2_with (first
            | (go_at_call 15; refine (has_any Av cv vs tried _ (by exact ((Rv.out.below B7.out (Nat.le_refl _)).mono B7.out.size)) (by omega)).mono ?_; rintro e w' ⟨rfl, rfl⟩)
            | (go_at_call 8; refine (works_any _).mono ?_; rintro e w9 ⟨rfl, hb9⟩))
          go_ret
          exact ⟨rfl, B7.out.trans (hb9.mono B7.out.size)⟩
        rw [decide_eq_true t2] at s2
        have s2' : (z3.toList != z4.toList) = false := by simp only [bne, s2]; rfl
        rcases t3 : decide (tried ∈ vs) with _ | _
        case true =>
          have hN : nextR pd ps vs ds ss tried mine = (0, 6) := by unfold nextR; rw [if_pos ⟨t1, t2⟩, if_pos (of_decide_eq_true t3)]
          rw [hN]
          clear t1 t2 hN
          go_wp2_with fail
          refine (rchoose_any Am Av cm cv mine vs _ (by exact ((Rm.out.below B7.out (Nat.le_refl _)).mono B7.out.size)) (by exact ((Rv.out.below B7.out (Nat.le_refl _)).mono B7.out.size)) (by omega) (by omega) Ym.out).mono ?_
          rintro e w' ⟨rfl, rfl⟩
          unfold chsV
          go_wp2_with (first
            | (go_at_call 15; refine (has_any Av cv vs tried _ (by exact ((Rv.out.below B7.out (Nat.le_refl _)).mono B7.out.size)) (by omega)).mono ?_; rintro e w' ⟨rfl, rfl⟩)
            | (go_at_call 8; refine (works_any _).mono ?_; rintro e w9 ⟨rfl, hb9⟩))
          go_ret
          exact ⟨rfl, B7.out.trans (hb9.mono B7.out.size)⟩
        rcases t4 : chs mine vs with _ | v
        · have hN : nextR pd ps vs ds ss tried mine = (0, 4) := by unfold nextR; rw [if_pos ⟨t1, t2⟩, if_neg (of_decide_eq_false t3), t4]
          rw [hN]
          have T4 := Lib.hid t4
          clear t1 t2 hN t4
          go_wp2_with fail
          refine (rchoose_any Am Av cm cv mine vs _ (by exact ((Rm.out.below B7.out (Nat.le_refl _)).mono B7.out.size)) (by exact ((Rv.out.below B7.out (Nat.le_refl _)).mono B7.out.size)) (by omega) (by omega) Ym.out).mono ?_
          rintro e w' ⟨rfl, rfl⟩
          rw [T4.out]
          unfold chsV
          go_wp2_with (first
            | (go_at_call 15; refine (has_any Av cv vs tried _ (by exact ((Rv.out.below B7.out (Nat.le_refl _)).mono B7.out.size)) (by omega)).mono ?_; rintro e w' ⟨rfl, rfl⟩)
            | (go_at_call 8; refine (works_any _).mono ?_; rintro e w9 ⟨rfl, hb9⟩))
          go_ret
          exact ⟨rfl, B7.out.trans (hb9.mono B7.out.size)⟩
        · have hN : nextR pd ps vs ds ss tried mine = (v, 0) := by unfold nextR; rw [if_pos ⟨t1, t2⟩, if_neg (of_decide_eq_false t3), t4]
          rw [hN]
          have T4 := Lib.hid t4
          clear t1 t2 hN t4
          go_wp2_with fail
          refine (rchoose_any Am Av cm cv mine vs _ (by exact ((Rm.out.below B7.out (Nat.le_refl _)).mono B7.out.size)) (by exact ((Rv.out.below B7.out (Nat.le_refl _)).mono B7.out.size)) (by omega) (by omega) Ym.out).mono ?_
          rintro e w' ⟨rfl, rfl⟩
          rw [T4.out]
          unfold chsV
          go_wp2_with (first
            | (go_at_call 15; refine (has_any Av cv vs tried _ (by exact ((Rv.out.below B7.out (Nat.le_refl _)).mono B7.out.size)) (by omega)).mono ?_; rintro e w' ⟨rfl, rfl⟩)
            | (go_at_call 8; refine (works_any _).mono ?_; rintro e w9 ⟨rfl, hb9⟩))
          go_ret
          exact ⟨rfl, B7.out.trans (hb9.mono B7.out.size)⟩
    rcases q3 : decide (ver b ∈ mine) with _ | _
    case true =>
      refine (reply_none A0 Am c0 cm b mine _ (by exact ((R0.out.below B0.out (Nat.le_refl _)).mono B0.out.size)) (by exact ((Rm.out.below B0.out (Nat.le_refl _)).mono B0.out.size)) Y0.out (by omega) hc0 (by omega) (.inr (.inr (.inr (of_decide_eq_true q3))))).mono ?_
      rintro e w1 ⟨rfl, hb1⟩
      have B1 := Lib.hid (B0.out.trans (hb1.mono B0.out.size))
      have X1 := Lib.hid (Blk.below X0.out hb1 (Blk.lt X0.out))
      clear hb1
      go_wp2_with fail
      refine (HB.out _ (by exact ((R0.out.below B1.out (Nat.le_refl _)).mono B1.out.size)) Y0.out (by omega) hc0).mono ?_
      intro e w2 h2
      rw [HSP.out] at h2
      obtain ⟨A2, c2, A3, c3, n, rfl, -, -, -, -, -, -, rfl⟩ := h2
      have B2 := Lib.hid (below_drewN B1.out n)
      have X2 := Lib.hid (Blk.drewN X1.out n)
      generalize w1.drewN n = w2 at *
      go_wp2_with fail
      refine (has_any Am cm mine _ _ (by exact ((Rm.out.below B2.out (Nat.le_refl _)).mono B2.out.size)) (by omega)).mono ?_
      rintro e w' ⟨rfl, rfl⟩
      as_aux_lemma =>
        have x0 := Blk.cell X2.out 0
        have x1 := Blk.cell X2.out 1
        have x2 := Blk.cell X2.out 2
        simp at x0 x1 x2
        go_wp2_with fail
        refine (next_any Ap As Av Ad Ar Am cp cs cv cd cr cm pd ps vs ds ss tried mine _ (by exact ((Rp.out.below B2.out (Nat.le_refl _)).mono B2.out.size)) (by exact ((Rs.out.below B2.out (Nat.le_refl _)).mono B2.out.size)) (by exact ((Rv.out.below B2.out (Nat.le_refl _)).mono B2.out.size)) (by exact ((Rd.out.below B2.out (Nat.le_refl _)).mono B2.out.size)) (by exact ((Rr.out.below B2.out (Nat.le_refl _)).mono B2.out.size)) (by exact ((Rm.out.below B2.out (Nat.le_refl _)).mono B2.out.size)) Yp.out Ys.out Yd.out Yr.out (by omega) (by omega)).mono ?_
        rintro e w7 ⟨rfl, hb7⟩
        have B7 := Lib.hid (B2.out.trans (hb7.mono B2.out.size))
        have X7 := Lib.hid (Blk.below X2.out hb7 (Blk.lt X2.out))
        clear x0 x1 x2 hb7
        have x0 := Blk.cell X7.out 0
        have x1 := Blk.cell X7.out 1
        have x2 := Blk.cell X7.out 2
        simp at x0 x1 x2
        have v1 := conv_rd elU8 Try.underlying9 ((Rp.out.below B7.out (Nat.le_refl _)).mono B7.out.size) cp
        have v2 := conv_rd elU8 Try.underlying9 ((Rr.out.below B7.out (Nat.le_refl _)).mono B7.out.size) cr
        have v3 := conv_rd elU8 Try.underlying9 ((Rs.out.below B7.out (Nat.le_refl _)).mono B7.out.size) cs
        have v4 := conv_rd elU8 Try.underlying9 ((Rd.out.below B7.out (Nat.le_refl _)).mono B7.out.size) cd
        have s1 := str_eq Yp.out Yr.out
        have s2 := str_eq Ys.out Yd.out
        generalize strOfNums pd = z1 at *
        generalize strOfNums ss = z2 at *
        generalize strOfNums ps = z3 at *
        generalize strOfNums ds = z4 at *
        by_cases t1 : pd = ss
        case neg =>
          rw [decide_eq_false t1] at s1
          have s1' : (z1.toList != z2.toList) = true := by simp only [bne, s1]; rfl
          have hN : nextR pd ps vs ds ss tried mine = (0, 2) := by unfold nextR; rw [if_neg (fun h => t1 h.1)]
          rw [hN]
          clear t1 s2 hN
          go_wp2_with fail
          refine (rchoose_any Am Av cm cv mine vs _ (by exact ((Rm.out.below B7.out (Nat.le_refl _)).mono B7.out.size)) (by exact ((Rv.out.below B7.out (Nat.le_refl _)).mono B7.out.size)) (by omega) (by omega) Ym.out).mono ?_
          rintro e w' ⟨rfl, rfl⟩
          unfold chsV
          go_wp2_with (first
            | (go_at_call 15; refine (has_any Av cv vs tried _ (by exact ((Rv.out.below B7.out (Nat.le_refl _)).mono B7.out.size)) (by omega)).mono ?_; rintro e w' ⟨rfl, rfl⟩)
            | (go_at_call 8; refine (works_any _).mono ?_; rintro e w9 ⟨rfl, hb9⟩))
          go_ret
          exact ⟨rfl, B7.out.trans (hb9.mono B7.out.size)⟩
        rw [decide_eq_true t1] at s1
        have s1' : (z1.toList != z2.toList) = false := by simp only [bne, s1]; rfl
        by_cases t2 : ps = ds
        case neg =>
          rw [decide_eq_false t2] at s2
          have s2' : (z3.toList != z4.toList) = true := by simp only [bne, s2]; rfl
          have hN : nextR pd ps vs ds ss tried mine = (0, 2) := by unfold nextR; rw [if_neg (fun h => t2 h.2)]
          rw [hN]
          clear t1 t2 hN
          go_wp2_with fail
          refine (rchoose_any Am Av cm cv mine vs _ (by exact ((Rm.out.below B7.out (Nat.le_refl _)).mono B7.out.size)) (by exact ((Rv.out.below B7.out (Nat.le_refl _)).mono B7.out.size)) (by omega) (by omega) Ym.out).mono ?_
          rintro e w' ⟨rfl, rfl⟩
          unfold chsV
          go_wp2_with (first
            | (go_at_call 15; refine (has_any Av cv vs tried _ (by exact ((Rv.out.below B7.out (Nat.le_refl _)).mono B7.out.size)) (by omega)).mono ?_; rintro e w' ⟨rfl, rfl⟩)
            | (go_at_call 8; refine (works_any _).mono ?_; rintro e w9 ⟨rfl, hb9⟩))
          go_ret
          exact ⟨rfl, B7.out.trans (hb9.mono B7.out.size)⟩
        rw [decide_eq_true t2] at s2
        have s2' : (z3.toList != z4.toList) = false := by simp only [bne, s2]; rfl
        rcases t3 : decide (tried ∈ vs) with _ | _
        case true =>
          have hN : nextR pd ps vs ds ss tried mine = (0, 6) := by unfold nextR; rw [if_pos ⟨t1, t2⟩, if_pos (of_decide_eq_true t3)]
          rw [hN]
          clear t1 t2 hN
          go_wp2_with fail
          refine (rchoose_any Am Av cm cv mine vs _ (by exact ((Rm.out.below B7.out (Nat.le_refl _)).mono B7.out.size)) (by exact ((Rv.out.below B7.out (Nat.le_refl _)).mono B7.out.size)) (by omega) (by omega) Ym.out).mono ?_
          rintro e w' ⟨rfl, rfl⟩
          unfold chsV
          go_wp2_with (first
            | (go_at_call 15; refine (has_any Av cv vs tried _ (by exact ((Rv.out.below B7.out (Nat.le_refl _)).mono B7.out.size)) (by omega)).mono ?_; rintro e w' ⟨rfl, rfl⟩)
            | (go_at_call 8; refine (works_any _).mono ?_; rintro e w9 ⟨rfl, hb9⟩))
          go_ret
          exact ⟨rfl, B7.out.trans (hb9.mono B7.out.size)⟩
        rcases t4 : chs mine vs with _ | v
        · have hN : nextR pd ps vs ds ss tried mine = (0, 4) := by unfold nextR; rw [if_pos ⟨t1, t2⟩, if_neg (of_decide_eq_false t3), t4]
          rw [hN]
          have T4 := Lib.hid t4
          clear t1 t2 hN t4
          go_wp2_with fail
          refine (rchoose_any Am Av cm cv mine vs _ (by exact ((Rm.out.below B7.out (Nat.le_refl _)).mono B7.out.size)) (by exact ((Rv.out.below B7.out (Nat.le_refl _)).mono B7.out.size)) (by omega) (by omega) Ym.out).mono ?_
          rintro e w' ⟨rfl, rfl⟩
          rw [T4.out]
          unfold chsV
          go_wp2_with (first
            | (go_at_call 15; refine (has_any Av cv vs tried _ (by exact ((Rv.out.below B7.out (Nat.le_refl _)).mono B7.out.size)) (by omega)).mono ?_; rintro e w' ⟨rfl, rfl⟩)
            | (go_at_call 8; refine (works_any _).mono ?_; rintro e w9 ⟨rfl, hb9⟩))
          go_ret
          exact ⟨rfl, B7.out.trans (hb9.mono B7.out.size)⟩
        · have hN : nextR pd ps vs ds ss tried mine = (v, 0) := by unfold nextR; rw [if_pos ⟨t1, t2⟩, if_neg (of_decide_eq_false t3), t4]
          rw [hN]
          have T4 := Lib.hid t4
          clear t1 t2 hN t4
          go_wp2_with fail
          refine (rchoose_any Am Av cm cv mine vs _ (by exact ((Rm.out.below B7.out (Nat.le_refl _)).mono B7.out.size)) (by exact ((Rv.out.below B7.out (Nat.le_refl _)).mono B7.out.size)) (by omega) (by omega) Ym.out).mono ?_
          rintro e w' ⟨rfl, rfl⟩
          rw [T4.out]
          unfold chsV
          go_wp2_with (first
            | (go_at_call 15; refine (has_any Av cv vs tried _ (by exact ((Rv.out.below B7.out (Nat.le_refl _)).mono B7.out.size)) (by omega)).mono ?_; rintro e w' ⟨rfl, rfl⟩)
            | (go_at_call 8; refine (works_any _).mono ?_; rintro e w9 ⟨rfl, hb9⟩))
          go_ret
          exact ⟨rfl, B7.out.trans (hb9.mono B7.out.size)⟩
    have HR := Lib.hid (reply_some A0 Am c0 cm b mine d s _ ((R0.out.below B0.out (Nat.le_refl _)).mono B0.out.size) ((Rm.out.below B0.out (Nat.le_refl _)).mono B0.out.size) Y0.out Ym.out (by omega) hc0 (by omega) HSP.out (by omega) Q2.out (of_decide_eq_false q3))
    by_cases q4 : 1 ≤ mine.length ∧ mine.length ≤ 64
    case neg =>
      refine HR.out.mono ?_
      rintro e w1 ⟨-, h1⟩
      obtain ⟨rfl, hb1⟩ := h1 q4
      have B1 := Lib.hid (B0.out.trans (hb1.mono B0.out.size))
      have X1 := Lib.hid (Blk.below X0.out hb1 (Blk.lt X0.out))
      clear hb1 h1 HR
      go_wp2_with fail
      refine (HB.out _ (by exact ((R0.out.below B1.out (Nat.le_refl _)).mono B1.out.size)) Y0.out (by omega) hc0).mono ?_
      intro e w2 h2
      rw [HSP.out] at h2
      obtain ⟨A2, c2, A3, c3, n, rfl, -, -, -, -, -, -, rfl⟩ := h2
      have B2 := Lib.hid (below_drewN B1.out n)
      have X2 := Lib.hid (Blk.drewN X1.out n)
      generalize w1.drewN n = w2 at *
      go_wp2_with fail
      refine (has_any Am cm mine _ _ (by exact ((Rm.out.below B2.out (Nat.le_refl _)).mono B2.out.size)) (by omega)).mono ?_
      rintro e w' ⟨rfl, rfl⟩
      rcases beq_ways (mine.length : Int) 0 with ⟨q5, Q5⟩ | ⟨q5, Q5⟩
      · clear q4
        as_aux_lemma =>
          have x0 := Blk.cell X2.out 0
          have x1 := Blk.cell X2.out 1
          have x2 := Blk.cell X2.out 2
          simp at x0 x1 x2
          go_wp2_with fail
          refine (next_any Ap As Av Ad Ar Am cp cs cv cd cr cm pd ps vs ds ss tried mine _ (by exact ((Rp.out.below B2.out (Nat.le_refl _)).mono B2.out.size)) (by exact ((Rs.out.below B2.out (Nat.le_refl _)).mono B2.out.size)) (by exact ((Rv.out.below B2.out (Nat.le_refl _)).mono B2.out.size)) (by exact ((Rd.out.below B2.out (Nat.le_refl _)).mono B2.out.size)) (by exact ((Rr.out.below B2.out (Nat.le_refl _)).mono B2.out.size)) (by exact ((Rm.out.below B2.out (Nat.le_refl _)).mono B2.out.size)) Yp.out Ys.out Yd.out Yr.out (by omega) (by omega)).mono ?_
          rintro e w7 ⟨rfl, hb7⟩
          have B7 := Lib.hid (B2.out.trans (hb7.mono B2.out.size))
          have X7 := Lib.hid (Blk.below X2.out hb7 (Blk.lt X2.out))
          clear x0 x1 x2 hb7
          have x0 := Blk.cell X7.out 0
          have x1 := Blk.cell X7.out 1
          have x2 := Blk.cell X7.out 2
          simp at x0 x1 x2
          have v1 := conv_rd elU8 Try.underlying9 ((Rp.out.below B7.out (Nat.le_refl _)).mono B7.out.size) cp
          have v2 := conv_rd elU8 Try.underlying9 ((Rr.out.below B7.out (Nat.le_refl _)).mono B7.out.size) cr
          have v3 := conv_rd elU8 Try.underlying9 ((Rs.out.below B7.out (Nat.le_refl _)).mono B7.out.size) cs
          have v4 := conv_rd elU8 Try.underlying9 ((Rd.out.below B7.out (Nat.le_refl _)).mono B7.out.size) cd
          have s1 := str_eq Yp.out Yr.out
          have s2 := str_eq Ys.out Yd.out
          generalize strOfNums pd = z1 at *
          generalize strOfNums ss = z2 at *
          generalize strOfNums ps = z3 at *
          generalize strOfNums ds = z4 at *
          by_cases t1 : pd = ss
          case neg =>
            rw [decide_eq_false t1] at s1
            have s1' : (z1.toList != z2.toList) = true := by simp only [bne, s1]; rfl
            have hN : nextR pd ps vs ds ss tried mine = (0, 2) := by unfold nextR; rw [if_neg (fun h => t1 h.1)]
            rw [hN]
            clear t1 s2 hN
            go_wp2_with fail
            refine (rchoose_any Am Av cm cv mine vs _ (by exact ((Rm.out.below B7.out (Nat.le_refl _)).mono B7.out.size)) (by exact ((Rv.out.below B7.out (Nat.le_refl _)).mono B7.out.size)) (by omega) (by omega) Ym.out).mono ?_
            rintro e w' ⟨rfl, rfl⟩
            unfold chsV
            go_wp2_with (first
              | (go_at_call 15; refine (has_any Av cv vs tried _ (by exact ((Rv.out.below B7.out (Nat.le_refl _)).mono B7.out.size)) (by omega)).mono ?_; rintro e w' ⟨rfl, rfl⟩)
              | (go_at_call 8; refine (works_any _).mono ?_; rintro e w9 ⟨rfl, hb9⟩))
            go_ret
            exact ⟨rfl, B7.out.trans (hb9.mono B7.out.size)⟩
          rw [decide_eq_true t1] at s1
          have s1' : (z1.toList != z2.toList) = false := by simp only [bne, s1]; rfl
          by_cases t2 : ps = ds
          case neg =>
            rw [decide_eq_false t2] at s2
            have s2' : (z3.toList != z4.toList) = true := by simp only [bne, s2]; rfl
            have hN : nextR pd ps vs ds ss tried mine = (0, 2) := by unfold nextR; rw [if_neg (fun h => t2 h.2)]
            rw [hN]
            clear t1 t2 hN
            go_wp2_with fail
            refine (rchoose_any Am Av cm cv mine vs _ (by exact ((Rm.out.below B7.out (Nat.le_refl _)).mono B7.out.size)) (by exact ((Rv.out.below B7.out (Nat.le_refl _)).mono B7.out.size)) (by omega) (by omega) Ym.out).mono ?_
            rintro e w' ⟨rfl, rfl⟩
            unfold chsV
            go_wp2_with (first
              | (go_at_call 15; refine (has_any Av cv vs tried _ (by exact ((Rv.out.below B7.out (Nat.le_refl _)).mono B7.out.size)) (by omega)).mono ?_; rintro e w' ⟨rfl, rfl⟩)
              | (go_at_call 8; refine (works_any _).mono ?_; rintro e w9 ⟨rfl, hb9⟩))
            go_ret
            exact ⟨rfl, B7.out.trans (hb9.mono B7.out.size)⟩
          rw [decide_eq_true t2] at s2
          have s2' : (z3.toList != z4.toList) = false := by simp only [bne, s2]; rfl
          rcases t3 : decide (tried ∈ vs) with _ | _
          case true =>
            have hN : nextR pd ps vs ds ss tried mine = (0, 6) := by unfold nextR; rw [if_pos ⟨t1, t2⟩, if_pos (of_decide_eq_true t3)]
            rw [hN]
            clear t1 t2 hN
            go_wp2_with fail
            refine (rchoose_any Am Av cm cv mine vs _ (by exact ((Rm.out.below B7.out (Nat.le_refl _)).mono B7.out.size)) (by exact ((Rv.out.below B7.out (Nat.le_refl _)).mono B7.out.size)) (by omega) (by omega) Ym.out).mono ?_
            rintro e w' ⟨rfl, rfl⟩
            unfold chsV
            go_wp2_with (first
              | (go_at_call 15; refine (has_any Av cv vs tried _ (by exact ((Rv.out.below B7.out (Nat.le_refl _)).mono B7.out.size)) (by omega)).mono ?_; rintro e w' ⟨rfl, rfl⟩)
              | (go_at_call 8; refine (works_any _).mono ?_; rintro e w9 ⟨rfl, hb9⟩))
            go_ret
            exact ⟨rfl, B7.out.trans (hb9.mono B7.out.size)⟩
          rcases t4 : chs mine vs with _ | v
          · have hN : nextR pd ps vs ds ss tried mine = (0, 4) := by unfold nextR; rw [if_pos ⟨t1, t2⟩, if_neg (of_decide_eq_false t3), t4]
            rw [hN]
            have T4 := Lib.hid t4
            clear t1 t2 hN t4
            go_wp2_with fail
            refine (rchoose_any Am Av cm cv mine vs _ (by exact ((Rm.out.below B7.out (Nat.le_refl _)).mono B7.out.size)) (by exact ((Rv.out.below B7.out (Nat.le_refl _)).mono B7.out.size)) (by omega) (by omega) Ym.out).mono ?_
            rintro e w' ⟨rfl, rfl⟩
            rw [T4.out]
            unfold chsV
            go_wp2_with (first
              | (go_at_call 15; refine (has_any Av cv vs tried _ (by exact ((Rv.out.below B7.out (Nat.le_refl _)).mono B7.out.size)) (by omega)).mono ?_; rintro e w' ⟨rfl, rfl⟩)
              | (go_at_call 8; refine (works_any _).mono ?_; rintro e w9 ⟨rfl, hb9⟩))
            go_ret
            exact ⟨rfl, B7.out.trans (hb9.mono B7.out.size)⟩
          · have hN : nextR pd ps vs ds ss tried mine = (v, 0) := by unfold nextR; rw [if_pos ⟨t1, t2⟩, if_neg (of_decide_eq_false t3), t4]
            rw [hN]
            have T4 := Lib.hid t4
            clear t1 t2 hN t4
            go_wp2_with fail
            refine (rchoose_any Am Av cm cv mine vs _ (by exact ((Rm.out.below B7.out (Nat.le_refl _)).mono B7.out.size)) (by exact ((Rv.out.below B7.out (Nat.le_refl _)).mono B7.out.size)) (by omega) (by omega) Ym.out).mono ?_
            rintro e w' ⟨rfl, rfl⟩
            rw [T4.out]
            unfold chsV
            go_wp2_with (first
              | (go_at_call 15; refine (has_any Av cv vs tried _ (by exact ((Rv.out.below B7.out (Nat.le_refl _)).mono B7.out.size)) (by omega)).mono ?_; rintro e w' ⟨rfl, rfl⟩)
              | (go_at_call 8; refine (works_any _).mono ?_; rintro e w9 ⟨rfl, hb9⟩))
            go_ret
            exact ⟨rfl, B7.out.trans (hb9.mono B7.out.size)⟩
      · have q6 : 64 < mine.length := by have := Q5.out; omega
        clear q4
        as_aux_lemma =>
          have x0 := Blk.cell X2.out 0
          have x1 := Blk.cell X2.out 1
          have x2 := Blk.cell X2.out 2
          simp at x0 x1 x2
          go_wp2_with fail
          refine (next_any Ap As Av Ad Ar Am cp cs cv cd cr cm pd ps vs ds ss tried mine _ (by exact ((Rp.out.below B2.out (Nat.le_refl _)).mono B2.out.size)) (by exact ((Rs.out.below B2.out (Nat.le_refl _)).mono B2.out.size)) (by exact ((Rv.out.below B2.out (Nat.le_refl _)).mono B2.out.size)) (by exact ((Rd.out.below B2.out (Nat.le_refl _)).mono B2.out.size)) (by exact ((Rr.out.below B2.out (Nat.le_refl _)).mono B2.out.size)) (by exact ((Rm.out.below B2.out (Nat.le_refl _)).mono B2.out.size)) Yp.out Ys.out Yd.out Yr.out (by omega) (by omega)).mono ?_
          rintro e w7 ⟨rfl, hb7⟩
          have B7 := Lib.hid (B2.out.trans (hb7.mono B2.out.size))
          have X7 := Lib.hid (Blk.below X2.out hb7 (Blk.lt X2.out))
          clear x0 x1 x2 hb7
          have x0 := Blk.cell X7.out 0
          have x1 := Blk.cell X7.out 1
          have x2 := Blk.cell X7.out 2
          simp at x0 x1 x2
          have v1 := conv_rd elU8 Try.underlying9 ((Rp.out.below B7.out (Nat.le_refl _)).mono B7.out.size) cp
          have v2 := conv_rd elU8 Try.underlying9 ((Rr.out.below B7.out (Nat.le_refl _)).mono B7.out.size) cr
          have v3 := conv_rd elU8 Try.underlying9 ((Rs.out.below B7.out (Nat.le_refl _)).mono B7.out.size) cs
          have v4 := conv_rd elU8 Try.underlying9 ((Rd.out.below B7.out (Nat.le_refl _)).mono B7.out.size) cd
          have s1 := str_eq Yp.out Yr.out
          have s2 := str_eq Ys.out Yd.out
          generalize strOfNums pd = z1 at *
          generalize strOfNums ss = z2 at *
          generalize strOfNums ps = z3 at *
          generalize strOfNums ds = z4 at *
          by_cases t1 : pd = ss
          case neg =>
            rw [decide_eq_false t1] at s1
            have s1' : (z1.toList != z2.toList) = true := by simp only [bne, s1]; rfl
            have hN : nextR pd ps vs ds ss tried mine = (0, 2) := by unfold nextR; rw [if_neg (fun h => t1 h.1)]
            rw [hN]
            clear t1 s2 hN
            go_wp2_with fail
            refine (rchoose_any Am Av cm cv mine vs _ (by exact ((Rm.out.below B7.out (Nat.le_refl _)).mono B7.out.size)) (by exact ((Rv.out.below B7.out (Nat.le_refl _)).mono B7.out.size)) (by omega) (by omega) Ym.out).mono ?_
            rintro e w' ⟨rfl, rfl⟩
            unfold chsV
            go_wp2_with (first
              | (go_at_call 15; refine (has_any Av cv vs tried _ (by exact ((Rv.out.below B7.out (Nat.le_refl _)).mono B7.out.size)) (by omega)).mono ?_; rintro e w' ⟨rfl, rfl⟩)
              | (go_at_call 8; refine (works_any _).mono ?_; rintro e w9 ⟨rfl, hb9⟩))
            go_ret
            exact ⟨rfl, B7.out.trans (hb9.mono B7.out.size)⟩
          rw [decide_eq_true t1] at s1
          have s1' : (z1.toList != z2.toList) = false := by simp only [bne, s1]; rfl
          by_cases t2 : ps = ds
          case neg =>
            rw [decide_eq_false t2] at s2
            have s2' : (z3.toList != z4.toList) = true := by simp only [bne, s2]; rfl
            have hN : nextR pd ps vs ds ss tried mine = (0, 2) := by unfold nextR; rw [if_neg (fun h => t2 h.2)]
            rw [hN]
            clear t1 t2 hN
            go_wp2_with fail
            refine (rchoose_any Am Av cm cv mine vs _ (by exact ((Rm.out.below B7.out (Nat.le_refl _)).mono B7.out.size)) (by exact ((Rv.out.below B7.out (Nat.le_refl _)).mono B7.out.size)) (by omega) (by omega) Ym.out).mono ?_
            rintro e w' ⟨rfl, rfl⟩
            unfold chsV
            go_wp2_with (first
              | (go_at_call 15; refine (has_any Av cv vs tried _ (by exact ((Rv.out.below B7.out (Nat.le_refl _)).mono B7.out.size)) (by omega)).mono ?_; rintro e w' ⟨rfl, rfl⟩)
              | (go_at_call 8; refine (works_any _).mono ?_; rintro e w9 ⟨rfl, hb9⟩))
            go_ret
            exact ⟨rfl, B7.out.trans (hb9.mono B7.out.size)⟩
          rw [decide_eq_true t2] at s2
          have s2' : (z3.toList != z4.toList) = false := by simp only [bne, s2]; rfl
          rcases t3 : decide (tried ∈ vs) with _ | _
          case true =>
            have hN : nextR pd ps vs ds ss tried mine = (0, 6) := by unfold nextR; rw [if_pos ⟨t1, t2⟩, if_pos (of_decide_eq_true t3)]
            rw [hN]
            clear t1 t2 hN
            go_wp2_with fail
            refine (rchoose_any Am Av cm cv mine vs _ (by exact ((Rm.out.below B7.out (Nat.le_refl _)).mono B7.out.size)) (by exact ((Rv.out.below B7.out (Nat.le_refl _)).mono B7.out.size)) (by omega) (by omega) Ym.out).mono ?_
            rintro e w' ⟨rfl, rfl⟩
            unfold chsV
            go_wp2_with (first
              | (go_at_call 15; refine (has_any Av cv vs tried _ (by exact ((Rv.out.below B7.out (Nat.le_refl _)).mono B7.out.size)) (by omega)).mono ?_; rintro e w' ⟨rfl, rfl⟩)
              | (go_at_call 8; refine (works_any _).mono ?_; rintro e w9 ⟨rfl, hb9⟩))
            go_ret
            exact ⟨rfl, B7.out.trans (hb9.mono B7.out.size)⟩
          rcases t4 : chs mine vs with _ | v
          · have hN : nextR pd ps vs ds ss tried mine = (0, 4) := by unfold nextR; rw [if_pos ⟨t1, t2⟩, if_neg (of_decide_eq_false t3), t4]
            rw [hN]
            have T4 := Lib.hid t4
            clear t1 t2 hN t4
            go_wp2_with fail
            refine (rchoose_any Am Av cm cv mine vs _ (by exact ((Rm.out.below B7.out (Nat.le_refl _)).mono B7.out.size)) (by exact ((Rv.out.below B7.out (Nat.le_refl _)).mono B7.out.size)) (by omega) (by omega) Ym.out).mono ?_
            rintro e w' ⟨rfl, rfl⟩
            rw [T4.out]
            unfold chsV
            go_wp2_with (first
              | (go_at_call 15; refine (has_any Av cv vs tried _ (by exact ((Rv.out.below B7.out (Nat.le_refl _)).mono B7.out.size)) (by omega)).mono ?_; rintro e w' ⟨rfl, rfl⟩)
              | (go_at_call 8; refine (works_any _).mono ?_; rintro e w9 ⟨rfl, hb9⟩))
            go_ret
            exact ⟨rfl, B7.out.trans (hb9.mono B7.out.size)⟩
          · have hN : nextR pd ps vs ds ss tried mine = (v, 0) := by unfold nextR; rw [if_pos ⟨t1, t2⟩, if_neg (of_decide_eq_false t3), t4]
            rw [hN]
            have T4 := Lib.hid t4
            clear t1 t2 hN t4
            go_wp2_with fail
            refine (rchoose_any Am Av cm cv mine vs _ (by exact ((Rm.out.below B7.out (Nat.le_refl _)).mono B7.out.size)) (by exact ((Rv.out.below B7.out (Nat.le_refl _)).mono B7.out.size)) (by omega) (by omega) Ym.out).mono ?_
            rintro e w' ⟨rfl, rfl⟩
            rw [T4.out]
            unfold chsV
            go_wp2_with (first
              | (go_at_call 15; refine (has_any Av cv vs tried _ (by exact ((Rv.out.below B7.out (Nat.le_refl _)).mono B7.out.size)) (by omega)).mono ?_; rintro e w' ⟨rfl, rfl⟩)
              | (go_at_call 8; refine (works_any _).mono ?_; rintro e w9 ⟨rfl, hb9⟩))
            go_ret
            exact ⟨rfl, B7.out.trans (hb9.mono B7.out.size)⟩
    case pos =>
      refine HR.out.mono ?_
      rintro e w1 ⟨h1, -⟩
      obtain ⟨A4, n4, c4, rfl, o4, hb1⟩ := h1 q4
      have O4 := Lib.hid o4
      have B1 := Lib.hid (B0.out.trans (hb1.mono B0.out.size))
      have X1 := Lib.hid (Blk.below X0.out hb1 (Blk.lt X0.out))
      clear hb1 h1 HR o4
      go_wp2_with fail
      refine (HB.out _ (by exact ((R0.out.below B1.out (Nat.le_refl _)).mono B1.out.size)) Y0.out (by omega) hc0).mono ?_
      intro e w2 h2
      rw [HSP.out] at h2
      obtain ⟨A2, c2, A3, c3, n, rfl, i1, i2, i3, i4, i5, i6, rfl⟩ := h2
      have B2 := Lib.hid (below_drewN B1.out n)
      have X2 := Lib.hid (Blk.drewN X1.out n)
      have O2 := Lib.hid (O4.out.drewN n)
      have I1 := Lib.hid (i1.drewN n)
      have I3 := Lib.hid (i3.drewN n)
      have hz : Hid ((w1.drewN n).heap.size = w1.heap.size) := Lib.hid rfl
      have I2 := Lib.hid i2
      have I4 := Lib.hid i4
      clear i1 i3 i2 i4
      generalize w1.drewN n = w2 at *
      go_wp2_with fail
      refine (has_any Am cm mine _ _ (by exact ((Rm.out.below B2.out (Nat.le_refl _)).mono B2.out.size)) (by omega)).mono ?_
      rintro e w' ⟨rfl, rfl⟩
      have q5 : ((mine.length : Int) == 0) = false := by rw [beq_eq_false_iff_ne]; omega
      have q6 : decide (64 < mine.length) = false := decide_eq_false (by omega)
      have cc := conv_own elU8 Try.underlying9 O2.out
      have HBy := Lib.hid (fun w => bytes_n 192 A3 A2 Am s d c3 c2 cm (srcL b d s) (dstL b d) mine w I4.out.symm I2.out.symm)
      generalize putL 192 (srcL b d s) (dstL b d) mine = LL at *
      have ee : ((strOfNums LL).toList == (strOfNums LL).toList) = true := by simp
      have ee' : ((strOfNums LL).toList != (strOfNums LL).toList) = false := by simp
      have cdr := conv_own elU8 Try.underlying9 O2.out.drew
      have HCV := Lib.hid (fun (B : Nat) (w : World) (A : Option Addr) (n c : Nat) (h : Own B 5 .u8 w A n c LL) => conv_own elU8 Try.underlying9 h)
      generalize strOfNums LL = zz at *
      go_wp2_with fail
      go_region_with ((go_at_call 16; refine (HBy.out _ (by exact I3.out.drew.mono (by have := hz.out; simp; omega)) (by exact I1.out.drew.mono (by have := hz.out; simp; omega)) (by exact ((Rm.out.below B2.out (Nat.le_refl _)).mono B2.out.size).drew.mono (by simp)) Ym.out (by omega) (by omega) (by omega)).mono ?_; rintro e w3 ⟨A8, n8, c8, rfl, o8, hb8⟩; have k8 := HCV.out _ _ _ _ _ o8; have k9 := HCV.out _ _ _ _ _ (O2.out.drew.below (by exact hb8)); have B3 := Lib.hid (B2.out.drew.trans (hb8.mono B2.out.size)); have X3 := Lib.hid (Blk.below (Blk.drew X2.out) hb8 (Blk.lt X2.out)); clear o8 hb8))
      all_goals clear k8 k9 ee ee' cc cdr
      all_goals
        as_aux_lemma =>
          have x0 := Blk.cell X3.out 0
          have x1 := Blk.cell X3.out 1
          have x2 := Blk.cell X3.out 2
          simp at x0 x1 x2
          go_wp2_with fail
          refine (next_any Ap As Av Ad Ar Am cp cs cv cd cr cm pd ps vs ds ss tried mine _ (by exact ((Rp.out.below B3.out (Nat.le_refl _)).mono B3.out.size)) (by exact ((Rs.out.below B3.out (Nat.le_refl _)).mono B3.out.size)) (by exact ((Rv.out.below B3.out (Nat.le_refl _)).mono B3.out.size)) (by exact ((Rd.out.below B3.out (Nat.le_refl _)).mono B3.out.size)) (by exact ((Rr.out.below B3.out (Nat.le_refl _)).mono B3.out.size)) (by exact ((Rm.out.below B3.out (Nat.le_refl _)).mono B3.out.size)) Yp.out Ys.out Yd.out Yr.out (by omega) (by omega)).mono ?_
          rintro e w7 ⟨rfl, hb7⟩
          have B7 := Lib.hid (B3.out.trans (hb7.mono B3.out.size))
          have X7 := Lib.hid (Blk.below X3.out hb7 (Blk.lt X3.out))
          clear x0 x1 x2 hb7
          have x0 := Blk.cell X7.out 0
          have x1 := Blk.cell X7.out 1
          have x2 := Blk.cell X7.out 2
          simp at x0 x1 x2
          have v1 := conv_rd elU8 Try.underlying9 ((Rp.out.below B7.out (Nat.le_refl _)).mono B7.out.size) cp
          have v2 := conv_rd elU8 Try.underlying9 ((Rr.out.below B7.out (Nat.le_refl _)).mono B7.out.size) cr
          have v3 := conv_rd elU8 Try.underlying9 ((Rs.out.below B7.out (Nat.le_refl _)).mono B7.out.size) cs
          have v4 := conv_rd elU8 Try.underlying9 ((Rd.out.below B7.out (Nat.le_refl _)).mono B7.out.size) cd
          have s1 := str_eq Yp.out Yr.out
          have s2 := str_eq Ys.out Yd.out
          generalize strOfNums pd = z1 at *
          generalize strOfNums ss = z2 at *
          generalize strOfNums ps = z3 at *
          generalize strOfNums ds = z4 at *
          by_cases t1 : pd = ss
          case neg =>
            rw [decide_eq_false t1] at s1
            have s1' : (z1.toList != z2.toList) = true := by simp only [bne, s1]; rfl
            have hN : nextR pd ps vs ds ss tried mine = (0, 2) := by unfold nextR; rw [if_neg (fun h => t1 h.1)]
            rw [hN]
            clear t1 s2 hN
            go_wp2_with fail
            refine (rchoose_any Am Av cm cv mine vs _ (by exact ((Rm.out.below B7.out (Nat.le_refl _)).mono B7.out.size)) (by exact ((Rv.out.below B7.out (Nat.le_refl _)).mono B7.out.size)) (by omega) (by omega) Ym.out).mono ?_
            rintro e w' ⟨rfl, rfl⟩
            unfold chsV
            go_wp2_with (first
              | (go_at_call 15; refine (has_any Av cv vs tried _ (by exact ((Rv.out.below B7.out (Nat.le_refl _)).mono B7.out.size)) (by omega)).mono ?_; rintro e w' ⟨rfl, rfl⟩)
              | (go_at_call 8; refine (works_any _).mono ?_; rintro e w9 ⟨rfl, hb9⟩))
            go_ret
            exact ⟨rfl, B7.out.trans (hb9.mono B7.out.size)⟩
          rw [decide_eq_true t1] at s1
          have s1' : (z1.toList != z2.toList) = false := by simp only [bne, s1]; rfl
          by_cases t2 : ps = ds
          case neg =>
            rw [decide_eq_false t2] at s2
            have s2' : (z3.toList != z4.toList) = true := by simp only [bne, s2]; rfl
            have hN : nextR pd ps vs ds ss tried mine = (0, 2) := by unfold nextR; rw [if_neg (fun h => t2 h.2)]
            rw [hN]
            clear t1 t2 hN
            go_wp2_with fail
            refine (rchoose_any Am Av cm cv mine vs _ (by exact ((Rm.out.below B7.out (Nat.le_refl _)).mono B7.out.size)) (by exact ((Rv.out.below B7.out (Nat.le_refl _)).mono B7.out.size)) (by omega) (by omega) Ym.out).mono ?_
            rintro e w' ⟨rfl, rfl⟩
            unfold chsV
            go_wp2_with (first
              | (go_at_call 15; refine (has_any Av cv vs tried _ (by exact ((Rv.out.below B7.out (Nat.le_refl _)).mono B7.out.size)) (by omega)).mono ?_; rintro e w' ⟨rfl, rfl⟩)
              | (go_at_call 8; refine (works_any _).mono ?_; rintro e w9 ⟨rfl, hb9⟩))
            go_ret
            exact ⟨rfl, B7.out.trans (hb9.mono B7.out.size)⟩
          rw [decide_eq_true t2] at s2
          have s2' : (z3.toList != z4.toList) = false := by simp only [bne, s2]; rfl
          rcases t3 : decide (tried ∈ vs) with _ | _
          case true =>
            have hN : nextR pd ps vs ds ss tried mine = (0, 6) := by unfold nextR; rw [if_pos ⟨t1, t2⟩, if_pos (of_decide_eq_true t3)]
            rw [hN]
            clear t1 t2 hN
            go_wp2_with fail
            refine (rchoose_any Am Av cm cv mine vs _ (by exact ((Rm.out.below B7.out (Nat.le_refl _)).mono B7.out.size)) (by exact ((Rv.out.below B7.out (Nat.le_refl _)).mono B7.out.size)) (by omega) (by omega) Ym.out).mono ?_
            rintro e w' ⟨rfl, rfl⟩
            unfold chsV
            go_wp2_with (first
              | (go_at_call 15; refine (has_any Av cv vs tried _ (by exact ((Rv.out.below B7.out (Nat.le_refl _)).mono B7.out.size)) (by omega)).mono ?_; rintro e w' ⟨rfl, rfl⟩)
              | (go_at_call 8; refine (works_any _).mono ?_; rintro e w9 ⟨rfl, hb9⟩))
            go_ret
            exact ⟨rfl, B7.out.trans (hb9.mono B7.out.size)⟩
          rcases t4 : chs mine vs with _ | v
          · have hN : nextR pd ps vs ds ss tried mine = (0, 4) := by unfold nextR; rw [if_pos ⟨t1, t2⟩, if_neg (of_decide_eq_false t3), t4]
            rw [hN]
            have T4 := Lib.hid t4
            clear t1 t2 hN t4
            go_wp2_with fail
            refine (rchoose_any Am Av cm cv mine vs _ (by exact ((Rm.out.below B7.out (Nat.le_refl _)).mono B7.out.size)) (by exact ((Rv.out.below B7.out (Nat.le_refl _)).mono B7.out.size)) (by omega) (by omega) Ym.out).mono ?_
            rintro e w' ⟨rfl, rfl⟩
            rw [T4.out]
            unfold chsV
            go_wp2_with (first
              | (go_at_call 15; refine (has_any Av cv vs tried _ (by exact ((Rv.out.below B7.out (Nat.le_refl _)).mono B7.out.size)) (by omega)).mono ?_; rintro e w' ⟨rfl, rfl⟩)
              | (go_at_call 8; refine (works_any _).mono ?_; rintro e w9 ⟨rfl, hb9⟩))
            go_ret
            exact ⟨rfl, B7.out.trans (hb9.mono B7.out.size)⟩
          · have hN : nextR pd ps vs ds ss tried mine = (v, 0) := by unfold nextR; rw [if_pos ⟨t1, t2⟩, if_neg (of_decide_eq_false t3), t4]
            rw [hN]
            have T4 := Lib.hid t4
            clear t1 t2 hN t4
            go_wp2_with fail
            refine (rchoose_any Am Av cm cv mine vs _ (by exact ((Rm.out.below B7.out (Nat.le_refl _)).mono B7.out.size)) (by exact ((Rv.out.below B7.out (Nat.le_refl _)).mono B7.out.size)) (by omega) (by omega) Ym.out).mono ?_
            rintro e w' ⟨rfl, rfl⟩
            rw [T4.out]
            unfold chsV
            go_wp2_with (first
              | (go_at_call 15; refine (has_any Av cv vs tried _ (by exact ((Rv.out.below B7.out (Nat.le_refl _)).mono B7.out.size)) (by omega)).mono ?_; rintro e w' ⟨rfl, rfl⟩)
              | (go_at_call 8; refine (works_any _).mono ?_; rintro e w9 ⟨rfl, hb9⟩))
            go_ret
            exact ⟨rfl, B7.out.trans (hb9.mono B7.out.size)⟩
end Go.Proofs.Ytakmaocfcmdpmaa
