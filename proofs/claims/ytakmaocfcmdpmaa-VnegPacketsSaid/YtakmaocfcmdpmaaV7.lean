/- Contracts: vneg.split. Conditions: as each theorem states them. -/
import Derived.Test.YtakmaocfcmdpmaaV6
namespace Go.Proofs.Ytakmaocfcmdpmaa
open Go.RowKit

theorem and128 (x : Int) (h0 : 0 ≤ x) (h1 : x < 256) : (bits .and .u8 x 128 == 0) = decide (x < 128) := by
  obtain ⟨n, rfl⟩ := Int.eq_ofNat_of_zero_le h0
  have e : bits .and .u8 (n : Int) 128 = ((n &&& 128 : Nat) : Int) := bits_and_u8_nat n 128 (by omega) (by omega)
  have h : ∀ n : Nat, n < 256 → ((n &&& 128) == 0) = decide (n < 128) := by decide +kernel
  have hn := h n (by omega)
  rw [e, Bool.eq_iff_iff] at *
  simp only [beq_iff_eq, decide_eq_true_eq] at *
  omega

/-- the lengths of the two ids of a long packet's beginning -/
def spl (b : List Int) : Option (Nat × Nat) :=
  if b.length < 6 ∨ b.getD 0 0 < 128 then none else if b.length ≤ 6 + (b.getD 5 0).toNat then none
  else if b.length < 7 + (b.getD 5 0).toNat + (b.getD (6 + (b.getD 5 0).toNat) 0).toNat then none else some ((b.getD 5 0).toNat, (b.getD (6 + (b.getD 5 0).toNat) 0).toNat)
def ver (b : List Int) : Int := wd ((b.drop 1).take 4)
def dstL (b : List Int) (d : Nat) : List Int := (b.drop 6).take d
def srcL (b : List Int) (d s : Nat) : List Int := (b.drop (7 + d)).take s
theorem getD_drop (b : List Int) (i j : Nat) : (b.drop i).getD j 0 = b.getD (i + j) 0 := by
  rw [List.getD_eq_getElem?_getD, List.getElem?_drop, List.getD_eq_getElem?_getD]

def SplNo (w : World) (e : Ending) (w' : World) : Prop := ∃ v1 v2 v3 v4, e = .returned (.tuple #[v1, v2, v3, v4, .bool false]) ∧ Below w.heap.size w w'
def SplYes (b : List Int) (d s : Nat) (w : World) (e : Ending) (w' : World) : Prop :=
  ∃ A2 n2 c2 A3 n3 c3 A4 n4 c4, e = .returned (.tuple #[.int .u32 (ver b), .slice A2 n2 c2, .slice A3 n3 c3, .slice A4 n4 c4, .bool true]) ∧
    Own w.heap.size 5 .u8 w' A2 n2 c2 (dstL b d) ∧ Own w.heap.size 5 .u8 w' A3 n3 c3 (srcL b d s) ∧ Rd w.heap.size .u8 w' A4 (b.drop (7 + d + s)) ∧ n4 = (b.drop (7 + d + s)).length ∧ n4 ≤ c4 ∧ Below w.heap.size w w'

theorem results_split {fn : Func} {t u v x y : Tmp} (h : fn.results = #[.tmp t, .tmp u, .tmp v, .cell x 30, .cell y 4]) (tmps : Array Value) (w : World) {bo br : Nat} {r o : Value} {p1 p2 : Nat} (hx : tmps.getD x undef = .pointer (some ⟨br, 0, none⟩)) (hy : tmps.getD y undef = .pointer (some ⟨bo, 0, none⟩))
    (hr : Blk w br p1 #[r]) (ho : Blk w bo p2 #[o]) : (results fn tmps).run Try.prog w = .ok (.tuple #[tmps.getD t undef, tmps.getD u undef, tmps.getD v undef, r, o]) w := by
  have a0 := Blk.cell hr 0
  have a1 := Blk.cell ho 0
  simp at a0 a1
  have hx' : tmps[x]?.getD undef = .pointer (some ⟨br, 0, none⟩) := by simpa using hx
  have hy' : tmps[y]?.getD undef = .pointer (some ⟨bo, 0, none⟩) := by simpa using hy
  simp [results, h, hx', hy', go_sem, a0, a1]

set_option maxHeartbeats 2000000 in
theorem split_short (A : Option Addr) (c : Nat) (b : List Int) (w : World) (hr : Rd w.heap.size .u8 w A b) (hb : Byt b) (hl : b.length ≤ 1099511627776) (hno : b.length < 5 ∨ b.getD 0 0 < 128) :
    Calls Try.prog 23 #[.slice A b.length c] w (SplNo w) := by
  by_cases g1 : b.length < 5
  · clear hno hr
    go_enter Try.func23, Try.ntmps23
    go_wp2_with fail
    refine bodyPost_ret (v := .tuple #[.int .u32 0, .slice none 0 0, .slice none 0 0, .slice none 0 0, .bool false]) (by simp [results, Try.results23, go_sem]) rfl ⟨_, _, _, _, rfl, ?_⟩
    (repeat' (first | with_reducible exact Below.refl _ _ | with_reducible apply Below.alloc | with_reducible apply Below.setCell)) <;> (simp <;> omega)
  · have g1' : decide (b.length < 5) = false := by simp; omega
    obtain ⟨ad, rfl, _⟩ := hr.isSome (by omega)
    have c0 := hr.at0 (by omega)
    have b0 := hb.getD 0
    have hx := hno.resolve_left g1
    have ha := and128 _ b0.1 b0.2
    generalize b.getD 0 0 = x at *
    rw [decide_eq_true hx] at ha
    clear hno hr
    go_enter Try.func23, Try.ntmps23
    go_wp2_with fail
    refine bodyPost_ret (v := .tuple #[.int .u32 0, .slice none 0 0, .slice none 0 0, .slice none 0 0, .bool false]) (by simp [results, Try.results23, go_sem]) rfl ⟨_, _, _, _, rfl, ?_⟩
    (repeat' (first | with_reducible exact Below.refl _ _ | with_reducible apply Below.alloc | with_reducible apply Below.setCell)) <;> (simp <;> omega)

theorem spl_no1 {b : List Int} (h : ¬ cidOk (b.drop 5)) : spl b = none := by
  unfold cidOk at h
  rw [getD_drop, List.length_drop] at h
  unfold spl
  split
  · rfl
  · rw [if_pos]
    rename_i h1
    by_cases g : 0 < b.length - 5
    · have : ¬ b.getD 5 0 < (b.length - 5 : Nat) := fun h' => h ⟨g, h'⟩
      omega
    · omega
theorem spl_no2 {b : List Int} {D : Nat} (hD : D = (b.getD 5 0).toNat) (h : ¬ cidOk (b.drop (6 + D))) : spl b = none := by
  unfold cidOk at h
  rw [getD_drop, List.length_drop, Nat.add_zero] at h
  unfold spl
  rw [← hD]
  split
  · rfl
  · split
    · rfl
    · rename_i h1 h2
      rw [if_pos]
      have : ¬ b.getD (6 + D) 0 < (b.length - (6 + D) : Nat) := fun h' => h ⟨by omega, h'⟩
      omega
theorem spl_yes {b : List Int} {D S : Nat} (h128 : 128 ≤ b.getD 0 0) (hD : D = (b.getD 5 0).toNat) (hS : S = (b.getD (6 + D) 0).toNat) (h1 : cidOk (b.drop 5)) (h2 : cidOk (b.drop (6 + D))) : spl b = some (D, S) := by
  unfold cidOk at h1 h2
  rw [getD_drop, List.length_drop, Nat.add_zero] at h1 h2
  unfold spl
  rw [if_neg (by omega), ← hD, ← hS, if_neg (by omega), if_neg (by omega)]
def SplPost (b : List Int) (w : World) (e : Ending) (w' : World) : Prop := (spl b = none → SplNo w e w') ∧ (∀ d s, spl b = some (d, s) → SplYes b d s w e w')

set_option maxHeartbeats 2000000 in
theorem split_long (A : Option Addr) (c : Nat) (b : List Int) (w : World) (hr : Rd w.heap.size .u8 w A b) (hb : Byt b) (hl : b.length ≤ 1099511627776) (hc : b.length ≤ c) (h5 : 5 ≤ b.length) (h128 : 128 ≤ b.getD 0 0) :
    Calls Try.prog 23 #[.slice A b.length c] w (SplPost b w) := by
  obtain ⟨ad, rfl, _⟩ := hr.isSome (by omega)
  have c0 := hr.at0 (by omega)
  have b0 := hb.getD 0
  have ha := and128 _ b0.1 b0.2
  rw [decide_eq_false (by omega)] at ha
  obtain ⟨A5, c5, h51, h52, hr5, hl5, hs5⟩ := slice_l elU8 hr hc 5 (b.length - 5) (by omega) (by omega) (by omega)
  have HX := Lib.hid (show b.getD 0 0 = b.getD 0 0 from rfl)
  generalize hx : b.getD 0 0 = x at c0 ha
  clear hx b0
  have g1' : decide (b.length < 5) = false := by simp; omega
  have HR := Lib.hid hr
  have HR5 := Lib.hid hr5
  have HL5 := Lib.hid hl5
  have HBY := Lib.hid hb
  clear hr hr5 hl5 hb
  go_enter Try.func23, Try.ntmps23
  go_wp2_with fail
  have W1 : Hid (CidSt (w.heap.size + 1) w.heap.size ((w.alloc (.cells #[.slice A5 (b.length - 5) c5] 30)).alloc (.cells #[.bool true] 4)) true A5 (b.length - 5) c5) := Lib.hid ⟨by have := Blk.new (w.alloc (.cells #[.slice A5 (b.length - 5) c5] 30)) 4 #[.bool true]; simpa using this, Blk.alloc (Blk.new _ _ _) _⟩
  have WB : Hid (Below w.heap.size w ((w.alloc (.cells #[.slice A5 (b.length - 5) c5] 30)).alloc (.cells #[.bool true] 4))) := Lib.hid (((Below.refl w.heap.size w).alloc (Nat.le_refl _) _).alloc (by simp) _)
  have WZ : Hid (((w.alloc (.cells #[.slice A5 (b.length - 5) c5] 30)).alloc (.cells #[.bool true] 4)).heap.size = w.heap.size + 2) := Lib.hid (by simp)
  generalize ((w.alloc (.cells #[.slice A5 (b.length - 5) c5] 30)).alloc (.cells #[.bool true] 4)) = w1 at *
  clear c0 g1' ha
  have HRd5 := Lib.hid (HR5.out.below WB.out (Nat.le_refl _))
  have W1' : Hid (CidSt (w.heap.size + 1) w.heap.size w1 true A5 (b.drop 5).length c5) := Lib.hid (by have := W1.out; rw [← HL5.out] at this; exact this)
  have HB5 := Lib.hid (HBY.out.drop 5)
  by_cases q1 : cidOk (b.drop 5)
  case neg =>
    have HSP := Lib.hid (spl_no1 q1)
    refine (cid_no (w.heap.size + 1) w.heap.size true A5 c5 (b.drop 5) w1 _ W1'.out HRd5.out (by omega) HB5.out (.inr q1)).mono ?_
    rintro e w2 ⟨rfl, hst2, hg2⟩
    have HST := Lib.hid hst2
    have HB2 := Lib.hid (WB.out.trans (below_of_only hg2 (by omega) WB.out.size))
    have HRd52 := Lib.hid (HR5.out.below HB2.out (Nat.le_refl _))
    clear hst2 hg2
    go_wp2_with fail
    refine (cid_no (w.heap.size + 1) w.heap.size false A5 c5 (b.drop 5) w2 _ HST.out HRd52.out (by omega) HB5.out (.inl rfl)).mono ?_
    rintro e w3 ⟨rfl, hst3, hg3⟩
    have HB := Lib.hid (HB2.out.trans (below_of_only hg3 (by omega) HB2.out.size))
    have S1 := Lib.hid hst3.1
    have S2 := Lib.hid (show Blk w3 w.heap.size 30 #[.slice A5 (b.length - 5) c5] by have h1 := HL5.out; rw [show Int.toNat 5 = 5 from rfl] at h1; rw [← h1]; exact hst3.2)
    have HR3 := Lib.hid (HR.out.below HB.out (Nat.le_refl _))
    clear hst3 hg3 q1 h128
    have y0 := Blk.cell S1.out 0
    have y1 := Blk.cell S2.out 0
    have f0 := Blk.frozen S1.out 0
    have f1 := Blk.frozen S2.out 0
    simp at y0 y1
    obtain ⟨Aw, cw, hw1, hw2, hrw, hlw, hsw⟩ := slice_lh elU8 HR3.out hc 1 5 4 (by omega) (by omega) (by omega) (by omega)
    have HRW := Lib.hid hrw
    have HLW := Lib.hid hlw
    have HBW := Lib.hid ((HBY.out.drop (Int.toNat 1)).take 4)
    clear hrw hlw
    go_wp2_with fail
    have hs0 : ∀ n, (w3.drewN n).setCell ⟨w.heap.size + 1, 0, none⟩ (.bool false) = w3.drewN n := fun n => setCell_self (by exact y0)
    have hs1 : ∀ n, (w3.drewN n).setCell ⟨w.heap.size, 0, none⟩ (.slice A5 (b.length - 5) c5) = w3.drewN n := fun n => setCell_self (by exact y1)
    go_quiet ((go_at_call 27; exact Calls.quiet_of (word_any Aw cw _ _ (by exact (HRW.out.drewN _).mono (by have := HB.out.size; simpa using this)) HBW.out HLW.out)))
    clear hs0 hs1
    go_wp2_with fail
    refine bodyPost_ret (results_split (by rfl) _ _ (bo := w.heap.size + 1) (br := w.heap.size) (r := .slice A5 (b.length - 5) c5) (o := .bool false) (p1 := 30) (p2 := 4) rfl rfl (Blk.drewN S2.out nq) (Blk.drewN S1.out nq)) rfl ?_
    refine ⟨fun _ => ⟨_, _, _, _, rfl, ?_⟩, fun d s hs => ?_⟩
    · exact below_drewN HB.out nq
    · rw [HSP.out] at hs; cases hs
  case pos =>
    refine (cid_yes (w.heap.size + 1) w.heap.size A5 c5 (b.drop 5) w1 w.heap.size W1'.out HRd5.out (by omega) (by omega) HB5.out (by simp; omega) (by have := HL5.out; rw [show Int.toNat 5 = 5 from rfl] at this; rw [this]; exact h51) q1).mono ?_
    rintro e w2 ⟨A6, n6, c6, A9, n9, c9, rfl, ho6, hst2, hr9, hn9, h92, hb2, hz2, hk2⟩
    obtain ⟨D, hD⟩ : ∃ D, D = (b.getD 5 0).toNat := ⟨_, rfl⟩
    rw [getD_drop, Nat.add_zero, ← hD, List.drop_drop] at ho6 hr9 hn9
    rw [show 5 + (1 + D) = 6 + D by omega] at hr9 hn9
    have HHD := Lib.hid hD
    have HD2 := Lib.hid ho6
    have HN9 := Lib.hid hn9
    have HZ2 := Lib.hid hz2
    have HB2 := Lib.hid (WB.out.trans (hb2.mono (by omega)))
    have HK2 := Lib.hid hk2
    have HST : Hid (CidSt (w.heap.size + 1) w.heap.size w2 true A9 (b.drop (6 + D)).length c9) := Lib.hid (by rw [hn9] at hst2; exact hst2)
    have HR9 := Lib.hid hr9
    have HB6 := Lib.hid (HBY.out.drop (6 + D))
    have HLe : Hid ((b.drop (6 + D)).length ≤ c9) := Lib.hid (by rw [hn9] at h92; exact h92)
    clear ho6 hst2 hr9 hn9 h92 hb2 hk2 hD
    go_wp2_with fail
    by_cases q2 : cidOk (b.drop (6 + D))
    case neg =>
      have HSP := Lib.hid (spl_no2 HHD.out q2)
      refine (cid_no (w.heap.size + 1) w.heap.size true A9 c9 (b.drop (6 + D)) w2 _ HST.out HR9.out (by omega) HB6.out (.inr q2)).mono ?_
      rintro e w3 ⟨rfl, hst3, hg3⟩
      have HB := Lib.hid (HB2.out.trans (below_of_only hg3 (by omega) HB2.out.size))
      have S1 := Lib.hid hst3.1
      have S2 := Lib.hid (show Blk w3 w.heap.size 30 #[.slice A9 n9 c9] by rw [HN9.out]; exact hst3.2)
      have HR3 := Lib.hid (HR.out.below HB.out (Nat.le_refl _))
      clear hst3 hg3 q1 q2 h128
      have y0 := Blk.cell S1.out 0
      have y1 := Blk.cell S2.out 0
      have f0 := Blk.frozen S1.out 0
      have f1 := Blk.frozen S2.out 0
      simp at y0 y1
      obtain ⟨Aw, cw, hw1, hw2, hrw, hlw, hsw⟩ := slice_lh elU8 HR3.out hc 1 5 4 (by omega) (by omega) (by omega) (by omega)
      have HRW := Lib.hid hrw
      have HLW := Lib.hid hlw
      have HBW := Lib.hid ((HBY.out.drop (Int.toNat 1)).take 4)
      clear hrw hlw
      go_wp2_with fail
      have hs0 : ∀ n, (w3.drewN n).setCell ⟨w.heap.size + 1, 0, none⟩ (.bool false) = w3.drewN n := fun n => setCell_self (by exact y0)
      have hs1 : ∀ n, (w3.drewN n).setCell ⟨w.heap.size, 0, none⟩ (.slice A9 n9 c9) = w3.drewN n := fun n => setCell_self (by exact y1)
      go_quiet ((go_at_call 27; exact Calls.quiet_of (word_any Aw cw _ _ (by exact (HRW.out.drewN _).mono (by have := HB.out.size; simpa using this)) HBW.out HLW.out)))
      clear hs0 hs1
      go_wp2_with fail
      refine bodyPost_ret (results_split (by rfl) _ _ (bo := w.heap.size + 1) (br := w.heap.size) (r := .slice A9 n9 c9) (o := .bool false) (p1 := 30) (p2 := 4) rfl rfl (Blk.drewN S2.out nq) (Blk.drewN S1.out nq)) rfl ?_
      refine ⟨fun _ => ⟨_, _, _, _, rfl, ?_⟩, fun d s hs => ?_⟩
      · exact below_drewN HB.out nq
      · rw [HSP.out] at hs; cases hs
    case pos =>
      obtain ⟨S, hS⟩ : ∃ S, S = (b.getD (6 + D) 0).toNat := ⟨_, rfl⟩
      have HSP := Lib.hid (spl_yes h128 HHD.out hS q1 q2)
      refine (cid_yes (w.heap.size + 1) w.heap.size A9 c9 (b.drop (6 + D)) w2 w.heap.size HST.out HR9.out (by omega) (by omega) HB6.out (by simp; omega) HLe.out q2).mono ?_
      rintro e w3 ⟨A7, n7, c7, A8, n8, c8, rfl, ho7, hst3, hr8, hn8, h82, hb3, hz3, hk3⟩
      rw [getD_drop, Nat.add_zero, ← hS, List.drop_drop] at ho7 hr8 hn8
      rw [show 6 + D + (1 + S) = 7 + D + S by omega] at hr8 hn8
      rw [show 6 + D + 1 = 7 + D by omega] at ho7
      have HB := Lib.hid (HB2.out.trans (hb3.mono (by omega)))
      have HS72 := Lib.hid ho7
      have HS7 := Lib.hid (ho7.mono (B' := w.heap.size) HB2.out.size)
      have HD := Lib.hid ((HD2.out.same (w' := w3) (fun ad hA => by have h1 := HD2.out.block ad hA; have := WZ.out; exact hk3 _ h1.2 (by omega) (by omega))).mono (B' := w.heap.size) WB.out.size)
      have S1 := Lib.hid hst3.1
      have S2 := Lib.hid hst3.2
      have HN8 := Lib.hid hn8
      have HR8 := Lib.hid hr8
      have HR3 := Lib.hid (HR.out.below HB.out (Nat.le_refl _))
      clear hst3 q1 q2 h128 ho7 hr8 hn8 hb3 hk3 hS
      have y0 := Blk.cell S1.out 0
      have y1 := Blk.cell S2.out 0
      have f0 := Blk.frozen S1.out 0
      have f1 := Blk.frozen S2.out 0
      simp at y0 y1
      obtain ⟨Aw, cw, hw1, hw2, hrw, hlw, hsw⟩ := slice_lh elU8 HR3.out hc 1 5 4 (by omega) (by omega) (by omega) (by omega)
      have HRW := Lib.hid hrw
      have HLW := Lib.hid hlw
      have HBW := Lib.hid ((HBY.out.drop (Int.toNat 1)).take 4)
      clear hrw hlw
      go_wp2_with fail
      have hs0 : ∀ n, (w3.drewN n).setCell ⟨w.heap.size + 1, 0, none⟩ (.bool true) = w3.drewN n := fun n => setCell_self (by exact y0)
      have hs1 : ∀ n, (w3.drewN n).setCell ⟨w.heap.size, 0, none⟩ (.slice A8 n8 c8) = w3.drewN n := fun n => setCell_self (by exact y1)
      go_quiet ((go_at_call 27; exact Calls.quiet_of (word_any Aw cw _ _ (by exact (HRW.out.drewN _).mono (by have := HB.out.size; simpa using this)) HBW.out HLW.out)))
      clear hs0 hs1
      go_wp2_with fail
      refine bodyPost_ret (results_split (by rfl) _ _ (bo := w.heap.size + 1) (br := w.heap.size) (r := .slice A8 n8 c8) (o := .bool true) (p1 := 30) (p2 := 4) rfl rfl (Blk.drewN S2.out nq) (Blk.drewN S1.out nq)) rfl ?_
      refine ⟨fun hn => (by rw [HSP.out] at hn; cases hn), fun d s hs => ?_⟩
      rw [HSP.out] at hs
      injection hs with hs
      injection hs with hs1 hs2
      subst hs1
      subst hs2
      refine ⟨A6, n6, c6, A7, n7, c7, A8, n8, c8, rfl, ?_, ?_, ?_, HN8.out, h82, ?_⟩
      · exact HD.out.drewN nq
      · exact HS7.out.drewN nq
      · exact HR8.out.drewN nq
      · exact below_drewN HB.out nq
end Go.Proofs.Ytakmaocfcmdpmaa
