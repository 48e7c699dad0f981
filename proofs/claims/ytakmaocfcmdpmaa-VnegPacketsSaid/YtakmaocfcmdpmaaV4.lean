/- Contracts: vneg.Put, the reference's Bytes. Conditions: as each theorem states them. -/
import Derived.Test.YtakmaocfcmdpmaaV3
namespace Go.Proofs.Ytakmaocfcmdpmaa
open Go.RowKit

/-- a version's bytes -/
def w4 (v : Int) : List Int := [v / 16777216, v / 65536 % 256, v / 256 % 256, v % 256]
def putL (first : Int) (ds ss vs : List Int) : List Int := bgn first 0 ds ss ++ vs.flatMap w4
theorem w4_snoc {vs : List Int} {k : Nat} (hk : k < vs.length) : (vs.take (k + 1)).flatMap w4 = (vs.take k).flatMap w4 ++ w4 (vs.getD k 0) := by
  rw [List.take_succ_eq_append_getElem hk, List.flatMap_append]
  simp [List.getD_eq_getElem?_getD, List.getElem?_eq_getElem hk]
theorem w4_len (vs : List Int) : (vs.flatMap w4).length = 4 * vs.length := by
  induction vs with
  | nil => rfl
  | cons v r ih => simp [w4, ih]; omega
theorem bgn_len (f v : Int) (ds ss : List Int) : (bgn f v ds ss).length = 7 + ds.length + ss.length := by simp [bgn]; omega

def okPut (ds ss vs : List Int) : Prop := ds.length ≤ 255 ∧ ss.length ≤ 255 ∧ 1 ≤ vs.length ∧ vs.length ≤ 64

set_option maxHeartbeats 1000000 in
theorem put_yes (A A2 A3 : Option Addr) (c c2 c3 : Nat) (ds ss vs : List Int) (w : World) (hr : Rd w.heap.size .u8 w A ds) (hr2 : Rd w.heap.size .u8 w A2 ss) (hr3 : Rd w.heap.size .u32 w A3 vs) (hw : Wrd vs) (hok : okPut ds ss vs) :
    Calls Try.prog 18 #[.agg #[.slice A ds.length c, .slice A2 ss.length c2, .slice A3 vs.length c3]] w (RetOwn2 5 .u8 (putL 192 ds ss vs) (.int .i64 0) w) := by
  obtain ⟨k1, k2, k3, k4⟩ := hok
  have HR := Lib.hid hr
  have HR2 := Lib.hid hr2
  have HR3 := Lib.hid hr3
  have HW := Lib.hid hw
  clear hr hr2 hr3 hw
  have hv0 : ((vs.length : Int) == 0) = false := by rw [beq_eq_false_iff_ne]; omega
  have HBgn := Lib.hid (bgn_len 192 0 ds ss)
  by_cases hmx : ds.length < ss.length
  all_goals
    go_enter Try.func18, Try.ntmps18
    go_wp2_with fail
    refine (begin_any 192 0 A A2 c c2 ds ss _ (by omega) (by omega) (by exact (HR.out.alloc (Nat.le_refl _) _).mono (by simp)) (by exact (HR2.out.alloc (Nat.le_refl _) _).mono (by simp)) (by omega) (by omega)).mono ?_
    rintro e w1 ⟨A4, n4, c4, rfl, ho, hb⟩
    have z2 := Blk.cell (Blk.below (Blk.new w 32 #[.slice A ds.length c, .slice A2 ss.length c2, .slice A3 vs.length c3]) hb (by simp)) 2
    simp at z2
    have HO := Lib.hid (ho.mono (B' := w.heap.size) (by simp))
    have HB := Lib.hid (((Below.refl w.heap.size w).alloc (Nat.le_refl _) _).trans (hb.mono (by simp)))
    clear ho hb
    go_wp2_with fail
    go_loopw [4, 35] (fun b i wr => ∃ (k : Nat) (A5 : Option Addr) (n5 c5 : Nat), k ≤ vs.length ∧ i = .int .i64 k ∧ b = .slice A5 n5 c5 ∧ Hid (Own w.heap.size 5 .u8 wr A5 n5 c5 (bgn 192 0 ds ss ++ (vs.take k).flatMap w4)) ∧ Hid (Below w.heap.size w wr)) (fun _ i _ => vs.length - (intOf i).toNat)
    case atStart => exact ⟨0, A4, n4, c4, by omega, rfl, rfl, Lib.hid (by simpa using HO.out), HB⟩
    case round =>
      obtain ⟨k, A5, n5, c5, hk, rfl, rfl, HO5, HB5⟩ := hrel
      by_cases hlt : k < vs.length
      · have hxb := HW.out.getD k
        have HS := Lib.hid (w4_snoc hlt)
        have HL := Lib.hid (w4_len (vs.take k))
        obtain ⟨ad, x, rfl, hb, hc, HX⟩ := (HR3.out.below HB5.out (Nat.le_refl _)).hx hlt
        rw [HX.out] at hxb HS
        obtain ⟨hx0, hx1⟩ := hxb
        have e1 : IntKind.u8.wrap (x / 65536) = x / 65536 % 256 := wrapu8 _
        have e2 : IntKind.u8.wrap (x / 256) = x / 256 % 256 := wrapu8 _
        have e3 : IntKind.u8.wrap x = x % 256 := wrapu8 _
        go_wp2_with (first | (at_builtin; refine wpList_app (o := ⟨some 52, _, _, _, _, _⟩) elU8 rfl _ _ rfl rfl rfl (HO5.out.alloc _) (Rd.newAt (xs := w4 x) rfl rfl) rfl ?_ ?_ ?_; (have h1 := HBgn.out; have h2 := HL.out; simp only [List.length_append, h1, h2, List.length_take]; simp [w4]; omega); exact (HB5.out.alloc HB5.out.size _).size; intro A6 n6 c6 w6 h6; have H6 := Lib.hid h6; have B6 := Lib.hid ((HB5.out.alloc HB5.out.size _).trans h6.2.2.1); clear h6))
        go_roundw
        case rel => exact ⟨k + 1, A6, n6, c6, by omega, by go_num, rfl, Lib.hid (by rw [HS.out, ← List.append_assoc]; exact H6.out.1), B6⟩
        case measure => simp [intOf]; omega
      · have hf := HO5.out
        rw [List.take_of_length_le (by omega)] at hf
        have HF := Lib.hid hf
        clear hf
        go_wp2_with fail
        go_ret2
        exact ⟨A5, n5, c5, rfl, HF.out, HB5.out⟩

theorem put_no (A A2 A3 : Option Addr) (c c2 c3 : Nat) (ds ss vs : List Int) (w : World) (hok : ¬ okPut ds ss vs) (hl : ds.length ≤ 1099511627776) (hl2 : ss.length ≤ 1099511627776) (hl3 : vs.length ≤ 1099511627776) :
    Calls Try.prog 18 #[.agg #[.slice A ds.length c, .slice A2 ss.length c2, .slice A3 vs.length c3]] w fun e w' => e = .returned (.tuple #[.slice none 0 0, .int .i64 2]) ∧ Below w.heap.size w w' := by
  unfold okPut at hok
  by_cases hmx : ds.length < ss.length
  all_goals
    by_cases g1 : 255 < ds.length ∨ 255 < ss.length
    · go_enter Try.func18, Try.ntmps18
      go_wp2_with fail
      go_ret2
      exact ⟨rfl, (Below.refl _ _).alloc (Nat.le_refl _) _⟩
    · have g1' : decide (255 < ds.length) = false := by simp; omega
      have g2' : decide (255 < ss.length) = false := by simp; omega
      rcases beq_ways (vs.length : Int) 0 with ⟨hv, HV⟩ | ⟨hv, HV⟩
      · go_enter Try.func18, Try.ntmps18
        go_wp2_with fail
        go_ret2
        exact ⟨rfl, (Below.refl _ _).alloc (Nat.le_refl _) _⟩
      · have g3 : 64 < vs.length := by have := HV.out; omega
        go_enter Try.func18, Try.ntmps18
        go_wp2_with fail
        go_ret2
        exact ⟨rfl, (Below.refl _ _).alloc (Nat.le_refl _) _⟩
end Go.Proofs.Ytakmaocfcmdpmaa
