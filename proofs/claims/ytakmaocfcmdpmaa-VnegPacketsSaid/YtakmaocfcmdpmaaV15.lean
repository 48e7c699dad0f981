/- Contracts: slices.Equal; plain: the parts of a packet that was put together. Conditions: as each theorem states them. -/
import Derived.Test.YtakmaocfcmdpmaaV14
namespace Go.Proofs.Ytakmaocfcmdpmaa
open Go.RowKit

theorem take_eq_snoc {xs ys : List Int} {k : Nat} (h : k < xs.length) (h' : k < ys.length) (e : xs.take k = ys.take k) (hx : xs.getD k 0 = ys.getD k 0) : xs.take (k + 1) = ys.take (k + 1) := by
  rw [List.take_succ_eq_append_getElem h, List.take_succ_eq_append_getElem h', e]
  rw [List.getD_eq_getElem?_getD, List.getD_eq_getElem?_getD, List.getElem?_eq_getElem h, List.getElem?_eq_getElem h'] at hx
  simp only [Option.getD_some] at hx
  rw [hx]
set_option maxHeartbeats 1000000 in
theorem equal32_any (A A2 : Option Addr) (c c2 : Nat) (xs ys : List Int) (w : World) (hr : Rd w.heap.size .u32 w A xs) (hr2 : Rd w.heap.size .u32 w A2 ys) (hl : xs.length ≤ 1099511627776) (hl2 : ys.length ≤ 1099511627776) :
    Calls Try.prog 21 #[.slice A xs.length c, .slice A2 ys.length c2] w fun e w' => e = .returned (.bool (decide (xs = ys))) ∧ ∃ n, w' = w.drewN n := by
  have HR := Lib.hid hr
  have HR2 := Lib.hid hr2
  clear hr hr2
  by_cases hlen : xs.length = ys.length
  · have hle : ((xs.length : Int) == (ys.length : Int)) = true := by rw [beq_iff_eq]; omega
    have hle2 : (xs.length : Int) = ys.length := by omega
    generalize hL : ys.length = L at *
    have HL := Lib.hid hL
    have HX := Lib.hid hlen
    clear hL hle
    rw [hlen] at hl
    rw [hlen]
    clear hle2 hlen
    go_enter Try.func21, Try.ntmps21
    go_wp2_with fail
    go_loopw [13] (fun i wr => ∃ k n : Nat, k ≤ L ∧ i = .int .i64 k ∧ wr = w.drewN n ∧ Hid (xs.take k = ys.take k)) (fun i _ => L - (intOf i).toNat)
    case atStart => exact ⟨0, 0, by omega, rfl, rfl, Lib.hid (by simp)⟩
    case round =>
      obtain ⟨k, n, hk, rfl, rfl, HE⟩ := hrel
      by_cases hlt : k < L
      · obtain ⟨ad, rfl, hb, hc⟩ := HR.out k (by have := HX.out; omega)
        obtain ⟨ad2, rfl, hb2, hc2⟩ := HR2.out k (by have := HL.out; omega)
        generalize hx : xs.getD k 0 = x at hc
        generalize hy : ys.getD k 0 = y at hc2
        have HXX := Lib.hid hx
        have HYY := Lib.hid hy
        clear hx hy
        have e1 : ∀ n, (w.drewN n).cell? (ad.add k) = some (.int .u32 x) := fun _ => hc
        have e2 : ∀ n, (w.drewN n).cell? (ad2.add k) = some (.int .u32 y) := fun _ => hc2
        clear hc hc2
        rcases beq_ways x y with ⟨he, HQ⟩ | ⟨he, HQ⟩
        · have HT := Lib.hid (take_eq_snoc (by have := HX.out; omega) (by have := HL.out; omega) HE.out (by rw [HXX.out, HYY.out, HQ.out]))
          go_wp2_with fail
          go_quiet (fail)
          go_wp2_with fail
          go_round
          case rel => exact ⟨k + 1, _, by omega, by go_num, rfl, HT⟩
          case measure => simp [intOf]; omega
        · have HT : Hid (¬ xs = ys) := Lib.hid (fun h => HQ.out (by rw [← HXX.out, ← HYY.out, h]))
          go_wp2_with fail
          go_quiet (fail)
          go_wp2_with fail
          go_ret
          exact ⟨ret_bool (by simp [HT.out]), n + nq, by simp⟩
      · obtain rfl : k = L := by omega
        have HT : Hid (xs = ys) := Lib.hid (by have h := HE.out; rwa [List.take_of_length_le (by have := HX.out; omega), List.take_of_length_le (by have := HL.out; omega)] at h)
        go_wp2_with fail
        go_ret
        exact ⟨ret_bool (by simp [HT.out]), _, rfl⟩
  · have HT : Hid (¬ xs = ys) := Lib.hid (fun h => hlen (by rw [h]))
    have hle : ((xs.length : Int) == (ys.length : Int)) = false := by rw [beq_eq_false_iff_ne]; omega
    go_enter Try.func21, Try.ntmps21
    go_wp2_with fail
    go_ret
    exact ⟨ret_bool (by simp [HT.out]), 0, rfl⟩

/-! ### plain: the parts of a packet that was put together -/
theorem bgn_first (f v : Int) (ds ss r : List Int) : (bgn f v ds ss ++ r).getD 0 0 = f := rfl
theorem bgn_dlen (f v : Int) (ds ss r : List Int) (h : ds.length ≤ 255) : ((bgn f v ds ss ++ r).getD 5 0).toNat = ds.length := by
  show ((ds.length : Int) % 256).toNat = _
  omega
theorem bgn_drop6 (f v : Int) (ds ss r : List Int) : (bgn f v ds ss ++ r).drop 6 = ds ++ ([(ss.length : Int) % 256] ++ (ss ++ r)) := by
  simp [bgn]
theorem bgn_dropd (f v : Int) (ds ss r : List Int) : (bgn f v ds ss ++ r).drop (6 + ds.length) = [(ss.length : Int) % 256] ++ (ss ++ r) := by
  rw [← List.drop_drop, bgn_drop6, List.drop_left]
theorem bgn_slen (f v : Int) (ds ss r : List Int) (h : ss.length ≤ 255) : ((bgn f v ds ss ++ r).getD (6 + ds.length) 0).toNat = ss.length := by
  have := getD_drop (bgn f v ds ss ++ r) (6 + ds.length) 0
  rw [Nat.add_zero] at this
  rw [← this, bgn_dropd]
  show ((ss.length : Int) % 256).toNat = _
  omega
theorem bgn_drop7 (f v : Int) (ds ss r : List Int) : (bgn f v ds ss ++ r).drop (7 + ds.length) = ss ++ r := by
  rw [show 7 + ds.length = (6 + ds.length) + 1 by omega, ← List.drop_drop, bgn_dropd]
  rfl
theorem bgn_rest (f v : Int) (ds ss r : List Int) : (bgn f v ds ss ++ r).drop (7 + ds.length + ss.length) = r := by
  rw [← List.drop_drop, bgn_drop7, List.drop_left]
theorem bgn_dst (f v : Int) (ds ss r : List Int) : dstL (bgn f v ds ss ++ r) ds.length = ds := by
  unfold dstL; rw [bgn_drop6, List.take_left]
theorem bgn_src (f v : Int) (ds ss r : List Int) : srcL (bgn f v ds ss ++ r) ds.length ss.length = ss := by
  unfold srcL; rw [bgn_drop7, List.take_left]
theorem bgn_spl (f v : Int) (ds ss r : List Int) (hf : 128 ≤ f) (hd : ds.length ≤ 255) (hs : ss.length ≤ 255) : spl (bgn f v ds ss ++ r) = some (ds.length, ss.length) := by
  have hl : (bgn f v ds ss ++ r).length = 7 + ds.length + ss.length + r.length := by rw [List.length_append, bgn_len]
  unfold spl
  rw [bgn_first, bgn_dlen _ _ _ _ _ hd, bgn_slen _ _ _ _ _ hs, hl, if_neg (by omega), if_neg (by omega), if_neg (by omega)]
theorem bgn_ver (f v : Int) (ds ss r : List Int) : ver (bgn f v ds ss ++ r) = v := by
  rw [ver_eq]
  show 256 * (256 * (256 * (v / 16777216) + v / 65536 % 256) + v / 256 % 256) + v % 256 = v
  omega
theorem wd_w4 (v : Int) : wd (w4 v) = v := by
  show v / 16777216 * 16777216 + v / 65536 % 256 * 65536 + v / 256 % 256 * 256 + v % 256 = v
  omega
theorem w4_part {vs : List Int} {k : Nat} (hk : k < vs.length) : ((vs.flatMap w4).drop (4 * k)).take 4 = w4 (vs.getD k 0) := by
  have h1 : vs.flatMap w4 = (vs.take k).flatMap w4 ++ (vs.drop k).flatMap w4 := by rw [← List.flatMap_append, List.take_append_drop]
  have h2 : vs.drop k = vs.getD k 0 :: vs.drop (k + 1) := by
    rw [List.drop_eq_getElem_cons hk, List.getD_eq_getElem?_getD, List.getElem?_eq_getElem hk]; rfl
  have h3 : ((vs.take k).flatMap w4).length = 4 * k := by rw [w4_len, List.length_take]; omega
  rw [h1, ← h3, List.drop_left, h2, List.flatMap_cons]
  exact List.take_left' rfl
theorem versL_w4 (vs : List Int) : versL vs.length (vs.flatMap w4) = vs := by
  unfold versL
  apply List.ext_getElem
  · simp
  · intro i h1 h2
    simp only [List.getElem_map, List.getElem_finRange]
    have hk : i < vs.length := h2
    have e : vs.getD i 0 = vs[i] := by rw [List.getD_eq_getElem?_getD, List.getElem?_eq_getElem hk]; rfl
    show wd (((vs.flatMap w4).drop (4 * i)).take 4) = vs[i]
    rw [w4_part hk, wd_w4, e]
theorem tk_putL {ds ss vs : List Int} (hok : okPut ds ss vs) : tk (putL 192 ds ss vs) = some (ds.length, ss.length) := by
  obtain ⟨h1, h2, h3, h4⟩ := hok
  have hl : (putL 192 ds ss vs).length - (7 + ds.length + ss.length) = 4 * vs.length := by unfold putL; rw [List.length_append, bgn_len, w4_len]; omega
  unfold tk
  rw [show spl (putL 192 ds ss vs) = some (ds.length, ss.length) from bgn_spl _ _ _ _ _ (by decide) h1 h2]
  simp only
  rw [hl, show ver (putL 192 ds ss vs) = 0 from bgn_ver _ _ _ _ _, if_pos ⟨rfl, by omega, by omega, by omega⟩]
end Go.Proofs.Ytakmaocfcmdpmaa
