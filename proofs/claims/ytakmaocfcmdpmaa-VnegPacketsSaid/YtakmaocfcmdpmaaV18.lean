/- Contract: the reference's Take. Conditions: as each theorem states them. -/
import Derived.Test.YtakmaocfcmdpmaaV15
namespace Go.Proofs.Ytakmaocfcmdpmaa
open Go.RowKit
theorem versL_range (m : Nat) (r : List Int) : versL m r = (List.range m).map fun k => wd ((r.drop (4 * k)).take 4) := by
  unfold versL
  apply List.ext_getElem
  · simp
  · intro i h1 h2; simp
theorem range_snoc (k : Nat) (f : Nat → Int) : (List.range (k + 1)).map f = (List.range k).map f ++ [f k] := by rw [List.range_succ, List.map_append]; rfl
theorem wd_at (b : List Int) (q : Nat) : wd ((b.drop q).take 4) = 256 * (256 * (256 * b.getD q 0 + b.getD (q + 1) 0) + b.getD (q + 2) 0) + b.getD (q + 3) 0 := by
  have e : ∀ i, i < 4 → ((b.drop q).take 4).getD i 0 = b.getD (q + i) 0 := fun i hi => by
    rw [List.getD_eq_getElem?_getD, List.getElem?_take, if_pos hi, List.getElem?_drop, List.getD_eq_getElem?_getD]
  unfold wd
  rw [e 0 (by omega), e 1 (by omega), e 2 (by omega), e 3 (by omega), Nat.add_zero]
  omega

set_option maxRecDepth 100000 in
set_option maxHeartbeats 2000000 in
theorem rtake_no (A : Option Addr) (c : Nat) (b : List Int) (w : World) (hr : Rd w.heap.size .u8 w A b) (hb : Byt b) (hl : b.length ≤ 1099511627776) (hc : b.length ≤ c) (hno : tk b = none) :
    Calls Try.prog 20 #[.slice A b.length c] w fun e w' => e = .returned (.tuple #[.slice none 0 0, .slice none 0 0, .slice none 0 0, .bool false]) ∧ Below w.heap.size w w' := by
  have HS := begin_ref A c b w hr hb hl hc
  clear hr
  rcases hsp : spl b with _ | ⟨d, s⟩
  · rw [hsp] at HS
    have HS := Lib.hid HS
    clear hsp hno
    go_enter Try.func20, Try.ntmps20
    go_wp2_with fail
    refine HS.out.mono ?_
    rintro e w' ⟨rfl, rfl⟩
    go_wp2_with fail
    refine bodyPost_ret (results_tmp4 rfl _ _ _) rfl ?_
    exact ⟨rfl, Below.refl _ _⟩
  · rw [hsp] at HS
    have HS := Lib.hid HS
    have hx := spl_facts hb hsp
    have hbad : ver b ≠ 0 ∨ ver b = 0 ∧ (b.length - (7 + d + s) < 4 ∨ 256 < b.length - (7 + d + s) ∨ (4 ≤ b.length - (7 + d + s) ∧ b.length - (7 + d + s) ≤ 256 ∧ (b.length - (7 + d + s)) % 4 ≠ 0)) := by
      unfold tk at hno
      rw [hsp] at hno
      simp only at hno
      by_cases hv : ver b = 0
      · refine .inr ⟨hv, ?_⟩
        by_cases hh : 4 ≤ b.length - (7 + d + s) ∧ b.length - (7 + d + s) ≤ 256 ∧ (b.length - (7 + d + s)) % 4 = 0
        · rw [if_pos ⟨hv, hh⟩] at hno; cases hno
        · omega
      · exact .inl hv
    obtain ⟨-, -, -, -, hle⟩ := hx
    have hq : (7 + (d : Int) + (s : Int)) = ((7 + d + s : Nat) : Int) := by omega
    have hnn : (b.length : Int) - ((7 + d + s : Nat) : Int) = ((b.length - (7 + d + s) : Nat) : Int) := by omega
    have HQ := Lib.hid hq
    clear hq hno hsp
    generalize 7 + d + s = q at *
    generalize hm : b.length - q = m at *
    have HM := Lib.hid hm
    clear hm
    have hm2 : m ≤ 1099511627776 := by have := HM.out; omega
    rcases hbad with hv | ⟨hv, hbad⟩
    · go_enter Try.func20, Try.ntmps20
      go_wp2_with fail
      refine HS.out.mono ?_
      rintro e w' ⟨A2, c2, A3, c3, n, rfl, -, -, -, -, -, -, rfl⟩
      rw [HQ.out]
      go_wp2_with fail
      refine bodyPost_ret (results_tmp4 rfl _ _ _) rfl ?_
      exact ⟨rfl, below_drewN (Below.refl _ _) _⟩
    · have k : (m < 4 ∧ (m : Int) < 4) ∨ ((4 : Int) ≤ m ∧ (256 : Int) < m) ∨ ((4 : Int) ≤ m ∧ (m : Int) ≤ 256 ∧ ((m : Int) % 4 != 0) = true) := by
        rcases hbad with h | h | ⟨h, h', h''⟩
        · exact .inl ⟨h, by omega⟩
        · exact .inr (.inl ⟨by omega, by omega⟩)
        · exact .inr (.inr ⟨by omega, by omega, by simp; omega⟩)
      clear hbad
      rcases k with ⟨-, k⟩ | ⟨k, k'⟩ | ⟨k, k', k''⟩
      all_goals
        go_enter Try.func20, Try.ntmps20
        go_wp2_with fail
        refine HS.out.mono ?_
        rintro e w' ⟨A2, c2, A3, c3, n, rfl, -, -, -, -, -, -, rfl⟩
        rw [HQ.out]
        go_wp2_with fail
        refine bodyPost_ret (results_tmp4 rfl _ _ _) rfl ?_
        exact ⟨rfl, below_drewN (Below.refl _ _) _⟩
theorem Rd.atS {B : Nat} {k : IntKind} {w : World} {ad : Addr} {xs : List Int} (h : Rd B k w (some ad) xs) {i : Nat} (hi : i < xs.length) (h0 : i ≠ 0) : w.cell? ⟨ad.block, ad.off + i, none⟩ = some (.int k (xs.getD i 0)) := by
  have := h.at_ hi
  unfold Addr.add at this
  rw [if_neg h0] at this
  exact this
def RTakeYes (b : List Int) (d s : Nat) (w : World) (e : Ending) (w' : World) : Prop :=
  ∃ A2 c2 A3 c3 A4 n4 c4, e = .returned (.tuple #[.slice A2 d c2, .slice A3 s c3, .slice A4 n4 c4, .bool true]) ∧ Rd w.heap.size .u8 w' A2 (dstL b d) ∧ (dstL b d).length = d ∧ Rd w.heap.size .u8 w' A3 (srcL b d s) ∧ (srcL b d s).length = s ∧
    Own w.heap.size 23 .u32 w' A4 n4 c4 (versL ((b.length - (7 + d + s)) / 4) (b.drop (7 + d + s))) ∧ Below w.heap.size w w'

set_option maxRecDepth 100000 in
set_option maxHeartbeats 4000000 in
theorem rtake_yes (A : Option Addr) (c : Nat) (b : List Int) (d s : Nat) (w : World) (hr : Rd w.heap.size .u8 w A b) (hb : Byt b) (hl : b.length ≤ 1099511627776) (hc : b.length ≤ c) (hyes : tk b = some (d, s)) :
    Calls Try.prog 20 #[.slice A b.length c] w (RTakeYes b d s w) := by
  have HS := begin_ref A c b w hr hb hl hc
  have hx : spl b = some (d, s) ∧ ver b = 0 ∧ 4 ≤ b.length - (7 + d + s) ∧ b.length - (7 + d + s) ≤ 256 ∧ (b.length - (7 + d + s)) % 4 = 0 := by
    unfold tk at hyes
    rcases hsp : spl b with _ | ⟨d', s'⟩
    · rw [hsp] at hyes; cases hyes
    · rw [hsp] at hyes
      simp only at hyes
      split at hyes
      · rename_i h; injection hyes with h2; injection h2 with h3 h4; subst h3; subst h4; exact ⟨rfl, h⟩
      · cases hyes
  obtain ⟨hsp, hv, k1, k2, k3⟩ := hx
  rw [hsp] at HS
  replace HS := Lib.hid HS
  obtain ⟨-, -, -, -, hle⟩ := spl_facts hb hsp
  have hq : (7 + (d : Int) + (s : Int)) = ((7 + d + s : Nat) : Int) := by omega
  have HQ := Lib.hid hq
  unfold RTakeYes
  rw [versL_range]
  have HW := Lib.hid (fun k => wd_at b (7 + d + s + 4 * k))
  have HDD : Hid (∀ k, (b.drop (7 + d + s)).drop (4 * k) = b.drop (7 + d + s + 4 * k)) := Lib.hid (fun k => by rw [List.drop_drop])
  clear hq hyes hsp
  generalize 7 + d + s = q at *
  obtain ⟨m, hm⟩ : ∃ m, b.length = q + 4 * m := ⟨(b.length - q) / 4, by omega⟩
  have HM := Lib.hid hm
  rw [show (b.length - q) / 4 = m by omega]
  have e9 : (b.length : Int) - (q : Int) = ((4 * m : Nat) : Int) := by omega
  have hm1 : 1 ≤ m := by omega
  have hm2 : m ≤ 64 := by omega
  have k5 : ¬ (((4 * m : Nat) : Int) < 4) := by omega
  have k6 : ((4 * m : Nat) : Int) ≤ 256 := by omega
  have k7 : (((4 * m : Nat) : Int) % 4 != 0) = false := by simp
  generalize h4m : 4 * m = n4 at *
  have H4M := Lib.hid h4m
  obtain ⟨ad, rfl, -⟩ := hr.isSome (by omega)
  have HR := Lib.hid hr
  have HBY := Lib.hid hb
  have hLM : b.length = q + n4 := by omega
  have hdl : q < b.length := by omega
  clear hr hb hm k1 k2 k3 h4m hLM
  generalize hF : (fun k : Nat => wd (((b.drop q).drop (4 * k)).take 4)) = F
  have HF : Hid (∀ k, F k = 256 * (256 * (256 * b.getD (q + 4 * k) 0 + b.getD (q + 4 * k + 1) 0) + b.getD (q + 4 * k + 2) 0) + b.getD (q + 4 * k + 3) 0) := Lib.hid (fun k => by rw [← hF]; simp only []; rw [HDD.out, HW.out])
  clear hF HW HDD
  go_enter Try.func20, Try.ntmps20
  go_wp2_with fail
  refine HS.out.mono ?_
  rintro e w' ⟨A2, c2, A3, c3, nq, rfl, rd2, l2, rd3, l3, h2, h3, rfl⟩
  rw [HQ.out]
  have RD2 := Lib.hid rd2
  have RD3 := Lib.hid rd3
  have L2 := Lib.hid l2
  have L3 := Lib.hid l3
  have HR2 : Hid (Rd w.heap.size .u8 (w.drewN nq) (some ad) b) := Lib.hid (HR.out.drewN nq)
  have HB2 : Hid (Below w.heap.size w (w.drewN nq)) := Lib.hid (below_drewN (Below.refl _ _) nq)
  have hwz : (w.drewN nq).heap.size = w.heap.size := rfl
  clear rd2 l2 rd3 l3
  go_wp2_with fail
  clear k5 k6 k7 e9
  go_loopw [9, 11] (fun at_ out wr => ∃ (j p : Nat) (A : Option Addr) (n c : Nat), j ≤ m ∧ at_ = .int .i64 (p : Nat) ∧ Hid (p = q + 4 * j) ∧ p ≤ b.length ∧ out = .slice A n c ∧ Hid (Own w.heap.size 23 .u32 wr A n c ((List.range j).map F)) ∧ Hid (Below w.heap.size w wr)) (fun at_ _ _ => b.length - (intOf at_).toNat)
  case atStart => exact ⟨0, q, none, 0, 0, by omega, rfl, Lib.hid rfl, hle, rfl, Lib.hid (Own.nil _ _ _ _), HB2⟩
  case round =>
    obtain ⟨j, p, A, n, c, hj, rfl, HP, hpl, rfl, HO, HB⟩ := hrel
    by_cases hlt : j < m
    · have hp4 : p + 4 ≤ b.length := by have := HP.out; have := HM.out; have := H4M.out; omega
      have hp0 : p < b.length := by omega
      have HF2 := HF.out j
      rw [← HP.out] at HF2
      have r := HR.out.below HB.out (Nat.le_refl _)
      have m0 := r.at_ hp0
      have m1 := r.atS (show p + 1 < b.length by omega) (by omega)
      have m2 := r.atS (show p + 2 < b.length by omega) (by omega)
      have m3 := r.atS (show p + 3 < b.length by omega) (by omega)
      have t1 : ((p : Int) + 1).toNat = p + 1 := by omega
      have t2 : ((p : Int) + 2).toNat = p + 2 := by omega
      have t3 : ((p : Int) + 3).toNat = p + 3 := by omega
      have n1 := HBY.out.getD p
      have n2 := HBY.out.getD (p + 1)
      have n3 := HBY.out.getD (p + 2)
      have n4' := HBY.out.getD (p + 3)
      generalize b.getD p 0 = y0 at *
      generalize b.getD (p + 1) 0 = y1 at *
      generalize b.getD (p + 2) 0 = y2 at *
      generalize b.getD (p + 3) 0 = y3 at *
      obtain ⟨u0, v0⟩ := n1
      obtain ⟨u1, v1⟩ := n2
      obtain ⟨u2, v2⟩ := n3
      obtain ⟨u3, v3⟩ := n4'
      replace HF2 := Lib.hid HF2
      clear r
      go_wp2_with fail
      go_loop [12, 13] (fun v i => (i = .int .i64 0 ∧ v = .int .u32 0) ∨ (i = .int .i64 1 ∧ v = .int .u32 y0) ∨ (i = .int .i64 2 ∧ v = .int .u32 (256 * y0 + y1)) ∨ (i = .int .i64 3 ∧ v = .int .u32 (256 * (256 * y0 + y1) + y2)) ∨ (i = .int .i64 4 ∧ v = .int .u32 (256 * (256 * (256 * y0 + y1) + y2) + y3))) (fun _ i => 4 - (intOf i).toNat)
      case atStart => exact .inl ⟨rfl, rfl⟩
      case round =>
        rcases hrel with ⟨rfl, rfl⟩ | ⟨rfl, rfl⟩ | ⟨rfl, rfl⟩ | ⟨rfl, rfl⟩ | ⟨rfl, rfl⟩
        · go_wp2_with fail
          go_round
          case rel => exact .inr (.inl ⟨rfl, by go_num⟩)
          case measure => simp [intOf]
        · go_wp2_with fail
          go_round
          case rel => exact .inr (.inr (.inl ⟨rfl, rfl⟩))
          case measure => simp [intOf]
        · go_wp2_with fail
          go_round
          case rel => exact .inr (.inr (.inr (.inl ⟨rfl, rfl⟩)))
          case measure => simp [intOf]
        · go_wp2_with fail
          go_round
          case rel => exact .inr (.inr (.inr (.inr ⟨rfl, rfl⟩)))
          case measure => simp [intOf]
        · rw [← HF2.out]
          generalize hfj : F j = vx at *
          have HFJ := Lib.hid hfj
          clear hfj
          go_wp2_with (at_builtin; refine wpList_app (o := ⟨some 65, _, _, _, _, _⟩) elU32 rfl _ _ rfl rfl rfl (HO.out.alloc _) (Rd.newAt (xs := [vx]) rfl rfl) rfl ?_ ?_ ?_; (rw [List.length_map, List.length_range]; simp; omega); (have := HB.out.size; simp; omega); intro A6 n6 c6 w6 h6; have H6 := Lib.hid h6; have B6 := Lib.hid ((HB.out.alloc HB.out.size _).trans h6.2.2.1); clear h6)
          go_roundw
          case rel => exact ⟨j + 1, p + 4, A6, n6, c6, by omega, by go_num, Lib.hid (by have := HP.out; omega), by omega, rfl, Lib.hid (by rw [range_snoc, HFJ.out]; exact H6.out.1), B6⟩
          case measure => simp [intOf]; omega
    · have hjm : j = m := by omega
      have hpL : p = b.length := by have := HP.out; have := HM.out; have := H4M.out; omega
      subst hjm
      have R2' := Lib.hid (RD2.out.below HB.out (Nat.le_refl _))
      have R3' := Lib.hid (RD3.out.below HB.out (Nat.le_refl _))
      clear hlt
      go_wp2_with fail
      refine bodyPost_ret (results_tmp4 rfl _ _ _) rfl ?_
      exact ⟨A2, c2, A3, c3, A, n, c, rfl, R2'.out, L2.out, R3'.out, L3.out, HO.out, HB.out⟩
end Go.Proofs.Ytakmaocfcmdpmaa
