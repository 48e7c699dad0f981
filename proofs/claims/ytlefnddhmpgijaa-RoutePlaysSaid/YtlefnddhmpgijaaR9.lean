/- Contracts of the reference (layer 1): Take, Sized. Conditions: as each theorem states them. -/
import Derived.Test.YtlefnddhmpgijaaR8
namespace Go.Proofs.Ytlefnddhmpgijaa
open Go.RowKit
def tkR (b : List Int) (p : Option Nat) : Option (Int × Nat) := p.bind fun q => (vtake (b.drop q)).map fun v => (v.1, q + v.2)
theorem Rd.atS {B : Nat} {k : IntKind} {w : World} {ad : Addr} {xs : List Int} (h : Rd B k w (some ad) xs) {i : Nat} (hi : i < xs.length) (h0 : i ≠ 0) : w.cell? ⟨ad.block, ad.off + i, none⟩ = some (.int k (xs.getD i 0)) := by
  have := h.at_ hi
  unfold Addr.add at this
  rw [if_neg h0] at this
  exact this
set_option maxRecDepth 100000 in
set_option maxHeartbeats 4000000 in
theorem rtk_any (A : Option Addr) (c : Nat) (b : List Int) (p : Option Nat) (w : World) (hr : Rd w.heap.size .u8 w A b) (hb : Byt b) (hl : b.length ≤ 1000000000000) (hp : ∀ q, p = some q → q ≤ b.length) :
    Calls Try.prog 34 #[.slice A b.length c, .int .i64 (atI p)] w fun e w' =>
      e = .returned (match tkR b p with | none => .tuple #[.int .u64 0, .int .i64 (-1)] | some (v, q) => .tuple #[.int .u64 v, .int .i64 (q : Nat)]) ∧ w = w' := by
  rcases p with _ | q
  · clear hr hb
    show Calls _ _ #[_, .int .i64 (-1)] _ _
    go_enter Try.func34, Try.ntmps34
    go_wp2_with fail
    go_ret2
    exact ⟨rfl, rfl⟩
  · have hq := hp q rfl
    clear hp
    show Calls _ _ #[_, .int .i64 (q : Int)] _ _
    rcases Nat.lt_or_ge q b.length with hlt | hge
    · have HD := Lib.hid (drop_cons hlt)
      obtain ⟨ad, rfl, -⟩ := hr.isSome (by omega)
      have m0 := hr.at_ hlt
      have hy := hb.getD q
      have HV := Lib.hid (vtake_cons (b.getD q 0) (b.drop (q + 1)))
      have HR := Lib.hid hr
      have HBY := Lib.hid hb
      have HG : Hid (∀ i, ((b.drop (q + 1)).take (i + 1)) = ((b.drop (q + 1)).take i) ++ (if q + 1 + i < b.length then [b.getD (q + 1 + i) 0] else [])) := Lib.hid (fun i => by
        by_cases h : q + 1 + i < b.length
        · rw [if_pos h, List.take_succ_eq_append_getElem (by rw [List.length_drop]; omega), List.getElem_drop, List.getD_eq_getElem?_getD, List.getElem?_eq_getElem h]; rfl
        · rw [if_neg h, List.append_nil, List.take_of_length_le (by rw [List.length_drop]; omega), List.take_of_length_le (by rw [List.length_drop]; omega)])
      have HBR : Hid (Byt (b.drop (q + 1))) := Lib.hid (hb.drop _)
      have HTK0 : tkR b (some q) = (vtake (b.drop q)).map fun v => (v.1, q + v.2) := rfl
      rw [HD.out, HV.out] at HTK0
      generalize hRV : (match tkR b (some q) with | none => Value.tuple #[.int .u64 0, .int .i64 (-1)] | some (v, q) => Value.tuple #[.int .u64 v, .int .i64 (q : Nat)]) = RV
      have hRN : tkR b (some q) = none → RV = Value.tuple #[.int .u64 0, .int .i64 (-1)] := fun h => by rw [← hRV, h]
      have hRS : ∀ v k, tkR b (some q) = some (v, k) → RV = Value.tuple #[.int .u64 v, .int .i64 (k : Nat)] := fun v k h => by rw [← hRV, h]
      have HRN := Lib.hid hRN
      have HRS := Lib.hid hRS
      clear hRV hRN hRS
      have hlen : (b.getD q 0 :: b.drop (q + 1)).length = b.length - q := by rw [← HD.out, List.length_drop]
      rw [hlen] at HTK0
      generalize b.getD q 0 = y at *
      generalize b.drop (q + 1) = r at *
      obtain ⟨cl, hcl⟩ : ∃ cl : Nat, y / 64 = (cl : Int) := ⟨(y / 64).toNat, by omega⟩
      have hcl3 : cl ≤ 3 := by omega
      have hclt : (y / 64).toNat = cl := by omega
      rw [hclt] at HTK0
      obtain ⟨y0, y1⟩ := hy
      obtain ⟨L, hL⟩ : ∃ L : Nat, b.length - q = L := ⟨_, rfl⟩
      rw [hL] at HTK0
      have HTK := Lib.hid HTK0
      clear HTK0
      have eL : (b.length : Int) - (q : Int) = (L : Int) := by omega
      have HLL := Lib.hid hL
      clear hL hlen HD HV hclt hr hb
      go_enter Try.func34, Try.ntmps34
      go_wp2_with fail
      go_loop [6, 7] (fun m k => ∃ kk M : Nat, kk ≤ cl ∧ k = .int .i64 kk ∧ m = .int .i64 M ∧ Hid (M = 2 ^ kk) ∧ M ≤ 8) (fun _ k => cl - (intOf k).toNat)
      case atStart => exact ⟨0, 1, by omega, rfl, rfl, Lib.hid rfl, by omega⟩
      case round =>
        obtain ⟨kk, M, hk, rfl, rfl, HM, hM⟩ := hrel
        by_cases hlt2 : kk < cl
        · have hM4 : M ≤ 4 := by
            rw [HM.out]
            rcases (show kk = 0 ∨ kk = 1 ∨ kk = 2 by omega) with h | h | h <;> rw [h] <;> decide
          go_wp2_with fail
          go_round
          case rel => exact ⟨kk + 1, 2 * M, by omega, by go_num, by go_num, Lib.hid (by rw [HM.out, Nat.pow_succ]; omega), by omega⟩
          case measure => simp [intOf]; omega
        · have hke : kk = cl := by omega
          have HM2 : Hid (M = 2 ^ cl) := Lib.hid (by rw [← hke]; exact HM.out)
          clear hke HM
          have hM1 : 1 ≤ M := by rw [HM2.out]; exact Nat.two_pow_pos cl
          by_cases hLM : L < M
          · have HE : Hid (RV = Value.tuple #[.int .u64 0, .int .i64 (-1)]) := Lib.hid (HRN.out (by rw [HTK.out, ← HM2.out, if_pos hLM]; rfl))
            go_wp2_with fail
            go_ret2
            exact ⟨by rw [HE.out]; rfl, rfl⟩
          · have HE : Hid (RV = Value.tuple #[.int .u64 (ofF (y % 64) (r.take (M - 1))), .int .i64 ((q + M : Nat) : Int)]) := Lib.hid (HRS.out _ _ (by rw [HTK.out, ← HM2.out, if_neg hLM]; rfl))
            have hLM' : (M : Int) ≤ (L : Int) := by omega
            obtain ⟨Y, hY⟩ : ∃ Y, Y = y % 64 := ⟨_, rfl⟩
            have HYY := Lib.hid hY
            have hY0 : 0 ≤ Y := by omega
            have hY1 : Y < 64 := by omega
            have eY : y % 64 = Y := hY.symm
            clear hY
            rw [eY] at HE
            have HRG : Hid (∀ i, 0 ≤ ofF Y (r.take i) ∧ (i ≤ 6 → ofF Y (r.take i) < 18014398509481984)) := Lib.hid (fun i => by
              have h1 := ofF_range Y (r.take i) (HBR.out.take _) hY0
              refine ⟨h1.1, fun hi => Int.lt_of_lt_of_le h1.2 ?_⟩
              have h2 : (r.take i).length ≤ i := by rw [List.length_take]; omega
              have h3 : (256 : Int) ^ (r.take i).length ≤ 256 ^ 6 := by
                rcases (show (r.take i).length = 0 ∨ (r.take i).length = 1 ∨ (r.take i).length = 2 ∨ (r.take i).length = 3 ∨ (r.take i).length = 4 ∨ (r.take i).length = 5 ∨ (r.take i).length = 6 by omega) with h | h | h | h | h | h | h <;> rw [h] <;> decide
              calc (Y + 1) * 256 ^ (r.take i).length ≤ (Y + 1) * 256 ^ 6 := Int.mul_le_mul_of_nonneg_left h3 (by omega)
                _ ≤ 18014398509481984 := by omega)
            go_wp2_with fail
            go_loop [8, 9] (fun n i => ∃ (ii : Nat) (x : Int), ii + 1 ≤ M ∧ i = .int .i64 ((ii + 1 : Nat) : Int) ∧ n = .int .u64 x ∧ Hid (x = ofF Y (r.take ii))) (fun _ i => M - (intOf i).toNat)
            case atStart => exact ⟨0, Y, by omega, by go_num, rfl, Lib.hid rfl⟩
            case round =>
              obtain ⟨ii, x, hi, rfl, rfl, HX⟩ := hrel
              by_cases hlt3 : ii + 1 < M
              · have hq3 : q + (ii + 1) < b.length := by have := HLL.out; omega
                obtain ⟨hx0, hx1⟩ := HRG.out ii
                rw [← HX.out] at hx0 hx1
                replace hx1 := hx1 (by omega)
                have m1 := HR.out.atS hq3 (by omega)
                have m2 := HR.out.at_ hq3
                have hz := HBY.out.getD (q + (ii + 1))
                have t1 : ((q : Int) + ((ii + 1 : Nat) : Int)).toNat = q + (ii + 1) := by omega
                have HG2 := HG.out ii
                rw [show q + 1 + ii = q + (ii + 1) by omega, if_pos hq3] at HG2
                have HF : Hid (256 * x + b.getD (q + (ii + 1)) 0 = ofF Y (r.take (ii + 1))) := Lib.hid (by rw [HG2, ofF_snoc, ← HX.out])
                clear HG2
                generalize b.getD (q + (ii + 1)) 0 = z at *
                obtain ⟨hz0, hz1⟩ := hz
                generalize hI : ii + 1 = I at *
                have HII := Lib.hid hI
                clear hI
                go_wp2_with fail
                go_round
                case rel => exact ⟨ii + 1, 256 * x + z, by have := HII.out; omega, by have := HII.out; rw [← this]; go_num, rfl, Lib.hid (by rw [HII.out]; exact HF.out)⟩
                case measure => simp [intOf]; omega
              · have hie : ii = M - 1 := by omega
                subst hie
                rw [← HX.out] at HE
                rw [show M - 1 + 1 = M by omega]
                have eqM : ((q : Int) + (M : Int)) = ((q + M : Nat) : Int) := by omega
                have hqM : q + M ≤ 1000000000000 := by have := HLL.out; omega
                generalize q + M = QM at *
                go_wp2_with fail
                go_ret2
                exact ⟨by rw [HE.out]; rfl, rfl⟩
    · have hge' : (b.length : Int) ≤ (q : Int) := by omega
      have HT : tkR b (some q) = none := by show (vtake (b.drop q)).map _ = none; rw [List.drop_of_length_le (by omega)]; rfl
      rw [HT]
      clear hr hb
      go_enter Try.func34, Try.ntmps34
      go_wp2_with fail
      go_ret2
      exact ⟨rfl, rfl⟩
def szR (b : List Int) (p : Option Nat) : Option (List Int × Nat) := (tkR b p).bind fun v => if (b.length : Int) - v.2 < v.1 then none else some ((b.drop v.2).take v.1.toNat, v.2 + v.1.toNat)
theorem tkR_le {b : List Int} {p : Option Nat} (hb : Byt b) (hp : ∀ q, p = some q → q ≤ b.length) {v : Int} {q : Nat} (h : tkR b p = some (v, q)) : q ≤ b.length ∧ 0 ≤ v ∧ v < 18446744073709551616 := by
  unfold tkR at h
  rcases p with _ | q0
  · cases h
  · have hq := hp q0 rfl
    simp only [Option.bind_some, Option.map_eq_some_iff] at h
    obtain ⟨x, hx, hv⟩ := h
    have h1 := vtake_append hx []
    have h2 := vtake_nonneg (hb.drop q0) hx
    injection hv with h3 h4
    subst h3
    subst h4
    rw [List.length_drop] at h1
    refine ⟨by omega, h2.1, h2.2⟩
set_option maxHeartbeats 1000000 in
theorem rsz_any (A : Option Addr) (c : Nat) (b : List Int) (p : Option Nat) (w : World) (hr : Rd w.heap.size .u8 w A b) (hb : Byt b) (hl : b.length ≤ 1000000000000) (hc : b.length ≤ c) (hp : ∀ q, p = some q → q ≤ b.length) :
    Calls Try.prog 33 #[.slice A b.length c, .int .i64 (atI p)] w fun e w' =>
      (szR b p = none → e = .returned (.tuple #[.slice none 0 0, .int .i64 (-1)]) ∧ Below w.heap.size w w') ∧ (∀ d q', szR b p = some (d, q') → IdYes d q' w e w') := by
  have HT := rtk_any A c b p w hr hb hl hp
  unfold szR
  rcases ht : tkR b p with _ | ⟨v, q⟩
  · rw [ht] at HT
    have HT := Lib.hid HT
    have HP := Lib.hid (part_no A c b (-1) 0 w hl (by decide) (by decide) (.inl rfl))
    clear hr hb ht
    go_enter Try.func33, Try.ntmps33
    go_wp2_with fail
    refine HT.out.mono ?_
    rintro e w' ⟨rfl, rfl⟩
    go_wp2_with fail
    refine HP.out.mono ?_
    rintro e w' ⟨rfl, rfl⟩
    go_wp2_with fail
    go_ret2
    exact ⟨fun _ => ⟨rfl, Below.refl _ _⟩, fun d q' h => by cases h⟩
  · rw [ht] at HT
    obtain ⟨hq, hv0, hv1⟩ := tkR_le hb hp ht
    have HT := Lib.hid HT
    simp only [Option.bind_some]
    clear ht
    by_cases hs : (b.length : Int) - (q : Int) < v
    · rw [if_pos hs]
      have HP := Lib.hid (part_no A c b (q : Int) v w hl hv0 hv1 (.inr ⟨q, rfl, hq, hs⟩))
      clear hr hb hs
      go_enter Try.func33, Try.ntmps33
      go_wp2_with fail
      refine HT.out.mono ?_
      rintro e w' ⟨rfl, rfl⟩
      go_wp2_with fail
      refine HP.out.mono ?_
      rintro e w' ⟨rfl, rfl⟩
      go_wp2_with fail
      go_ret2
      exact ⟨fun _ => ⟨rfl, Below.refl _ _⟩, fun d q' h => by cases h⟩
    · rw [if_neg hs]
      obtain ⟨N, rfl⟩ := Int.eq_ofNat_of_zero_le hv0
      have HP := Lib.hid (part_yes A c b q N w hr hl hc (by omega))
      clear hr hb hs
      go_enter Try.func33, Try.ntmps33
      go_wp2_with fail
      refine HT.out.mono ?_
      rintro e w' ⟨rfl, rfl⟩
      go_wp2_with fail
      refine HP.out.mono ?_
      rintro e w2 ⟨A2, m2, c2, rfl, o2, hb2⟩
      have O2 := Lib.hid o2
      have HB2 := Lib.hid hb2
      clear o2 hb2
      go_wp2_with fail
      go_ret2
      refine ⟨fun h => (by cases h), fun d q' h => ?_⟩
      injection h with h
      injection h with h3 h4
      subst h3
      subst h4
      exact ⟨A2, m2, c2, rfl, O2.out, HB2.out⟩
end Go.Proofs.Ytlefnddhmpgijaa
