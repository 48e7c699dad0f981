/- Contract (layer 3): long. Conditions: as each theorem states them. -/
import Derived.Test.YtlefnddhmpgijaaH7
namespace Go.Proofs.Ytlefnddhmpgijaa
open Go.RowKit
theorem byt0001 : Byt [0, 0, 0, 1] := by intro x hx; simp at hx; omega
def LongPost (N gp g : Nat) (A : Option Addr) (c : Nat) (b : List Int) (w : World) (e : Ending) (w' : World) : Prop :=
  (∀ p, longL b = some p → LongYes N gp g A c b p w e w') ∧ (longL b = none → LongNo N gp g A c b w e w')
theorem LongPost.no {N gp g : Nat} {A : Option Addr} {c : Nat} {b : List Int} {w : World} {e : Ending} {w' : World} (h : longL b = none) (h2 : LongNo N gp g A c b w e w') : LongPost N gp g A c b w e w' :=
  ⟨(fun p hp => by rw [h] at hp; cases hp), fun _ => h2⟩
theorem LongPost.yes {N gp g : Nat} {A : Option Addr} {c : Nat} {b : List Int} {p : PartL} {w : World} {e : Ending} {w' : World} (h : longL b = some p) (h2 : LongYes N gp g A c b p w e w') : LongPost N gp g A c b w e w' :=
  ⟨(fun p' hp => by rw [h] at hp; injection hp with hp; subst hp; exact h2), (fun hn => by rw [h] at hn; cases hn)⟩
theorem take_one {b : List Int} (h : 1 ≤ b.length) : (b.drop 0).take 1 = [b.getD 0 0] := by
  cases b with
  | nil => simp at h
  | cons x r => rfl
theorem LB.sz {N gp g : Nat} {w0 w : World} {A : Option Addr} {c : Nat} {b : List Int} {at_ : Nat} {bad : Bool} {cs : Array Value} (h : LB N gp g w0 w A c b at_ bad cs) : LB N gp g w0 w A c b at_ bad cs := h

section
variable {N g : Nat} {w : World} {A : Option Addr} {c : Nat} {b : List Int} {at_ : Nat} {bad : Bool}
theorem length_some (Hs : SpSt N g w A c b at_ bad) {v : Int × Nat} (hv : vtake (b.drop at_) = some v) :
    Calls Try.prog 50 #[.pointer (some ⟨g, 0, none⟩)] w fun e w' => e = .returned (.int .u64 v.1) ∧ SpSt N g w' A c b (at_ + v.2) bad ∧ w.grownBy w' (some g) := by
  have h := length_any Hs
  rw [hv] at h
  simp only [Option.elim_some, Option.isSome_some, Bool.not_true, Bool.or_false] at h
  exact h
theorem length_none (Hs : SpSt N g w A c b at_ bad) (hv : vtake (b.drop at_) = none) :
    Calls Try.prog 50 #[.pointer (some ⟨g, 0, none⟩)] w fun e w' => e = .returned (.int .u64 0) ∧ SpSt N g w' A c b at_ true ∧ w.grownBy w' (some g) := by
  have h := length_any Hs
  rw [hv] at h
  simp only [Option.elim_none, Option.isSome_none, Bool.not_false, Bool.or_true, Nat.add_zero] at h
  exact h
end

set_option maxRecDepth 100000 in
set_option maxHeartbeats 8000000 in
theorem long_any {N gp g : Nat} {w : World} {A : Option Addr} {c : Nat} {b : List Int} (h : LB N gp g w w A c b 0 false #[.int .u8 0, .slice none 0 0, .slice none 0 0, .slice none 0 0, .int .i64 0, .slice none 0 0]) (h1 : 1 ≤ b.length) :
    Calls Try.prog 42 #[.pointer (some ⟨g, 0, none⟩), .pointer (some ⟨gp, 0, none⟩)] w (LongPost N gp g A c b w) := by
  have hby : Byt b := h.1.2.2.2.2.2.1
  have HBY := Lib.hid hby
  have hx := hby.getD 0
  have hb12 : b.length ≤ 1000000000000 := h.1.2.2.2.1
  have HL0 := Lib.hid h
  have ht1 := take_yes h.1 1 (by omega)
  rw [take_one h1] at ht1
  have HT1 := Lib.hid ht1
  have h316 := and3_16 (b.getD 0 0) hx.1 hx.2
  have HLG := Lib.hid (show longL b = _ from rfl)
  have hlu : longL b = if b.length < 5 ∨ (b.drop 1).take 4 ≠ [0, 0, 0, 1] ∨ (b.getD 0 0 / 16 % 4 ≠ 0 ∧ b.getD 0 0 / 16 % 4 ≠ 2) then none
    else (cidL (b.drop 5)).bind fun d => (cidL d.2).bind fun s => (tokL (b.getD 0 0 / 16 % 4) s.2).bind fun t => endL b (b.getD 0 0 / 16 % 4) d.1 s.1 t.1 t.2 := rfl
  clear ht1 h hby HLG
  generalize b.getD 0 0 = x at *
  obtain ⟨hx0, hx1⟩ := hx
  have hne := HL0.out.lts.2.2.2
  have hgw := HL0.out.lts.2.1
  have hgpw : gp < w.heap.size := by have := HL0.out.lts; omega
  have hne2 : g ≠ gp := fun e => hne e.symm
  go_enter Try.func42, Try.ntmps42
  go_wp2_with fail
  refine HT1.out.mono ?_
  rintro e w1 ⟨A1, n1, c1, rfl, ho1, hs1, hg1⟩
  have hl1 : n1 = 1 := ho1.len
  subst hl1
  obtain ⟨g1, hA1, hg1a, hg1b⟩ := ho1.addr (by omega)
  subst hA1
  have HF1 := Lib.hid ho1
  have HL1 := Lib.hid (HL0.out.step hs1 hg1)
  clear ho1 hs1 hg1
  by_cases h5 : b.length < 5
  · have hno : longL b = none := by rw [hlu, if_pos (.inl h5)]
    have HNO := Lib.hid hno
    clear hno hlu
    have HT4 := Lib.hid (take_no HL1.out.1 4 (by omega) (by omega))
    go_wp2_with fail
    refine HT4.out.mono ?_
    rintro e w2 ⟨A2, n2, c2, rfl, ho2, hs2, hg2⟩
    have HL2 := Lib.hid (HL1.out.step hs2 hg2)
    clear ho2 hs2 hg2
    obtain ⟨d0, d1, d2, f0, f1, f2⟩ := HL2.out.sp
    go_wp2_with fail
    go_quiet (fail)
    go_wp2_with fail
    go_ret
    exact LongPost.no HNO.out ⟨_, _, _, rfl, (HL2.out.drewN nq).setBad true, rfl⟩
  · by_cases hv : (b.drop 1).take 4 = [0, 0, 0, 1]
    case neg =>
      have hno : longL b = none := by rw [hlu, if_pos (.inr (.inl hv))]
      have HNO := Lib.hid hno
      clear hno hlu
      have HT4 := Lib.hid (take_yes HL1.out.1 4 (by omega))
      rw [show 0 + 1 + 4 = 5 from rfl, show 0 + 1 = 1 from rfl] at HT4
      go_wp2_with fail
      refine HT4.out.mono ?_
      rintro e w2 ⟨A2, n2, c2, rfl, ho2, hs2, hg2⟩
      have HF2 := Lib.hid (HF1.out.kgr hg2 HL1.out.lts.2.1)
      have HV2 := Lib.hid (ho2.mono HL1.out.2.2.2.1)
      have HL2 := Lib.hid (HL1.out.step hs2 hg2)
      clear ho2 hs2 hg2
      have hbd2 : ∀ r : BW w2.heap.size w2, r.world.cell? ⟨g, 2, none⟩ = some (.bool false) := fun r => BW.cell HL2.out.sp.2.2.1 (by have := HL2.out.lts; show g < _; omega) r
      have hcv2 : ∀ r : BW w2.heap.size w2, (convert 25 9 (.slice A2 n2 c2)).run Try.prog r.world = .ok (.string (strOfNums ((b.drop 1).take 4))) r.world := fun r => conv_own elU8 Try.underlying9 (HV2.out.below r.below)
      have hse := str_eq (xs := (b.drop 1).take 4) (ys := [0, 0, 0, 1]) ((HBY.out.drop 1).take 4) byt0001
      rw [decide_eq_false hv] at hse
      generalize strOfNums ((b.drop 1).take 4) = sa at *
      generalize hsb : strOfNums [0, 0, 0, 1] = sb at hse
      have HSB := Lib.hid hsb
      clear hsb
      go_wp2_with fail
      refine wp_region_mixN w2.heap.size [([0, 1, 2, 3, 4, 5, 6], 7)] [8, 9, 10] (by kernel_rfl) (by kernel_rfl) (by kernel_rfl) (by kernel_rfl) ?_
      simp only [pickL, List.map_cons, List.map_nil, List.filterMap_cons, List.filterMap_nil, List.getElem?_cons_succ, List.getElem?_cons_zero]
      refine mixN_cons ?_
      repeat (show wpQuiet _ _ _ _ (_ :: _) _; go_big_quiet_step (fail))
      refine wpQuiet_nil ?_
      show wpList _ _ _ [_] _ _
      go_wp2_with fail
      refine Calls.mono (number_any 1 4 _ (by omega) (by omega) (by omega)) ?_
      rintro e w3 ⟨A3, n3, c3, rfl, ho3, hb3⟩
      have B23 : Hid (Below w2.heap.size w2 w3) := Lib.hid ((Below.refl w2.heap.size w2).drew.trans hb3)
      have hcv3 : ∀ r : BW w3.heap.size w3, (convert 25 9 (.slice A3 n3 c3)).run Try.prog r.world = .ok (.string sb) r.world := fun r => by rw [← HSB.out, ← be14]; exact conv_own elU8 Try.underlying9 (ho3.below r.below)
      have HF3 := Lib.hid (HF2.out.below B23.out)
      have HL3 := Lib.hid (HL2.out.below B23.out)
      clear hb3 hcv2 hbd2
      go_wp2_with fail
      refine MixN.narrow B23.out B23.out.size ?_
      refine mixN_nil ?_
      repeat (show wpQuiet _ _ _ _ (_ :: _) _; go_big_quiet_step (fail))
      refine wpQuiet_nil ?_
      refine NoPanic.normal ?_
      clear hcv3 ho3
      obtain ⟨d0, d1, d2, f0, f1, f2⟩ := HL3.out.sp
      obtain ⟨p0, p1, p2, p3, p4, q0, q1, q2, q3, q4⟩ := HL3.out.pt
      have e0 := HF3.out.cell0 (i := 0) (by simp)
      rw [List.getD_cons_zero] at e0
      go_wp2_with fail
      go_ret
      exact LongPost.no HNO.out ⟨_, _, _, rfl, HL3.out.setBad true, rfl⟩
    case pos =>
      have hlu2 : (x / 16 % 4 ≠ 0 ∧ x / 16 % 4 ≠ 2) ∨ longL b = (cidL (b.drop 5)).bind fun d => (cidL d.2).bind fun s => (tokL (x / 16 % 4) s.2).bind fun t => endL b (x / 16 % 4) d.1 s.1 t.1 t.2 := by
        by_cases hk : x / 16 % 4 ≠ 0 ∧ x / 16 % 4 ≠ 2
        · exact .inl hk
        · right; rw [hlu, if_neg (by intro hh; rcases hh with hh | hh | hh; exact h5 hh; exact hh hv; exact hk hh)]
      have hlu3 : (x / 16 % 4 ≠ 0 ∧ x / 16 % 4 ≠ 2) → longL b = none := fun hk => by rw [hlu, if_pos (.inr (.inr hk))]
      clear hlu
      have HT4 := Lib.hid (take_yes HL1.out.1 4 (by omega))
      rw [show 0 + 1 + 4 = 5 from rfl, show 0 + 1 = 1 from rfl] at HT4
      go_wp2_with fail
      refine HT4.out.mono ?_
      rintro e w2 ⟨A2, n2, c2, rfl, ho2, hs2, hg2⟩
      have HF2 := Lib.hid (HF1.out.kgr hg2 HL1.out.lts.2.1)
      have HV2 := Lib.hid (ho2.mono HL1.out.2.2.2.1)
      have HL2 := Lib.hid (HL1.out.step hs2 hg2)
      clear ho2 hs2 hg2
      have hbd2 : ∀ r : BW w2.heap.size w2, r.world.cell? ⟨g, 2, none⟩ = some (.bool false) := fun r => BW.cell HL2.out.sp.2.2.1 (by have := HL2.out.lts; show g < _; omega) r
      have hcv2 : ∀ r : BW w2.heap.size w2, (convert 25 9 (.slice A2 n2 c2)).run Try.prog r.world = .ok (.string (strOfNums ((b.drop 1).take 4))) r.world := fun r => conv_own elU8 Try.underlying9 (HV2.out.below r.below)
      have hse := str_eq (xs := (b.drop 1).take 4) (ys := [0, 0, 0, 1]) ((HBY.out.drop 1).take 4) byt0001
      rw [decide_eq_true hv] at hse
      generalize strOfNums ((b.drop 1).take 4) = sa at *
      generalize hsb : strOfNums [0, 0, 0, 1] = sb at hse
      have HSB := Lib.hid hsb
      clear hsb
      go_wp2_with fail
      refine wp_region_mixN w2.heap.size [([0, 1, 2, 3, 4, 5, 6], 7)] [8, 9, 10] (by kernel_rfl) (by kernel_rfl) (by kernel_rfl) (by kernel_rfl) ?_
      simp only [pickL, List.map_cons, List.map_nil, List.filterMap_cons, List.filterMap_nil, List.getElem?_cons_succ, List.getElem?_cons_zero]
      refine mixN_cons ?_
      repeat (show wpQuiet _ _ _ _ (_ :: _) _; go_big_quiet_step (fail))
      refine wpQuiet_nil ?_
      show wpList _ _ _ [_] _ _
      go_wp2_with fail
      refine Calls.mono (number_any 1 4 _ (by omega) (by omega) (by omega)) ?_
      rintro e w3 ⟨A3, n3, c3, rfl, ho3, hb3⟩
      have B23 : Hid (Below w2.heap.size w2 w3) := Lib.hid ((Below.refl w2.heap.size w2).drew.trans hb3)
      have hcv3 : ∀ r : BW w3.heap.size w3, (convert 25 9 (.slice A3 n3 c3)).run Try.prog r.world = .ok (.string sb) r.world := fun r => by rw [← HSB.out, ← be14]; exact conv_own elU8 Try.underlying9 (ho3.below r.below)
      have HF3 := Lib.hid (HF2.out.below B23.out)
      have HL3 := Lib.hid (HL2.out.below B23.out)
      clear hb3 hcv2 hbd2
      go_wp2_with fail
      refine MixN.narrow B23.out B23.out.size ?_
      refine mixN_nil ?_
      repeat (show wpQuiet _ _ _ _ (_ :: _) _; go_big_quiet_step (fail))
      refine wpQuiet_nil ?_
      refine NoPanic.normal ?_
      clear hcv3 ho3
      obtain ⟨d0, d1, d2, f0, f1, f2⟩ := HL3.out.sp
      obtain ⟨p0, p1, p2, p3, p4, q0, q1, q2, q3, q4⟩ := HL3.out.pt
      have e0 := HF3.out.cell0 (i := 0) (by simp)
      rw [List.getD_cons_zero] at e0
      clear hse
      have HLU2 := Lib.hid hlu2
      have HLU3 := Lib.hid hlu3
      clear hlu2 hlu3 hv
      have hk4 : x / 16 % 4 = 0 ∨ x / 16 % 4 = 1 ∨ x / 16 % 4 = 2 ∨ x / 16 % 4 = 3 := by omega
      have h5b : 5 ≤ b.length := by omega
      clear h5
      rcases hk4 with hk | hk | hk | hk
      · skip
        have hlu := HLU2.out.resolve_left (by omega)
        rw [hk] at hlu
        have HLU := Lib.hid hlu
        clear hlu HLU2 HLU3
        have H4 := Lib.hid ((HL3.out.store 0 (.int .u8 0)).cast (cs' := #[.int .u8 0, .slice none 0 0, .slice none 0 0, .slice none 0 0, .int .i64 0, .slice none 0 0]) rfl)
        cases hd : cidL (b.drop 5) with
        | none =>
          have HNO : Hid (longL b = none) := Lib.hid (by rw [HLU.out, hd]; rfl)
          have HCC := Lib.hid (cid_no H4.out.1 (.inr hd))
          go_wp2_with (go_at_call 38; refine (types_any _ _).mono ?_; rintro e w4 ⟨rfl, rfl⟩)
          refine HCC.out.mono ?_
          rintro e w5 ⟨at5, L5, A5, n5, c5, rfl, ho5, hs5, hg5⟩
          have H5 := Lib.hid (H4.out.step hs5 hg5)
          clear ho5
          clear hs5 hg5 HCC
          clear d0 d1 d2 f0 f1 f2 p0 p1 p2 p3 p4 q0 q1 q2 q3 q4
          clear e0
          have HCC := Lib.hid (cid_no H5.out.1 (.inl rfl))
          go_wp2_with fail
          refine HCC.out.mono ?_
          rintro e w6 ⟨at6, L6, A6, n6, c6, rfl, ho6, hs6, hg6⟩
          have H6 := Lib.hid (H5.out.step hs6 hg6)
          clear ho6
          clear hs6 hg6 HCC
          obtain ⟨d0, d1, d2, f0, f1, f2⟩ := H6.out.sp
          obtain ⟨p0, p1, p2, p3, p4, q0, q1, q2, q3, q4⟩ := H6.out.pt
          go_wp2_with fail
          go_ret
          exact LongPost.no HNO.out ⟨_, _, _, rfl, (H6.out.store 1 _).store 2 _, rfl⟩
        | some d =>
          obtain ⟨at1, hj1, hj2, hj3, hj4, hj5⟩ := cid_suffix hd h5b HBY.out
          obtain ⟨dd, r1⟩ := d
          try simp only at hj3 hj4 hj5
          have HCC := Lib.hid (cid_yes H4.out.1 hd)
          go_wp2_with (go_at_call 38; refine (types_any _ _).mono ?_; rintro e w4 ⟨rfl, rfl⟩)
          refine HCC.out.mono ?_
          rintro e w5 ⟨A5, n5, c5, rfl, ho5, hs5, hg5⟩
          have H5 := Lib.hid (H4.out.step hs5 hg5)
          have O5 := Lib.hid (ho5.mono H4.out.2.2.2.1)
          clear ho5
          clear hs5 hg5 HCC
          clear d0 d1 d2 f0 f1 f2 p0 p1 p2 p3 p4 q0 q1 q2 q3 q4
          clear e0
          try simp only at H5 O5
          rw [hj4] at H5
          have HJ3 := Lib.hid hj3
          clear hj3 hj4
          cases hs : cidL r1 with
          | none =>
            have HNO : Hid (longL b = none) := Lib.hid (by rw [HLU.out, hd]; simp only [Option.bind_some]; rw [hs]; rfl)
            clear hd
            have HCC := Lib.hid (cid_no H5.out.1 (.inr (by rw [HJ3.out]; exact hs)))
            go_wp2_with fail
            refine HCC.out.mono ?_
            rintro e w6 ⟨at6, L6, A6, n6, c6, rfl, ho6, hs6, hg6⟩
            have H6 := Lib.hid (H5.out.step hs6 hg6)
            replace O5 := Lib.hid (O5.out.kgr hg6 hgw)
            clear ho6
            clear hs6 hg6 HCC
            obtain ⟨d0, d1, d2, f0, f1, f2⟩ := H6.out.sp
            obtain ⟨p0, p1, p2, p3, p4, q0, q1, q2, q3, q4⟩ := H6.out.pt
            go_wp2_with fail
            go_ret
            exact LongPost.no HNO.out ⟨_, _, _, rfl, (H6.out.store 1 _).store 2 _, rfl⟩
          | some s =>
            obtain ⟨at2, hi1, hi2, hi3, hi4, hi5⟩ := cid_suffix (i := at1) (by rw [HJ3.out]; exact hs) hj2 HBY.out
            obtain ⟨ss, r2⟩ := s
            try simp only at hi3 hi4 hi5
            have HCC := Lib.hid (cid_yes H5.out.1 (x := (ss, r2)) (by rw [HJ3.out]; exact hs))
            go_wp2_with fail
            refine HCC.out.mono ?_
            rintro e w6 ⟨A6, n6, c6, rfl, ho6, hs6, hg6⟩
            have H6 := Lib.hid (H5.out.step hs6 hg6)
            replace O5 := Lib.hid (O5.out.kgr hg6 hgw)
            have O6 := Lib.hid (ho6.mono H5.out.2.2.2.1)
            clear ho6
            clear hs6 hg6 HCC
            try simp only at H6 O6
            rw [hi4] at H6
            have HI3 := Lib.hid hi3
            have HLT : Hid (longL b = (tokL 0 r2).bind fun t => endL b 0 dd ss t.1 t.2) := Lib.hid (by rw [HLU.out, hd]; simp only [Option.bind_some]; rw [hs]; rfl)
            clear hi3 hi4 hd hs HLU
            have hr2l : Hid (r2.length = b.length - at2) := Lib.hid (by rw [← HI3.out, List.length_drop])
            have H7 := Lib.hid (((H6.out.store 1 (.slice A5 n5 c5)).store 2 (.slice A6 n6 c6)).cast (cs' := #[.int .u8 0, .slice A5 n5 c5, .slice A6 n6 c6, .slice none 0 0, .int .i64 0, .slice none 0 0]) rfl)
            replace O5 := Lib.hid ((O5.out.st (p := ⟨gp, 1, none⟩) hgpw (.slice A5 n5 c5)).st (p := ⟨gp, 2, none⟩) hgpw (.slice A6 n6 c6))
            replace O6 := Lib.hid ((O6.out.st (p := ⟨gp, 1, none⟩) hgpw (.slice A5 n5 c5)).st (p := ⟨gp, 2, none⟩) hgpw (.slice A6 n6 c6))
            obtain ⟨d0, d1, d2, f0, f1, f2⟩ := H6.out.sp
            obtain ⟨p0, p1, p2, p3, p4, q0, q1, q2, q3, q4⟩ := H6.out.pt
            cases hv2 : vtake r2 with
            | none =>
              have HNO : Hid (longL b = none) := Lib.hid (by rw [HLT.out]; unfold tokL; rw [if_pos rfl, hv2]; rfl)
              have HCC := Lib.hid (length_none H7.out.1 (by rw [HI3.out]; exact hv2))
              go_wp2_with fail
              refine HCC.out.mono ?_
              rintro e w8 ⟨rfl, hs8, hg8⟩
              have H8 := Lib.hid (H7.out.step hs8 hg8)
              clear hs8 hg8 HCC
              have HCC := Lib.hid (take_yes H8.out.1 0 (by omega))
              go_wp2_with fail
              refine HCC.out.mono ?_
              rintro e w9 ⟨A9, n9, c9, rfl, ho9, hs9, hg9⟩
              have H9 := Lib.hid (H8.out.step hs9 hg9)
              clear hs9 hg9 HCC
              clear d0 d1 d2 f0 f1 f2 p0 p1 p2 p3 p4 q0 q1 q2 q3 q4
              obtain ⟨d0, d1, d2, f0, f1, f2⟩ := H9.out.sp
              obtain ⟨p0, p1, p2, p3, p4, q0, q1, q2, q3, q4⟩ := H9.out.pt
              go_wp2_with fail
              go_ret
              exact LongPost.no HNO.out ⟨_, _, _, rfl, H9.out.store 3 _, rfl⟩
            | some v =>
              obtain ⟨vi, u⟩ := v
              have hvu := (vtake_append hv2 []).2.2
              have hv0 := vtake_nonneg (by rw [← HI3.out]; exact HBY.out.drop at2) hv2
              simp only at hvu hv0
              obtain ⟨m, rfl⟩ := Int.eq_ofNat_of_zero_le hv0.1
              have hat2 : at2 + u ≤ b.length := by have h2 := hr2l.out; omega
              have HD4 : Hid ((r2.drop u).length = b.length - (at2 + u) ∧ b.drop (at2 + u) = r2.drop u) := Lib.hid (by have h2 := hr2l.out; rw [List.length_drop, ← List.drop_drop, HI3.out]; exact ⟨by omega, rfl⟩)
              have hm64 : m < 18446744073709551616 := by omega
              have HCC := Lib.hid (length_some H7.out.1 (v := ((m : Int), u)) (by rw [HI3.out]; exact hv2))
              go_wp2_with fail
              refine HCC.out.mono ?_
              rintro e w8 ⟨rfl, hs8, hg8⟩
              have H8 := Lib.hid (H7.out.step hs8 hg8)
              replace O5 := Lib.hid (O5.out.kgr hg8 hgw)
              replace O6 := Lib.hid (O6.out.kgr hg8 hgw)
              clear hs8 hg8 HCC
              by_cases hfit : (at2 + u) + m ≤ b.length
              · skip
                have HCC := Lib.hid (take_yes H8.out.1 m hfit)
                go_wp2_with fail
                refine HCC.out.mono ?_
                rintro e w9 ⟨A9, n9, c9, rfl, ho9, hs9, hg9⟩
                have H9 := Lib.hid (H8.out.step hs9 hg9)
                replace O5 := Lib.hid (O5.out.kgr hg9 hgw)
                replace O6 := Lib.hid (O6.out.kgr hg9 hgw)
                have O7 := Lib.hid (ho9.mono H8.out.2.2.2.1)
                clear ho9
                clear hs9 hg9 HCC
                clear d0 d1 d2 f0 f1 f2 p0 p1 p2 p3 p4 q0 q1 q2 q3 q4
                obtain ⟨d0, d1, d2, f0, f1, f2⟩ := H9.out.sp
                obtain ⟨p0, p1, p2, p3, p4, q0, q1, q2, q3, q4⟩ := H9.out.pt
                have H10 := Lib.hid ((H9.out.store 3 (.slice A9 n9 c9)).cast (cs' := #[.int .u8 0, .slice A5 n5 c5, .slice A6 n6 c6, .slice A9 n9 c9, .int .i64 0, .slice none 0 0]) rfl)
                replace O5 := Lib.hid (O5.out.st (p := ⟨gp, 3, none⟩) hgpw (.slice A9 n9 c9))
                replace O6 := Lib.hid (O6.out.st (p := ⟨gp, 3, none⟩) hgpw (.slice A9 n9 c9))
                replace O7 := Lib.hid (O7.out.st (p := ⟨gp, 3, none⟩) hgpw (.slice A9 n9 c9))
                rw [HD4.out.2] at O7
                obtain ⟨tt, htt⟩ : ∃ t : List Int, t = (r2.drop u).take m := ⟨_, rfl⟩
                rw [← htt] at O7
                obtain ⟨t2, ht2⟩ : ∃ t : List Int, t = (r2.drop u).drop m := ⟨_, rfl⟩
                obtain ⟨at3, hat3⟩ : ∃ y : Nat, y = at2 + u + m := ⟨_, rfl⟩
                rw [← hat3] at H10
                have HEND : Hid (longL b = endL b 0 dd ss tt t2) := Lib.hid (by rw [HLT.out, htt, ht2]; unfold tokL; rw [if_pos rfl, hv2]; simp only [Option.bind_some]; rw [if_neg (by have := HD4.out.1; omega), Int.toNat_natCast]; rfl)
                have HD3 : Hid (b.drop at3 = t2) := Lib.hid (by rw [hat3, ht2, ← List.drop_drop, HD4.out.2])
                have HD3L : Hid (t2.length = b.length - at3) := Lib.hid (by rw [← HD3.out, List.length_drop])
                have HAT3 : Hid (at3 ≤ b.length) := Lib.hid (by omega)
                have HAT3E := Lib.hid hat3
                clear htt ht2 hat3 HLT hv2 hv0 hm64
                obtain ⟨m9, rfl⟩ : ∃ y : Nat, y = m := ⟨_, rfl⟩
                cases hv3 : vtake t2 with
                | none =>
                  have HNO : Hid (longL b = none) := Lib.hid (by rw [HEND.out]; unfold endL; rw [hv3]; rfl)
                  have HCC := Lib.hid (length_none H10.out.1 (by rw [HD3.out]; exact hv3))
                  go_wp2_with fail
                  refine HCC.out.mono ?_
                  rintro e w20 ⟨rfl, hs20, hg20⟩
                  have H20 := Lib.hid (H10.out.step hs20 hg20)
                  clear hs20 hg20 HCC
                  obtain ⟨d0, d1, d2, f0, f1, f2⟩ := H20.out.sp
                  obtain ⟨p0, p1, p2, p3, p4, q0, q1, q2, q3, q4⟩ := H20.out.pt
                  have HST := Lib.hid ((H20.out.store 4 (.int .i64 (at3 : Nat))).cast (cs' := #[.int .u8 0, .slice A5 n5 c5, .slice A6 n6 c6, .slice A9 n9 c9, .int .i64 (at3 : Nat), .slice none 0 0]) rfl)
                  have HCC := Lib.hid (some_yes HST.out.1 0 (by have := HAT3.out; omega))
                  go_wp2_with fail
                  refine HCC.out.mono ?_
                  rintro e w21 ⟨A21, rfl, _, hs21, hg21⟩
                  have H21 := Lib.hid (HST.out.step hs21 hg21)
                  clear hs21 hg21
                  clear d0 d1 d2 f0 f1 f2 p0 p1 p2 p3 p4 q0 q1 q2 q3 q4
                  obtain ⟨d0, d1, d2, f0, f1, f2⟩ := H21.out.sp
                  obtain ⟨p0, p1, p2, p3, p4, q0, q1, q2, q3, q4⟩ := H21.out.pt
                  go_wp2_with fail
                  go_ret
                  exact LongPost.no HNO.out ⟨_, _, _, rfl, H21.out.setBad true, rfl⟩
                | some v =>
                  obtain ⟨vi, u⟩ := v
                  have hvu := (vtake_append hv3 []).2.2
                  have hv0 := vtake_nonneg (by rw [← HD3.out]; exact HBY.out.drop at3) hv3
                  simp only at hvu hv0
                  obtain ⟨m, rfl⟩ := Int.eq_ofNat_of_zero_le hv0.1
                  have hat4 : at3 + u ≤ b.length := by have h1 := HAT3.out; have h2 := HD3L.out; omega
                  have HD4 : Hid (b.length - (t2.drop u).length = at3 + u ∧ (t2.drop u).length = b.length - (at3 + u)) := Lib.hid (by have h1 := HAT3.out; have h2 := HD3L.out; rw [List.length_drop]; omega)
                  have hm64 : m < 18446744073709551616 := by omega
                  have HCC := Lib.hid (length_some H10.out.1 (v := ((m : Int), u)) (by rw [HD3.out]; exact hv3))
                  go_wp2_with fail
                  refine HCC.out.mono ?_
                  rintro e w20 ⟨rfl, hs20, hg20⟩
                  have H20 := Lib.hid (H10.out.step hs20 hg20)
                  replace O5 := Lib.hid (O5.out.kgr hg20 hgw)
                  replace O6 := Lib.hid (O6.out.kgr hg20 hgw)
                  replace O7 := Lib.hid (O7.out.kgr hg20 hgw)
                  clear hs20 hg20 HCC
                  obtain ⟨d0, d1, d2, f0, f1, f2⟩ := H20.out.sp
                  obtain ⟨p0, p1, p2, p3, p4, q0, q1, q2, q3, q4⟩ := H20.out.pt
                  have HST := Lib.hid ((H20.out.store 4 (.int .i64 ((at3 + u : Nat) : Int))).cast (cs' := #[.int .u8 0, .slice A5 n5 c5, .slice A6 n6 c6, .slice A9 n9 c9, .int .i64 ((at3 + u : Nat) : Int), .slice none 0 0]) rfl)
                  by_cases hfit : (at3 + u) + m ≤ b.length
                  · have HCC := Lib.hid (some_yes HST.out.1 m hfit)
                    go_wp2_with fail
                    refine HCC.out.mono ?_
                    rintro e w21 ⟨A21, rfl, _, hs21, hg21⟩
                    have H21 := Lib.hid (HST.out.step hs21 hg21)
                    replace O5 := Lib.hid ((O5.out.st (p := ⟨gp, 4, none⟩) hgpw _).kgr hg21 hgw)
                    replace O6 := Lib.hid ((O6.out.st (p := ⟨gp, 4, none⟩) hgpw _).kgr hg21 hgw)
                    replace O7 := Lib.hid ((O7.out.st (p := ⟨gp, 4, none⟩) hgpw _).kgr hg21 hgw)
                    clear hs21 hg21
                    clear d0 d1 d2 f0 f1 f2 p0 p1 p2 p3 p4 q0 q1 q2 q3 q4
                    obtain ⟨d0, d1, d2, f0, f1, f2⟩ := H21.out.sp
                    obtain ⟨p0, p1, p2, p3, p4, q0, q1, q2, q3, q4⟩ := H21.out.pt
                    by_cases h20 : m < 20
                    · have HNO : Hid (longL b = none) := Lib.hid (by rw [HEND.out]; unfold endL; rw [hv3]; simp only [Option.bind_some]; rw [if_pos (.inl (by omega))])
                      go_wp2_with fail
                      go_ret
                      exact LongPost.no HNO.out ⟨_, _, _, rfl, H21.out.setBad true, rfl⟩
                    · have HYES : Hid (longL b = some ⟨0, dd, ss, tt, at3 + u, at3 + u + m⟩) := Lib.hid (by rw [HEND.out]; unfold endL; rw [hv3]; simp only [Option.bind_some]; rw [if_neg (by have := HD4.out; omega), HD4.out.1]; rfl)
                      have h20' : decide ((m : Int) < 20) = false := by simp; omega
                      go_wp2_with fail
                      go_ret
                      exact LongPost.yes HYES.out ⟨_, _, _, _, _, _, _, _, _, _, rfl, H21.out.cast rfl, O5.out, O6.out, O7.out⟩
                  · have HNO : Hid (longL b = none) := Lib.hid (by rw [HEND.out]; unfold endL; rw [hv3]; simp only [Option.bind_some]; rw [if_pos (.inr (by have := HD4.out; omega))])
                    have HCC := Lib.hid (some_no HST.out.1 (m : Int) (by omega) (by omega))
                    go_wp2_with fail
                    refine HCC.out.mono ?_
                    rintro e w21 ⟨rfl, hs21, hg21⟩
                    have H21 := Lib.hid (HST.out.step hs21 hg21)
                    clear hs21 hg21
                    clear d0 d1 d2 f0 f1 f2 p0 p1 p2 p3 p4 q0 q1 q2 q3 q4
                    obtain ⟨d0, d1, d2, f0, f1, f2⟩ := H21.out.sp
                    obtain ⟨p0, p1, p2, p3, p4, q0, q1, q2, q3, q4⟩ := H21.out.pt
                    go_wp2_with fail
                    go_ret
                    exact LongPost.no HNO.out ⟨_, _, _, rfl, H21.out.setBad true, rfl⟩
              · skip
                have HNO : Hid (longL b = none) := Lib.hid (by rw [HLT.out]; unfold tokL; rw [if_pos rfl, hv2]; simp only [Option.bind_some]; rw [if_pos (by have := HD4.out.1; omega)]; rfl)
                have HCC := Lib.hid (take_no H8.out.1 (m : Int) (by omega) (by omega))
                go_wp2_with fail
                refine HCC.out.mono ?_
                rintro e w9 ⟨A9, n9, c9, rfl, ho9, hs9, hg9⟩
                have H9 := Lib.hid (H8.out.step hs9 hg9)
                clear hs9 hg9 HCC
                clear d0 d1 d2 f0 f1 f2 p0 p1 p2 p3 p4 q0 q1 q2 q3 q4
                obtain ⟨d0, d1, d2, f0, f1, f2⟩ := H9.out.sp
                obtain ⟨p0, p1, p2, p3, p4, q0, q1, q2, q3, q4⟩ := H9.out.pt
                go_wp2_with fail
                go_ret
                exact LongPost.no HNO.out ⟨_, _, _, rfl, H9.out.store 3 _, rfl⟩
      · skip
        have HNO := Lib.hid (HLU3.out (by omega))
        clear HLU2 HLU3
        have H4 := Lib.hid (HL3.out.setBad true)
        have HCC := Lib.hid (cid_no H4.out.1 (.inl rfl))
        go_wp2_with (go_at_call 38; refine (types_any _ _).mono ?_; rintro e w4 ⟨rfl, rfl⟩)
        refine HCC.out.mono ?_
        rintro e w5 ⟨at5, L5, A5, n5, c5, rfl, ho5, hs5, hg5⟩
        have H5 := Lib.hid (H4.out.step hs5 hg5)
        clear ho5
        clear hs5 hg5 HCC
        clear d0 d1 d2 f0 f1 f2 p0 p1 p2 p3 p4 q0 q1 q2 q3 q4
        clear e0
        have HCC := Lib.hid (cid_no H5.out.1 (.inl rfl))
        go_wp2_with fail
        refine HCC.out.mono ?_
        rintro e w6 ⟨at6, L6, A6, n6, c6, rfl, ho6, hs6, hg6⟩
        have H6 := Lib.hid (H5.out.step hs6 hg6)
        clear ho6
        clear hs6 hg6 HCC
        obtain ⟨d0, d1, d2, f0, f1, f2⟩ := H6.out.sp
        obtain ⟨p0, p1, p2, p3, p4, q0, q1, q2, q3, q4⟩ := H6.out.pt
        go_wp2_with fail
        go_ret
        exact LongPost.no HNO.out ⟨_, _, _, rfl, (H6.out.store 1 _).store 2 _, rfl⟩
      · skip
        have hlu := HLU2.out.resolve_left (by omega)
        rw [hk] at hlu
        have HLU := Lib.hid hlu
        clear hlu HLU2 HLU3
        have H4 := Lib.hid ((HL3.out.store 0 (.int .u8 1)).cast (cs' := #[.int .u8 1, .slice none 0 0, .slice none 0 0, .slice none 0 0, .int .i64 0, .slice none 0 0]) rfl)
        cases hd : cidL (b.drop 5) with
        | none =>
          have HNO : Hid (longL b = none) := Lib.hid (by rw [HLU.out, hd]; rfl)
          have HCC := Lib.hid (cid_no H4.out.1 (.inr hd))
          go_wp2_with (go_at_call 38; refine (types_any _ _).mono ?_; rintro e w4 ⟨rfl, rfl⟩)
          refine HCC.out.mono ?_
          rintro e w5 ⟨at5, L5, A5, n5, c5, rfl, ho5, hs5, hg5⟩
          have H5 := Lib.hid (H4.out.step hs5 hg5)
          clear ho5
          clear hs5 hg5 HCC
          clear d0 d1 d2 f0 f1 f2 p0 p1 p2 p3 p4 q0 q1 q2 q3 q4
          clear e0
          have HCC := Lib.hid (cid_no H5.out.1 (.inl rfl))
          go_wp2_with fail
          refine HCC.out.mono ?_
          rintro e w6 ⟨at6, L6, A6, n6, c6, rfl, ho6, hs6, hg6⟩
          have H6 := Lib.hid (H5.out.step hs6 hg6)
          clear ho6
          clear hs6 hg6 HCC
          obtain ⟨d0, d1, d2, f0, f1, f2⟩ := H6.out.sp
          obtain ⟨p0, p1, p2, p3, p4, q0, q1, q2, q3, q4⟩ := H6.out.pt
          go_wp2_with fail
          go_ret
          exact LongPost.no HNO.out ⟨_, _, _, rfl, (H6.out.store 1 _).store 2 _, rfl⟩
        | some d =>
          obtain ⟨at1, hj1, hj2, hj3, hj4, hj5⟩ := cid_suffix hd h5b HBY.out
          obtain ⟨dd, r1⟩ := d
          try simp only at hj3 hj4 hj5
          have HCC := Lib.hid (cid_yes H4.out.1 hd)
          go_wp2_with (go_at_call 38; refine (types_any _ _).mono ?_; rintro e w4 ⟨rfl, rfl⟩)
          refine HCC.out.mono ?_
          rintro e w5 ⟨A5, n5, c5, rfl, ho5, hs5, hg5⟩
          have H5 := Lib.hid (H4.out.step hs5 hg5)
          have O5 := Lib.hid (ho5.mono H4.out.2.2.2.1)
          clear ho5
          clear hs5 hg5 HCC
          clear d0 d1 d2 f0 f1 f2 p0 p1 p2 p3 p4 q0 q1 q2 q3 q4
          clear e0
          try simp only at H5 O5
          rw [hj4] at H5
          have HJ3 := Lib.hid hj3
          clear hj3 hj4
          cases hs : cidL r1 with
          | none =>
            have HNO : Hid (longL b = none) := Lib.hid (by rw [HLU.out, hd]; simp only [Option.bind_some]; rw [hs]; rfl)
            clear hd
            have HCC := Lib.hid (cid_no H5.out.1 (.inr (by rw [HJ3.out]; exact hs)))
            go_wp2_with fail
            refine HCC.out.mono ?_
            rintro e w6 ⟨at6, L6, A6, n6, c6, rfl, ho6, hs6, hg6⟩
            have H6 := Lib.hid (H5.out.step hs6 hg6)
            replace O5 := Lib.hid (O5.out.kgr hg6 hgw)
            clear ho6
            clear hs6 hg6 HCC
            obtain ⟨d0, d1, d2, f0, f1, f2⟩ := H6.out.sp
            obtain ⟨p0, p1, p2, p3, p4, q0, q1, q2, q3, q4⟩ := H6.out.pt
            go_wp2_with fail
            go_ret
            exact LongPost.no HNO.out ⟨_, _, _, rfl, (H6.out.store 1 _).store 2 _, rfl⟩
          | some s =>
            obtain ⟨at2, hi1, hi2, hi3, hi4, hi5⟩ := cid_suffix (i := at1) (by rw [HJ3.out]; exact hs) hj2 HBY.out
            obtain ⟨ss, r2⟩ := s
            try simp only at hi3 hi4 hi5
            have HCC := Lib.hid (cid_yes H5.out.1 (x := (ss, r2)) (by rw [HJ3.out]; exact hs))
            go_wp2_with fail
            refine HCC.out.mono ?_
            rintro e w6 ⟨A6, n6, c6, rfl, ho6, hs6, hg6⟩
            have H6 := Lib.hid (H5.out.step hs6 hg6)
            replace O5 := Lib.hid (O5.out.kgr hg6 hgw)
            have O6 := Lib.hid (ho6.mono H5.out.2.2.2.1)
            clear ho6
            clear hs6 hg6 HCC
            try simp only at H6 O6
            rw [hi4] at H6
            have HI3 := Lib.hid hi3
            have HLT : Hid (longL b = (tokL 2 r2).bind fun t => endL b 2 dd ss t.1 t.2) := Lib.hid (by rw [HLU.out, hd]; simp only [Option.bind_some]; rw [hs]; rfl)
            clear hi3 hi4 hd hs HLU
            have hr2l : Hid (r2.length = b.length - at2) := Lib.hid (by rw [← HI3.out, List.length_drop])
            have H7 := Lib.hid (((H6.out.store 1 (.slice A5 n5 c5)).store 2 (.slice A6 n6 c6)).cast (cs' := #[.int .u8 1, .slice A5 n5 c5, .slice A6 n6 c6, .slice none 0 0, .int .i64 0, .slice none 0 0]) rfl)
            replace O5 := Lib.hid ((O5.out.st (p := ⟨gp, 1, none⟩) hgpw (.slice A5 n5 c5)).st (p := ⟨gp, 2, none⟩) hgpw (.slice A6 n6 c6))
            replace O6 := Lib.hid ((O6.out.st (p := ⟨gp, 1, none⟩) hgpw (.slice A5 n5 c5)).st (p := ⟨gp, 2, none⟩) hgpw (.slice A6 n6 c6))
            obtain ⟨d0, d1, d2, f0, f1, f2⟩ := H6.out.sp
            obtain ⟨p0, p1, p2, p3, p4, q0, q1, q2, q3, q4⟩ := H6.out.pt
            have O7 : Hid (Own w.heap.size 5 .u8 ((w6.setCell ⟨gp, 1, none⟩ (.slice A5 n5 c5)).setCell ⟨gp, 2, none⟩ (.slice A6 n6 c6)) none 0 0 []) := Lib.hid (Own.nil _ _ _ _)
            obtain ⟨tt, htt⟩ : ∃ t : List Int, t = [] := ⟨_, rfl⟩
            rw [← htt] at O7
            have HEND : Hid (longL b = endL b 2 dd ss tt r2) := Lib.hid (by rw [HLT.out, htt]; rfl)
            clear htt HLT
            obtain ⟨at3, rfl⟩ : ∃ x : Nat, x = at2 := ⟨_, rfl⟩
            obtain ⟨t2, rfl⟩ : ∃ x : List Int, x = r2 := ⟨_, rfl⟩
            have HD3 := HI3
            have HD3L := hr2l
            have HAT3 : Hid (at3 ≤ b.length) := Lib.hid hi2
            cases hv3 : vtake t2 with
            | none =>
              have HNO : Hid (longL b = none) := Lib.hid (by rw [HEND.out]; unfold endL; rw [hv3]; rfl)
              have HCC := Lib.hid (length_none H7.out.1 (by rw [HD3.out]; exact hv3))
              go_wp2_with fail
              refine HCC.out.mono ?_
              rintro e w20 ⟨rfl, hs20, hg20⟩
              have H20 := Lib.hid (H7.out.step hs20 hg20)
              clear hs20 hg20 HCC
              obtain ⟨d0, d1, d2, f0, f1, f2⟩ := H20.out.sp
              obtain ⟨p0, p1, p2, p3, p4, q0, q1, q2, q3, q4⟩ := H20.out.pt
              have HST := Lib.hid ((H20.out.store 4 (.int .i64 (at3 : Nat))).cast (cs' := #[.int .u8 1, .slice A5 n5 c5, .slice A6 n6 c6, .slice none 0 0, .int .i64 (at3 : Nat), .slice none 0 0]) rfl)
              have HCC := Lib.hid (some_yes HST.out.1 0 (by have := HAT3.out; omega))
              go_wp2_with fail
              refine HCC.out.mono ?_
              rintro e w21 ⟨A21, rfl, _, hs21, hg21⟩
              have H21 := Lib.hid (HST.out.step hs21 hg21)
              clear hs21 hg21
              clear d0 d1 d2 f0 f1 f2 p0 p1 p2 p3 p4 q0 q1 q2 q3 q4
              obtain ⟨d0, d1, d2, f0, f1, f2⟩ := H21.out.sp
              obtain ⟨p0, p1, p2, p3, p4, q0, q1, q2, q3, q4⟩ := H21.out.pt
              go_wp2_with fail
              go_ret
              exact LongPost.no HNO.out ⟨_, _, _, rfl, H21.out.setBad true, rfl⟩
            | some v =>
              obtain ⟨vi, u⟩ := v
              have hvu := (vtake_append hv3 []).2.2
              have hv0 := vtake_nonneg (by rw [← HD3.out]; exact HBY.out.drop at3) hv3
              simp only at hvu hv0
              obtain ⟨m, rfl⟩ := Int.eq_ofNat_of_zero_le hv0.1
              have hat4 : at3 + u ≤ b.length := by have h1 := HAT3.out; have h2 := HD3L.out; omega
              have HD4 : Hid (b.length - (t2.drop u).length = at3 + u ∧ (t2.drop u).length = b.length - (at3 + u)) := Lib.hid (by have h1 := HAT3.out; have h2 := HD3L.out; rw [List.length_drop]; omega)
              have hm64 : m < 18446744073709551616 := by omega
              have HCC := Lib.hid (length_some H7.out.1 (v := ((m : Int), u)) (by rw [HD3.out]; exact hv3))
              go_wp2_with fail
              refine HCC.out.mono ?_
              rintro e w20 ⟨rfl, hs20, hg20⟩
              have H20 := Lib.hid (H7.out.step hs20 hg20)
              replace O5 := Lib.hid (O5.out.kgr hg20 hgw)
              replace O6 := Lib.hid (O6.out.kgr hg20 hgw)
              replace O7 := Lib.hid (O7.out.kgr hg20 hgw)
              clear hs20 hg20 HCC
              obtain ⟨d0, d1, d2, f0, f1, f2⟩ := H20.out.sp
              obtain ⟨p0, p1, p2, p3, p4, q0, q1, q2, q3, q4⟩ := H20.out.pt
              have HST := Lib.hid ((H20.out.store 4 (.int .i64 ((at3 + u : Nat) : Int))).cast (cs' := #[.int .u8 1, .slice A5 n5 c5, .slice A6 n6 c6, .slice none 0 0, .int .i64 ((at3 + u : Nat) : Int), .slice none 0 0]) rfl)
              by_cases hfit : (at3 + u) + m ≤ b.length
              · have HCC := Lib.hid (some_yes HST.out.1 m hfit)
                go_wp2_with fail
                refine HCC.out.mono ?_
                rintro e w21 ⟨A21, rfl, _, hs21, hg21⟩
                have H21 := Lib.hid (HST.out.step hs21 hg21)
                replace O5 := Lib.hid ((O5.out.st (p := ⟨gp, 4, none⟩) hgpw _).kgr hg21 hgw)
                replace O6 := Lib.hid ((O6.out.st (p := ⟨gp, 4, none⟩) hgpw _).kgr hg21 hgw)
                replace O7 := Lib.hid ((O7.out.st (p := ⟨gp, 4, none⟩) hgpw _).kgr hg21 hgw)
                clear hs21 hg21
                clear d0 d1 d2 f0 f1 f2 p0 p1 p2 p3 p4 q0 q1 q2 q3 q4
                obtain ⟨d0, d1, d2, f0, f1, f2⟩ := H21.out.sp
                obtain ⟨p0, p1, p2, p3, p4, q0, q1, q2, q3, q4⟩ := H21.out.pt
                by_cases h20 : m < 20
                · have HNO : Hid (longL b = none) := Lib.hid (by rw [HEND.out]; unfold endL; rw [hv3]; simp only [Option.bind_some]; rw [if_pos (.inl (by omega))])
                  go_wp2_with fail
                  go_ret
                  exact LongPost.no HNO.out ⟨_, _, _, rfl, H21.out.setBad true, rfl⟩
                · have HYES : Hid (longL b = some ⟨1, dd, ss, tt, at3 + u, at3 + u + m⟩) := Lib.hid (by rw [HEND.out]; unfold endL; rw [hv3]; simp only [Option.bind_some]; rw [if_neg (by have := HD4.out; omega), HD4.out.1]; rfl)
                  have h20' : decide ((m : Int) < 20) = false := by simp; omega
                  go_wp2_with fail
                  go_ret
                  exact LongPost.yes HYES.out ⟨_, _, _, _, _, _, _, _, _, _, rfl, H21.out.cast rfl, O5.out, O6.out, O7.out⟩
              · have HNO : Hid (longL b = none) := Lib.hid (by rw [HEND.out]; unfold endL; rw [hv3]; simp only [Option.bind_some]; rw [if_pos (.inr (by have := HD4.out; omega))])
                have HCC := Lib.hid (some_no HST.out.1 (m : Int) (by omega) (by omega))
                go_wp2_with fail
                refine HCC.out.mono ?_
                rintro e w21 ⟨rfl, hs21, hg21⟩
                have H21 := Lib.hid (HST.out.step hs21 hg21)
                clear hs21 hg21
                clear d0 d1 d2 f0 f1 f2 p0 p1 p2 p3 p4 q0 q1 q2 q3 q4
                obtain ⟨d0, d1, d2, f0, f1, f2⟩ := H21.out.sp
                obtain ⟨p0, p1, p2, p3, p4, q0, q1, q2, q3, q4⟩ := H21.out.pt
                go_wp2_with fail
                go_ret
                exact LongPost.no HNO.out ⟨_, _, _, rfl, H21.out.setBad true, rfl⟩
      · skip
        have HNO := Lib.hid (HLU3.out (by omega))
        clear HLU2 HLU3
        have H4 := Lib.hid (HL3.out.setBad true)
        have HCC := Lib.hid (cid_no H4.out.1 (.inl rfl))
        go_wp2_with (go_at_call 38; refine (types_any _ _).mono ?_; rintro e w4 ⟨rfl, rfl⟩)
        refine HCC.out.mono ?_
        rintro e w5 ⟨at5, L5, A5, n5, c5, rfl, ho5, hs5, hg5⟩
        have H5 := Lib.hid (H4.out.step hs5 hg5)
        clear ho5
        clear hs5 hg5 HCC
        clear d0 d1 d2 f0 f1 f2 p0 p1 p2 p3 p4 q0 q1 q2 q3 q4
        clear e0
        have HCC := Lib.hid (cid_no H5.out.1 (.inl rfl))
        go_wp2_with fail
        refine HCC.out.mono ?_
        rintro e w6 ⟨at6, L6, A6, n6, c6, rfl, ho6, hs6, hg6⟩
        have H6 := Lib.hid (H5.out.step hs6 hg6)
        clear ho6
        clear hs6 hg6 HCC
        obtain ⟨d0, d1, d2, f0, f1, f2⟩ := H6.out.sp
        obtain ⟨p0, p1, p2, p3, p4, q0, q1, q2, q3, q4⟩ := H6.out.pt
        go_wp2_with fail
        go_ret
        exact LongPost.no HNO.out ⟨_, _, _, rfl, (H6.out.store 1 _).store 2 _, rfl⟩
end Go.Proofs.Ytlefnddhmpgijaa
