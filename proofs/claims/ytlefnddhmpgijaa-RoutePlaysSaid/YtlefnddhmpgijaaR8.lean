/- Contracts of the references (layers 1 and 3): Part, id, Take, Sized. Conditions: as each theorem states them. -/
import Derived.Test.YtlefnddhmpgijaaH9
namespace Go.Proofs.Ytlefnddhmpgijaa
open Go.RowKit
theorem part_no (A : Option Addr) (c : Nat) (b : List Int) (at_ n : Int) (w : World) (hl : b.length ≤ 1000000000000) (hn0 : 0 ≤ n) (hn1 : n < 18446744073709551616) (h : at_ = -1 ∨ ∃ q : Nat, at_ = q ∧ q ≤ b.length ∧ (b.length : Int) - q < n) :
    Calls Try.prog 44 #[.slice A b.length c, .int .i64 at_, .int .u64 n] w fun e w' => e = .returned (.tuple #[.slice none 0 0, .int .i64 (-1)]) ∧ w = w' := by
  rcases h with rfl | ⟨q, rfl, hq, hlt⟩
  · go_enter Try.func44, Try.ntmps44
    go_wp2_with fail
    go_ret2
    exact ⟨rfl, rfl⟩
  · obtain ⟨m, hm⟩ : ∃ m : Nat, b.length = q + m := ⟨b.length - q, by omega⟩
    have e1 : (b.length : Int) - (q : Int) = (m : Int) := by omega
    have hmn : (m : Int) < n := by omega
    have hm2 : m ≤ 1000000000000 := by omega
    clear hlt hm
    go_enter Try.func44, Try.ntmps44
    go_wp2_with fail
    go_ret2
    exact ⟨rfl, rfl⟩
set_option maxHeartbeats 1000000 in
theorem part_yes (A : Option Addr) (c : Nat) (b : List Int) (q n : Nat) (w : World) (hr : Rd w.heap.size .u8 w A b) (hl : b.length ≤ 1000000000000) (hc : b.length ≤ c) (h : q + n ≤ b.length) :
    Calls Try.prog 44 #[.slice A b.length c, .int .i64 q, .int .u64 n] w fun e w' => ∃ A' n' c', e = .returned (.tuple #[.slice A' n' c', .int .i64 ((q + n : Nat) : Int)]) ∧ Own w.heap.size 5 .u8 w' A' n' c' ((b.drop q).take n) ∧ Below w.heap.size w w' := by
  obtain ⟨m, hm⟩ : ∃ m : Nat, b.length = q + m := ⟨b.length - q, by omega⟩
  have e1 : (b.length : Int) - (q : Int) = (m : Int) := by omega
  have hmn : ¬ (m : Int) < n := by omega
  have hm2 : m ≤ 1000000000000 := by omega
  have e3 : ((q : Int) + (n : Int)) = ((q + n : Nat) : Int) := by omega
  obtain ⟨A1, c1, h1, h2, r1, l1, s1⟩ := slice_lh elU8 hr hc (q : Int) ((q + n : Nat) : Int) n (by omega) (by omega) (by omega) (by omega)
  rw [Int.toNat_natCast] at r1 l1
  have R1 := Lib.hid r1
  have L1 := Lib.hid l1
  have hqn : q + n ≤ 1000000000000 := by omega
  have hn9 : n ≤ 1000000000000 := by omega
  generalize q + n = qn at *
  clear hr r1 l1 hm
  go_enter Try.func44, Try.ntmps44
  go_wp2_with (at_builtin; refine wpList_app (o := ⟨some 27, _, _, _, _, _⟩) (B := w.heap.size) elU8 rfl _ _ rfl rfl rfl (Own.litAt (xs := []) rfl rfl rfl (Nat.le_refl _) (by simp)) (R1.out.alloc (Nat.le_refl _) _) L1.out.symm ?_ ?_ ?_; (have := L1.out; simp only [List.length_nil]; omega); (simp); intro A2 n2 c2 w2 h2'; have H2 := Lib.hid h2'.1; have B2 := Lib.hid (((Below.refl _ _).alloc (Nat.le_refl _) _).trans h2'.2.2.1); clear h2')
  rw [List.nil_append] at H2
  go_ret2
  exact ⟨A2, n2, c2, rfl, H2.out, B2.out⟩
def atI : Option Nat → Int
  | none => -1
  | some q => q
def idR (b : List Int) (p : Option Nat) : Option (List Int × Nat) := p.bind fun q => (cidL (b.drop q)).map fun d => (d.1, q + 1 + d.1.length)
def IdYes (d : List Int) (q : Nat) (w : World) (e : Ending) (w' : World) : Prop := ∃ A' n' c', e = .returned (.tuple #[.slice A' n' c', .int .i64 (q : Nat)]) ∧ Own w.heap.size 5 .u8 w' A' n' c' d ∧ Below w.heap.size w w'
theorem drop_cons {b : List Int} {q : Nat} (h : q < b.length) : b.drop q = b.getD q 0 :: b.drop (q + 1) := by
  rw [List.drop_eq_getElem_cons h, List.getD_eq_getElem?_getD, List.getElem?_eq_getElem h]; rfl
theorem take_oneq {b : List Int} {q : Nat} (h : q < b.length) : (b.drop q).take 1 = [b.getD q 0] := by rw [drop_cons h]; rfl
set_option maxRecDepth 100000 in
set_option maxHeartbeats 2000000 in
theorem rid_any (A : Option Addr) (c : Nat) (b : List Int) (p : Option Nat) (w : World) (hr : Rd w.heap.size .u8 w A b) (hb : Byt b) (hl : b.length ≤ 1000000000000) (hc : b.length ≤ c) (hp : ∀ q, p = some q → q ≤ b.length) :
    Calls Try.prog 32 #[.slice A b.length c, .int .i64 (atI p)] w fun e w' =>
      (idR b p = none → e = .returned (.tuple #[.slice none 0 0, .int .i64 (-1)]) ∧ Below w.heap.size w w') ∧ (∀ d q', idR b p = some (d, q') → IdYes d q' w e w') := by
  rcases p with _ | q
  · have HP := Lib.hid (part_no A c b (-1) 1 w hl (by decide) (by decide) (.inl rfl))
    clear hr hb
    show Calls _ _ #[_, .int .i64 (-1)] _ _
    go_enter Try.func32, Try.ntmps32
    go_wp2_with fail
    refine HP.out.mono ?_
    rintro e w' ⟨rfl, rfl⟩
    go_wp2_with fail
    go_ret2
    exact ⟨fun _ => ⟨rfl, Below.refl _ _⟩, fun d q' h => by cases h⟩
  · have hq := hp q rfl
    clear hp
    show Calls _ _ #[_, .int .i64 (q : Int)] _ _
    rcases Nat.lt_or_ge q b.length with hlt | hge
    · have HP := Lib.hid (part_yes A c b q 1 w hr hl hc (by omega))
      rw [take_oneq hlt] at HP
      have hn := hb.getD q
      have HD := Lib.hid (drop_cons hlt)
      have HR := Lib.hid hr
      by_cases h20 : 20 < b.getD q 0
      · have HI : Hid (idR b (some q) = none) := Lib.hid (by show (cidL (b.drop q)).map _ = none; rw [HD.out, cidL_cons, if_pos (.inl h20)]; rfl)
        generalize b.getD q 0 = n at *
        obtain ⟨n0, n1⟩ := hn
        clear hr hb
        go_enter Try.func32, Try.ntmps32
        go_wp2_with fail
        refine HP.out.mono ?_
        rintro e w1 ⟨A1, m1, c1, rfl, o1, hb1⟩
        have hm1 : m1 = 1 := o1.len
        subst hm1
        obtain ⟨ad1, rfl, -⟩ := o1.rd.isSome (by simp)
        have d0 := o1.rd.at0 (by simp)
        simp at d0
        have HB1 := Lib.hid hb1
        clear o1 hb1
        go_wp2_with fail
        go_ret2
        exact ⟨fun _ => ⟨rfl, HB1.out⟩, fun d q' h => by rw [HI.out] at h; cases h⟩
      · have hlen : (b.drop (q + 1)).length = b.length - (q + 1) := List.length_drop
        rcases Int.lt_or_le ((b.length : Int) - ((q + 1 : Nat) : Int)) (b.getD q 0) with hs | hs
        · have HI : Hid (idR b (some q) = none) := Lib.hid (by show (cidL (b.drop q)).map _ = none; rw [HD.out, cidL_cons, if_pos (.inr (by rw [hlen]; omega))]; rfl)
          have HP2 := Lib.hid (fun w => part_no A c b ((q + 1 : Nat) : Int) (b.getD q 0) w hl hn.1 (by omega) (.inr ⟨q + 1, rfl, by omega, hs⟩))
          have h20' : b.getD q 0 ≤ 20 := by omega
          clear hs hlen h20
          generalize b.getD q 0 = n at *
          obtain ⟨n0, n1⟩ := hn
          clear hr hb
          go_enter Try.func32, Try.ntmps32
          go_wp2_with fail
          refine HP.out.mono ?_
          rintro e w1 ⟨A1, m1, c1, rfl, o1, hb1⟩
          have hm1 : m1 = 1 := o1.len
          subst hm1
          obtain ⟨ad1, rfl, -⟩ := o1.rd.isSome (by simp)
          have d0 := o1.rd.at0 (by simp)
          simp at d0
          have HB1 := Lib.hid hb1
          clear o1 hb1
          go_wp2_with fail
          refine (HP2.out _).mono ?_
          rintro e w' ⟨rfl, rfl⟩
          go_wp2_with fail
          go_ret2
          exact ⟨fun _ => ⟨rfl, HB1.out⟩, fun d q' h => by rw [HI.out] at h; cases h⟩
        · obtain ⟨N, hN⟩ := Int.eq_ofNat_of_zero_le hn.1
          have hNl : q + 1 + N ≤ b.length := by rw [hN] at hs; omega
          have hlt2 : ((b.drop (q + 1)).take N).length = N := by rw [List.length_take, List.length_drop]; omega
          have HI : Hid (idR b (some q) = some ((b.drop (q + 1)).take N, q + 1 + N)) := Lib.hid (by
            show (cidL (b.drop q)).map _ = _
            rw [HD.out, cidL_cons, if_neg (by rw [hlen, hN]; rw [hN] at h20; omega), hN]
            simp only [Option.map_some, Int.toNat_natCast]
            rw [hlt2])
          have HP2 := Lib.hid (fun w hr => part_yes A c b (q + 1) N w hr hl hc hNl)
          have h20' : (N : Int) ≤ 20 := by omega
          rw [hN] at HP
          clear hn hs hlen h20 HD hN hr hb hlt2
          go_enter Try.func32, Try.ntmps32
          go_wp2_with fail
          refine HP.out.mono ?_
          rintro e w1 ⟨A1, m1, c1, rfl, o1, hb1⟩
          have hm1 : m1 = 1 := o1.len
          subst hm1
          obtain ⟨ad1, rfl, -⟩ := o1.rd.isSome (by simp)
          have d0 := o1.rd.at0 (by simp)
          simp at d0
          have HB1 := Lib.hid hb1
          clear o1 hb1
          go_wp2_with fail
          refine (HP2.out _ (by exact (HR.out.below HB1.out (Nat.le_refl _)).mono HB1.out.size)).mono ?_
          rintro e w2 ⟨A2, m2, c2, rfl, o2, hb2⟩
          have O2 := Lib.hid (o2.mono HB1.out.size)
          have HB2 := Lib.hid (HB1.out.trans (hb2.mono HB1.out.size))
          clear o2 hb2
          go_wp2_with fail
          go_ret2
          refine ⟨fun h => (by rw [HI.out] at h; cases h), fun d q' h => ?_⟩
          rw [HI.out] at h
          injection h with h
          injection h with h3 h4
          subst h3
          subst h4
          exact ⟨A2, m2, c2, rfl, O2.out, HB2.out⟩
    · have hqe : q = b.length := by omega
      have HI : Hid (idR b (some q) = none) := Lib.hid (by show (cidL (b.drop q)).map _ = none; rw [List.drop_of_length_le (by omega)]; rfl)
      have HP := Lib.hid (part_no A c b (q : Int) 1 w hl (by decide) (by decide) (.inr ⟨q, rfl, hq, by omega⟩))
      clear hr hb hqe
      go_enter Try.func32, Try.ntmps32
      go_wp2_with fail
      refine HP.out.mono ?_
      rintro e w' ⟨rfl, rfl⟩
      go_wp2_with fail
      go_ret2
      exact ⟨fun _ => ⟨rfl, Below.refl _ _⟩, fun d q' h => by rw [HI.out] at h; cases h⟩
end Go.Proofs.Ytlefnddhmpgijaa
