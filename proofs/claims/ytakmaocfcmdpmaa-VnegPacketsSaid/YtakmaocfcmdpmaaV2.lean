/- Contracts: vneg.Choose, the reference's Reserved and Choose. Conditions: as each theorem states them. -/
import Derived.Test.YtakmaocfcmdpmaaV1
import Derived.Test.YtakmaocfcmdpmaaN
namespace Go.Proofs.Ytakmaocfcmdpmaa
open Go.RowKit

theorem rsv_iff (v : Int) (h0 : 0 ≤ v) (h1 : v < 4294967296) : rsv v = decide (v % 16 = 10 ∧ v / 256 % 16 = 10 ∧ v / 65536 % 16 = 10 ∧ v / 16777216 % 16 = 10) := by
  obtain ⟨n, rfl⟩ := Int.eq_ofNat_of_zero_le h0
  have e : bits .and .u32 (n : Int) 252645135 = ((n &&& 252645135 : Nat) : Int) := bits_and_u32_nat n 252645135 (by omega) (by omega)
  unfold rsv
  rw [e, Bool.eq_iff_iff]
  simp only [beq_iff_eq, decide_eq_true_eq]
  have s1 := and_split 8 n 252645135
  have s2 := and_split 8 (n / 256) 986895
  have s3 := and_split 8 (n / 65536) 3855
  simp only [show (2 : Nat) ^ 8 = 256 from rfl, show 252645135 % 256 = 15 from rfl, show 252645135 / 256 = 986895 from rfl, show 986895 / 256 = 3855 from rfl, show 3855 / 256 = 15 from rfl, Nat.div_div_eq_div_mul, show 256 * 256 = 65536 from rfl, show 65536 * 256 = 16777216 from rfl] at s1 s2 s3
  have m : ∀ a : Nat, a &&& 15 = a % 16 := fun a => Nat.and_two_pow_sub_one_eq_mod a 4
  simp only [m] at s1 s2 s3
  omega

theorem rrsv_any (v : Int) (w : World) (h0 : 0 ≤ v) (h1 : v < 4294967296) : Calls Try.prog 12 #[.int .u32 v] w fun e w' => e = .returned (.bool (rsv v)) ∧ w = w' := by
  have HV := Lib.hid (rsv_iff v h0 h1)
  go_enter Try.func12, Try.ntmps12
  go_wp2_with fail
  go_loop [0, 3] (fun u i => (i = .int .i64 0 ∧ u = .int .u32 v) ∨ (i = .int .i64 1 ∧ u = .int .u32 (v / 256) ∧ Hid (v % 16 = 10)) ∨ (i = .int .i64 2 ∧ u = .int .u32 (v / 65536) ∧ Hid (v % 16 = 10 ∧ v / 256 % 16 = 10)) ∨ (i = .int .i64 3 ∧ u = .int .u32 (v / 16777216) ∧ Hid (v % 16 = 10 ∧ v / 256 % 16 = 10 ∧ v / 65536 % 16 = 10)) ∨ (i = .int .i64 4 ∧ ∃ z, u = .int .u32 z ∧ Hid (v % 16 = 10 ∧ v / 256 % 16 = 10 ∧ v / 65536 % 16 = 10 ∧ v / 16777216 % 16 = 10))) (fun _ i => 4 - (intOf i).toNat)
  case atStart => exact .inl ⟨rfl, rfl⟩
  case round =>
    rcases hrel with ⟨rfl, rfl⟩ | ⟨rfl, rfl, H⟩ | ⟨rfl, rfl, H⟩ | ⟨rfl, rfl, H⟩ | ⟨rfl, z, rfl, H⟩
    · by_cases g : v % 16 = 10
      · have G := Lib.hid g
        have g' : (v % 16 != 10) = false := by simp [g]
        clear g
        go_wp2_with fail
        go_round
        case rel => exact .inr (.inl ⟨rfl, rfl, G⟩)
        case measure => simp [intOf]
      · have g' : (v % 16 != 10) = true := by simp [g]
        have HF := Lib.hid (show rsv v = false by rw [HV.out]; simp [g])
        clear g
        go_wp2_with fail
        go_ret
        exact ⟨by rw [HF.out]; rfl, rfl⟩
    · by_cases g : v / 256 % 16 = 10
      · have G := Lib.hid (show v % 16 = 10 ∧ v / 256 % 16 = 10 from ⟨H.out, g⟩)
        have g' : (v / 256 % 16 != 10) = false := by simp [g]
        have e : Hid (v / 256 / 256 = v / 65536) := Lib.hid (by omega)
        clear g H
        go_wp2_with fail
        go_round
        case rel => exact .inr (.inr (.inl ⟨rfl, by rw [e.out], G⟩))
        case measure => simp [intOf]
      · have g' : (v / 256 % 16 != 10) = true := by simp [g]
        have HF := Lib.hid (show rsv v = false by rw [HV.out]; simp [g])
        clear g
        go_wp2_with fail
        go_ret
        exact ⟨by rw [HF.out]; rfl, rfl⟩
    · by_cases g : v / 65536 % 16 = 10
      · have G := Lib.hid (show v % 16 = 10 ∧ v / 256 % 16 = 10 ∧ v / 65536 % 16 = 10 from ⟨H.out.1, H.out.2, g⟩)
        have g' : (v / 65536 % 16 != 10) = false := by simp [g]
        have e : Hid (v / 65536 / 256 = v / 16777216) := Lib.hid (by omega)
        clear g H
        go_wp2_with fail
        go_round
        case rel => exact .inr (.inr (.inr (.inl ⟨rfl, by rw [e.out], G⟩)))
        case measure => simp [intOf]
      · have g' : (v / 65536 % 16 != 10) = true := by simp [g]
        have HF := Lib.hid (show rsv v = false by rw [HV.out]; simp [g])
        clear g
        go_wp2_with fail
        go_ret
        exact ⟨by rw [HF.out]; rfl, rfl⟩
    · by_cases g : v / 16777216 % 16 = 10
      · have G := Lib.hid (show v % 16 = 10 ∧ v / 256 % 16 = 10 ∧ v / 65536 % 16 = 10 ∧ v / 16777216 % 16 = 10 from ⟨H.out.1, H.out.2.1, H.out.2.2, g⟩)
        have g' : (v / 16777216 % 16 != 10) = false := by simp [g]
        clear g H
        go_wp2_with fail
        go_round
        case rel => exact .inr (.inr (.inr (.inr ⟨rfl, _, rfl, G⟩)))
        case measure => simp [intOf]
      · have g' : (v / 16777216 % 16 != 10) = true := by simp [g]
        have HF := Lib.hid (show rsv v = false by rw [HV.out]; simp [g])
        clear g
        go_wp2_with fail
        go_ret
        exact ⟨by rw [HF.out]; rfl, rfl⟩
    · have HF := Lib.hid (show rsv v = true by rw [HV.out]; simp [H.out])
      go_wp2_with fail
      go_ret
      exact ⟨by rw [HF.out]; rfl, rfl⟩

/-- the version that is chosen -/
def okv (theirs : List Int) (v : Int) : Bool := v != 0 && !rsv v && decide (v ∈ theirs)
def chs (mine theirs : List Int) : Option Int := mine.find? (okv theirs)
def chsV (r : Option Int) : Value := .tuple #[.int .u32 (r.getD 0), .bool r.isSome]
theorem chs_at {mine theirs : List Int} {k : Nat} (hk : k < mine.length) (h : ∀ x ∈ mine.take k, okv theirs x = false) (e : okv theirs (mine.getD k 0) = true) : chs mine theirs = some (mine.getD k 0) := by
  have hx : mine.getD k 0 = mine[k] := by rw [List.getD_eq_getElem?_getD, List.getElem?_eq_getElem hk]; rfl
  have h2 : mine = mine.take k ++ mine[k] :: mine.drop (k + 1) := by rw [List.getElem_cons_drop, List.take_append_drop]
  unfold chs
  rw [hx] at e ⊢
  conv => lhs; rw [h2]
  rw [List.find?_append, List.find?_eq_none.2 (fun x hx => by simp [h x hx]), List.find?_cons, e]
  rfl
theorem chs_snoc {mine theirs : List Int} {k : Nat} (hk : k < mine.length) (h : ∀ x ∈ mine.take k, okv theirs x = false) (e : okv theirs (mine.getD k 0) = false) : ∀ x ∈ mine.take (k + 1), okv theirs x = false := by
  have hx : mine.getD k 0 = mine[k] := by rw [List.getD_eq_getElem?_getD, List.getElem?_eq_getElem hk]; rfl
  rw [List.take_succ_eq_append_getElem hk]
  intro x hm
  rcases List.mem_append.1 hm with g | g
  · exact h x g
  · simp at g; rw [g, ← hx]; exact e
theorem chs_none {mine theirs : List Int} (h : ∀ x ∈ mine, okv theirs x = false) : chs mine theirs = none := by
  unfold chs; exact List.find?_eq_none.2 (fun x hx => by simp [h x hx])
theorem choose_any (A A2 : Option Addr) (c c2 : Nat) (xs ys : List Int) (w : World) (hr : Rd w.heap.size .u32 w A xs) (hr2 : Rd w.heap.size .u32 w A2 ys) (hl : xs.length ≤ 9223372036854775807) (hl2 : ys.length ≤ 9223372036854775807) :
    Calls Try.prog 9 #[.slice A xs.length c, .slice A2 ys.length c2] w fun e w' => e = .returned (chsV (chs xs ys)) ∧ w = w' := by
  have HR := Lib.hid hr
  have HC := Lib.hid (fun v => contains_any A2 c2 ys v w hr2 hl2)
  clear hr hr2
  go_enter Try.func9, Try.ntmps9
  go_wp2_with fail
  go_loop [10] (fun i => ∃ k : Nat, k ≤ xs.length ∧ i = .int .i64 k ∧ Hid (∀ x ∈ xs.take k, okv ys x = false)) (fun i => xs.length - (intOf i).toNat)
  case atStart => exact ⟨0, by omega, rfl, Lib.hid (by simp)⟩
  case round =>
    obtain ⟨k, hk, rfl, HN⟩ := hrel
    by_cases hlt : k < xs.length
    · obtain ⟨ad, x, rfl, hb, hc, HX⟩ := HR.out.hx hlt
      by_cases g1 : x = 0
      · have HF := Lib.hid (chs_snoc hlt HN.out (by rw [HX.out]; simp [okv, g1]))
        have g1' : (x != 0) = false := by simp [g1]
        clear g1
        go_wp2_with fail
        go_round
        case rel => exact ⟨k + 1, by omega, by go_num, HF⟩
        case measure => simp [intOf]; omega
      have g1' : (x != 0) = true := by simp [g1]
      rcases g2 : rsv x with _ | _
      · rcases g3 : decide (x ∈ ys) with _ | _
        · have HF := Lib.hid (chs_snoc hlt HN.out (by rw [HX.out]; simp only [okv, g1', g2, g3]; rfl))
          clear g1
          go_wp2_with (first | (go_at_call 11; refine (reserved_any _ _).mono ?_; rintro e w' ⟨rfl, rfl⟩) | (go_at_call 22; refine (HC.out _).mono ?_; rintro e w' ⟨rfl, rfl⟩))
          go_round
          case rel => exact ⟨k + 1, by omega, by go_num, HF⟩
          case measure => simp [intOf]; omega
        · have HF := Lib.hid (chs_at hlt HN.out (by rw [HX.out]; simp only [okv, g1', g2, g3]; rfl))
          clear g1
          go_wp2_with (first | (go_at_call 11; refine (reserved_any _ _).mono ?_; rintro e w' ⟨rfl, rfl⟩) | (go_at_call 22; refine (HC.out _).mono ?_; rintro e w' ⟨rfl, rfl⟩))
          go_ret2
          exact ⟨by rw [HF.out, HX.out]; rfl, rfl⟩
      · have HF := Lib.hid (chs_snoc hlt HN.out (by rw [HX.out]; simp [okv, g2]))
        clear g1
        go_wp2_with (first | (go_at_call 11; refine (reserved_any _ _).mono ?_; rintro e w' ⟨rfl, rfl⟩))
        go_round
        case rel => exact ⟨k + 1, by omega, by go_num, HF⟩
        case measure => simp [intOf]; omega
    · have hf := HN.out
      rw [List.take_of_length_le (by omega)] at hf
      have HF := Lib.hid (chs_none hf)
      clear hf
      go_wp2_with fail
      go_ret2
      exact ⟨by rw [HF.out]; rfl, rfl⟩

theorem rchoose_any (A A2 : Option Addr) (c c2 : Nat) (xs ys : List Int) (w : World) (hr : Rd w.heap.size .u32 w A xs) (hr2 : Rd w.heap.size .u32 w A2 ys) (hl : xs.length ≤ 9223372036854775807) (hl2 : ys.length ≤ 9223372036854775807) (hw : Wrd xs) :
    Calls Try.prog 10 #[.slice A xs.length c, .slice A2 ys.length c2] w fun e w' => e = .returned (chsV (chs xs ys)) ∧ w = w' := by
  have HR := Lib.hid hr
  have HW := Lib.hid hw
  have HC := Lib.hid (fun v => has_any A2 c2 ys v w hr2 hl2)
  clear hr hr2 hw
  go_enter Try.func10, Try.ntmps10
  go_wp2_with fail
  go_loop [6] (fun i => ∃ k : Nat, k ≤ xs.length ∧ i = .int .i64 k ∧ Hid (∀ x ∈ xs.take k, okv ys x = false)) (fun i => xs.length - (intOf i).toNat)
  case atStart => exact ⟨0, by omega, rfl, Lib.hid (by simp)⟩
  case round =>
    obtain ⟨k, hk, rfl, HN⟩ := hrel
    by_cases hlt : k < xs.length
    · have hxb := HW.out.getD k
      obtain ⟨ad, x, rfl, hb, hc, HX⟩ := HR.out.hx hlt
      rw [HX.out] at hxb
      obtain ⟨hx0, hx1⟩ := hxb
      by_cases g1 : x = 0
      · have HF := Lib.hid (chs_snoc hlt HN.out (by rw [HX.out]; simp [okv, g1]))
        have g1' : (x != 0) = false := by simp [g1]
        clear g1
        go_wp2_with fail
        go_round
        case rel => exact ⟨k + 1, by omega, by go_num, HF⟩
        case measure => simp [intOf]; omega
      have g1' : (x != 0) = true := by simp [g1]
      rcases g2 : rsv x with _ | _
      · rcases g3 : decide (x ∈ ys) with _ | _
        · have HF := Lib.hid (chs_snoc hlt HN.out (by rw [HX.out]; simp only [okv, g1', g2, g3]; rfl))
          clear g1
          go_wp2_with (first | (go_at_call 12; refine (rrsv_any _ _ hx0 hx1).mono ?_; rintro e w' ⟨rfl, rfl⟩) | (go_at_call 15; refine (HC.out _).mono ?_; rintro e w' ⟨rfl, rfl⟩))
          go_round
          case rel => exact ⟨k + 1, by omega, by go_num, HF⟩
          case measure => simp [intOf]; omega
        · have HF := Lib.hid (chs_at hlt HN.out (by rw [HX.out]; simp only [okv, g1', g2, g3]; rfl))
          clear g1
          go_wp2_with (first | (go_at_call 12; refine (rrsv_any _ _ hx0 hx1).mono ?_; rintro e w' ⟨rfl, rfl⟩) | (go_at_call 15; refine (HC.out _).mono ?_; rintro e w' ⟨rfl, rfl⟩))
          go_ret2
          exact ⟨by rw [HF.out, HX.out]; rfl, rfl⟩
      · have HF := Lib.hid (chs_snoc hlt HN.out (by rw [HX.out]; simp [okv, g2]))
        clear g1
        go_wp2_with (first | (go_at_call 12; refine (rrsv_any _ _ hx0 hx1).mono ?_; rintro e w' ⟨rfl, rfl⟩))
        go_round
        case rel => exact ⟨k + 1, by omega, by go_num, HF⟩
        case measure => simp [intOf]; omega
    · have hf := HN.out
      rw [List.take_of_length_le (by omega)] at hf
      have HF := Lib.hid (chs_none hf)
      clear hf
      go_wp2_with fail
      go_ret2
      exact ⟨by rw [HF.out]; rfl, rfl⟩
end Go.Proofs.Ytakmaocfcmdpmaa
