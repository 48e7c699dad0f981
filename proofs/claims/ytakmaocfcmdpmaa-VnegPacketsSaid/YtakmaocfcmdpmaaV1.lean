/- Contracts: vneg.Reserved, slices.Index and slices.Contains of versions, the reference's Has, Reserved. Conditions: as each theorem states them. -/
import Derived.Test.YtakmaocfcmdpmaaRows
import Derived.Test.YtakmaocfcmdpmaaB
namespace Go.Proofs.Ytakmaocfcmdpmaa
open Go.RowKit

def rsv (v : Int) : Bool := bits .and .u32 v 252645135 == 168430090

theorem reserved_any (v : Int) (w : World) : Calls Try.prog 11 #[.int .u32 v] w fun e w' => e = .returned (.bool (rsv v)) ∧ w = w' := by
  unfold rsv
  go_enter Try.func11, Try.ntmps11
  go_wp2_with fail
  go_ret
  exact ⟨rfl, rfl⟩

/-- where a version stands first -/
def idx (v : Int) (xs : List Int) : Int := if v ∈ xs then (xs.idxOf v : Int) else -1
theorem idx_of_take {v : Int} {xs : List Int} {k : Nat} (hk : k < xs.length) (h : ¬ v ∈ xs.take k) (e : v = xs.getD k 0) : idx v xs = k := by
  have hx : xs[k] = v := by rw [e, List.getD_eq_getElem?_getD, List.getElem?_eq_getElem hk]; rfl
  have hm : v ∈ xs := by rw [← hx]; exact List.getElem_mem hk
  unfold idx
  rw [if_pos hm]
  have h2 : xs = xs.take k ++ v :: xs.drop (k + 1) := by rw [← hx, List.getElem_cons_drop, List.take_append_drop]
  rw [h2, List.idxOf_append, if_neg h]
  simp
  omega
theorem not_mem_snoc {v : Int} {xs : List Int} {k : Nat} (hk : k < xs.length) (h : ¬ v ∈ xs.take k) (e : v ≠ xs.getD k 0) : ¬ v ∈ xs.take (k + 1) := by
  rw [List.take_succ_eq_append_getElem hk]
  rw [List.getD_eq_getElem?_getD, List.getElem?_eq_getElem hk] at e
  intro hm
  rcases List.mem_append.1 hm with g | g
  · exact h g
  · exact e (by simpa using g)

theorem index_any (A : Option Addr) (c : Nat) (xs : List Int) (v : Int) (w : World) (hr : Rd w.heap.size .u32 w A xs) (hl : xs.length ≤ 9223372036854775807) :
    Calls Try.prog 28 #[.slice A xs.length c, .int .u32 v] w fun e w' => e = .returned (.int .i64 (idx v xs)) ∧ w = w' := by
  have HR := Lib.hid hr
  clear hr
  go_enter Try.func28, Try.ntmps28
  go_wp2_with fail
  go_loop [8] (fun i => ∃ k : Nat, k ≤ xs.length ∧ i = .int .i64 k ∧ Hid (¬ v ∈ xs.take k)) (fun i => xs.length - (intOf i).toNat)
  case atStart => exact ⟨0, by omega, rfl, Lib.hid (by simp)⟩
  case round =>
    obtain ⟨k, hk, rfl, HN⟩ := hrel
    by_cases hlt : k < xs.length
    · obtain ⟨ad, rfl, hb, hc⟩ := HR.out k hlt
      generalize hx : xs.getD k 0 = x at hc
      have HX := Lib.hid hx
      clear hx
      rcases beq_ways v x with ⟨he, HE⟩ | ⟨he, HE⟩
      · have hf := Lib.hid (idx_of_take hlt HN.out (HE.out.trans HX.out.symm))
        go_wp2_with fail
        go_ret
        exact ⟨by rw [hf.out]; rfl, rfl⟩
      · have hf := Lib.hid (not_mem_snoc hlt HN.out (by rw [HX.out]; exact HE.out))
        go_wp2_with fail
        go_round
        case rel => exact ⟨k + 1, by omega, by go_num, hf⟩
        case measure => simp [intOf]; omega
    · have hf : idx v xs = -1 := by
        have := HN.out
        rw [List.take_of_length_le (by omega)] at this
        unfold idx; rw [if_neg this]
      have HF := Lib.hid hf
      clear hf
      go_wp2_with fail
      go_ret
      exact ⟨by rw [HF.out]; rfl, rfl⟩

theorem contains_any (A : Option Addr) (c : Nat) (xs : List Int) (v : Int) (w : World) (hr : Rd w.heap.size .u32 w A xs) (hl : xs.length ≤ 9223372036854775807) :
    Calls Try.prog 22 #[.slice A xs.length c, .int .u32 v] w fun e w' => e = .returned (.bool (decide (v ∈ xs))) ∧ w = w' := by
  have HI := Lib.hid (index_any A c xs v w hr hl)
  have hd : decide (0 ≤ idx v xs) = decide (v ∈ xs) := by
    unfold idx; split <;> simp_all
  clear hr
  go_enter Try.func22, Try.ntmps22
  go_wp2_with fail
  refine HI.out.mono ?_
  rintro e w' ⟨rfl, rfl⟩
  have HD := Lib.hid hd
  clear hd
  go_wp2_with fail
  go_ret
  exact ⟨ret_bool HD.out, rfl⟩

theorem has_any (A : Option Addr) (c : Nat) (xs : List Int) (v : Int) (w : World) (hr : Rd w.heap.size .u32 w A xs) (hl : xs.length ≤ 9223372036854775807) :
    Calls Try.prog 15 #[.slice A xs.length c, .int .u32 v] w fun e w' => e = .returned (.bool (decide (v ∈ xs))) ∧ w = w' := by
  have HR := Lib.hid hr
  clear hr
  go_enter Try.func15, Try.ntmps15
  go_wp2_with fail
  go_loop [5] (fun i => ∃ k : Nat, k ≤ xs.length ∧ i = .int .i64 k ∧ Hid (¬ v ∈ xs.take k)) (fun i => xs.length - (intOf i).toNat)
  case atStart => exact ⟨0, by omega, rfl, Lib.hid (by simp)⟩
  case round =>
    obtain ⟨k, hk, rfl, HN⟩ := hrel
    by_cases hlt : k < xs.length
    · obtain ⟨ad, rfl, hb, hc⟩ := HR.out k hlt
      generalize hx : xs.getD k 0 = x at hc
      have HX := Lib.hid hx
      clear hx
      rcases beq_ways x v with ⟨he, HE⟩ | ⟨he, HE⟩
      · have hf := Lib.hid (show v ∈ xs by rw [← HE.out, ← HX.out, List.getD_eq_getElem?_getD, List.getElem?_eq_getElem hlt]; simp)
        go_wp2_with fail
        go_ret
        exact ⟨ret_bool (by simp [hf.out]), rfl⟩
      · have hf := Lib.hid (not_mem_snoc hlt HN.out (by rw [HX.out]; exact Ne.symm HE.out))
        go_wp2_with fail
        go_round
        case rel => exact ⟨k + 1, by omega, by go_num, hf⟩
        case measure => simp [intOf]; omega
    · have hf := HN.out
      rw [List.take_of_length_le (by omega)] at hf
      have HF := Lib.hid hf
      clear hf
      go_wp2_with fail
      go_ret
      exact ⟨ret_bool (by simp [HF.out]), rfl⟩
end Go.Proofs.Ytakmaocfcmdpmaa
