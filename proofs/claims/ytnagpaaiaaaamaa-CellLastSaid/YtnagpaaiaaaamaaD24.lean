/- Layer 26: what a store tells behind a write. Conditions: as each theorem states them. -/
import Derived.Test.YtnagpaaiaaaamaaD23
namespace Go.Proofs.Ytnagpaaiaaaamaa
open Go.RowKit
/-- the newest record of two slots is the last cell, of that count -/
def LastI (L0 L1 : List Int) (last : CL) (N : Int) : Prop :=
  ∃ sl, newN L0 L1 = (sl, last, N) ∧ ((sl = 0 ∧ takeL L0 = some (last, N) ∧ 0 < N) ∨ (sl = 1 ∧ takeL L1 = some (last, N) ∧ 0 < N) ∨ (sl = -1 ∧ takeL L0 = none ∧ takeL L1 = none ∧ N = 0 ∧ last = CL.zero))
theorem lastI_nil : LastI [] [] CL.zero 0 := ⟨-1, newN_nil, .inr (.inr ⟨rfl, takeL_short (by decide), takeL_short (by decide), rfl, rfl⟩)⟩
theorem newN_two {L0 L1 : List Int} {c : CL} {k : Int} (h : takeL L0 = none) (h1 : takeL L1 = some (c, k)) : newN L0 L1 = (1, c, k) := by
  unfold newN; rw [stepN_none h, stepN_yes h1 (.inl (by decide))]
theorem newN_none {L0 L1 : List Int} (h : takeL L0 = none) (h1 : takeL L1 = none) : newN L0 L1 = (-1, CL.zero, 0) := by
  unfold newN; rw [stepN_none h, stepN_none h1]
section
variable {L0 L1 R : List Int} {last c : CL} {N : Int}
theorem put_yes (hI : LastI L0 L1 last N) (h : takeL R = some (c, N + 1)) (_h0 : 0 ≤ N) : (∃ sl, newN L0 L1 = (sl, last, N) ∧ ((sl = 0 ∧ LastI L0 R c (N + 1)) ∨ (sl ≠ 0 ∧ LastI R L1 c (N + 1)))) := by
  obtain ⟨sl, e, ⟨rfl, h1, h2⟩ | ⟨rfl, h1, h2⟩ | ⟨rfl, h1, h2, h3, h4⟩⟩ := hI
  · exact ⟨0, e, .inl ⟨rfl, 1, newN_high h1 h (by omega), .inr (.inl ⟨rfl, h, by omega⟩)⟩⟩
  · exact ⟨1, e, .inr ⟨by decide, 0, newN_low h h1 (by omega), .inl ⟨rfl, h, by omega⟩⟩⟩
  · exact ⟨-1, e, .inr ⟨by decide, 0, newN_one h h2, .inl ⟨rfl, h, by omega⟩⟩⟩
theorem put_no (hI : LastI L0 L1 last N) (h : takeL R = none) : (∃ sl, newN L0 L1 = (sl, last, N) ∧ ((sl = 0 ∧ LastI L0 R last N) ∨ (sl ≠ 0 ∧ LastI R L1 last N))) := by
  obtain ⟨sl, e, ⟨rfl, h1, h2⟩ | ⟨rfl, h1, h2⟩ | ⟨rfl, h1, h2, h3, h4⟩⟩ := hI
  · exact ⟨0, e, .inl ⟨rfl, 0, newN_one h1 h, .inl ⟨rfl, h1, h2⟩⟩⟩
  · exact ⟨1, e, .inr ⟨by decide, 1, newN_two h h1, .inr (.inl ⟨rfl, h1, h2⟩)⟩⟩
  · refine ⟨-1, e, .inr ⟨by decide, -1, ?_, .inr (.inr ⟨rfl, h, h2, h3, h4⟩)⟩⟩
    rw [newN_none h h2, h3, h4]
end
/-- what a write that is not torn leaves -/
theorem wr_whole {L0 L1 : List Int} {last c : CL} {N a : Int} {t : Bool} (hI : LastI L0 L1 last N) (o0 : Okl L0) (o1 : Okl L1) (hf : c.Fit) (hm : c.May) (h0 : 0 ≤ N) (h1 : N < 1000) :
    ∃ R0 R1, wrS c (newN L0 L1) L0 L1 false a t = (0, R0, R1, false, false) ∧ LastI R0 R1 c (N + 1) ∧ Okl R0 ∧ Okl R1 := by
  have hR : Okl (c.rcd (N + 1)) := ⟨CL.rcd_byt hf _, by rw [CL.rcd_len]; have := hm.2.2.2; omega⟩
  obtain ⟨sl, e, ⟨rfl, h⟩ | ⟨h2, h⟩⟩ := put_yes (R := c.rcd (N + 1)) (c := c) hI (takeL_rcd hf hm (by omega) (by omega)) h0
  · refine ⟨L0, c.rcd (N + 1), ?_, h, o0, hR⟩
    rw [e]; unfold wrS; rw [if_neg (fun q => q hm), if_pos rfl, if_pos rfl]
  · refine ⟨c.rcd (N + 1), L1, ?_, h, hR, o1⟩
    rw [e]; unfold wrS; rw [if_neg (fun q => q hm), if_pos rfl, if_neg h2]
/-- what a write that is torn behind all its bytes leaves -/
theorem wr_late {L0 L1 : List Int} {last c : CL} {N a : Int} {t : Bool} (hI : LastI L0 L1 last N) (o0 : Okl L0) (o1 : Okl L1) (hf : c.Fit) (hm : c.May) (h0 : 0 ≤ N) (h1 : N < 1000) (ha : ((c.rcd (N + 1)).length : Int) ≤ a) :
    ∃ R0 R1, wrS c (newN L0 L1) L0 L1 true a t = (8, R0, R1, false, true) ∧ LastI R0 R1 c (N + 1) ∧ Okl R0 ∧ Okl R1 := by
  have hR : Okl (c.rcd (N + 1)) := ⟨CL.rcd_byt hf _, by rw [CL.rcd_len]; have := hm.2.2.2; omega⟩
  have ht : (c.rcd (N + 1)).take a.toNat = c.rcd (N + 1) := List.take_of_length_le (by omega)
  obtain ⟨sl, e, ⟨rfl, h⟩ | ⟨h2, h⟩⟩ := put_yes (R := c.rcd (N + 1)) (c := c) hI (takeL_rcd hf hm (by omega) (by omega)) h0
  · refine ⟨L0, c.rcd (N + 1), ?_, h, o0, hR⟩
    rw [e]; unfold wrS; rw [if_neg (fun q => q hm), if_neg (by decide), if_neg (by omega), if_pos rfl]; simp only [ht]
  · refine ⟨c.rcd (N + 1), L1, ?_, h, hR, o1⟩
    rw [e]; unfold wrS; rw [if_neg (fun q => q hm), if_neg (by decide), if_neg (by omega), if_neg h2]; simp only [ht]
/-- what a write that is torn leaves -/
theorem wr_torn {L0 L1 : List Int} {last c : CL} {N a : Int} {t : Bool} (hI : LastI L0 L1 last N) (o0 : Okl L0) (o1 : Okl L1) (hf : c.Fit) (hm : c.May) (ha : a < ((c.rcd (N + 1)).length : Int)) :
    ∃ R0 R1, wrS c (newN L0 L1) L0 L1 true a t = (8, R0, R1, false, true) ∧ LastI R0 R1 last N ∧ Okl R0 ∧ Okl R1 := by
  have hR : Okl (c.rcd (N + 1)) := ⟨CL.rcd_byt hf _, by rw [CL.rcd_len]; have := hm.2.2.2; omega⟩
  by_cases hn : a < 0
  · refine ⟨L0, L1, ?_, hI, o0, o1⟩
    unfold wrS; rw [if_neg (fun q => q hm), if_neg (by decide), if_pos hn]
  · obtain ⟨sl, e, ⟨rfl, h⟩ | ⟨h2, h⟩⟩ := put_no (R := (c.rcd (N + 1)).take a.toNat) hI (takeL_cut hf hm (by omega))
    · refine ⟨L0, (c.rcd (N + 1)).take a.toNat, ?_, h, o0, okl_take hR _⟩
      rw [e]; unfold wrS; rw [if_neg (fun q => q hm), if_neg (by decide), if_neg hn, if_pos rfl]
    · refine ⟨(c.rcd (N + 1)).take a.toNat, L1, ?_, h, okl_take hR _, o1⟩
      rw [e]; unfold wrS; rw [if_neg (fun q => q hm), if_neg (by decide), if_neg hn, if_neg h2]
theorem wr_not {L0 L1 : List Int} {s : Int × CL × Int} {c : CL} {a : Int} {f t : Bool} (hm : ¬ c.May) : wrS c s L0 L1 f a t = (2, L0, L1, f, t) := by
  unfold wrS; rw [if_pos hm]
theorem wr_fails {L0 L1 : List Int} {s : Int × CL × Int} {c : CL} {t : Bool} (hm : c.May) : wrS c s L0 L1 true (-1) t = (8, L0, L1, false, true) := by
  unfold wrS; rw [if_neg (fun q => q hm), if_neg (by decide), if_pos (by decide)]
theorem rows_great {l : List CX} {i : Nat} (h : i < l.length) : rowsN (bsT (l.getD i CX.zero).ts) ≤ greatN l := by
  have h1 := rowsX_take h
  have h2 := rowsX_le l (i + 1)
  unfold greatN
  omega
theorem zero_kc : CL.zero = kc 0 0 := rfl
end Go.Proofs.Ytnagpaaiaaaamaa
