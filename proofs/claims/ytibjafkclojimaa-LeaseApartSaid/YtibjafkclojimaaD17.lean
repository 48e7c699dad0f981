
/- Layer 26: the slots of the chapter's rows. Conditions: as each theorem states them. -/
import Derived.Test.YtibjafkclojimaaD16
namespace Go.Proofs.Ytibjafkclojimaa
open Go.RowKit
/-- a cell of an epoch and an owner alone -/
def kc (e o : Int) : CL := ⟨e, o, 0, 0, []⟩
theorem newN_one {L0 : List Int} {c : CL} {k : Int} (h : takeL L0 = some (c, k)) {L1 : List Int} (h1 : takeL L1 = none) : newN L0 L1 = (0, c, k) := by
  unfold newN; rw [stepN_yes h (.inl (by decide)), stepN_none h1]
theorem newN_low {L0 L1 : List Int} {c d : CL} {k m : Int} (h : takeL L0 = some (c, k)) (h1 : takeL L1 = some (d, m)) (hk : m ≤ k) : newN L0 L1 = (0, c, k) := by
  unfold newN; rw [stepN_yes h (.inl (by decide)), stepN_no h1 (by simp; omega)]
theorem newN_high {L0 L1 : List Int} {c d : CL} {k m : Int} (h : takeL L0 = some (c, k)) (h1 : takeL L1 = some (d, m)) (hk : k < m) : newN L0 L1 = (1, d, m) := by
  unfold newN; rw [stepN_yes h (.inl (by decide)), stepN_yes h1 (.inr hk)]
theorem newN_nil : newN [] [] = (-1, CL.zero, 0) := by
  have h := takeL_short (b := []) (by decide)
  unfold newN; rw [stepN_none h, stepN_none h]
theorem rowsN_nil_ : rowsN [] = 0 := by simp [rowsN, rowsL]
theorem kc_fit {e o : Int} (h0 : 0 ≤ e) (h1 : e < 18446744073709551616) (h2 : 0 ≤ o) (h3 : o < 256) : (kc e o).Fit := ⟨h0, h1, h2, h3, Int.le_refl 0, (by decide : (0 : Int) < 18446744073709551616), Int.le_refl 0, (by decide : (0 : Int) < 18446744073709551616), fun x hx => by cases hx⟩
theorem kc_may {e o : Int} (h0 : 0 ≤ e) (h : o ≤ 2) : (kc e o).May := ⟨h, (by decide : (0 : Int) ≤ 4611686018427387904), h0, (by have := rowsN_nil_; show 29 + rowsN [] ≤ 16777216; omega)⟩
theorem kc_len (e o k : Int) : ((kc e o).rcd k).length = 49 := by rw [CL.rcd_len]; have := rowsN_nil_; show 20 + (29 + rowsN []) = 49; omega
theorem kc_rcd {e o k : Int} (h0 : 0 ≤ e) (h1 : e < 18446744073709551616) (h2 : 0 ≤ o) (h3 : o ≤ 2) (k0 : 0 ≤ k) (k1 : k < 18446744073709551616) : takeL ((kc e o).rcd k) = some (kc e o, k) := takeL_rcd (kc_fit h0 h1 h2 (by omega)) (kc_may h0 h3) k0 k1
theorem kc_cut {e o k : Int} (h0 : 0 ≤ e) (h1 : e < 18446744073709551616) (h2 : 0 ≤ o) (h3 : o ≤ 2) {m : Nat} (hm : m < 49) : takeL (((kc e o).rcd k).take m) = none := takeL_cut (kc_fit h0 h1 h2 (by omega)) (kc_may h0 h3) (by rw [kc_len]; exact hm)
theorem n1 : newN ((kc 1 2).rcd 1) [] = (0, kc 1 2, 1) := newN_one (kc_rcd (by decide) (by decide) (by decide) (by decide) (by decide) (by decide)) (takeL_short (by decide))
theorem n2 : newN ((kc 1 2).rcd 1) (((kc 2 0).rcd 2).take 20) = (0, kc 1 2, 1) := newN_one (kc_rcd (by decide) (by decide) (by decide) (by decide) (by decide) (by decide)) (kc_cut (by decide) (by decide) (by decide) (by decide) (by decide))
theorem n3 : newN ((kc 1 2).rcd 1) ((kc 3 0).rcd 2) = (1, kc 3 0, 2) := newN_high (kc_rcd (by decide) (by decide) (by decide) (by decide) (by decide) (by decide)) (kc_rcd (by decide) (by decide) (by decide) (by decide) (by decide) (by decide)) (by decide)
theorem n4 : newN ((kc 4 0).rcd 3) ((kc 3 0).rcd 2) = (0, kc 4 0, 3) := newN_low (kc_rcd (by decide) (by decide) (by decide) (by decide) (by decide) (by decide)) (kc_rcd (by decide) (by decide) (by decide) (by decide) (by decide) (by decide)) (by decide)
theorem wr1 : wrS (kc 1 2) (newN [] []) [] [] false 0 false = (0, (kc 1 2).rcd 1, [], false, false) := by
  rw [newN_nil]; unfold wrS; rw [if_neg (fun q => q (kc_may (by decide) (by decide))), if_pos rfl, if_neg (by decide)]; rfl
theorem wr2 : wrS (kc 2 0) (newN ((kc 1 2).rcd 1) []) ((kc 1 2).rcd 1) [] true 20 false = (8, (kc 1 2).rcd 1, ((kc 2 0).rcd 2).take 20, false, true) := by
  rw [n1]; unfold wrS; rw [if_neg (fun q => q (kc_may (by decide) (by decide))), if_neg (by decide), if_neg (by decide), if_pos rfl]; rfl
theorem wr3 : wrS (kc 3 0) (newN ((kc 1 2).rcd 1) (((kc 2 0).rcd 2).take 20)) ((kc 1 2).rcd 1) (((kc 2 0).rcd 2).take 20) false 20 true = (0, (kc 1 2).rcd 1, (kc 3 0).rcd 2, false, false) := by
  rw [n2]; unfold wrS; rw [if_neg (fun q => q (kc_may (by decide) (by decide))), if_pos rfl, if_pos rfl]; rfl
theorem wr4 : wrS (kc 4 0) (newN ((kc 1 2).rcd 1) ((kc 3 0).rcd 2)) ((kc 1 2).rcd 1) ((kc 3 0).rcd 2) true 1000 false = (8, (kc 4 0).rcd 3, (kc 3 0).rcd 2, false, true) := by
  rw [n3]; unfold wrS; rw [if_neg (fun q => q (kc_may (by decide) (by decide))), if_neg (by decide), if_neg (by decide), if_neg (by decide)]
  rw [List.take_of_length_le (by rw [kc_len]; decide)]; rfl
theorem wr5 : wrS (kc 5 0) (newN ((kc 4 0).rcd 3) ((kc 3 0).rcd 2)) ((kc 4 0).rcd 3) ((kc 3 0).rcd 2) true (-1) true = (8, (kc 4 0).rcd 3, (kc 3 0).rcd 2, false, true) := by
  rw [n4]; unfold wrS; rw [if_neg (fun q => q (kc_may (by decide) (by decide))), if_neg (by decide), if_pos (by decide)]
end Go.Proofs.Ytibjafkclojimaa
