/- Layer 33: what any bytes are as a token: plain functions. Conditions: as each theorem states them. -/
import Derived.Test.YtieabfifaigjdaaF7
namespace Go.Proofs.Ytieabfifaigjdaa
open Go.RowKit
theorem ofF_lead (a : Int) : ∀ b : List Int, ofF a b = a * 256 ^ b.length + ofF 0 b
  | [] => by simp [ofF]
  | x :: b => by
    rw [ofF_cons, ofF_cons, ofF_lead (256 * a + x) b, ofF_lead (256 * 0 + x) b, List.length_cons, Int.pow_succ, Int.add_mul, Int.add_mul]
    have e1 : 256 * a * 256 ^ b.length = a * (256 ^ b.length * 256) := by rw [Int.mul_comm 256 a, Int.mul_assoc, Int.mul_comm 256 (256 ^ b.length)]
    rw [e1]
    simp only [Int.mul_zero, Int.zero_mul, Int.zero_add]
    omega
theorem beL_add (a m : Int) (k : Nat) : ∀ j, j ≤ k → beL (a * 256 ^ k + m) j = beL m j
  | 0, _ => rfl
  | j + 1, h => by
    rw [beL, beL, beL_add a m k j (by omega)]
    congr 1
    obtain ⟨d, rfl⟩ : ∃ d, k = j + 1 + d := ⟨k - (j + 1), by omega⟩
    have e : a * 256 ^ (j + 1 + d) = (a * 256 ^ d * 256) * 256 ^ j := by
      rw [Int.pow_add, Int.pow_succ]
      simp only [Int.mul_assoc, Int.mul_comm, Int.mul_left_comm]
    rw [e, Int.add_comm, Int.add_mul_ediv_right _ _ (Int.ne_of_gt (pow_pos256 j))]
    generalize a * 256 ^ d = q
    generalize m / 256 ^ j = p
    omega
theorem beL_ofF : ∀ b : List Int, Byt b → beL (ofF 0 b) b.length = b
  | [], _ => rfl
  | x :: b, h => by
    have hx := h x (by simp)
    have hb : Byt b := fun y hy => h y (by simp [hy])
    have hr := ofF_range 0 b hb (by decide)
    rw [ofF_cons, ofF_lead, Int.mul_zero, Int.zero_add, List.length_cons, beL, beL_add _ _ _ _ (Nat.le_refl _), beL_ofF b hb]
    congr 1
    rw [Int.add_comm, Int.add_mul_ediv_right _ _ (Int.ne_of_gt (pow_pos256 _)), Int.ediv_eq_zero_of_lt hr.1 (by have := hr.2; rw [Int.zero_add, Int.one_mul] at this; exact this), Int.zero_add]
    exact Int.emod_eq_of_lt hx.1 hx.2
/-- of bytes as a token: the id, the address, the tick -/
def tkOrig (tok : List Int) : List Int := (tok.drop 13).take (tok.length - 29)
def tkFrom (tok : List Int) : Int := ofF 0 (tok.take 4)
def tkAt (tok : List Int) : Int := ofF 0 ((tok.drop 4).take 8)
def tkShape (tok : List Int) : Prop := 29 ≤ tok.length ∧ tok.getD 12 0 ≤ 20 ∧ (tok.length : Int) = 29 + tok.getD 12 0
open Classical in
noncomputable def chkL (sec : List Int) (life : Int) (tok : List Int) (addr now : Int) : List Int × Int :=
  if ¬ (tkShape tok ∧ macR sec (tok.take (tok.length - 16)) = tok.drop (tok.length - 16)) then ([], 2) else
  if tkFrom tok ≠ addr then ([], 5) else
  if now < tkAt tok ∨ life < now - tkAt tok then ([], 8) else (tkOrig tok, 0)
theorem tkOrig_len {tok : List Int} (h : tkShape tok) : ((tkOrig tok).length : Int) = tok.getD 12 0 := by
  unfold tkOrig
  obtain ⟨h1, h2, h3⟩ := h
  rw [List.length_take, List.length_drop]
  omega
theorem tok_head {tok : List Int} (hb : Byt tok) (h : tkShape tok) : tokB (tkFrom tok) (tkAt tok) (tkOrig tok) = tok.take (tok.length - 16) := by
  have hl := tkOrig_len h
  obtain ⟨h1, h2, h3⟩ := h
  unfold tokB
  have e1 : beL (tkFrom tok) 4 = tok.take 4 := by
    have := beL_ofF (tok.take 4) (hb.take 4)
    rw [List.length_take, show min 4 tok.length = 4 by omega] at this
    exact this
  have e2 : beL (tkAt tok) 8 = (tok.drop 4).take 8 := by
    have := beL_ofF ((tok.drop 4).take 8) ((hb.drop 4).take 8)
    rw [List.length_take, List.length_drop, show min 8 (tok.length - 4) = 8 by omega] at this
    exact this
  rw [e1, e2, hl]
  unfold tkOrig
  have k1 : tok.take 4 ++ (tok.drop 4).take 8 = tok.take 12 := by rw [show (12 : Nat) = 4 + 8 from rfl, List.take_add]
  have k2 : tok.take 12 ++ [tok.getD 12 0] = tok.take 13 := (take_snoc_getD (xs := tok) (t := 12) (by omega)).symm
  rw [k1, k2]
  have k3 : tok.take 13 ++ (tok.drop 13).take (tok.length - 29) = tok.take (13 + (tok.length - 29)) := by rw [List.take_add]
  rw [k3]
  congr 1
  omega
theorem tok_same {sec tok : List Int} (hb : Byt tok) (h : tkShape tok) : tknL sec (tkFrom tok) (tkAt tok) (tkOrig tok) = tok ↔ macR sec (tok.take (tok.length - 16)) = tok.drop (tok.length - 16) := by
  unfold tknL
  rw [tok_head hb h]
  conv => lhs; rhs; rw [← List.take_append_drop (tok.length - 16) tok]
  exact ⟨fun q => List.append_cancel_left q, fun q => by rw [q]⟩
theorem tkFrom_range {tok : List Int} (hb : Byt tok) (h : 4 ≤ tok.length) : 0 ≤ tkFrom tok ∧ tkFrom tok < 4294967296 := by
  have h1 := ofF_range 0 (tok.take 4) (hb.take 4) (by decide)
  rw [List.length_take, show min 4 tok.length = 4 by omega] at h1
  have : (256 : Int) ^ 4 = 4294967296 := by decide
  unfold tkFrom
  omega
theorem tkAt_range {tok : List Int} (hb : Byt tok) (h : 12 ≤ tok.length) : 0 ≤ tkAt tok ∧ tkAt tok < 18446744073709551616 := by
  have h1 := ofF_range 0 ((tok.drop 4).take 8) ((hb.drop 4).take 8) (by decide)
  rw [List.length_take, List.length_drop, show min 8 (tok.length - 4) = 8 by omega] at h1
  have : (256 : Int) ^ 8 = 18446744073709551616 := by decide
  unfold tkAt
  omega
/-- a token, as it was made -/
theorem tkn_parts {sec : List Int} {addr at_ : Int} {orig : List Int} (a0 : 0 ≤ addr) (a1 : addr < 4294967296) (t0 : 0 ≤ at_) (t1 : at_ < 18446744073709551616) (hl : orig.length ≤ 20) :
    tkFrom (tknL sec addr at_ orig) = addr ∧ tkAt (tknL sec addr at_ orig) = at_ ∧ tkOrig (tknL sec addr at_ orig) = orig ∧ tkShape (tknL sec addr at_ orig) ∧ macR sec ((tknL sec addr at_ orig).take ((tknL sec addr at_ orig).length - 16)) = (tknL sec addr at_ orig).drop ((tknL sec addr at_ orig).length - 16) := by
  have hlen := tknL_len sec addr at_ orig
  have hbl := tokB_len addr at_ orig
  have e : tknL sec addr at_ orig = beL addr 4 ++ (beL at_ 8 ++ ([(orig.length : Int)] ++ (orig ++ macR sec (tokB addr at_ orig)))) := by
    unfold tknL
    conv => lhs; lhs; unfold tokB
    simp only [List.append_assoc]
  have h4 : (256 : Int) ^ 4 = 4294967296 := by decide
  have h8 : (256 : Int) ^ 8 = 18446744073709551616 := by decide
  have f1 : tkFrom (tknL sec addr at_ orig) = addr := by
    unfold tkFrom
    rw [e, List.take_left' (beL_len _ _), ofF_beL 0 addr a0 4, h4, Int.zero_mul, Int.zero_add, Int.emod_eq_of_lt a0 a1]
  have f2 : tkAt (tknL sec addr at_ orig) = at_ := by
    unfold tkAt
    rw [e, List.drop_left' (beL_len _ _), List.take_left' (beL_len _ _), ofF_beL 0 at_ t0 8, h8, Int.zero_mul, Int.zero_add, Int.emod_eq_of_lt t0 t1]
  have d12 : (tknL sec addr at_ orig).drop 12 = [(orig.length : Int)] ++ (orig ++ macR sec (tokB addr at_ orig)) := by
    rw [e, show (12 : Nat) = 4 + 8 from rfl, ← List.drop_drop, List.drop_left' (beL_len _ _), List.drop_left' (beL_len _ _)]
  have g12 : (tknL sec addr at_ orig).getD 12 0 = (orig.length : Int) := by
    have q := congrArg (fun l : List Int => l[0]?) d12
    simp only [List.getElem?_drop] at q
    rw [List.getD_eq_getElem?_getD, q]
    rfl
  have f3 : tkOrig (tknL sec addr at_ orig) = orig := by
    unfold tkOrig
    rw [hlen, show (13 : Nat) = 12 + 1 from rfl, ← List.drop_drop, d12, show List.drop 1 ([(orig.length : Int)] ++ (orig ++ macR sec (tokB addr at_ orig))) = orig ++ macR sec (tokB addr at_ orig) from rfl, show 29 + orig.length - 29 = orig.length by omega, List.take_left]
  refine ⟨f1, f2, f3, ⟨by omega, by omega, by rw [g12, hlen]; omega⟩, ?_⟩
  have t : (tknL sec addr at_ orig).take ((tknL sec addr at_ orig).length - 16) = tokB addr at_ orig := by
    rw [hlen]; unfold tknL; exact List.take_left' (by rw [hbl]; omega)
  have d : (tknL sec addr at_ orig).drop ((tknL sec addr at_ orig).length - 16) = macR sec (tokB addr at_ orig) := by
    rw [hlen]; unfold tknL; exact List.drop_left' (by rw [hbl]; omega)
  rw [t, d]
end Go.Proofs.Ytieabfifaigjdaa
