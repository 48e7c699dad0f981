/- The column's mix is injective. Conditions: as each theorem states them. -/
import Derived.Test.YtepkbllcaeceeaaE3
namespace Go.Proofs.Ytepkbllcaeceeaa
/-- twice, on all naturals -/
def twN (n : Nat) : Nat := (tw ((n % 256 : Nat) : Int)).toNat
theorem b8_mod (n : Nat) : B8 ((n % 256 : Nat) : Int) := ⟨by omega, by omega⟩
theorem twN_lin (x y : Nat) : twN (x ^^^ y) = twN x ^^^ twN y := by
  unfold twN
  have h : (x ^^^ y) % 256 = (x % 256) ^^^ (y % 256) := Nat.xor_mod_two_pow (n := 8)
  have e : (((x ^^^ y) % 256 : Nat) : Int) = xb ((x % 256 : Nat) : Int) ((y % 256 : Nat) : Int) := by
    rw [xb_nat (b8_mod x) (b8_mod y), h]; rfl
  rw [e, tw_lin (b8_mod x) (b8_mod y), xb_nat (tw_u (b8_mod x)) (tw_u (b8_mod y))]
  rfl
theorem xcl (x y : Nat) : x ^^^ (x ^^^ y) = y := by rw [← Nat.xor_assoc, Nat.xor_self, Nat.zero_xor]
theorem xlc (x y z : Nat) : x ^^^ (y ^^^ z) = y ^^^ (x ^^^ z) := by rw [← Nat.xor_assoc, Nat.xor_comm x y, Nat.xor_assoc]
/-- a column's four bytes, mixed -/
def mixc (T : Nat → Nat) (a b c d : Nat) : Nat × Nat × Nat × Nat :=
  (a ^^^ ((a ^^^ b ^^^ c ^^^ d) ^^^ T (a ^^^ b)), b ^^^ ((a ^^^ b ^^^ c ^^^ d) ^^^ T (b ^^^ c)), c ^^^ ((a ^^^ b ^^^ c ^^^ d) ^^^ T (c ^^^ d)), d ^^^ ((a ^^^ b ^^^ c ^^^ d) ^^^ T (d ^^^ a)))
set_option linter.unusedSimpArgs false in
theorem mixc_all {T : Nat → Nat} (hT : ∀ x y, T (x ^^^ y) = T x ^^^ T y) (a b c d : Nat) :
    (mixc T a b c d).1 ^^^ (mixc T a b c d).2.1 ^^^ (mixc T a b c d).2.2.1 ^^^ (mixc T a b c d).2.2.2 = a ^^^ b ^^^ c ^^^ d := by
  simp only [mixc, hT]
  simp only [Nat.xor_assoc, Nat.xor_comm, xlc, Nat.xor_self, Nat.xor_zero, Nat.zero_xor, xcl]
set_option linter.unusedSimpArgs false in
theorem mixc_02 {T : Nat → Nat} (hT : ∀ x y, T (x ^^^ y) = T x ^^^ T y) (a b c d : Nat) :
    a ^^^ c = (mixc T a b c d).1 ^^^ (mixc T a b c d).2.2.1 ^^^ T (a ^^^ b ^^^ c ^^^ d) := by
  simp only [mixc, hT]
  simp only [Nat.xor_assoc, Nat.xor_comm, xlc, Nat.xor_self, Nat.xor_zero, Nat.zero_xor, xcl]
set_option linter.unusedSimpArgs false in
theorem mixc_01 {T : Nat → Nat} (hT : ∀ x y, T (x ^^^ y) = T x ^^^ T y) (a b c d : Nat) :
    a ^^^ b = (mixc T a b c d).1 ^^^ (mixc T a b c d).2.1 ^^^ T (a ^^^ c) := by
  simp only [mixc, hT]
  simp only [Nat.xor_assoc, Nat.xor_comm, xlc, Nat.xor_self, Nat.xor_zero, Nat.zero_xor, xcl]
theorem mixc_0 {T : Nat → Nat} (a b c d : Nat) :
    a = (mixc T a b c d).1 ^^^ ((a ^^^ b ^^^ c ^^^ d) ^^^ T (a ^^^ b)) := by
  simp only [mixc]
  rw [Nat.xor_assoc, Nat.xor_self, Nat.xor_zero]
theorem mixc_inj {T : Nat → Nat} (hT : ∀ x y, T (x ^^^ y) = T x ^^^ T y) {a b c d a' b' c' d' : Nat} (h : mixc T a b c d = mixc T a' b' c' d') : a = a' ∧ b = b' ∧ c = c' ∧ d = d' := by
  have hs : a ^^^ b ^^^ c ^^^ d = a' ^^^ b' ^^^ c' ^^^ d' := by rw [← mixc_all hT, h, mixc_all hT]
  have h02 : a ^^^ c = a' ^^^ c' := by rw [mixc_02 hT a b c d, mixc_02 hT a' b' c' d', h, hs]
  have h01 : a ^^^ b = a' ^^^ b' := by rw [mixc_01 hT a b c d, mixc_01 hT a' b' c' d', h, h02]
  have h0 : a = a' := by rw [mixc_0 (T := T) a b c d, mixc_0 (T := T) a' b' c' d', h, hs, h01]
  have hc : c = c' := by have := congrArg (a ^^^ ·) h02; simp only [xcl] at this; rw [this, ← h0, xcl]
  have hb : b = b' := by have := congrArg (a ^^^ ·) h01; simp only [xcl] at this; rw [this, ← h0, xcl]
  refine ⟨h0, hb, hc, ?_⟩
  rw [h0, hb, hc] at hs
  have := congrArg ((a' ^^^ b' ^^^ c') ^^^ ·) hs
  simpa only [xcl] using this
end Go.Proofs.Ytepkbllcaeceeaa
