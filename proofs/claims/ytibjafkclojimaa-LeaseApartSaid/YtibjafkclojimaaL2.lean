/- Layer 27: leases, plain. Conditions: as each theorem states them. -/
import Derived.Test.YtibjafkclojimaaL1
namespace Go.Proofs.Ytibjafkclojimaa
open Go.RowKit
/-- a lease: owner, epoch, block, the next number, the first that is not its own -/
structure LS where
  ow : Int
  ep : Int
  bl : Int
  nx : Int
  to : Int
def LS.zero : LS := ⟨0, 0, 0, 0, 0⟩
/-- a block is taken of the cell -/
def renP (l : LS) (s : SS) : Int × LS × SS :=
  if l.bl ≤ 0 then (2, l, s) else
  if s.ep ≠ l.ep ∨ s.ow ≠ l.ow then (8, l, s) else
  if 4611686018427387904 - s.nx < l.bl then (7, l, s) else
  if s.f = false then (0, ⟨l.ow, l.ep, l.bl, s.nx, s.nx + l.bl⟩, (wrP s s.ep s.ow (s.nx + l.bl)).2) else (8, l, (wrP s s.ep s.ow (s.nx + l.bl)).2)
/-- the lease's next number -/
def takP (l : LS) (s : SS) : Int × Int × LS × SS :=
  if l.nx = l.to then
    (if (renP l s).1 = 0 then ((renP l s).2.1.nx, 0, ⟨(renP l s).2.1.ow, (renP l s).2.1.ep, (renP l s).2.1.bl, (renP l s).2.1.nx + 1, (renP l s).2.1.to⟩, (renP l s).2.2) else (0, (renP l s).1, l, (renP l s).2.2))
  else (l.nx, 0, ⟨l.ow, l.ep, l.bl, l.nx + 1, l.to⟩, s)
theorem wrP_f {s : SS} (e o n : Int) (h : s.f = false) : wrP s e o n = (0, ⟨e, o, n, s.N + 1, false, s.a⟩) := by unfold wrP; rw [if_pos h]
theorem wrP_N (s : SS) (e o n : Int) : (wrP s e o n).2.N ≤ s.N + 1 := by
  unfold wrP
  split
  · exact Nat.le_refl _
  · split
    · exact Nat.le_refl _
    · exact Nat.le_succ _
theorem wrP_nx {s : SS} {e o n : Int} (h : s.nx ≤ n) : s.nx ≤ (wrP s e o n).2.nx ∧ (wrP s e o n).2.nx ≤ n := by
  unfold wrP
  split
  · exact ⟨h, Int.le_refl _⟩
  · split
    · exact ⟨h, Int.le_refl _⟩
    · exact ⟨Int.le_refl _, h⟩
theorem wrP_ok {s : SS} {e o n : Int} (h : COk s.ep s.ow s.nx) (hc : COk e o n) : COk (wrP s e o n).2.ep (wrP s e o n).2.ow (wrP s e o n).2.nx := by
  unfold wrP
  split
  · exact hc
  · split
    · exact hc
    · exact h
/-- a lease's numbers, over the numbers from 'base' up to the cell's Next -/
structure LOk (base : Int) (s : SS) (l : LS) : Prop where
  b0 : 0 ≤ l.bl
  b1 : l.bl ≤ 1000
  o0 : 0 ≤ l.ow
  o1 : l.ow < 256
  e0 : 0 ≤ l.ep
  e1 : l.ep < 18446744073709551616
  n0 : 0 ≤ l.nx
  n1 : l.nx ≤ l.to
  n2 : l.to ≤ s.nx
  n3 : l.nx < l.to → base ≤ l.nx
structure Inv (base : Int) (ls : List LS) (s : SS) (acc : List Int) : Prop where
  c : COk s.ep s.ow s.nx
  b0 : 0 ≤ base
  b : base ≤ s.nx
  l : ∀ i, i < ls.length → LOk base s (ls.getD i LS.zero)
  t : ∀ x ∈ acc, base ≤ x ∧ x < s.nx
  d : ∀ i, i < ls.length → ∀ x ∈ acc, x < (ls.getD i LS.zero).nx ∨ (ls.getD i LS.zero).to ≤ x
  p : ∀ i j, i < ls.length → j < ls.length → i ≠ j → (ls.getD i LS.zero).nx < (ls.getD i LS.zero).to → (ls.getD j LS.zero).nx < (ls.getD j LS.zero).to → (ls.getD i LS.zero).to ≤ (ls.getD j LS.zero).nx ∨ (ls.getD j LS.zero).to ≤ (ls.getD i LS.zero).nx
theorem getD_set_ (ls : List LS) (i j : Nat) (v : LS) (h : i < ls.length) : (ls.set i v).getD j LS.zero = if i = j then v else ls.getD j LS.zero := by
  rw [List.getD_eq_getElem?_getD, List.getD_eq_getElem?_getD, List.getElem?_set]
  split
  · rename_i q; subst q; simp
  · rfl
theorem getD_snoc_ (ls : List LS) (j : Nat) (v : LS) (h : j < (ls ++ [v]).length) : (ls ++ [v]).getD j LS.zero = if j < ls.length then ls.getD j LS.zero else v := by
  rw [List.length_append, List.length_singleton] at h
  rw [List.getD_eq_getElem?_getD, List.getD_eq_getElem?_getD]
  split
  · rename_i q; rw [List.getElem?_append_left q]
  · rename_i q
    have e : j = ls.length := by omega
    subst e
    simp
section
variable {base : Int} {ls : List LS} {s s' : SS} {acc : List Int}
theorem LOk.mono {l : LS} (h : LOk base s l) (hn : s.nx ≤ s'.nx) : LOk base s' l := ⟨h.b0, h.b1, h.o0, h.o1, h.e0, h.e1, h.n0, h.n1, Int.le_trans h.n2 hn, h.n3⟩
/-- another state of the store, of no smaller Next -/
theorem Inv.store (h : Inv base ls s acc) (hc : COk s'.ep s'.ow s'.nx) (hn : s.nx ≤ s'.nx) : Inv base ls s' acc :=
  ⟨hc, h.b0, Int.le_trans h.b hn, fun i hi => (h.l i hi).mono hn, fun x hx => ⟨(h.t x hx).1, Int.lt_of_lt_of_le (h.t x hx).2 hn⟩, h.d, h.p⟩
theorem inv_write {e o : Int} (h : Inv base ls s acc) (hc : COk e o s.nx) : Inv base ls (wrP s e o s.nx).2 acc ∧ (wrP s e o s.nx).2.nx = s.nx := by
  have hn := wrP_nx (s := s) (e := e) (o := o) (n := s.nx) (Int.le_refl _)
  exact ⟨h.store (wrP_ok h.c hc) hn.1, by omega⟩
theorem inv_fail (h : Inv base ls s acc) (x : Int) : Inv base ls ⟨s.ep, s.ow, s.nx, s.N, true, x⟩ acc := h.store h.c (Int.le_refl _)
theorem inv_new {ow ep bl : Int} (h : Inv base ls s acc) (b0 : 0 ≤ bl) (b1 : bl ≤ 1000) (o0 : 0 ≤ ow) (o1 : ow < 256) (e0 : 0 ≤ ep) (e1 : ep < 18446744073709551616) : Inv base (ls ++ [⟨ow, ep, bl, 0, 0⟩]) s acc := by
  have hz : LOk base s ⟨ow, ep, bl, 0, 0⟩ := ⟨b0, b1, o0, o1, e0, e1, Int.le_refl _, Int.le_refl _, h.c.n0, fun q => absurd q (by simp)⟩
  have hl : (ls ++ [(⟨ow, ep, bl, 0, 0⟩ : LS)]).length = ls.length + 1 := by simp
  refine ⟨h.c, h.b0, h.b, fun i hi => ?_, h.t, fun i hi x hx => ?_, fun i j hi hj hij => ?_⟩
  · rw [getD_snoc_ _ _ _ hi]
    split
    · rename_i q; exact h.l i q
    · exact hz
  · rw [getD_snoc_ _ _ _ hi]
    split
    · rename_i q; exact h.d i q x hx
    · have := (h.t x hx).1; have := h.b0; exact .inr (by simp only; omega)
  · rw [getD_snoc_ _ _ _ hi, getD_snoc_ _ _ _ hj]
    split
    · rename_i q
      split
      · rename_i q2; exact h.p i j q q2 hij
      · exact fun _ q2 => absurd q2 (by simp)
    · exact fun q2 => absurd q2 (by simp)
/-- lease i is turned, a number is taken -/
theorem Inv.set {i : Nat} {l' : LS} {n : Int} (h : Inv base ls s acc) (hi : i < ls.length) (hc : COk s'.ep s'.ow s'.nx) (hn : s.nx ≤ s'.nx) (hl : LOk base s' l') (hb : base ≤ n) (h1 : n < s'.nx) (h2 : n < l'.nx)
    (hk : (n = (ls.getD i LS.zero).nx ∧ (ls.getD i LS.zero).nx < (ls.getD i LS.zero).to ∧ l'.nx = n + 1 ∧ l'.to = (ls.getD i LS.zero).to) ∨ (n = s.nx ∧ l'.nx = n + 1)) : Inv base (ls.set i l') s' (acc ++ [n]) := by
  have hl2 : (ls.set i l').length = ls.length := List.length_set
  refine ⟨hc, h.b0, Int.le_trans h.b hn, fun j hj => ?_, fun x hx => ?_, fun j hj x hx => ?_, fun j k hj hk2 hjk => ?_⟩
  · rw [getD_set_ _ _ _ _ hi]
    split
    · exact hl
    · exact (h.l j (by omega)).mono hn
  · rcases List.mem_append.1 hx with hx | hx
    · exact ⟨(h.t x hx).1, Int.lt_of_lt_of_le (h.t x hx).2 hn⟩
    · simp at hx; subst hx; exact ⟨hb, h1⟩
  · rw [getD_set_ _ _ _ _ hi]
    rcases List.mem_append.1 hx with hx | hx
    · have ht := h.t x hx
      split
      · have hd := h.d i hi x hx
        rcases hk with ⟨k1, k2, k3, k4⟩ | ⟨k1, k2⟩
        · rcases hd with q | q
          · exact .inl (by omega)
          · exact .inr (by omega)
        · exact .inl (by omega)
      · exact h.d j (by omega) x hx
    · simp at hx; subst hx
      split
      · exact .inl h2
      · rename_i q
        have hj2 : j < ls.length := by omega
        have hL := h.l j hj2
        rcases hk with ⟨k1, k2, k3, k4⟩ | ⟨k1, k2⟩
        · have hp := h.p i j hi hj2 q k2
          by_cases e : (ls.getD j LS.zero).nx < (ls.getD j LS.zero).to
          · rcases hp e with z | z
            · exact .inl (by omega)
            · exact .inr (by omega)
          · rcases Int.lt_or_le x (ls.getD j LS.zero).nx with z | z
            · exact .inl z
            · exact .inr (by omega)
        · have := hL.n2; exact .inr (by omega)
  · rw [getD_set_ _ _ _ _ hi, getD_set_ _ _ _ _ hi]
    have hj2 : j < ls.length := by omega
    have hk3 : k < ls.length := by omega
    have key : ∀ m, m < ls.length → i ≠ m → l'.nx < l'.to → (ls.getD m LS.zero).nx < (ls.getD m LS.zero).to → l'.to ≤ (ls.getD m LS.zero).nx ∨ (ls.getD m LS.zero).to ≤ l'.nx := fun m hm q z1 z2 => by
      rcases hk with ⟨k1, k2, k3, k4⟩ | ⟨k1, k2⟩
      · rcases h.p i m hi hm q k2 z2 with z | z
        · exact .inl (by omega)
        · exact .inr (by omega)
      · have := (h.l m hm).n2; exact .inr (by omega)
    split
    · rename_i q; subst q
      split
      · rename_i q2; exact absurd q2 hjk
      · rename_i q2; exact key k hk3 q2
    · rename_i q
      split
      · intro z1 z2
        rcases key j hj2 q z2 z1 with z | z
        · exact .inr z
        · exact .inl z
      · exact h.p j k hj2 hk3 hjk
theorem renP_err {l : LS} (h : (renP l s).1 ≠ 0) : (renP l s).2.1 = l ∧ ((renP l s).2.2 = s ∨ (renP l s).2.2 = (wrP s s.ep s.ow (s.nx + l.bl)).2 ∧ 0 < l.bl ∧ s.nx + l.bl ≤ 4611686018427387904) := by
  unfold renP at h ⊢
  split at h
  · rename_i q; rw [if_pos q]; exact ⟨rfl, .inl rfl⟩
  · rename_i q; rw [if_neg q]
    split at h
    · rename_i q2; rw [if_pos q2]; exact ⟨rfl, .inl rfl⟩
    · rename_i q2; rw [if_neg q2]
      split at h
      · rename_i q3; rw [if_pos q3]; exact ⟨rfl, .inl rfl⟩
      · rename_i q3; rw [if_neg q3]
        split at h
        · exact absurd rfl h
        · rename_i q4; rw [if_neg q4]; exact ⟨rfl, .inr ⟨rfl, by omega, by omega⟩⟩
theorem renP_ok {l : LS} (h : (renP l s).1 = 0) : renP l s = (0, ⟨l.ow, l.ep, l.bl, s.nx, s.nx + l.bl⟩, ⟨s.ep, s.ow, s.nx + l.bl, s.N + 1, false, s.a⟩) ∧ 0 < l.bl ∧ s.nx + l.bl ≤ 4611686018427387904 := by
  unfold renP at h ⊢
  split at h
  · exact absurd h (by simp)
  · rename_i q; rw [if_neg q]
    split at h
    · exact absurd h (by simp)
    · rename_i q2; rw [if_neg q2]
      split at h
      · exact absurd h (by simp)
      · rename_i q3; rw [if_neg q3]
        split at h
        · rename_i q4; rw [if_pos q4, wrP_f _ _ _ q4]; exact ⟨rfl, by omega, by omega⟩
        · exact absurd h (by simp)
/-- a Take that fails -/
theorem inv_err {i : Nat} (h : Inv base ls s acc) (he : (takP (ls.getD i LS.zero) s).2.1 ≠ 0) :
    (takP (ls.getD i LS.zero) s).2.2.1 = ls.getD i LS.zero ∧ Inv base ls (takP (ls.getD i LS.zero) s).2.2.2 acc ∧ (takP (ls.getD i LS.zero) s).2.2.2.N ≤ s.N + 1 := by
  generalize ls.getD i LS.zero = l at *
  unfold takP at he ⊢
  split at he
  · rename_i q; rw [if_pos q]
    split at he
    · exact absurd rfl he
    · rename_i q2; rw [if_neg q2]
      obtain ⟨h1, h2⟩ := renP_err q2
      rcases h2 with h2 | ⟨h2, h3, h4⟩
      · exact ⟨rfl, by rw [h2]; exact h, by rw [h2]; exact Nat.le_succ _⟩
      · have hc : COk s.ep s.ow (s.nx + l.bl) := ⟨h.c.e0, h.c.e1, h.c.o0, h.c.o1, by have := h.c.n0; omega, h4⟩
        have hn := wrP_nx (s := s) (e := s.ep) (o := s.ow) (n := s.nx + l.bl) (by omega)
        exact ⟨rfl, by simp only [h2]; exact h.store (wrP_ok h.c hc) hn.1, by simp only [h2]; exact wrP_N _ _ _ _⟩
  · exact absurd rfl he
/-- a Take that hands out a number -/
theorem inv_take {i : Nat} (h : Inv base ls s acc) (hi : i < ls.length) (he : (takP (ls.getD i LS.zero) s).2.1 = 0) :
    base ≤ (takP (ls.getD i LS.zero) s).1 ∧ (takP (ls.getD i LS.zero) s).1 < (takP (ls.getD i LS.zero) s).2.2.2.nx ∧ (takP (ls.getD i LS.zero) s).1 ≤ 4611686018427387903 ∧ (takP (ls.getD i LS.zero) s).1 ∉ acc ∧
    Inv base (ls.set i (takP (ls.getD i LS.zero) s).2.2.1) (takP (ls.getD i LS.zero) s).2.2.2 (acc ++ [(takP (ls.getD i LS.zero) s).1]) ∧ (takP (ls.getD i LS.zero) s).2.2.2.N ≤ s.N + 1 := by
  have hL := h.l i hi
  have hD := h.d i hi
  obtain ⟨l, hl⟩ : ∃ l, ls.getD i LS.zero = l := ⟨_, rfl⟩
  rw [hl] at hL hD he ⊢
  have hc := h.c
  unfold takP at he ⊢
  split at he
  · rename_i q; rw [if_pos q]
    split at he
    · rename_i q2; rw [if_pos q2]
      obtain ⟨e, h3, h4⟩ := renP_ok q2
      rw [e]
      have hb := h.b
      refine ⟨h.b, by simp only; omega, by simp only; omega, fun hm => ?_, ?_, Nat.le_refl _⟩
      · have := (h.t _ hm).2; simp only at this; omega
      · exact h.set hi ⟨hc.e0, hc.e1, hc.o0, hc.o1, by have := hc.n0; simp only; omega, h4⟩ (by simp only; omega) ⟨hL.b0, hL.b1, hL.o0, hL.o1, hL.e0, hL.e1, by have := hc.n0; simp only; omega, by simp only; omega, by simp only; omega, by simp only; omega⟩ h.b (by simp only; omega) (by simp only; omega) (.inr ⟨rfl, rfl⟩)
    · rename_i q2; exact absurd he q2
  · rename_i q; rw [if_neg q]
    have h1 := hL.n1
    have h2 := hL.n2
    have hlt : l.nx < l.to := by omega
    have h3 := hL.n3 hlt
    refine ⟨h3, by simp only; omega, by have := hc.n1; simp only; omega, fun hm => ?_, ?_, Nat.le_succ _⟩
    · rcases hD _ hm with z | z <;> simp only at z <;> omega
    · exact h.set hi hc (Int.le_refl _) ⟨hL.b0, hL.b1, hL.o0, hL.o1, hL.e0, hL.e1, by have := hL.n0; simp only; omega, by simp only; omega, h2, by simp only; omega⟩ h3 (by simp only; omega) (by simp only; omega) (.inl ⟨by rw [hl], by rw [hl]; exact hlt, rfl, by rw [hl]⟩)
end
end Go.Proofs.Ytibjafkclojimaa
