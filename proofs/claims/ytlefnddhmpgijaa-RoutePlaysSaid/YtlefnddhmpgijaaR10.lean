/- Plain: how the reference splits a datagram, by places. Contracts: id, Sized, Take of the reference, as one answer each. Conditions: as each theorem states them. -/
import Derived.Test.YtlefnddhmpgijaaR9
namespace Go.Proofs.Ytlefnddhmpgijaa
open Go.RowKit
def idO (b : List Int) (p : Option Nat) : Option Nat := (idR b p).map (·.2)
def idL (b : List Int) (p : Option Nat) : List Int := match idR b p with | none => [] | some d => d.1
def szO (b : List Int) (p : Option Nat) : Option Nat := (szR b p).map (·.2)
def szL (b : List Int) (p : Option Nat) : List Int := match szR b p with | none => [] | some d => d.1
def tkO (b : List Int) (p : Option Nat) : Option Nat := (tkR b p).map (·.2)
def tkV (b : List Int) (p : Option Nat) : Int := match tkR b p with | none => 0 | some d => d.1
def PlPost (L : List Int) (o : Option Nat) (w : World) (e : Ending) (w' : World) : Prop := ∃ A' n' c', e = .returned (.tuple #[.slice A' n' c', .int .i64 (atI o)]) ∧ Own w.heap.size 5 .u8 w' A' n' c' L ∧ Below w.heap.size w w'
theorem rid_u (A : Option Addr) (c : Nat) (b : List Int) (p : Option Nat) (w : World) (hr : Rd w.heap.size .u8 w A b) (hb : Byt b) (hl : b.length ≤ 1000000000000) (hc : b.length ≤ c) (hp : ∀ q, p = some q → q ≤ b.length) :
    Calls Try.prog 32 #[.slice A b.length c, .int .i64 (atI p)] w (PlPost (idL b p) (idO b p) w) := by
  refine (rid_any A c b p w hr hb hl hc hp).mono fun e w' ⟨h1, h2⟩ => ?_
  unfold idL idO
  rcases hi : idR b p with _ | ⟨d, q⟩
  · obtain ⟨rfl, hb1⟩ := h1 hi
    exact ⟨none, 0, 0, rfl, Own.nil _ _ _ _, hb1⟩
  · exact h2 d q hi
theorem rsz_u (A : Option Addr) (c : Nat) (b : List Int) (p : Option Nat) (w : World) (hr : Rd w.heap.size .u8 w A b) (hb : Byt b) (hl : b.length ≤ 1000000000000) (hc : b.length ≤ c) (hp : ∀ q, p = some q → q ≤ b.length) :
    Calls Try.prog 33 #[.slice A b.length c, .int .i64 (atI p)] w (PlPost (szL b p) (szO b p) w) := by
  refine (rsz_any A c b p w hr hb hl hc hp).mono fun e w' ⟨h1, h2⟩ => ?_
  unfold szL szO
  rcases hi : szR b p with _ | ⟨d, q⟩
  · obtain ⟨rfl, hb1⟩ := h1 hi
    exact ⟨none, 0, 0, rfl, Own.nil _ _ _ _, hb1⟩
  · exact h2 d q hi
theorem rtk_u (A : Option Addr) (c : Nat) (b : List Int) (p : Option Nat) (w : World) (hr : Rd w.heap.size .u8 w A b) (hb : Byt b) (hl : b.length ≤ 1000000000000) (hp : ∀ q, p = some q → q ≤ b.length) :
    Calls Try.prog 34 #[.slice A b.length c, .int .i64 (atI p)] w fun e w' => e = .returned (.tuple #[.int .u64 (tkV b p), .int .i64 (atI (tkO b p))]) ∧ w = w' := by
  refine (rtk_any A c b p w hr hb hl hp).mono fun e w' ⟨h1, h2⟩ => ⟨?_, h2⟩
  rw [h1]
  unfold tkV tkO
  rcases tkR b p with _ | ⟨d, q⟩ <;> rfl
/-- an id's place, and what stands behind it -/
theorem idR_cid {b : List Int} {q : Nat} (hb : Byt b) : (idR b (some q) = none ∧ cidL (b.drop q) = none) ∨ ∃ d q', idR b (some q) = some (d, q') ∧ cidL (b.drop q) = some (d, b.drop q') ∧ q' ≤ b.length := by
  rcases Nat.lt_or_ge q b.length with hlt | hge
  · have hn := hb.getD q
    have hlen : (b.drop (q + 1)).length = b.length - (q + 1) := List.length_drop
    by_cases h : 20 < b.getD q 0 ∨ ((b.drop (q + 1)).length : Int) < b.getD q 0
    · have h1 : cidL (b.drop q) = none := by rw [drop_cons hlt, cidL_cons, if_pos h]
      exact .inl ⟨by show (cidL (b.drop q)).map _ = none; rw [h1]; rfl, h1⟩
    · have h1 : cidL (b.drop q) = some ((b.drop (q + 1)).take (b.getD q 0).toNat, (b.drop (q + 1)).drop (b.getD q 0).toNat) := by rw [drop_cons hlt, cidL_cons, if_neg h]
      have hl : ((b.drop (q + 1)).take (b.getD q 0).toNat).length = (b.getD q 0).toNat := by rw [List.length_take]; omega
      refine .inr ⟨_, q + 1 + (b.getD q 0).toNat, ?_, by rw [h1, List.drop_drop], by omega⟩
      show (cidL (b.drop q)).map _ = _
      rw [h1]
      simp only [Option.map_some]
      rw [hl]
  · have h1 : cidL (b.drop q) = none := by rw [List.drop_of_length_le hge]; rfl
    exact .inl ⟨by show (cidL (b.drop q)).map _ = none; rw [h1]; rfl, h1⟩
theorem tkR_vt {b : List Int} {q : Nat} (hb : Byt b) : (tkR b (some q) = none ∧ vtake (b.drop q) = none) ∨ ∃ v k, tkR b (some q) = some (v, q + k) ∧ vtake (b.drop q) = some (v, k) ∧ q + k ≤ b.length ∧ 0 ≤ v ∧ v < 18446744073709551616 := by
  rcases h : vtake (b.drop q) with _ | ⟨v, k⟩
  · exact .inl ⟨by show (vtake (b.drop q)).map _ = none; rw [h]; rfl, rfl⟩
  · have h1 := vtake_append h []
    have h2 := vtake_nonneg (hb.drop q) h
    rw [List.length_drop] at h1
    exact .inr ⟨v, k, by show (vtake (b.drop q)).map _ = _; rw [h]; rfl, rfl, by omega, h2.1, h2.2⟩
/-- the three parts of a long packet's beginning, and its end: by places -/
def longP (b : List Int) (kind : Int) : Option PartL :=
  (idR b (some 5)).bind fun d => (idR b (some d.2)).bind fun s => (if kind = 0 then szR b (some s.2) else some ([], s.2)).bind fun t =>
    (tkR b (some t.2)).bind fun v => if v.1 < 20 ∨ (b.length : Int) - v.2 < v.1 then none else some ⟨kind / 2, d.1, s.1, t.1, v.2, v.2 + v.1.toNat⟩
theorem endP {b : List Int} (hb : Byt b) (kind : Int) (d s t : List Int) (q : Nat) : endL b kind d s t (b.drop q) = (tkR b (some q)).bind fun v => if v.1 < 20 ∨ (b.length : Int) - v.2 < v.1 then none else some ⟨kind / 2, d, s, t, v.2, v.2 + v.1.toNat⟩ := by
  unfold endL
  rcases tkR_vt (q := q) hb with ⟨h1, h2⟩ | ⟨v, k, h1, h2, h3, h4, h5⟩
  · rw [h1, h2]; rfl
  · rw [h1, h2]
    simp only [Option.bind_some]
    rw [List.drop_drop, List.length_drop]
    have e1 : ((b.length - (q + k) : Nat) : Int) = (b.length : Int) - ((q + k : Nat) : Int) := by omega
    have e2 : b.length - (b.length - (q + k)) = q + k := by omega
    rw [e1, e2]
theorem longP_eq {b : List Int} (hb : Byt b) (kind : Int) (h : ¬ (b.length < 5 ∨ (b.drop 1).take 4 ≠ [0, 0, 0, 1] ∨ (b.getD 0 0 / 16 % 4 ≠ 0 ∧ b.getD 0 0 / 16 % 4 ≠ 2))) (hk : b.getD 0 0 / 16 % 4 = kind) : longL b = longP b kind := by
  unfold longL longP
  rw [if_neg h, hk]
  rcases idR_cid (q := 5) hb with ⟨h1, h2⟩ | ⟨d, q1, h1, h2, _⟩
  · rw [h1, h2]; rfl
  rw [h1, h2]
  simp only [Option.bind_some]
  rcases idR_cid (q := q1) hb with ⟨h3, h4⟩ | ⟨s, q2, h3, h4, _⟩
  · rw [h3, h4]; rfl
  rw [h3, h4]
  simp only [Option.bind_some]
  unfold tokL
  by_cases hz : kind = 0
  · rw [if_pos hz, if_pos hz]
    unfold szR
    rcases tkR_vt (q := q2) hb with ⟨h5, h6⟩ | ⟨v, k, h5, h6, h7, h8, h9⟩
    · rw [h5, h6]; rfl
    · rw [h5, h6]
      simp only [Option.bind_some]
      rw [List.drop_drop, List.length_drop]
      have e1 : ((b.length - (q2 + k) : Nat) : Int) = (b.length : Int) - ((q2 + k : Nat) : Int) := by omega
      rw [e1]
      by_cases hs : (b.length : Int) - ((q2 + k : Nat) : Int) < v
      · rw [if_pos hs, if_pos hs]; rfl
      · rw [if_neg hs, if_neg hs]
        simp only [Option.bind_some]
        rw [List.drop_drop]
        exact endP hb kind d s _ _
  · rw [if_neg hz, if_neg hz]
    simp only [Option.bind_some]
    exact endP hb kind d s [] q2
end Go.Proofs.Ytlefnddhmpgijaa
