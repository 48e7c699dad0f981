/- Contract (layer 3): long: words for its states. Conditions: as each theorem states them. -/
import Derived.Test.YtlefnddhmpgijaaH6
import Derived.Test.YtlefnddhmpgijaaQN
import Derived.Laws.Bits64b
namespace Go.Proofs.Ytlefnddhmpgijaa
open Go.RowKit
theorem drop_len {b r : List Int} {i : Nat} (h : b.drop i = r) (hi : i ≤ b.length) : b.length - r.length = i := by
  rw [← h, List.length_drop]; omega
theorem cid_suffix {b : List Int} {i : Nat} {x : List Int × List Int} (h : cidL (b.drop i) = some x) (hi : i ≤ b.length) (hb : Byt b) : ∃ j, i ≤ j ∧ j ≤ b.length ∧ b.drop j = x.2 ∧ b.length - x.2.length = j ∧ x.1.length ≤ 20 := by
  cases hd : b.drop i with
  | nil => rw [hd] at h; cases h
  | cons n r =>
    have hn := (hb.drop i) n (by rw [hd]; simp)
    have hl : (b.drop i).length = b.length - i := List.length_drop
    rw [hd] at h hl
    simp only [List.length_cons] at hl
    rw [cidL_cons] at h
    split at h
    · cases h
    · injection h with h
      subst h
      have e : b.drop (i + 1 + n.toNat) = r.drop n.toNat := by rw [← List.drop_drop, ← List.drop_drop, hd]; rfl
      exact ⟨i + 1 + n.toNat, by omega, by omega, e, drop_len e (by omega), by simp only [List.length_take]; omega⟩
/-- the reader and the packet that it fills -/
def LB (N gp g : Nat) (w0 w : World) (A : Option Addr) (c : Nat) (b : List Int) (at_ : Nat) (bad : Bool) (cs : Array Value) : Prop :=
  SpSt N g w A c b at_ bad ∧ Blk w gp 67 cs ∧ Below gp w0 w ∧ w0.heap.size ≤ w.heap.size ∧ gp < g ∧ N ≤ gp ∧ g < w0.heap.size
section
variable {N gp g : Nat} {w0 w w' : World} {A : Option Addr} {c : Nat} {b : List Int} {at_ : Nat} {bad : Bool} {cs : Array Value}
theorem LB.step {at2 : Nat} {bad2 : Bool} (h : LB N gp g w0 w A c b at_ bad cs) (hs : SpSt N g w' A c b at2 bad2) (hg : w.grownBy w' (some g)) : LB N gp g w0 w' A c b at2 bad2 cs := by
  obtain ⟨h1, h2, h3, h4, h5, h6, h7⟩ := h
  exact ⟨hs, Blk.grown h2 hg (by simp; omega), h3.trans (below_of_only hg (by omega) (by omega)), Nat.le_trans h4 hg.size, h5, h6, h7⟩
theorem LB.store (h : LB N gp g w0 w A c b at_ bad cs) (i : Nat) (v : Value) : LB N gp g w0 (w.setCell ⟨gp, i, none⟩ v) A c b at_ bad (cs.setIfInBounds i v) := by
  obtain ⟨h1, h2, h3, h4, h5, h6, h7⟩ := h
  exact ⟨h1.far (by simp; omega) h6 v, Blk.set_ h2 i v, h3.setCell (by simp) v, by simpa [World.setCell] using h4, h5, h6, h7⟩
theorem LB.setBad (h : LB N gp g w0 w A c b at_ bad cs) (x : Bool) : LB N gp g w0 (w.setCell ⟨g, 2, none⟩ (.bool x)) A c b at_ x cs := by
  obtain ⟨h1, h2, h3, h4, h5, h6, h7⟩ := h
  exact ⟨h1.setBad x, Blk.far h2 (by simp; omega) _, h3.setCell (by simp; omega) _, by simpa [World.setCell] using h4, h5, h6, h7⟩
theorem LB.below (h : LB N gp g w0 w A c b at_ bad cs) (hb : Below w.heap.size w w') : LB N gp g w0 w' A c b at_ bad cs := by
  obtain ⟨h1, h2, h3, h4, h5, h6, h7⟩ := h
  exact ⟨h1.below hb, Blk.below h2 hb (Blk.lt h2), h3.trans (hb.mono (by omega)), Nat.le_trans h4 hb.size, h5, h6, h7⟩
theorem LB.drewN (h : LB N gp g w0 w A c b at_ bad cs) (n : Nat) : LB N gp g w0 (w.drewN n) A c b at_ bad cs := h.below (below_drewN (Below.refl _ _) n)
theorem LB.cast {cs' : Array Value} (h : LB N gp g w0 w A c b at_ bad cs) (e : cs = cs') : LB N gp g w0 w A c b at_ bad cs' := e ▸ h
theorem LB.sp (h : LB N gp g w0 w A c b at_ bad cs) : w.cell? ⟨g, 0, none⟩ = some (.slice A b.length c) ∧ w.cell? ⟨g, 1, none⟩ = some (.int .i64 at_) ∧ w.cell? ⟨g, 2, none⟩ = some (.bool bad) ∧ w.frozen? ⟨g, 0, none⟩ = false ∧ w.frozen? ⟨g, 1, none⟩ = false ∧ w.frozen? ⟨g, 2, none⟩ = false := h.1.facts
theorem LB.pt {c0 c1 c2 c3 c4 c5 : Value} (h : LB N gp g w0 w A c b at_ bad #[c0, c1, c2, c3, c4, c5]) : w.cell? ⟨gp, 0, none⟩ = some c0 ∧ w.cell? ⟨gp, 1, none⟩ = some c1 ∧ w.cell? ⟨gp, 2, none⟩ = some c2 ∧ w.cell? ⟨gp, 3, none⟩ = some c3 ∧ w.cell? ⟨gp, 4, none⟩ = some c4 ∧
    w.frozen? ⟨gp, 0, none⟩ = false ∧ w.frozen? ⟨gp, 1, none⟩ = false ∧ w.frozen? ⟨gp, 2, none⟩ = false ∧ w.frozen? ⟨gp, 3, none⟩ = false ∧ w.frozen? ⟨gp, 4, none⟩ = false :=
  ⟨Blk.cell h.2.1 0, Blk.cell h.2.1 1, Blk.cell h.2.1 2, Blk.cell h.2.1 3, Blk.cell h.2.1 4, Blk.frozen h.2.1 0, Blk.frozen h.2.1 1, Blk.frozen h.2.1 2, Blk.frozen h.2.1 3, Blk.frozen h.2.1 4⟩
theorem LB.lts (h : LB N gp g w0 w A c b at_ bad cs) : gp < g ∧ g < w0.heap.size ∧ w0.heap.size ≤ w.heap.size ∧ gp ≠ g := ⟨h.2.2.2.2.1, h.2.2.2.2.2.2, h.2.2.2.1, by have := h.2.2.2.2.1; omega⟩
/-- behind all of it: it is one -/
def LongYes (N gp g : Nat) (A : Option Addr) (c : Nat) (b : List Int) (p : PartL) (w : World) (e : Ending) (w' : World) : Prop :=
  ∃ (x : Nat) (A1 A2 A3 : Option Addr) (n1 c1 n2 c2 n3 c3 : Nat), e = .returned (.int .i64 (p.fin : Nat)) ∧
    LB N gp g w w' A c b x false #[.int .u8 p.space, .slice A1 n1 c1, .slice A2 n2 c2, .slice A3 n3 c3, .int .i64 (p.at_ : Nat), .slice none 0 0] ∧
    Own w.heap.size 5 .u8 w' A1 n1 c1 p.dst ∧ Own w.heap.size 5 .u8 w' A2 n2 c2 p.src ∧ Own w.heap.size 5 .u8 w' A3 n3 c3 p.tok
def LongNo (N gp g : Nat) (A : Option Addr) (c : Nat) (b : List Int) (w : World) (e : Ending) (w' : World) : Prop :=
  ∃ (x : Nat) (v : Int) (cs : Array Value), e = .returned (.int .i64 v) ∧ LB N gp g w w' A c b x true cs ∧ cs.size = 6
end
section
variable {B : Nat} {e : TypeId} {k : IntKind} {w w' : World} {A : Option Addr} {n c : Nat} {xs : List Int}
theorem Own.kgr {g : Nat} (h : Own B e k w A n c xs) (hg : w.grownBy w' (some g)) (hB : g < B) : Own B e k w' A n c xs :=
  h.kept hg (fun ad hA e => by injection e with e; have := h.block ad hA; omega)
theorem Own.st {p : Addr} (h : Own B e k w A n c xs) (hp : p.block < B) (u : Value) : Own B e k (w.setCell p u) A n c xs :=
  h.farA (fun ad hA e => by have := h.block ad hA; omega) u
end
theorem and3_16 (x : Int) (h0 : 0 ≤ x) (h1 : x < 256) : bits .and .u8 (x / 16) 3 = x / 16 % 4 := by
  rw [bits_and_u8' _ _ (by omega) (by omega) (by omega) (by omega)]
  obtain ⟨a, rfl⟩ := Int.eq_ofNat_of_zero_le h0
  have e : ((a : Int) / 16).toNat &&& (3 : Int).toNat = (a / 16) % 2 ^ 2 := by
    rw [show ((a : Int) / 16).toNat = a / 16 by omega]; exact Nat.and_two_pow_sub_one_eq_mod (a / 16) 2
  rw [e]; omega
theorem be14 : beL 1 4 = [0, 0, 0, 1] := by decide
end Go.Proofs.Ytlefnddhmpgijaa
