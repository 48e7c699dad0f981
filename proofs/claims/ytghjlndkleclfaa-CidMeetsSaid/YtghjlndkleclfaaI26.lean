/- Layer 20: the law's frames in memory; the two sides. Conditions: as each theorem states them. -/
import Derived.Test.YtghjlndkleclfaaI25
namespace Go.Proofs.Ytghjlndkleclfaa
open Go.RowKit
/-- a frame that tells an id, as the law holds it -/
structure FX where
  q : Int
  A : Option Addr
  c : Nat
def FX.vs (x : FX) : List Value := [.int .u64 24, .int .u64 x.q, .int .u64 0, .int .u64 0, .int .u64 0, .int .u64 0, .bool false, .slice none 0 0, .slice x.A 1 x.c, .int .u8 (x.q - 1), .int .u8 0, .int .u8 0, .int .u8 0, .int .u8 0, .int .u8 0, .int .u8 0, .int .u8 0, .int .u8 0, .int .u8 0, .int .u8 0, .int .u8 0, .int .u8 0, .int .u8 0, .int .u8 0, .int .u8 0, .slice none 0 0, .int .u64 0, .int .u64 0, .int .u64 0, .int .u64 0]
structure FX.Ok (n : Nat) (w : World) (x : FX) : Prop where
  sl : SlT w (.slice x.A 1 x.c) [x.q]
  lo : 1 ≤ x.q
  hi : x.q ≤ n
theorem FX.len (x : FX) : x.vs.length = 30 := rfl
theorem FX.one (x : FX) : ∀ u ∈ x.vs, u.oneCell' = true := by
  intro u hu
  unfold FX.vs at hu
  simp only [List.mem_cons, List.not_mem_nil, or_false] at hu
  rcases hu with rfl | rfl | rfl | rfl | rfl | rfl | rfl | rfl | rfl | rfl | rfl | rfl | rfl | rfl | rfl | rfl | rfl | rfl | rfl | rfl | rfl | rfl | rfl | rfl | rfl | rfl | rfl | rfl | rfl | rfl <;> rfl
def vsF (L : List FX) : List Value := L.flatMap FX.vs
theorem vsF_len (L : List FX) : (vsF L).length = L.length * 30 := by
  induction L with
  | nil => rfl
  | cons x l ih => unfold vsF at ih ⊢; rw [List.flatMap_cons, List.length_append, ih, List.length_cons, FX.len]; omega
theorem vsF_app (L M : List FX) : vsF (L ++ M) = vsF L ++ vsF M := by unfold vsF; rw [List.flatMap_append]
theorem vsF_one (x : FX) : vsF [x] = x.vs := by simp [vsF]
/-- an own row of frames -/
def FrR (n B : Nat) (w : World) (v : Value) (L : List FX) : Prop := w.ownsRow B 34 30 v L.length (vsF L) ∧ ∀ x ∈ L, x.Ok n w
section
variable {n B b : Nat} {w w' : World} {v : Value} {L : List FX} {x : FX}
theorem FX.Ok.below (h : x.Ok n w) (hb : Below w.heap.size w w') : x.Ok n w' := ⟨h.sl.below hb, h.lo, h.hi⟩
theorem FX.Ok.grown (h : x.Ok n w) (hg : w.grownBy w' (some b)) (ht : ∀ cur, w.heap[b]? ≠ some (.cells cur 5 (0, 0))) : x.Ok n w' := ⟨h.sl.grown2 hg ht, h.lo, h.hi⟩
theorem FrR.below (h : FrR n B w v L) (hb : Below w.heap.size w w') : FrR n B w' v L := ⟨own_below h.1 hb, fun x hx => (h.2 x hx).below hb⟩
/-- another block is turned, not of frames nor of bytes -/
theorem FrR.grown (h : FrR n B w v L) (hg : w.grownBy w' (some b)) (hk : ∀ cur, w.heap[b]? ≠ some (.cells cur 34 (0, 0))) (ht : ∀ cur, w.heap[b]? ≠ some (.cells cur 5 (0, 0))) : FrR n B w' v L := ⟨row_kept h.1 hg hk, fun x hx => (h.2 x hx).grown hg ht⟩
theorem FrR.blk (h : FrR n B w v L) (hn : 0 < L.length) : ∃ (g c : Nat) (cur : List Value), v = .slice (some ⟨g, 0, none⟩) L.length c ∧ Blk w g 34 cur.toArray ∧ L.length ≤ c ∧ cur.length = c * 30 ∧ cur.take (L.length * 30) = vsF L ∧ B ≤ g := frow_blk h.1 hn
theorem vsF_get : ∀ (L : List FX) (i : Nat), i < L.length → ((vsF L).drop (i * 30)).take 30 = (L.getD i ⟨0, none, 0⟩).vs
  | [], i, h => by simp at h
  | x :: l, 0, _ => by
    unfold vsF
    rw [List.flatMap_cons]
    simp only [Nat.zero_mul, List.drop_zero, List.getD_cons_zero]
    rw [List.take_append_of_le_length (by rw [FX.len]; omega), List.take_of_length_le (by rw [FX.len]; omega)]
  | x :: l, i + 1, h => by
    have := vsF_get l i (by simpa using h)
    unfold vsF at this ⊢
    rw [List.flatMap_cons, List.getD_cons_succ, ← this]
    rw [show (i + 1) * 30 = x.vs.length + i * 30 by rw [FX.len]; omega, List.drop_append, List.drop_eq_nil_of_le (by omega), List.nil_append, Nat.add_sub_cancel_left]
end
/-- the law's two sides -/
structure AB (N Ba ga Bb gb : Nat) (w : World) (voa vpa vob vpb : Value) (sa sb : IS) : Prop where
  a : IdV Ba ga w voa vpa sa
  b : IdR Bb gb w vob vpb sb
  ne : ga ≠ gb
  sep : ∀ k, voa.ownBlock = some k → vob.ownBlock ≠ some k ∧ vpb.ownBlock ≠ some k
  la : N ≤ ga
  lb : N ≤ gb
  lo : ∀ k, voa.ownBlock = some k → N ≤ k
section
variable {N Ba ga Bb gb goa : Nat} {w w' : World} {voa vpa vob vpb : Value} {sa sb : IS}
theorem AB.below (h : AB N Ba ga Bb gb w voa vpa vob vpb sa sb) (hb : Below w.heap.size w w') : AB N Ba ga Bb gb w' voa vpa vob vpb sa sb := ⟨h.a.below hb, h.b.below hb, h.ne, h.sep, h.la, h.lb, h.lo⟩
theorem EntR.ltb {B : Nat} {w : World} {v : Value} {l : List CX} (h : EntR B w v l) {k : Nat} (hk : v.ownBlock = some k) : k < w.heap.size := (h.1.lt k hk).2
/-- the issuer is at work -/
theorem AB.two (h : AB N Ba ga Bb gb w voa vpa vob vpb sa sb) (hv : voa.ownBlock = some goa) (hk : ∃ cur, Blk w goa 47 cur) {v' : Value} {sa' : IS} (ht : Two ga goa w w') (ha : IdV Ba ga w' v' vpa sa') (hv' : v'.ownBlock = some goa ∨ ∃ k, v'.ownBlock = some k ∧ w.heap.size ≤ k) (hN : N ≤ w.heap.size) : AB N Ba ga Bb gb w' v' vpa vob vpb sa' sb := by
  obtain ⟨vr, hg, _⟩ := h.a.blk
  obtain ⟨cur, hk⟩ := hk
  obtain ⟨u, g1, k1, g2⟩ := ht.split hg
  have hs := h.sep goa hv
  have b1 := h.b.grownE g1 hk hs.1 hs.2
  refine ⟨ha, b1.grown g2 k1 h.ne (by decide) (by decide) (by decide), h.ne, fun k hk2 => ?_, h.la, h.lb, fun k hk2 => ?_⟩
  · rcases hv' with e | ⟨k', e, hk'⟩
    · rw [e] at hk2
      injection hk2 with hk2
      subst hk2
      exact hs
    · rw [e] at hk2
      injection hk2 with hk2
      subst hk2
      refine ⟨fun q => ?_, fun q => ?_⟩
      · have := h.b.own.ltb q; omega
      · have := h.b.peer.ltb q; omega
  · rcases hv' with e | ⟨k', e, hk'⟩
    · rw [e] at hk2
      exact h.lo k (hv.trans hk2)
    · rw [e] at hk2
      injection hk2 with hk2
      omega
/-- the learner is at work -/
theorem AB.onb (h : AB N Ba ga Bb gb w voa vpa vob vpb sa sb) {vob' vpb' : Value} {sb' : IS} (hg : w.grownBy w' (some gb)) (hb : IdR w.heap.size gb w' vob' vpb' sb') : AB N Ba ga w.heap.size gb w' voa vpa vob' vpb' sa sb' := by
  obtain ⟨vr, k, _⟩ := h.b.blk
  refine ⟨h.a.grown hg k (fun q => h.ne q.symm) (by decide) (by decide) (by decide), hb, h.ne, fun j hj => ?_, h.la, h.lb, h.lo⟩
  have hl := h.a.own.ltb hj
  refine ⟨fun q => ?_, fun q => ?_⟩
  · have := (hb.own.1.lt j q).1; omega
  · have := (hb.peer.1.lt j q).1; omega
/-- the learner tells -/
theorem AB.tell (h : AB N Ba ga Bb gb w voa vpa vob vpb sa sb) {sb' : IS} (hg : w.grownBy w' (some gb)) (hb : IdR Bb gb w' vob vpb sb') : AB N Ba ga Bb gb w' voa vpa vob vpb sa sb' := by
  obtain ⟨vr, k, _⟩ := h.b.blk
  exact ⟨h.a.grown hg k (fun q => h.ne q.symm) (by decide) (by decide) (by decide), hb, h.ne, h.sep, h.la, h.lb, h.lo⟩
end
end Go.Proofs.Ytghjlndkleclfaa
