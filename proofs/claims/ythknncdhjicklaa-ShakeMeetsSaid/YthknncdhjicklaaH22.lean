/- Layer 21: words for the law's closure. Conditions: as each theorem states them. -/
import Derived.Test.YthknncdhjicklaaH21
namespace Go.Proofs.Ythknncdhjicklaa
open Go.RowKit
/-- two blocks may be turned -/
structure Two (g go : Nat) (w w' : World) : Prop where
  os : w'.os = w.os
  tape : w'.tape = w.tape
  output : w'.output = w.output
  size : w.heap.size ≤ w'.heap.size
  block : ∀ k, k < w.heap.size → k ≠ g → k ≠ go → w'.heap[k]? = w.heap[k]?
section
variable {g go b : Nat} {w w1 w2 : World}
theorem Two.of (h : w.grownBy w1 (some go)) (h' : w1.grownBy w2 (some g)) : Two g go w w2 := ⟨h'.os.trans h.os, h'.tape.trans h.tape, h'.output.trans h.output, Nat.le_trans h.size h'.size, fun k hk h1 h2 => (h'.block k (Nat.lt_of_lt_of_le hk h.size) (by intro q; injection q with q; exact h1 q)).trans (h.block k hk (by intro q; injection q with q; exact h2 q))⟩
theorem Two.one (h : Two g go w w1) (h' : w1.grownBy w2 (some g)) : Two g go w w2 := ⟨h'.os.trans h.os, h'.tape.trans h.tape, h'.output.trans h.output, Nat.le_trans h.size h'.size, fun k hk h1 h2 => (h'.block k (Nat.lt_of_lt_of_le hk h.size) (by intro q; injection q with q; exact h1 q)).trans (h.block k hk h1 h2)⟩
theorem Two.hi (h : Two g go w w1) (h' : w1.grownBy w2 (some b)) (hb : w.heap.size ≤ b) : Two g go w w2 := ⟨h'.os.trans h.os, h'.tape.trans h.tape, h'.output.trans h.output, Nat.le_trans h.size h'.size, fun k hk h1 h2 => (h'.block k (Nat.lt_of_lt_of_le hk h.size) (by intro q; injection q with q; omega)).trans (h.block k hk h1 h2)⟩
theorem Two.below (h : Two g go w w1) (h' : Below w1.heap.size w1 w2) : Two g go w w2 := h.one (only_of_below h' _)
theorem Two.split {t : TypeId} {cs : Array Value} (h : Two g go w w2) (hk : Blk w g t cs) : ∃ u, w.grownBy u (some go) ∧ Blk u g t cs ∧ u.grownBy w2 (some g) := by
  have hl := hk.lt
  have hl2 : g < w2.heap.size := Nat.lt_of_lt_of_le hl h.size
  refine ⟨{ w2 with heap := w2.heap.setIfInBounds g (.cells cs t (0, 0)) }, ⟨h.os, h.tape, h.output, by simpa using h.size, fun k h1 h2 => ?_⟩, ?_, ⟨rfl, rfl, rfl, by simp, fun k h1 h2 => ?_⟩⟩
  · by_cases e : k = g
    · subst e
      simp only [Array.getElem?_setIfInBounds, if_true, hl2]
      exact hk.symm
    · simp only [Array.getElem?_setIfInBounds]
      rw [if_neg (fun q => e q.symm)]
      exact h.block k h1 e (by intro q; subst q; exact h2 rfl)
  · unfold Blk
    simp only [Array.getElem?_setIfInBounds, if_true, hl2]
  · simp only [Array.getElem?_setIfInBounds]
    rw [if_neg (by intro q; subst q; exact h2 rfl)]
end
section
variable {g go N : Nat} {w w1 w2 : World}
theorem Two.refl (g go : Nat) (w : World) : Two g go w w := ⟨rfl, rfl, rfl, Nat.le_refl _, fun _ _ _ _ => rfl⟩
theorem Two.old (h : Two g go w w1) (hb : Below w.heap.size w1 w2) : Two g go w w2 := ⟨hb.os.trans h.os, hb.tape.trans h.tape, hb.output.trans h.output, Nat.le_trans h.size hb.size, fun k hk h1 h2 => (hb.block k hk).trans (h.block k hk h1 h2)⟩
theorem Two.two (h : Two g go w w1) (h' : w1.grownBy w2 (some go)) : Two g go w w2 := ⟨h'.os.trans h.os, h'.tape.trans h.tape, h'.output.trans h.output, Nat.le_trans h.size h'.size, fun k hk h1 h2 => (h'.block k (Nat.lt_of_lt_of_le hk h.size) (by intro q; injection q with q; exact h2 q)).trans (h.block k hk h1 h2)⟩
theorem Two.blk {b : Nat} {t : TypeId} {cs : Array Value} (h : Two g go w w1) (hk : Blk w b t cs) (h1 : b ≠ g) (h2 : b ≠ go) : Blk w1 b t cs := (h.block b hk.lt h1 h2).trans hk
theorem Two.rd {A : Option Addr} {X : List Int} (h : Two g go w w1) (hr : Rd w.heap.size .u8 w A X) (h1 : 0 < X.length → ∀ ad, A = some ad → ad.block ≠ g ∧ ad.block ≠ go) : Rd w1.heap.size .u8 w1 A X := fun i hi => by
  obtain ⟨ad, e, hb, hc⟩ := hr i hi
  refine ⟨ad, e, Nat.lt_of_lt_of_le hb h.size, ?_⟩
  rw [← hc]
  exact World.cell?_of_block (h.block _ (by rw [block_of_add]; exact hb) (by rw [block_of_add]; exact (h1 (Nat.lt_of_le_of_lt (Nat.zero_le i) hi) ad e).1) (by rw [block_of_add]; exact (h1 (Nat.lt_of_le_of_lt (Nat.zero_le i) hi) ad e).2))
theorem Two.slT {v : Value} {L : List Int} {t1 t2 : TypeId} {c1 c2 : Array Value} (h : Two g go w w1) (hs : SlT w v L) (hk : Blk w g t1 c1) (hk2 : Blk w go t2 c2) (h1 : t1 ≠ 5) (h2 : t2 ≠ 5) : SlT w1 v L := by
  obtain ⟨u, g1, k1, g2⟩ := h.split hk
  exact (hs.grown2 g1 (hk2.notT h2)).grown2 g2 (k1.notT h1)
theorem Two.sdr {B : Nat} {v : Value} {l : List SX} {t1 t2 : TypeId} {c1 c2 : Array Value} (h : Two g go w w1) (hs : SdR B w v l) (hk : Blk w g t1 c1) (hk2 : Blk w go t2 c2) (h1 : t1 ≠ 5) (h2 : t2 ≠ 5) (h3 : t1 ≠ 31) (h4 : t2 ≠ 31) : SdR B w1 v l := by
  obtain ⟨u, g1, k1, g2⟩ := h.split hk
  exact (hs.grown g1 (hk2.notT h4) (hk2.notT h2)).grown g2 (k1.notT h3) (k1.notT h1)
theorem Two.sh {b : Nat} {p : PS} {t2 : TypeId} {c1 c2 : Array Value} (h : Two g go w w1) (hs : ShM b w p) (hk : Blk w g 43 c1) (hk2 : Blk w go t2 c2) (h1 : g ≠ b) (h2 : t2 ≠ 5) (h3 : t2 ≠ 43) : ShM b w1 p := by
  obtain ⟨vp, vq, v0, v1, vt, hs⟩ := hs
  obtain ⟨u, g1, k1, g2⟩ := h.split hk
  exact ⟨vp, vq, v0, v1, vt, (hs.grown g1 hk2 (Blk.ne_ hk2 hs.blk h3) h2).grown g2 k1 h1 (by decide)⟩
end
theorem SlT.fr {w w' : World} {v : Value} {L : List Int} (h : SlT w v L) (hb : Below w.heap.size w w' ∨ ∃ b cs, w.grownBy w' (some b) ∧ Blk w b 31 cs) : SlT w' v L := by
  rcases hb with hb | ⟨b, cs, hg, hk⟩
  · exact h.below hb
  · exact h.grown2 hg (hk.notT (by decide))
theorem ShM.fr {g : Nat} {w w' : World} {p : PS} (h : ShM g w p) (hb : Below w.heap.size w w' ∨ ∃ b cs, w.grownBy w' (some b) ∧ Blk w b 31 cs) : ShM g w' p := by
  obtain ⟨vp, vq, v0, v1, vt, h⟩ := h
  exact ⟨vp, vq, v0, v1, vt, h.fr hb⟩
theorem ShM.below {g : Nat} {w w' : World} {p : PS} (h : ShM g w p) (hb : Below w.heap.size w w') : ShM g w' p := h.fr (.inl hb)
theorem ShM.grown {g b : Nat} {w w' : World} {p : PS} {t : TypeId} {cs : Array Value} (h : ShM g w p) (hg : w.grownBy w' (some b)) (hk : Blk w b t cs) (hne : b ≠ g) (h1 : t ≠ 5) : ShM g w' p := by
  obtain ⟨vp, vq, v0, v1, vt, h⟩ := h
  exact ⟨vp, vq, v0, v1, vt, h.grown hg hk hne h1⟩
theorem ShM.blk {g : Nat} {w : World} {p : PS} (h : ShM g w p) : ∃ cs, Blk w g 43 cs := by
  obtain ⟨vp, vq, v0, v1, vt, h⟩ := h
  exact ⟨_, h.blk⟩
/-- what is left of bytes behind the first k -/
theorem SlT.cut {w : World} {A : Option Addr} {n c : Nat} {X : List Int} (h : SlT w (.slice A n c) X) (k : Nat) (hk : k ≤ n) :
    ∃ A' c', SlT w (.slice A' (n - k) c') (X.drop k) ∧ ∀ (w : World) (kl : IntKind), (Instr.sliceAt 23 (.slice A n c) (some (.int kl (k : Int))) none none).run Try.prog w = .ok (.slice A' (n - k) c') w := by
  obtain ⟨A0, c0, e, h1, h2, h3⟩ := h
  injection e with e1 e2 e3
  subst e1 e2 e3
  have hcut := h2.cut k (X.length - k) c (by omega) h1
  rw [List.take_of_length_le (by simp)] at hcut
  refine ⟨if c = k then A else A.map (·.add (k * 1)), c - k, ⟨_, c - k, by simp, by simp; omega, hcut, fun ad q => ?_⟩, fun w kl => ?_⟩
  · split at q
    · exact h3 ad q
    · rcases A with _ | ad0
      · cases q
      · simp only [Option.map_some, Option.some.injEq] at q
        obtain ⟨cur, hc⟩ := h3 ad0 rfl
        exact ⟨cur, by rw [← q, block_of_add]; exact hc⟩
  · rw [run_sliceAt_slice _ _ _ _ _ _ (by rw [elC.elem]; exact elC.ht), run_slice_l _ _ _ _ _ (by rw [elC.elem]; exact elC.ht) kl (k : Int) (by omega) (by omega), elC.elem, elC.size]
    simp [Result.andThen, sliced]
/-- an entry of what is said, loaded -/
theorem SdR.cells {B g n c : Nat} {w : World} {l : List SX} (h : SdR B w (.slice (some ⟨g, 0, none⟩) n c) l) (i : Nat) (hi : i < l.length) : w.cell? ⟨g, i * 2, none⟩ = some (.int .u8 (l.getD i ⟨0, none, 0, []⟩).sp) ∧ w.cell? ⟨g, i * 2 + 1, none⟩ = some (.slice (l.getD i ⟨0, none, 0, []⟩).A (l.getD i ⟨0, none, 0, []⟩).bs.length (l.getD i ⟨0, none, 0, []⟩).c) := by
  have e : ∀ (l : List SX) (i : Nat), i < l.length → (vsS l)[i * 2]? = some (.int .u8 (l.getD i ⟨0, none, 0, []⟩).sp) ∧ (vsS l)[i * 2 + 1]? = some (.slice (l.getD i ⟨0, none, 0, []⟩).A (l.getD i ⟨0, none, 0, []⟩).bs.length (l.getD i ⟨0, none, 0, []⟩).c) := by
    intro l
    induction l with
    | nil => intro i hi; exact absurd hi (Nat.not_lt_zero i)
    | cons x t ih =>
      intro i hi
      unfold vsS
      rw [List.flatMap_cons]
      cases i with
      | zero => exact ⟨rfl, rfl⟩
      | succ i =>
        have h1 := ih i (by simpa using hi)
        unfold vsS at h1
        rw [List.getD_cons_succ, List.getElem?_append_right (by simp [SX.vs]; omega), List.getElem?_append_right (by simp [SX.vs]; omega)]
        simp only [SX.vs, List.length_cons, List.length_nil, Nat.zero_add, Nat.reduceAdd, show (i + 1) * 2 - 2 = i * 2 by omega, show (i + 1) * 2 + 1 - 2 = i * 2 + 1 by omega]
        exact h1
  obtain ⟨e1, e2⟩ := e l i hi
  have c1 := h.1.cells (g := g) rfl (i * 2) _ e1
  have c2 := h.1.cells (g := g) rfl (i * 2 + 1) _ e2
  rw [add_zero_addr] at c1 c2
  exact ⟨c1, c2⟩
end Go.Proofs.Ythknncdhjicklaa
