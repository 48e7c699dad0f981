/- Layer 20: one frame of a row put anew; plain. Conditions: as each theorem states them. -/
import Derived.Test.YtghjlndkleclfaaI27
namespace Go.Proofs.Ytghjlndkleclfaa
open Go.RowKit
/-- frames are put elsewhere: the two sides stay -/
theorem AB.fr {N Ba ga Bb gb : Nat} {w w' : World} {voa vpa vob vpb : Value} {sa sb : IS} (h : AB N Ba ga Bb gb w voa vpa vob vpb sa sb) (hb : Below w.heap.size w w' ∨ ∃ b cs, w.grownBy w' (some b) ∧ Blk w b 34 cs) : AB N Ba ga Bb gb w' voa vpa vob vpb sa sb := by
  rcases hb with hb | ⟨b, cs, hg, hk⟩
  · exact h.below hb
  · obtain ⟨vr, k1, _⟩ := h.a.blk
    obtain ⟨vr2, k2, _⟩ := h.b.blk
    exact ⟨h.a.grown hg hk (Blk.ne_ hk k1 (by decide)) (by decide) (by decide) (by decide), h.b.grown hg hk (Blk.ne_ hk k2 (by decide)) (by decide) (by decide) (by decide), h.ne, h.sep, h.la, h.lb, h.lo⟩
theorem FX.Ok.fr {n : Nat} {w w' : World} {x : FX} (h : x.Ok n w) (hb : Below w.heap.size w w' ∨ ∃ b cs, w.grownBy w' (some b) ∧ Blk w b 34 cs) : x.Ok n w' := by
  rcases hb with hb | ⟨b, cs, hg, hk⟩
  · exact h.below hb
  · exact h.grown hg (hk.notT (by decide))
theorem FrR.two {n B ga go : Nat} {w w' : World} {v : Value} {L : List FX} {cg cs : Array Value} (h : FrR n B w v L) (ht : Two ga go w w') (hg : Blk w ga 45 cg) (hk : Blk w go 47 cs) : FrR n B w' v L := by
  obtain ⟨u, g1, k1, g2⟩ := ht.split hg
  exact (h.grown g1 (hk.notT (by decide)) (hk.notT (by decide))).grown g2 (k1.notT (by decide)) (k1.notT (by decide))
theorem vsF_take (L : List FX) (i : Nat) (h : i ≤ L.length) : (vsF L).take (i * 30) = vsF (L.take i) := by
  conv => lhs; rw [← List.take_append_drop i L, vsF_app]
  have e : (vsF (L.take i)).length = i * 30 := by rw [vsF_len, List.length_take, Nat.min_eq_left h]
  rw [← e, List.take_left]
theorem vsF_drop (L : List FX) (i : Nat) (h : i ≤ L.length) : (vsF L).drop (i * 30) = vsF (L.drop i) := by
  conv => lhs; rw [← List.take_append_drop i L, vsF_app]
  have e : (vsF (L.take i)).length = i * 30 := by rw [vsF_len, List.length_take, Nat.min_eq_left h]
  rw [← e, List.drop_left]
theorem vsF_set {L : List FX} {cur : List Value} {i n : Nat} {x : FX} (hx : cur.take (n * 30) = vsF L) (hn : L.length = n) (hi : i < n) (hc : n * 30 ≤ cur.length) : (ovl cur (i * 30) x.vs).take (n * 30) = vsF (L.set i x) := by
  have e1 : vsF (L.set i x) = vsF (L.take i) ++ (x.vs ++ vsF (L.drop (i + 1))) := by
    rw [List.set_eq_take_append_cons_drop, if_pos (by omega), vsF_app]
    rfl
  rw [e1, ← vsF_take L i (by omega), ← vsF_drop L (i + 1) (by omega), ← hx]
  unfold ovl
  have h3 : (i + 1) * 30 ≤ n * 30 := Nat.mul_le_mul_right 30 hi
  apply List.ext_getElem?
  intro j
  simp only [List.getElem?_take, List.getElem?_append, List.length_take, List.getElem?_drop, FX.len]
  grind
/-- a frame of the row is put at another place of it -/
theorem FrR.put {n B k cl gl i : Nat} {w : World} {L : List FX} {x : FX} (h : FrR n B w (.slice (some ⟨gl, 0, none⟩) k cl) L) (hl : L.length = k) (hi : i < k) (hx : x.Ok n w) :
    ∃ w' cs, (Instr.storeAt 34 (.pointer (some ⟨gl, i * 30, none⟩)) (.agg x.vs.toArray)).run Try.prog w = .ok () w' ∧ FrR n B w' (.slice (some ⟨gl, 0, none⟩) k cl) (L.set i x) ∧ w.grownBy w' (some gl) ∧ Blk w gl 34 cs := by
  obtain ⟨h1, h2⟩ := h
  rcases h1.2 with ⟨e, _⟩ | ⟨g', cap, cur, e, hB, hb, hc, hm, hs, ht⟩
  · cases e
  · injection e with e1 e2 e3
    injection e1 with e1
    injection e1 with e1 _
    subst e1 e3
    have hb' : Blk w gl 34 cur.toList.toArray := by simpa [Blk] using hb
    have hsz : cur.toList.length = cl * 30 := by simpa using hs
    have hn3 : k * 30 ≤ cl * 30 := Nat.mul_le_mul_right 30 (by omega)
    have h3 : (i + 1) * 30 ≤ k * 30 := Nat.mul_le_mul_right 30 hi
    obtain ⟨w', q1, q2, q3⟩ := blk_storeMid (P := Try.prog) (ty := 34) (o := i * 30) (vs := x.vs) hb' (by rw [hsz, FX.len]; omega) x.one (by rw [sizeF34, FX.len])
    rw [hl] at ht
    refine ⟨w', _, q1, ⟨⟨vsF_len _, .inr ⟨gl, cl, (ovl cur.toList (i * 30) x.vs).toArray, by rw [List.length_set, hl], hB, q2, by rw [List.length_set, hl]; omega, hm, ?_, ?_⟩⟩, fun y hy => ?_⟩, q3, hb'⟩
    · unfold ovl
      have := FX.len x
      simp; omega
    · rw [List.length_set, hl]
      simpa using vsF_set ht hl hi (by rw [hsz]; exact hn3)
    · rcases List.mem_or_eq_of_mem_set hy with hy | rfl
      · exact (h2 y hy).fr (.inr ⟨gl, _, q3, hb'⟩)
      · exact hx.fr (.inr ⟨gl, _, q3, hb'⟩)
theorem vsF_ones {L : List FX} : ∀ u ∈ vsF L, u.oneCell' = true := by
  intro u hu
  unfold vsF at hu
  obtain ⟨x, _, h⟩ := List.mem_flatMap.1 hu
  exact x.one u h
/-- two frames of a list change places -/
def swF (L : List FX) (i j : Nat) : List FX := (L.set i (L.getD j ⟨0, none, 0⟩)).set j (L.getD i ⟨0, none, 0⟩)
theorem swF_len (L : List FX) (i j : Nat) : (swF L i j).length = L.length := by unfold swF; rw [List.length_set, List.length_set]
theorem getD_in {L : List FX} {i : Nat} (h : i < L.length) : L.getD i ⟨0, none, 0⟩ ∈ L := by
  rw [List.getD_eq_getElem?_getD, List.getElem?_eq_getElem h]
  exact List.getElem_mem h
theorem swF_mem {L : List FX} {i j : Nat} (hi : i < L.length) (hj : j < L.length) {x : FX} (hx : x ∈ L) : x ∈ swF L i j := by
  obtain ⟨k, hk, rfl⟩ := List.getElem_of_mem hx
  unfold swF
  rw [List.getD_eq_getElem?_getD, List.getD_eq_getElem?_getD, List.getElem?_eq_getElem hi, List.getElem?_eq_getElem hj]
  simp only [Option.getD_some]
  by_cases h1 : k = i
  · subst h1
    exact List.mem_iff_getElem.2 ⟨j, by simpa using hj, by simp⟩
  · by_cases h2 : k = j
    · subst h2
      exact List.mem_iff_getElem.2 ⟨i, by simpa using hi, by rw [List.getElem_set_ne h1]; simp⟩
    · exact List.mem_iff_getElem.2 ⟨k, by simpa using hk, by rw [List.getElem_set_ne (fun e => h2 e.symm), List.getElem_set_ne (fun e => h1 e.symm)]⟩
end Go.Proofs.Ytghjlndkleclfaa
