/- What an append leaves of the slice that was appended to: its old elements stand where they stood. Conditions: as each theorem states them. -/
import Derived.Test.YthknncdhjicklaaB
namespace Go.Proofs.Ythknncdhjicklaa
open Go.RowKit
section
variable {P : Program} {t e : TypeId} {k : IntKind} {bytes B B2 : Nat} {w w' : World} {A A2 : Option Addr} {n c m c2 : Nat} {xs ys : List Int} {v : Value}
theorem rd_of_cells {w' : World} {g : Nat} {cur : Array Value} {fr : Nat × Nat} {e : TypeId} (h : w'.heap[g]? = some (.cells cur e fr)) (hx : cur.toList.take xs.length = xs.map (Value.int k)) : Rd w'.heap.size k w' (some ⟨g, 0, none⟩) xs := fun i hi => by
  have hg : g < w'.heap.size := by
    rcases Nat.lt_or_ge g w'.heap.size with hlt | hge
    · exact hlt
    · rw [Array.getElem?_eq_none hge] at h; cases h
  refine ⟨_, rfl, hg, ?_⟩
  have e1 : (⟨g, 0, none⟩ : Addr).add i = ⟨g, i, none⟩ := by unfold Addr.add; split <;> simp_all
  rw [e1, cell_of_row w' g i cur e fr h]
  have : cur.toList[i]? = (xs.map (Value.int k))[i]? := by rw [← hx, List.getElem?_take, if_pos hi]
  rw [Array.getElem?_toList] at this
  rw [this]
  simp [List.getElem?_map, List.getD_eq_getElem?_getD, List.getElem?_eq_getElem hi]
theorem app_keeps (E : ElT P t e k bytes) (ty : TypeId) (ho : Own B e k w A n c xs) (hr : Rd B2 k w A2 ys) (hm : m = ys.length) (hl0 : xs.length + ys.length ≤ 17592186044416)
    (hrun : (Builtin.append_ #[t, t] ty #[.slice A n c, .slice A2 m c2]).run P w = .ok v w') : Rd w'.heap.size k w' A xs := by
  subst hm
  have hl : (xs.length + ys.length) * bytes ≤ 140737488355328 := Nat.le_trans (Nat.mul_le_mul hl0 E.most) (by decide)
  obtain ⟨i, hi, hz, hs, hby⟩ := info_parts E.info
  have hn := ho.2
  subst hn
  rcases A2 with _ | ad2
  · have hy : ys = [] := by
      rcases ys with _ | ⟨y, r⟩
      · rfl
      · obtain ⟨ad, h, _⟩ := hr 0 (by simp); cases h
    subst hy
    have h0 := run_append_of_nil (P := P) w B t ty e i 1 E.ht hi _ _ _ ho.1 c2
    rw [show ([] : List Int).length = 0 from rfl, h0] at hrun
    injection hrun with _ hw
    subst hw
    exact ho.rd
  · rcases ho.1.2 with ⟨h1, h2⟩ | ⟨g, cap, cur, h1, hbg, hg, hnc, hcm, hcs, htake⟩
    · have : xs = [] := List.eq_nil_of_length_eq_zero h2
      subst this
      exact Rd.nil
    · injection h1 with h1 _ h3
      subst h1
      subst h3
      have hnews := (hr.reads).2
      have hcells : ∀ j u, (ys.map (Value.int k))[j]? = some u → w.cell? (ad2.add j) = some u := by
        intro j u hu
        rcases Nat.eq_zero_or_pos ys.length with h0 | h0
        · rw [List.eq_nil_of_length_eq_zero h0] at hu; simp at hu
        · obtain ⟨ad', h, _, hc⟩ := hnews h0
          injection h with h
          subst h
          exact hc j u hu
      have hly : (ys.map (Value.int k)).length = ys.length * i.size := by rw [hs, Nat.mul_one, List.length_map]
      by_cases hroom : xs.length + ys.length ≤ c
      · have hfit : xs.length * i.size + (ys.map (Value.int k)).length ≤ cur.size := by rw [hly, hcs, hs, ← Nat.add_mul]; exact Nat.mul_le_mul_right _ hroom
        have h0 := run_append_room (P := P) w t ty e i E.ht hi g xs.length c cur hg ad2 ys.length c2 _ hly hcells (ints_oneCell k ys) hroom hfit
        rw [h0] at hrun
        injection hrun with _ hw
        subst hw
        refine rd_of_cells (setRow_heap w g cur _ e _ hg) ?_
        rw [hs, Nat.mul_one] at *
        rw [htake]
        rw [List.take_append_of_le_length (by simp), List.take_append_of_le_length (by simp)]
        exact List.take_of_length_le (by simp)
      · have holds : ∀ j u, (xs.map (Value.int k))[j]? = some u → w.cell? ((⟨g, 0, none⟩ : Addr).add j) = some u := ho.1.cells (g := g) rfl
        have h0 := run_append_grow (P := P) w t ty e i _ E.ht hi hz ⟨g, 0, none⟩ xs.length c _ (by rw [hs, Nat.mul_one, List.length_map]) holds ad2 ys.length c2 _ hly hcells (by omega) (by omega) (growslice_fits (by omega) (by rw [hby]; exact hl))
        rw [h0] at hrun
        injection hrun with _ hw
        subst hw
        have h2 := ho.rd
        intro j hj
        obtain ⟨ad, e1, hb, hc⟩ := h2 j hj
        refine ⟨ad, e1, by simp; omega, ?_⟩
        rw [World.cell?_alloc_lt _ _ _ (by rw [block_of_add]; exact hb)]
        exact hc
theorem Own.addr (h : Own B e k w A n c xs) (hn : 0 < n) : ∃ g, A = some ⟨g, 0, none⟩ ∧ B ≤ g ∧ g < w.heap.size := by
  obtain ⟨g, cap, hv, hb, hlt⟩ := h.1.form hn
  exact ⟨g, by injection hv, hb, hlt⟩
theorem Rd.cell0 {g : Nat} (h : Rd B k w (some ⟨g, 0, none⟩) xs) {i : Nat} (hi : i < xs.length) : w.cell? ⟨g, i, none⟩ = some (.int k (xs.getD i 0)) := by
  have e1 : (⟨g, 0, none⟩ : Addr).add i = ⟨g, i, none⟩ := by unfold Addr.add; split <;> simp_all
  rw [← e1]; exact h.at_ hi
/-- it reads so, wherever it lies -/
def RdE (k : IntKind) (A : Option Addr) (xs : List Int) (w : World) : Prop := ∃ B, Rd B k w A xs
theorem Rd.some_ (h : Rd B k w A xs) : RdE k A xs w := ⟨B, h⟩
theorem RdE.cell0 {g : Nat} (h : RdE k (some ⟨g, 0, none⟩) xs w) {i : Nat} (hi : i < xs.length) : w.cell? ⟨g, i, none⟩ = some (.int k (xs.getD i 0)) := by
  obtain ⟨B, h⟩ := h; exact h.cell0 hi
theorem RdE.at_ {ad : Addr} (h : RdE k (some ad) xs w) {i : Nat} (hi : i < xs.length) : w.cell? (ad.add i) = some (.int k (xs.getD i 0)) := by
  obtain ⟨B, h⟩ := h; exact h.at_ hi
theorem RdE.atN {ad : Addr} (h : RdE k (some ad) xs w) (i : Nat) (hi : i < xs.length) (h0 : i ≠ 0) : w.cell? ⟨ad.block, ad.off + i, none⟩ = some (.int k (xs.getD i 0)) := by
  obtain ⟨B, h⟩ := h; exact h.atN i hi h0
theorem RdE.below {N : Nat} (h : Rd B k w A xs) (hb : Below N w w') (hN : B ≤ N) : RdE k A xs w' := ⟨B, h.below hb hN⟩
/-- filled from the back -/
def bak (xs : List Int) (j : Nat) : List Int := List.replicate (xs.length - j) 0 ++ xs.drop (xs.length - j)
theorem bak_len (xs : List Int) {j : Nat} (_h : j ≤ xs.length) : (bak xs j).length = xs.length := by unfold bak; rw [List.length_append, List.length_replicate, List.length_drop]; omega
theorem bak_zero (xs : List Int) : bak xs 0 = List.replicate xs.length 0 := by unfold bak; simp
theorem bak_full (xs : List Int) : bak xs xs.length = xs := by unfold bak; simp
theorem bak_set {xs : List Int} {j i : Nat} (h : i + j + 1 = xs.length) : (bak xs j).set i (xs.getD i 0) = bak xs (j + 1) := by
  apply List.ext_getElem?
  intro q
  unfold bak
  rw [List.getElem?_set]
  have hi : i < xs.length := by omega
  by_cases h1 : i = q
  · subst h1
    rw [if_pos rfl, if_pos (by simp; omega), List.getElem?_append_right (by simp; omega), List.length_replicate, List.getElem?_drop, show xs.length - (j + 1) + (i - (xs.length - (j + 1))) = i by omega]
    rw [List.getD_eq_getElem?_getD, List.getElem?_eq_getElem hi]
    rfl
  · rw [if_neg h1]
    rcases Nat.lt_or_ge q i with h2 | h2
    · rw [List.getElem?_append_left (by simp; omega), List.getElem?_append_left (by simp; omega), List.getElem?_replicate, List.getElem?_replicate, if_pos (by omega), if_pos (by omega)]
    · rw [List.getElem?_append_right (by simp; omega), List.getElem?_append_right (by simp; omega), List.length_replicate, List.length_replicate, List.getElem?_drop, List.getElem?_drop]
      congr 1
      omega
attribute [irreducible] bak
theorem getD_take {xs : List Int} {i j : Nat} (h : i < j) : (xs.take j).getD i 0 = xs.getD i 0 := by
  rw [List.getD_eq_getElem?_getD, List.getElem?_take, if_pos h, List.getD_eq_getElem?_getD]
theorem take_snoc_getD {xs : List Int} {t : Nat} (h : t < xs.length) : xs.take (t + 1) = xs.take t ++ [xs.getD t 0] := by
  rw [List.take_succ_eq_append_getElem h, List.getD_eq_getElem?_getD, List.getElem?_eq_getElem h]; rfl
theorem Own.heap {g : Nat} (h : Own B e k w (some ⟨g, 0, none⟩) n c xs) : ∃ cur : Array Value, w.heap[g]? = some (.cells cur e (0, 0)) ∧ n ≤ c ∧ c ≤ maxLen ∧ cur.size = c * 1 ∧ cur.toList.take (n * 1) = xs.map (Value.int k) ∧ B ≤ g := by
  rcases h.1.2 with ⟨h1, _⟩ | ⟨g', cap, cur, h1, h2, h3, h4, h5, h6, h7⟩
  · cases h1
  · injection h1 with h1 _ h8
    injection h1 with h1
    injection h1 with h1
    subst h1
    subst h8
    exact ⟨cur, h3, h4, h5, h6, h7, h2⟩
theorem Own.frozen {g : Nat} (h : Own B e k w (some ⟨g, 0, none⟩) n c xs) (i : Nat) : w.frozen? ⟨g, i, none⟩ = false := by
  obtain ⟨cur, h1, _⟩ := h.heap
  simp [World.frozen?, h1]
theorem Own.cell0 {g : Nat} (h : Own B e k w (some ⟨g, 0, none⟩) n c xs) {i : Nat} (hi : i < xs.length) : w.cell? ⟨g, i, none⟩ = some (.int k (xs.getD i 0)) := h.rd.cell0 hi
theorem Own.set_ {g : Nat} (h : Own B e k w (some ⟨g, 0, none⟩) n c xs) (i : Nat) (z : Int) : Own B e k (w.setCell ⟨g, i, none⟩ (.int k z)) (some ⟨g, 0, none⟩) n c (xs.set i z) := by
  obtain ⟨cur, h1, h2, h3, h4, h5, h6⟩ := h.heap
  have hl := h.2
  refine ⟨⟨by rw [List.length_map, List.length_set, Nat.mul_one]; exact hl.symm, .inr ⟨g, c, cur.setIfInBounds i (.int k z), rfl, h6, ?_, h2, h3, by simpa using h4, ?_⟩⟩, by rw [List.length_set]; exact hl⟩
  · simp [World.setCell, Array.getElem?_modify, h1]
  · rw [Array.toList_setIfInBounds, List.map_set, ← h5, List.take_set]
theorem Own.far {g : Nat} {p : Addr} (h : Own B e k w (some ⟨g, 0, none⟩) n c xs) (hp : g ≠ p.block) (u : Value) : Own B e k (w.setCell p u) (some ⟨g, 0, none⟩) n c xs :=
  h.same (fun ad hA => Below.heap_setCell _ _ _ _ (by injection hA with hA; subst hA; exact hp))
theorem Own.farA {p : Addr} (h : Own B e k w A n c xs) (hp : ∀ ad, A = some ad → ad.block ≠ p.block) (u : Value) : Own B e k (w.setCell p u) A n c xs :=
  h.same (fun ad hA => Below.heap_setCell _ _ _ _ (hp ad hA))
theorem Own.cast {ys : List Int} (h : Own B e k w A n c xs) (e' : xs = ys) : Own B e k w A n c ys := e' ▸ h
/-- what an append leaves, the old elements besides -/
def Apd2 (B : Nat) (e : TypeId) (k : IntKind) (w : World) (A : Option Addr) (xs ys : List Int) (A' : Option Addr) (n' c' : Nat) (w' : World) : Prop :=
  Apd B e k w A (xs ++ ys) A' n' c' w' ∧ Rd w'.heap.size k w' A xs
theorem wpList_app2 {ops : Array Oper} {rest : List Oper} {o : Oper} {a : Act} {Q : Exit → Act → World → Prop}
    (E : ElT P t e k bytes) (hgd : o.guard = none) (s x : Operand) (hop : o.op = .call { callee := .builtin .append, args := #[s, x], argTypes := #[t, t] })
    (hs : a.eval s = .slice A n c) (hx : a.eval x = .slice A2 m c2) (ho : Own B e k w A n c xs) (hr : Rd B2 k w A2 ys) (hm : m = ys.length) (hl : xs.length + ys.length ≤ 17592186044416) (hB : B ≤ w.heap.size)
    (h : ∀ A' n' c' w', Apd2 B e k w A xs ys A' n' c' w' → wpList P ops Q rest (a.put o.dst (.slice A' n' c')) w') : wpList P ops Q (o :: rest) a w := by
  refine wpList_plain hgd fun K hK => ?_
  obtain ⟨A', n', c', w', hrun, hA⟩ := append_own (c2 := c2) E o.type ho hr hm hl hB
  have hk := app_keeps E o.type ho hr hm hl hrun
  unfold Oper.wp execOp
  simp only [hop, resolve, invoke, builtin, Sem.run_bind, Sem.run_pure, Result.andThen_ok, List.map_toArray, List.map_cons, List.map_nil, hs, hx, hrun]
  exact hK _ _ (h A' n' c' w' ⟨hA, hk⟩)
end
end Go.Proofs.Ythknncdhjicklaa
