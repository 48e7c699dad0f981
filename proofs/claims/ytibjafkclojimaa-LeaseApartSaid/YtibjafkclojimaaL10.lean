/- Layer 27: the law's state in memory. Conditions: as each theorem states them. -/
import Derived.Test.YtibjafkclojimaaL9
import Derived.Test.YtibjafkclojimaaL4
import Derived.Maps.OwnSet
namespace Go.Proofs.Ytibjafkclojimaa
open Go.RowKit
theorem below_own {w w' : World} {B : Nat} {e : TypeId} {size n : Nat} {v : Value} {xs : List Value} (h : w.ownsRow B e size v n xs) (hg : w.grownBy w' v.ownBlock) (hB : B ≤ w.heap.size) : Below B w w' :=
  ⟨hg.os, hg.tape, hg.output, hg.size, fun i hi => hg.block i (by omega) (fun e' => by
    rcases h.2 with ⟨rfl, _⟩ | ⟨g, _, _, rfl, h1, _⟩
    · cases e'
    · simp only [Value.ownBlock] at e'
      injection e' with e'
      omega)⟩
theorem own_form {w : World} {B : Nat} {e : TypeId} {size n : Nat} {v : Value} {xs : List Value} (h : w.ownsRow B e size v n xs) : ∃ A c, v = .slice A n c ∧ n ≤ c := by
  rcases h.2 with ⟨rfl, rfl⟩ | ⟨g, cap, cur, rfl, _, _, h4, _⟩
  · exact ⟨none, 0, rfl, Nat.le_refl _⟩
  · exact ⟨_, _, rfl, h4⟩
theorem own_below {w w' : World} {B : Nat} {e : TypeId} {size n : Nat} {v : Value} {xs : List Value} (h : w.ownsRow B e size v n xs) (hb : Below w.heap.size w w') : w'.ownsRow B e size v n xs :=
  h.kept (only_of_below hb none) (by
    rcases h.2 with ⟨rfl, _⟩ | ⟨g, _, _, rfl, h1, _⟩
    · exact .inl rfl
    · exact .inr (by simp [Value.ownBlock]))
theorem add_zero_addr2 (g j : Nat) : (⟨g, 0, none⟩ : Addr).add j = ⟨g, j, none⟩ := by
  unfold Addr.add
  split
  · rename_i q; subst q; rfl
  · simp
theorem blk_at {w : World} {g : Nat} {t : TypeId} {vs : List Value} (h : Blk w g t vs.toArray) : ∀ j u, vs[j]? = some u → w.cell? ((⟨g, 0, none⟩ : Addr).add j) = some u := fun j u hu => by
  rw [add_zero_addr2, Blk.cell h j]; simpa using hu
/-- a block that is not the row's -/
theorem row_kept {w w' : World} {B b : Nat} {e : TypeId} {size n : Nat} {v : Value} {xs : List Value} (h : w.ownsRow B e size v n xs) (hg : w.grownBy w' (some b)) (hne : ∀ cur, w.heap[b]? ≠ some (.cells cur e (0, 0))) : w'.ownsRow B e size v n xs :=
  h.kept hg (by
    rcases h.2 with ⟨rfl, _⟩ | ⟨g, _, cur, rfl, _, h1, _⟩
    · exact .inl rfl
    · refine .inr (fun q => ?_)
      simp only [Value.ownBlock] at q
      injection q with q
      subst q
      exact hne cur h1)
theorem Blk.notT {w : World} {g : Nat} {t e : TypeId} {cs : Array Value} (h : Blk w g t cs) (ht : t ≠ e) : ∀ cur, w.heap[g]? ≠ some (.cells cur e (0, 0)) := fun cur q => by
  unfold Blk at h
  rw [h] at q
  injection q with q
  injection q with _ q
  exact ht q
/-- a row's own block, if it has one -/
theorem row_block {w w' : World} {B : Nat} {e : TypeId} {size n : Nat} {v : Value} {xs : List Value} (h : w.ownsRow B e size v n xs) (hg : w.grownBy w' v.ownBlock) : Below w.heap.size w w' ∨ ∃ b cs, w.grownBy w' (some b) ∧ Blk w b e cs := by
  rcases h.2 with ⟨rfl, _⟩ | ⟨g, _, cur, rfl, _, h1, _⟩
  · exact .inl ⟨hg.os, hg.tape, hg.output, hg.size, fun i hi => hg.block i hi (by simp [Value.ownBlock])⟩
  · exact .inr ⟨g, cur, hg, h1⟩
abbrev MapU (w : World) (b n : Nat) (D : DataW Unit) : Prop := w.ownsMap Try.prog 22 (unitElem (H := Unit)) b n D
theorem MapU.not {w : World} {b n : Nat} {D : DataW Unit} (h : MapU w b n D) : ∀ cur t f, w.heap[b]? ≠ some (.cells cur t f) := fun cur t f q => by
  obtain ⟨es, clock, hb, _⟩ := h
  rw [hb] at q
  injection q with q
  cases q
theorem MapU.ne {w : World} {b n g : Nat} {D : DataW Unit} {t : TypeId} {cs : Array Value} (h : MapU w b n D) (hk : Blk w g t cs) : b ≠ g := fun q => by
  subst q
  exact h.not _ _ _ hk
/-- the numbers that are taken, as the map's datum -/
noncomputable def setL (acc : List Int) : DataW Unit := Go.Maps.setOf (.agg []) (acc.map (Lit.int .u64))
theorem setL_snoc (acc : List Int) (n : Int) : setL (acc ++ [n]) = (setL acc).put (.int .u64 n) (.agg []) := by unfold setL; rw [List.map_append]; exact Go.Maps.setOf_snoc _ _ _
theorem setL_has (acc : List Int) (n : Int) (h : n ∉ acc) : Go.Maps.has (setL acc) (.int .u64 n) = false := by
  unfold setL
  rw [Go.Maps.has_setOf _ _ _ (fun x hx => by
    obtain ⟨y, _, rfl⟩ := List.mem_map.1 hx
    trivial)]
  rw [List.any_eq_false]
  intro x hx
  obtain ⟨y, hy, rfl⟩ := List.mem_map.1 hx
  rw [Go.Maps.sameKey_ne]
  · simp
  · intro q
    injection q with _ q
    exact h (q ▸ hy)
theorem keyU : Go.Maps.Keyed Try.prog 22 := Go.Maps.int_keyed Try.underlying22
theorem zeroU (w : World) : (zeroValue 41).run Try.prog w = .ok (.agg #[]) w := by kernel_rfl
theorem infoP : (Try.prog.info? 37).map (fun i => (i.zero, i.size, i.bytes)) = some (some (.pointer none), 1, 8) := by kernel_rfl
def ptrV (b : Nat) : Value := .pointer (some ⟨b, 0, none⟩)
/-- the law's state in memory: the store, the leases, the slice of them, the map of the numbers taken -/
structure LawH (B : Nat) (g bm : Nat) (w : World) (v : Value) (s : SS) (gs : List Nat) (ls : List LS) (acc : List Int) : Prop where
  st : StH g w s
  row : w.ownsRow B 37 1 v gs.length (gs.map ptrV)
  len : gs.length = ls.length
  leas : ∀ i, i < gs.length → LsH (gs.getD i 0) w (ptrV g) (ls.getD i LS.zero)
  dist : ∀ i j, i < gs.length → j < gs.length → i ≠ j → gs.getD i 0 ≠ gs.getD j 0
  lo : ∀ i, i < gs.length → B ≤ gs.getD i 0
  glo : B ≤ g
  mlo : B ≤ bm
  hi : B ≤ w.heap.size
  mp : MapU w bm acc.length (setL acc)
section
variable {B g bm : Nat} {w w' : World} {v v' : Value} {s s' : SS} {gs : List Nat} {ls : List LS} {acc : List Int}
theorem LawH.below (h : LawH B g bm w v s gs ls acc) (hb : Below w.heap.size w w') : LawH B g bm w' v s gs ls acc :=
  ⟨h.st.below hb, own_below h.row hb, h.len, fun i hi => (h.leas i hi).below hb, h.dist, h.lo, h.glo, h.mlo, Nat.le_trans h.hi hb.size, h.mp.kept (only_of_below hb none) (by simp)⟩
/-- the store is written -/
theorem LawH.wrote (h : LawH B g bm w v s gs ls acc) (hg : w.grownBy w' (some g)) (hs : StH g w' s') : LawH B g bm w' v s' gs ls acc := by
  obtain ⟨cs, hk⟩ := h.st.blk
  exact ⟨hs, row_kept h.row hg (hk.notT (by decide)), h.len, fun i hi => Blk.grown (h.leas i hi) hg (by intro q; injection q with q; exact Blk.ne_ (h.leas i hi) hk (by decide) q), h.dist, h.lo, h.glo, h.mlo, Nat.le_trans h.hi hg.size,
    h.mp.kept hg (by intro q; injection q with q; exact h.mp.ne hk q)⟩
theorem LawH.wroteB (h : LawH B g bm w v s gs ls acc) (hg : w.grownBy w' (some g)) : Below B w w' := below_of_only hg h.glo h.hi
theorem getD_setN (gs : List LS) (i j : Nat) (v : LS) : (gs.set i v).getD j LS.zero = if i = j ∧ i < gs.length then v else gs.getD j LS.zero := by
  rw [List.getD_eq_getElem?_getD, List.getD_eq_getElem?_getD, List.getElem?_set]
  by_cases q : i = j
  · subst q
    by_cases q2 : i < gs.length
    · simp [q2]
    · simp [q2]
  · simp [q]
/-- a lease and the store are turned -/
theorem LawH.took {w1 : World} {i : Nat} {l' : LS} (h : LawH B g bm w v s gs ls acc) (hi : i < gs.length) (g1 : w.grownBy w1 (some g)) (g2 : w1.grownBy w' (some (gs.getD i 0))) (hl : LsH (gs.getD i 0) w' (ptrV g) l') (hs : StH g w' s') : LawH B g bm w' v s' gs (ls.set i l') acc ∧ Below B w w' := by
  obtain ⟨cs, hk⟩ := h.st.blk
  have hL1 : ∀ j, j < gs.length → LsH (gs.getD j 0) w1 (ptrV g) (ls.getD j LS.zero) := fun j hj => Blk.grown (h.leas j hj) g1 (by intro q; injection q with q; exact Blk.ne_ (h.leas j hj) hk (by decide) q)
  have hR1 := row_kept h.row g1 (hk.notT (by decide))
  have hM1 := h.mp.kept g1 (by intro q; injection q with q; exact h.mp.ne hk q)
  have hB1 := h.wroteB g1
  refine ⟨⟨hs, row_kept hR1 g2 (Blk.notT (hL1 i hi) (by decide)), by rw [List.length_set]; exact h.len, fun j hj => ?_, h.dist, h.lo, h.glo, h.mlo, Nat.le_trans h.hi (Nat.le_trans g1.size g2.size), hM1.kept g2 (by intro q; injection q with q; exact MapU.ne hM1 (hL1 i hi) q)⟩, hB1.trans (below_of_only g2 (h.lo i hi) (Nat.le_trans h.hi g1.size))⟩
  rw [getD_setN]
  split
  · rename_i q; rw [← q.1]; exact hl
  · rename_i q
    have hij : i ≠ j := fun e => q ⟨e, by rw [← h.len]; exact hi⟩
    exact Blk.grown (hL1 j hj) g2 (by intro z; injection z with z; exact h.dist i j hi hj hij z.symm)
/-- a number is laid into the map -/
theorem LawH.mapped {n : Int} (h : LawH B g bm w v s gs ls acc) (hg : w.grownBy w' (some bm)) (hm : MapU w' bm (acc.length + 1) ((setL acc).put (.int .u64 n) (.agg []))) : LawH B g bm w' v s gs ls (acc ++ [n]) ∧ Below B w w' := by
  obtain ⟨cs, hk⟩ := h.st.blk
  exact ⟨⟨h.st.grown hg (h.mp.ne hk) (fun cur => h.mp.not cur _ _), row_kept h.row hg (fun cur => h.mp.not cur _ _), h.len, fun i hi => Blk.grown (h.leas i hi) hg (by intro q; injection q with q; exact h.mp.ne (h.leas i hi) q.symm), h.dist, h.lo, h.glo, h.mlo, Nat.le_trans h.hi hg.size,
    by rw [setL_snoc, List.length_append, List.length_singleton]; exact hm⟩, below_of_only hg h.mlo h.hi⟩
theorem getD_snocN (gs : List Nat) (j b : Nat) : (gs ++ [b]).getD j 0 = if j < gs.length then gs.getD j 0 else if j = gs.length then b else 0 := by
  rw [List.getD_eq_getElem?_getD, List.getD_eq_getElem?_getD]
  split
  · rename_i q; rw [List.getElem?_append_left q]
  · rename_i q
    rw [List.getElem?_append_right (by omega)]
    split
    · rename_i q2; simp [q2]
    · rename_i q2; rw [List.getElem?_eq_none (by simp; omega)]; rfl
/-- a lease more: it is made, then the slice grows -/
theorem LawH.grew {gl : Nat} {l : LS} (h : LawH B g bm w v s gs ls acc) (hl : LsH gl w (ptrV g) l) (hn : ∀ i, i < gs.length → gs.getD i 0 ≠ gl) (hlo : B ≤ gl) (hg : w.grownBy w' v.ownBlock) (hr : w'.ownsRow B 37 1 v' (gs.length + 1) (gs.map ptrV ++ [ptrV gl])) : LawH B g bm w' v' s (gs ++ [gl]) (ls ++ [l]) acc ∧ Below B w w' := by
  obtain ⟨cs, hk⟩ := h.st.blk
  have hl2 : (gs ++ [gl]).length = gs.length + 1 := by simp
  have keep : StH g w' s ∧ (∀ b p l, LsH b w p l → LsH b w' p l) ∧ MapU w' bm acc.length (setL acc) := by
    rcases row_block h.row hg with hb | ⟨b, cs2, hg2, hk2⟩
    · exact ⟨h.st.below hb, fun b p l hx => hx.below hb, h.mp.kept (only_of_below hb none) (by simp)⟩
    · exact ⟨h.st.grown hg2 (Blk.ne_ hk2 hk (by decide)) (hk2.notT (by decide)), fun b p l hx => Blk.grown hx hg2 (by intro q; injection q with q; exact Blk.ne_ hx hk2 (by decide) q), h.mp.kept hg2 (by intro q; injection q with q; exact h.mp.ne hk2 q)⟩
  refine ⟨⟨keep.1, by rw [hl2, List.map_append]; exact hr, by rw [hl2, List.length_append, h.len]; rfl, fun i hi => ?_, fun i j hi hj hij => ?_, fun i hi => ?_, h.glo, h.mlo, Nat.le_trans h.hi hg.size, keep.2.2⟩, below_own h.row hg h.hi⟩
  · rw [hl2] at hi
    rw [getD_snocN, getD_snoc_ _ _ _ (by rw [List.length_append, List.length_singleton, ← h.len]; exact hi), ← h.len]
    split
    · rename_i q; exact keep.2.1 _ _ _ (h.leas i q)
    · rename_i q; rw [if_pos (by omega)]; exact keep.2.1 _ _ _ hl
  · rw [hl2] at hi hj
    rw [getD_snocN, getD_snocN]
    split
    · rename_i q
      split
      · rename_i q2; exact h.dist i j q q2 hij
      · rw [if_pos (by omega)]; exact hn i q
    · rename_i q
      rw [if_pos (by omega), if_pos (by omega)]
      exact (hn j (by omega)).symm
  · rw [hl2] at hi
    rw [getD_snocN]
    split
    · rename_i q; exact h.lo i q
    · rw [if_pos (by omega)]; exact hlo
end
end Go.Proofs.Ytibjafkclojimaa
