
/- Layer 26: words for Take: rows of the call's own, results, stores of small structs. Conditions: as each theorem states them. -/
import Derived.Test.YtibjafkclojimaaD7
namespace Go.Proofs.Ytibjafkclojimaa
open Go.RowKit
theorem wpList_storeBlk {P : Program} {ops : Array Oper} {rest : List Oper} {o : Oper} {a : Act} {w : World} {Q : Exit → Act → World → Prop} {ty t : TypeId} {g : Nat} {vs : List Value} {old : Array Value} (hgd : o.guard = none) (x y : Operand) (ho : o.op = .store ty x y) (hx : a.eval x = .pointer (some ⟨g, 0, none⟩)) (hy : a.eval y = .agg vs.toArray)
    (h : Blk w g t old) (hl : vs.length = old.size) (h1 : ∀ v ∈ vs, v.oneCell' = true) (hi : (P.info? ty).map (·.size) = some vs.length) (hK : ∀ w', Blk w' g t vs.toArray → w.grownBy w' (some g) → wpList P ops Q rest (a.put o.dst undef) w') : wpList P ops Q (o :: rest) a w := by
  obtain ⟨w', h2, h3, h4⟩ := blk_storeAll (P := P) (ty := ty) h hl h1 hi
  exact wpList_storeV hgd x y ho hx hy h2 (hK w' h3 h4)
theorem blk_new_at {w : World} {cs : Array Value} {t : TypeId} {g : Nat} (hg : w.heap.size = g) : Blk (w.alloc (.cells cs t)) g t cs := by subst hg; exact Blk.new _ _ _
theorem one5 {c0 c1 c2 c3 c4 : Value} (h0 : c0.oneCell' = true) (h1 : c1.oneCell' = true) (h2 : c2.oneCell' = true) (h3 : c3.oneCell' = true) (h4 : c4.oneCell' = true) : ∀ v ∈ [c0, c1, c2, c3, c4], v.oneCell' = true := by
  intro v hv
  simp only [List.mem_cons, List.not_mem_nil, or_false] at hv
  rcases hv with rfl | rfl | rfl | rfl | rfl <;> assumption
theorem results_cl {w : World} {g : Nat} {c0 c1 c2 c3 c4 : Value} {fn : Func} {x u v : Tmp} {tmps : Array Value} (hr : fn.results = #[.cell x 31, .tmp u, .tmp v]) (hx : tmps.getD x undef = .pointer (some ⟨g, 0, none⟩)) (h : Blk w g 31 #[c0, c1, c2, c3, c4]) :
    (results fn tmps).run Try.prog w = .ok (.tuple #[.agg #[c0, c1, c2, c3, c4], tmps.getD u undef, tmps.getD v undef]) w := by
  obtain ⟨a0, a1, a2, a3, a4⟩ := cb_cells h
  have hx' : tmps[x]?.getD undef = .pointer (some ⟨g, 0, none⟩) := by simpa using hx
  simp [results, hr, hx', go_sem, a0, a1, a2, a3, a4]
theorem bsT_snoc (ts : List Tx) (A : Option Addr) (c : Nat) (xs : List Int) : bsT (ts ++ [(⟨A, c, xs⟩ : Tx)]) = bsT ts ++ [xs] := by
  have h := bsT_take (ts := ts ++ [(⟨A, c, xs⟩ : Tx)]) (k := ts.length) (by simp)
  rw [List.take_of_length_le (by simp), List.take_left] at h
  rw [h]
  simp
/-- texts of the call's own -/
def TsOwn (B : Nat) (w : World) (ts : List Tx) : Prop := ∀ t ∈ ts, Own B 5 .u8 w t.A t.xs.length t.c t.xs ∧ Byt t.xs
theorem TsOwn.nil (B : Nat) (w : World) : TsOwn B w [] := fun t ht => by cases ht
section
variable {B : Nat} {w w' : World} {ts : List Tx}
theorem TsOwn.below (h : TsOwn B w ts) (hb : Below w.heap.size w w') : TsOwn B w' ts := fun t ht => ⟨(h t ht).1.below hb, (h t ht).2⟩
theorem TsOwn.grownLo {g : Nat} (h : TsOwn B w ts) (hg : w.grownBy w' (some g)) (hl : g < B) : TsOwn B w' ts := fun t ht => ⟨(h t ht).1.kept hg (fun ad hA e => by have := ((h t ht).1.block ad hA).1; injection e; omega), (h t ht).2⟩
theorem TsOwn.grownRow {base n : Nat} {A : Option Addr} {m c : Nat} {xs : List Value} (h : TsOwn B w ts) (ho : w.ownsRow base 50 1 (.slice A m c) n xs) (hg : w.grownBy w' (ablk A)) : TsOwn B w' ts := fun t ht => ⟨(h t ht).1.kept hg (fun ad hA e => by
    rcases ho.2 with ⟨h1, _⟩ | ⟨g, cap, cur, h1, _, h3, _⟩
    · injection h1 with h1; subst h1; cases e
    · injection h1 with h1
      subst h1
      obtain ⟨h4, h5⟩ := h t ht
      obtain ⟨ad2, hA2, _⟩ : ∃ ad2, t.A = some ad2 ∧ True := ⟨ad, hA, trivial⟩
      rcases h4.1.2 with ⟨h6, _⟩ | ⟨g', cap', cur', h6, _, h7, _⟩
      · injection h6 with h6; rw [hA] at h6; cases h6
      · injection h6 with h6
        rw [hA] at h6
        injection h6 with h6
        subst h6
        simp [ablk] at e
        subst e
        rw [h3] at h7
        injection h7 with h7
        injection h7 with _ h8
        revert h8
        decide), (h t ht).2⟩
theorem TsOwn.snoc (h : TsOwn B w ts) {A : Option Addr} {n c : Nat} {xs : List Int} (ho : Own B 5 .u8 w A n c xs) (hb : Byt xs) : TsOwn B w (ts ++ [⟨A, c, xs⟩]) := fun t ht => by
  rcases List.mem_append.1 ht with h1 | h1
  · exact h t h1
  · rw [List.mem_singleton] at h1
    subst h1
    obtain rfl := ho.2
    exact ⟨ho, hb⟩
theorem TsOwn.cin {base m c : Nat} {A : Option Addr} (h : TsOwn B w ts) (ho : w.ownsRow base 50 1 (.slice A m c) ts.length (ts.map txV)) (hm : m = ts.length) (hc : m ≤ c) : CIn w.heap.size w A m c ts := by
  subst hm
  refine ⟨rfl, hc, fun i hi => ?_, fun t ht => (h t ht).2⟩
  obtain ⟨ad, u, e1, e2, e3, e4⟩ := (Reads.of_own ho).at_ hi
  have hmem := getD_mem (z := Tx.none) hi
  refine ⟨ad, e1, e2, ?_, (h _ hmem).1.rd, (h _ hmem).1.cap.1⟩
  rw [e4]
  simp only [List.getElem?_map, List.getElem?_eq_getElem hi, Option.map_some] at e3
  rw [List.getD_eq_getElem?_getD, List.getElem?_eq_getElem hi]
  exact e3.symm
end
theorem Rest.below {B gr N : Nat} {w w' : World} {L : List Int} (h : Rest B gr w L) (hb : Below N w w') (hg : gr < N) (hB : B ≤ N) : Rest B gr w' L := by
  obtain ⟨A, c, h1, h2, h3⟩ := h
  exact ⟨A, c, h1.below hb hg, h2, h3.below hb hB⟩
theorem Rest.grown {B gr g : Nat} {w w' : World} {L : List Int} (h : Rest B gr w L) (hb : w.grownBy w' (some g)) (hg : gr ≠ g) (hB : B ≤ g) (hz : B ≤ w.heap.size) : Rest B gr w' L := by
  obtain ⟨A, c, h1, h2, h3⟩ := h
  exact ⟨A, c, h1.grown hb (by intro q; injection q; omega), h2, h3.below (below_of_only hb hB hz) (Nat.le_refl _)⟩
theorem ld_rows {w : World} {a : Addr} {v : Value} (h : w.cell? a = some v) : (Instr.loadAt 29 (.pointer (some a))).run Try.prog w = .ok v w := by simp [go_sem, h]
theorem ld_bytes {w : World} {a : Addr} {v : Value} (h : w.cell? a = some v) : (Instr.loadAt 50 (.pointer (some a))).run Try.prog w = .ok v w := by simp [go_sem, h]
theorem rows_cap {w : World} {base n m c : Nat} {A : Option Addr} {e : TypeId} {xs : List Value} (h : w.ownsRow base e 1 (.slice A m c) n xs) : m ≤ c := by
  rcases h.2 with ⟨h1, h2⟩ | ⟨g, cap, cur, h1, _, _, h4, _⟩
  · injection h1 with _ h2 h3; subst h3; subst h2; exact Nat.le_refl _
  · injection h1 with _ h2 h3; subst h3; subst h2; exact h4
theorem rows_kept {w w' : World} {base n m c g : Nat} {A : Option Addr} {e : TypeId} {xs : List Value} (h : w.ownsRow base e 1 (.slice A m c) n xs) (hg : w.grownBy w' (some g)) (hl : g < base) : w'.ownsRow base e 1 (.slice A m c) n xs :=
  h.kept hg (by
    rcases A with _ | ad
    · exact .inl rfl
    · refine .inr (fun q => ?_)
      have := h.lt ad.block rfl
      injection q
      omega)
theorem rows_below {w w' : World} {base n m c : Nat} {A : Option Addr} {e : TypeId} {xs : List Value} (h : w.ownsRow base e 1 (.slice A m c) n xs) (hb : Below w.heap.size w w') : w'.ownsRow base e 1 (.slice A m c) n xs :=
  h.kept (only_of_below hb none) (by
    rcases A with _ | ad
    · exact .inl rfl
    · exact .inr (fun q => by cases q))
theorem rows_ne {w : World} {base n m c g : Nat} {A : Option Addr} {e t : TypeId} {xs : List Value} {cs : Array Value} (h : w.ownsRow base e 1 (.slice A m c) n xs) (hg : Blk w g t cs) (hne : e ≠ t) : some g ≠ ablk A := by
  have := own_blk_ne h hg hne
  rw [ownBlock_slice] at this
  exact fun q => this q.symm
theorem rows_lo {w : World} {base n m c g : Nat} {A : Option Addr} {e : TypeId} {xs : List Value} (h : w.ownsRow base e 1 (.slice A m c) n xs) (hg : g < base) : some g ≠ ablk A := by
  rcases A with _ | ad
  · intro q; cases q
  · have := h.lt ad.block rfl
    intro q
    simp [ablk] at q
    omega
theorem below_row {w w' : World} {base n m c B : Nat} {A : Option Addr} {e : TypeId} {xs : List Value} (h : w.ownsRow base e 1 (.slice A m c) n xs) (hg : w.grownBy w' (ablk A)) (hB : B ≤ base) (hz : B ≤ w.heap.size) : Below B w w' :=
  ⟨hg.os, hg.tape, hg.output, hg.size, fun i hi => hg.block i (by omega) (rows_lo h (by omega))⟩
theorem info_rows : (Try.prog.info? 50).map (fun i => (i.zero, i.size, i.bytes)) = some (some (.slice none 0 0), 1, 24) := by kernel_rfl
theorem wpList_appRow {ops : Array Oper} {rest : List Oper} {o : Oper} {a : Act} {w : World} {Q : Exit → Act → World → Prop} {base m c g : Nat} {A : Option Addr} {xs : List Value} {u : Value} (hgd : o.guard = none) (s x : Operand)
    (ho : o.op = .call { callee := .builtin .append, args := #[s, x], argTypes := #[29, 29] }) (hs : a.eval s = .slice A m c) (hx : a.eval x = .slice (some ⟨g, 0, none⟩) 1 1)
    (hown : w.ownsRow base 50 1 (.slice A m c) m xs) (hb : Blk w g 50 #[u]) (hu : u.oneCell' = true) (hl : m ≤ 4294967296) (hB : base ≤ w.heap.size)
    (h : ∀ A' c' w', w'.ownsRow base 50 1 (.slice A' (m + 1) c') (m + 1) (xs ++ [u]) → w.grownBy w' (ablk A) → wpList Try.prog ops Q rest (a.put o.dst (.slice A' (m + 1) c')) w') : wpList Try.prog ops Q (o :: rest) a w := by
  obtain ⟨i, hi, hz, hsz, hby⟩ := info_parts info_rows
  refine wpList_append_any w hgd s x 29 ho base 50 i (.slice none 0 0) 1 24 Try.underlying29 hi hz hsz hby rfl (by decide) _ m xs hs hown w.heap.size (some ⟨g, 0, none⟩) 1 1 [u] hx ?_ ?_ (by unfold maxLen; omega) (by omega) hB ?_
  · refine ⟨rfl, fun _ => ⟨_, rfl, hb.lt, fun j v hj => ?_⟩⟩
    have hj0 : j = 0 := by
      rcases Nat.eq_zero_or_pos j with q | q
      · exact q
      · rw [List.getElem?_eq_none (by simp; omega)] at hj; cases hj
    subst hj0
    have := Blk.cell hb 0
    simp at this hj
    subst hj
    exact this
  · intro v hv
    rw [List.mem_singleton] at hv
    subst hv
    exact hu
  · intro v' w' h1 h2 h3
    rw [ownBlock_slice] at h2
    rcases h1.2 with ⟨_, h4⟩ | ⟨g', cap, cur, rfl, _⟩
    · omega
    · exact h _ _ _ h1 h2
/-- what a round of Take reads -/
def TK (gg gr : Nat) (c0 c1 : Array Value) (v : World) : Prop := Blk v gg 31 c0 ∧ Blk v gr 50 c1
theorem ownL_eq {R : List Int} {ep ow nx sn : Int} (h1 : ofF 0 ((R.drop 12).take 8) = ep) (h2 : R.getD 20 0 = ow) (h3 : ofF 0 ((R.drop 21).take 8) = nx) (h4 : ofF 0 ((R.drop 29).take 8) = sn) (l : List (List Int)) : ownL R l = ⟨ep, ow, nx, sn, l⟩ := by
  unfold ownL; rw [h1, h2, h3, h4]
theorem ofF_one {R : List Int} {i : Nat} (h : i < R.length) : ofF 0 ((R.drop i).take 1) = R.getD i 0 := by
  rw [List.drop_eq_getElem_cons h, List.take_succ_cons, List.take_zero, ofF_cons, List.getD_eq_getElem?_getD, List.getElem?_eq_getElem h]
  show 256 * 0 + R[i] = R[i]
  omega
end Go.Proofs.Ytibjafkclojimaa
