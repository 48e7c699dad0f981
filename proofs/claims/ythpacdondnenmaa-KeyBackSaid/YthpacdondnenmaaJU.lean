/- Layer 10: packets that are bared and opened; the law KeyBack, walked. Conditions: as each theorem states them. -/
import Derived.Test.YthpacdondnenmaaJZ
import Derived.Test.YthpacdondnenmaaJHc
import Derived.Test.YthpacdondnenmaaQP
import Derived.Test.YthpacdondnenmaaJGa
import Derived.Test.YthpacdondnenmaaJT
namespace Go.Proofs.Ythpacdondnenmaa
open Go.RowKit
theorem slice_lhM {P : Program} {t e : TypeId} {k : IntKind} {bytes B n c : Nat} {w : World} {A : Option Addr} {xs : List Int} (E : ElT P t e k bytes) (hr : Rd B k w A xs) (hn : xs.length = n) (hc : n ≤ c) (l h : Int) (m : Nat) (h0 : 0 ≤ l) (h1 : l ≤ h) (h2 : h ≤ n) (hm : (m : Int) = h - l) :
    ∃ A' c', m ≤ c' ∧ c' ≤ c ∧ Rd B k w A' ((xs.drop l.toNat).take m) ∧ ((xs.drop l.toNat).take m).length = m ∧
      ∀ (w : World) (kl kh : IntKind), (Instr.sliceAt t (.slice A n c) (some (.int kl l)) (some (.int kh h)) none).run P w = .ok (.slice A' m c') w := by
  subst hn; exact slice_lh E hr hc l h m h0 h1 h2 hm
/-- a packet's value that is bare of its protection -/
def BarV (w : World) (v : Value) (h : HD) (hdr box : List Int) : Prop :=
  ∃ v1 v2 v3 v4 v5, v = .agg #[.int .u8 h.space, v1, v2, v3, .bool h.phase, .int .u64 h.pn, .int .i64 h.pb, v4, v5] ∧ Sl w v1 h.dst ∧ Sl w v2 h.src ∧ Sl w v3 h.tok ∧ Sl w v4 hdr ∧ Sl w v5 box
theorem BarV.below {w w' : World} {v : Value} {h : HD} {hdr box : List Int} (hv : BarV w v h hdr box) (hb : Below w.heap.size w w') : BarV w' v h hdr box := by
  obtain ⟨v1, v2, v3, v4, v5, e, s1, s2, s3, s4, s5⟩ := hv
  exact ⟨v1, v2, v3, v4, v5, e, s1.below hb, s2.below hb, s3.below hb, s4.below hb, s5.below hb⟩
def barZ : Array Value := #[.int .u8 0, .slice none 0 0, .slice none 0 0, .slice none 0 0, .bool false, .int .u64 0, .int .i64 0, .slice none 0 0, .slice none 0 0]
theorem size9 : (Try.prog.info? 42).map (·.size) = some 9 := by kernel_rfl
theorem bare_fine : Try.prog.underlying 42 = some (.struct (Try.prog.fieldsOf 42)) := by kernel_rfl
theorem size4 : (Try.prog.info? 79).map (·.size) = some 4 := by kernel_rfl
theorem alHd (o : Oper) (ho : o.op = .alloc 30) (ρ : Operand → Value) (w : World) : (execOp ρ o).run Try.prog w = .ok (.value (ptr0 w.heap.size)) (w.alloc (.cells #[.int .u8 0, .slice none 0 0, .slice none 0 0, .slice none 0 0, .bool false, .int .u64 0, .int .i64 0] 30)) := by
  obtain ⟨d, op, ty, p, af, g⟩ := o
  simp only at ho
  subst ho
  kernel_rfl
theorem alBr (o : Oper) (ho : o.op = .alloc 42) (ρ : Operand → Value) (w : World) : (execOp ρ o).run Try.prog w = .ok (.value (ptr0 w.heap.size)) (w.alloc (.cells barZ 42)) := by
  obtain ⟨d, op, ty, p, af, g⟩ := o
  simp only at ho
  subst ho
  kernel_rfl
/-- the first byte and the number's four, bare -/
def fstL (H Lb : List Int) (at_ : Nat) (sp : Int) : Int := xb (Lb.getD 0 0) (ab ((maskL H Lb at_).getD 0 0) (bitsI sp))
def numL (H Lb : List Int) (at_ : Nat) : List Int := (List.range 4).map fun i => xb (Lb.getD (at_ + i) 0) ((maskL H Lb at_).getD (1 + i) 0)
theorem numL_len (H Lb : List Int) (at_ : Nat) : (numL H Lb at_).length = 4 := by simp [numL]
theorem numL_getD (H Lb : List Int) (at_ : Nat) {i : Nat} (hi : i < 4) : (numL H Lb at_).getD i 0 = xb (Lb.getD (at_ + i) 0) ((maskL H Lb at_).getD (1 + i) 0) := by
  unfold numL
  rw [getD_el (by simpa using hi), List.getElem_map, List.getElem_range]
theorem numL_byt (H Lb : List Int) (at_ : Nat) : Byt (numL H Lb at_) := byt_of fun i hi => by
  rw [numL_len] at hi
  rw [numL_getD H Lb at_ hi]
  exact xb_u _ _
/-- both of the boxed arguments -/
structure KP (gk gp : Nat) (S K I H : List Int) (p : Int) (pv : Array Value) (v : World) : Prop where
  k : KyB v gk S K I H p
  h : Blk v gp 38 pv
theorem KP.to {gk gp N : Nat} {S K I H : List Int} {p : Int} {pv : Array Value} {v v' : World} (h : KP gk gp S K I H p pv v) (hb : Below N v v') (h1 : gk < N) (h2 : gp < N) : KP gk gp S K I H p pv v' := ⟨Blk.below h.k hb h1, Blk.below h.h hb h2⟩
theorem KP.lt {gk gp : Nat} {S K I H : List Int} {p : Int} {pv : Array Value} {v : World} (h : KP gk gp S K I H p pv v) : gk < v.heap.size ∧ gp < v.heap.size := ⟨Blk.lt h.k, Blk.lt h.h⟩
theorem KP.all {gk gp : Nat} {S K I H : List Int} {p : Int} {pv : Array Value} {v v' : World} (h : KP gk gp S K I H p pv v) (hb : Below v.heap.size v v') : KP gk gp S K I H p pv v' := h.to hb h.lt.1 h.lt.2
theorem pt_cells {w : World} {g : Nat} {c0 c1 c2 c3 c4 c5 : Value} (h : Blk w g 38 #[c0, c1, c2, c3, c4, c5]) : w.cell? ⟨g, 0, none⟩ = some c0 ∧ w.cell? ⟨g, 4, none⟩ = some c4 ∧ w.cell? ⟨g, 5, none⟩ = some c5 := ⟨Blk.cell h 0, Blk.cell h 4, Blk.cell h 5⟩
/-- and its slices lie in blocks from B on -/
def BarF (B : Nat) (w : World) (v : Value) (h : HD) (hdr box : List Int) : Prop :=
  ∃ v1 v2 v3 v4 v5, v = .agg #[.int .u8 h.space, v1, v2, v3, .bool h.phase, .int .u64 h.pn, .int .i64 h.pb, v4, v5] ∧ SlF B w v1 h.dst ∧ SlF B w v2 h.src ∧ SlF B w v3 h.tok ∧ SlF B w v4 hdr ∧ SlF B w v5 box
def UnmPost (h : HD) (hdr box : List Int) (w : World) (e : Ending) (w' : World) : Prop := ∃ v, e = .returned (.tuple #[v, .int .i64 0]) ∧ BarF w.heap.size w' v h hdr box ∧ Below w.heap.size w w'
end Go.Proofs.Ythpacdondnenmaa
namespace Go.Proofs.Ythpacdondnenmaa
open Go.RowKit
attribute [local irreducible] maskL
/-- the frame of Unmask -/
def UF (w : World) (gk gm gn : Nat) (S K I H : List Int) (p : Int) (pv : Array Value) (M L : List Int) (v : World) : Prop :=
  KP gk (gk + 1) S K I H p pv v ∧ Blk v (gk + 1 + 1) 42 barZ ∧ Arr v gm 23 .u8 M ∧ Arr v gn 79 .u8 L ∧ Below w.heap.size w v
theorem UF.all {w v v' : World} {gk gm gn : Nat} {S K I H : List Int} {p : Int} {pv : Array Value} {M L : List Int} (h : UF w gk gm gn S K I H p pv M L v) (hb : Below v.heap.size v v') : UF w gk gm gn S K I H p pv M L v' :=
  ⟨h.1.all hb, h.2.1.below hb h.2.1.lt, h.2.2.1.belowAll hb, h.2.2.2.1.belowAll hb, h.2.2.2.2.trans (hb.mono h.2.2.2.2.size)⟩
theorem UF.at_ {w v v' : World} {gk gm gn N : Nat} {S K I H : List Int} {p : Int} {pv : Array Value} {M L : List Int} (h : UF w gk gm gn S K I H p pv M L v) (hb : Below N v v') (h1 : gk + 1 + 1 < N) (h2 : gm < N) (h3 : gn < N) (h4 : w.heap.size ≤ N) : UF w gk gm gn S K I H p pv M L v' :=
  ⟨h.1.to hb (by omega) (by omega), h.2.1.below hb h1, Arr.below h.2.2.1 hb h2, Arr.below h.2.2.2.1 hb h3, h.2.2.2.2.trans (hb.mono h4)⟩
theorem results_bare {w : World} {g : Nat} {c0 c1 c2 c3 c4 c5 c6 c7 c8 : Value} {fn : Func} {x u : Tmp} {tmps : Array Value} (hr : fn.results = #[.cell x 42, .tmp u]) (hx : tmps.getD x undef = .pointer (some ⟨g, 0, none⟩)) (h : Blk w g 42 #[c0, c1, c2, c3, c4, c5, c6, c7, c8]) :
    (results fn tmps).run Try.prog w = .ok (.tuple #[.agg #[c0, c1, c2, c3, c4, c5, c6, c7, c8], tmps.getD u undef]) w := by
  have a0 := Blk.cell h 0
  have a1 := Blk.cell h 1
  have a2 := Blk.cell h 2
  have a3 := Blk.cell h 3
  have a4 := Blk.cell h 4
  have a5 := Blk.cell h 5
  have a6 := Blk.cell h 6
  have a7 := Blk.cell h 7
  have a8 := Blk.cell h 8
  simp at a0 a1 a2 a3 a4 a5 a6 a7 a8
  have hx' : tmps[x]?.getD undef = .pointer (some ⟨g, 0, none⟩) := by simpa using hx
  simp [results, hr, hx', go_sem, a0, a1, a2, a3, a4, a5, a6, a7, a8]
theorem Own.copied {B : Nat} {e : TypeId} {k : IntKind} {w : World} {g n c : Nat} {xs ys : List Int} {cur : Array Value} (h : Own B e k w (some ⟨g, 0, none⟩) n c xs) (o : Nat) (hcur : w.heap[g]? = some (.cells cur e (0, 0))) (hsz : cur.size = c * 1) (htk : cur.toList.take (n * 1) = xs.map (Value.int k)) (ho : o + ys.length = n) :
    Own B e k (w.setRow g (cur.toList.take o ++ (ys.map (Value.int k) ++ cur.toList.drop (o + (ys.map (Value.int k)).length))).toArray) (some ⟨g, 0, none⟩) n c (ovi xs o ys) := by
  obtain ⟨_, _, hnc, hcm, _, _, hB⟩ := h.heap
  have hl := h.len
  have hcl : cur.toList.length = c := by rw [Array.length_toList, hsz, Nat.mul_one]
  rw [Nat.mul_one] at htk
  have hov : ovi xs o ys = xs.take o ++ ys := by unfold ovi; rw [List.drop_eq_nil_of_le (by omega), List.append_nil]
  have hto : cur.toList.take o = (xs.take o).map (Value.int k) := by rw [List.map_take, ← htk, List.take_take, Nat.min_eq_left (by omega)]
  have hlen : (ovi xs o ys).length = n := by rw [hov, List.length_append, List.length_take]; omega
  refine ⟨⟨by rw [List.length_map, hlen, Nat.mul_one], .inr ⟨g, c, _, rfl, hB, setRow_heap w g cur _ e _ hcur, hnc, hcm, ?_, ?_⟩⟩, hlen.symm⟩
  · simp only [List.size_toArray, List.length_append, List.length_take, List.length_drop, List.length_map, hcl]
    omega
  · rw [Nat.mul_one, List.toList_toArray, ← List.append_assoc, List.take_append_of_le_length (by rw [List.length_append, List.length_take, List.length_map, hcl]; omega), List.take_of_length_le (by rw [List.length_append, List.length_take, List.length_map, hcl]; omega), hto, hov, List.map_append]
theorem rd_take {B : Nat} {k : IntKind} {w : World} {A : Option Addr} {xs : List Int} (h : Rd B k w A xs) (m : Nat) : Rd B k w A (xs.take m) := fun i hi => by
  rw [List.length_take] at hi
  obtain ⟨ad, e, hb, hc⟩ := h i (by omega)
  exact ⟨ad, e, hb, by rw [getD_take (by omega)]; exact hc⟩
theorem wpList_copyOwn {P : Program} {ops : Array Oper} {rest : List Oper} {o : Oper} {a : Act} {w : World} {Q : Exit → Act → World → Prop} {dT sT elem e : TypeId} {k : IntKind} {B B2 g off c dc sc m : Nat} {sp : Option Addr} {xs ys : List Int} (hgd : o.guard = none) (d s : Operand)
    (ho : o.op = .call { callee := .builtin .copy, args := #[d, s], argTypes := #[dT, sT] }) (hu : P.underlying dT = some (.slice elem)) (hsz : (P.info? elem).map (·.size) = some 1) (hO : Own B e k w (some ⟨g, 0, none⟩) (off + m) c xs) (hr : Rd B2 k w sp ys) (hm : ys.length = m)
    (hd : a.eval d = .slice (some ⟨g, off, none⟩) m dc) (hs : a.eval s = .slice sp m sc)
    (h : ∀ w', Own B e k w' (some ⟨g, 0, none⟩) (off + m) c (ovi xs off ys) → w.grownBy w' (some g) → wpList P ops Q rest (a.put o.dst (goInt m)) w') : wpList P ops Q (o :: rest) a w := by
  obtain ⟨cur, hcur, hnc, _, hcs, htk, _⟩ := hO.heap
  have hO16 := Own.copied (ys := ys) hO off hcur hcs htk (by rw [hm])
  rcases Nat.eq_zero_or_pos m with h0 | h0
  · subst h0
    refine wpList_copy_nothing hgd d s dT sT ho elem hu hsz _ sp 0 dc 0 sc hd hs rfl ?_
    have : ys = [] := List.eq_nil_of_length_eq_zero hm
    subst this
    refine h w (hO.cast ?_) (World.grownBy.refl _ _)
    unfold ovi; simp
  · obtain ⟨ad, rfl, _⟩ := hr.isSome (by omega)
    have hl : (ys.map (Value.int k)).length = m := by rw [List.length_map, hm]
    refine wpList_copy_own hgd d s dT sT ho elem hu hsz g off m dc ad m sc hd hs cur e hcur (ys.map (Value.int k)) (by rw [hl]; exact (Nat.min_self m).symm) (fun j v hj => ?_) (by rw [hl, hcs]; omega) (ints_oneCell k _) ?_
    · simp only [List.getElem?_map, Option.map_eq_some_iff] at hj
      obtain ⟨z, hz, rfl⟩ := hj
      have hjn : j < ys.length := by
        rcases Nat.lt_or_ge j ys.length with q | q
        · exact q
        · rw [List.getElem?_eq_none q] at hz; cases hz
      rw [hr.at_ hjn, List.getD_eq_getElem?_getD, hz]
      rfl
    · rw [hl]
      rw [hl] at hO16
      exact h _ hO16 (only_setRow w g _)
theorem slice_atE {P : Program} {t e : TypeId} {k : IntKind} {bytes : Nat} (E : ElT P t e k bytes) (g l m c : Nat) (h2 : l < c) (w : World) (kl : IntKind) : (Instr.sliceAt t (.slice (some ⟨g, 0, none⟩) (l + m) c) (some (.int kl (l : Int))) none none).run P w = .ok (.slice (some ⟨g, l, none⟩) m (c - l)) w := by
  rw [run_sliceAt_slice _ _ _ _ _ _ (by rw [E.elem]; exact E.ht), run_slice_l _ _ _ _ _ (by rw [E.elem]; exact E.ht) kl (l : Int) (by omega) (by omega), E.elem, E.size]
  have e1 : (⟨g, 0, none⟩ : Addr).add l = ⟨g, l, none⟩ := by unfold Addr.add; split <;> simp_all
  simp [Result.andThen, sliced, show c ≠ l by omega, e1]
/-- a slice of bytes that lies from block lo on, and not in block g -/
def SlN (lo g : Nat) (w : World) (A : Option Addr) (n c : Nat) (L : List Int) : Prop := n = L.length ∧ n ≤ c ∧ ∀ i, i < L.length → ∃ ad, A = some ad ∧ ad.block ≠ g ∧ lo ≤ ad.block ∧ ad.block < w.heap.size ∧ w.cell? (ad.add i) = some (.int .u8 (L.getD i 0))
section
variable {lo g : Nat} {w w' : World} {A : Option Addr} {n c : Nat} {L : List Int}
theorem SlN.sl (h : SlN lo g w A n c L) : Sl w (.slice A n c) L := ⟨A, n, c, rfl, h.1, h.2.1, fun i hi => by obtain ⟨ad, e, _, _, hb, hc⟩ := h.2.2 i hi; exact ⟨ad, e, hb, hc⟩⟩
theorem SlN.below (h : SlN lo g w A n c L) (hb : Below w.heap.size w w') : SlN lo g w' A n c L :=
  ⟨h.1, h.2.1, fun i hi => by obtain ⟨ad, e, h1, h2, h3, hc⟩ := h.2.2 i hi; exact ⟨ad, e, h1, h2, Nat.lt_of_lt_of_le h3 hb.size, (hb.cell (by rw [block_of_add]; exact h3)).trans hc⟩⟩
theorem SlN.set (h : SlN lo g w A n c L) (j : Nat) (v : Value) : SlN lo g (w.setCell ⟨g, j, none⟩ v) A n c L :=
  ⟨h.1, h.2.1, fun i hi => by obtain ⟨ad, e, h1, h2, h3, hc⟩ := h.2.2 i hi; exact ⟨ad, e, h1, h2, by simpa [World.setCell] using h3, (World.cell?_of_block (Below.heap_setCell w ⟨g, j, none⟩ v _ (by rw [block_of_add]; exact h1))).trans hc⟩⟩
theorem SlN.grow {g' : Nat} (h : SlN lo g w A n c L) (hg : w.grownBy w' (some g')) (hl : g' < lo) : Sl w' (.slice A n c) L :=
  ⟨A, n, c, rfl, h.1, h.2.1, fun i hi => by obtain ⟨ad, e, _, h2, h3, hc⟩ := h.2.2 i hi; exact ⟨ad, e, Nat.lt_of_lt_of_le h3 hg.size, only_cell hg hc (by rw [block_of_add]; omega)⟩⟩
theorem SlN.of1 {B : Nat} (h : SlF B w (.slice A n c) L) (hb : Below w.heap.size w w') (hg : w.heap.size = g) (hB : lo ≤ B) : SlN lo g w' A n c L := by
  obtain ⟨⟨A', n', c', e, h1, h2, h3⟩, hF⟩ := h
  injection e with e1 e2 e3
  subst e1; subst e2; subst e3
  exact ⟨h1, h2, fun i hi => by obtain ⟨ad, e, hlt, hc⟩ := h3 i hi; exact ⟨ad, e, by omega, Nat.le_trans hB (hF _ _ _ rfl ad e), Nat.lt_of_lt_of_le hlt hb.size, (hb.cell (by rw [block_of_add]; exact hlt)).trans hc⟩⟩
theorem SlN.of2 {B : Nat} (h : SlF B w (.slice A n c) L) (hg : w.grownBy w' (some g)) (hB : g < B) (hl : lo ≤ B) : SlN lo g w' A n c L := by
  obtain ⟨⟨A', n', c', e, h1, h2, h3⟩, hF⟩ := h
  injection e with e1 e2 e3
  subst e1; subst e2; subst e3
  exact ⟨h1, h2, fun i hi => by
    obtain ⟨ad, e, hlt, hc⟩ := h3 i hi
    have := hF _ _ _ rfl ad e
    exact ⟨ad, e, by omega, by omega, Nat.lt_of_lt_of_le hlt hg.size, only_cell hg hc (by rw [block_of_add]; omega)⟩⟩
end
theorem Fr.mono {B B' : Nat} {v : Value} (h : Fr B v) (hB : B' ≤ B) : Fr B' v := fun A n c e ad ha => Nat.le_trans hB (h A n c e ad ha)
theorem SlF.grow {B g : Nat} {w w' : World} {v : Value} {L : List Int} (h : SlF B w v L) (hg : w.grownBy w' (some g)) (hB : g < B) : Sl w' v L := by
  obtain ⟨⟨A, n, c, rfl, h1, h2, h3⟩, hF⟩ := h
  exact ⟨A, n, c, rfl, h1, h2, fun i hi => by obtain ⟨ad, e, h4, hc⟩ := h3 i hi; exact ⟨ad, e, Nat.lt_of_lt_of_le h4 hg.size, only_cell hg hc (by rw [block_of_add]; have := hF _ _ _ rfl ad e; omega)⟩⟩
theorem SlF.below {B : Nat} {w w' : World} {v : Value} {L : List Int} (h : SlF B w v L) (hb : Below w.heap.size w w') : SlF B w' v L := ⟨h.1.below hb, h.2⟩
theorem UF.set {w v : World} {gk gm gn : Nat} {S K I H : List Int} {p : Int} {pv : Array Value} {M L L' : List Int} (h : UF w gk gm gn S K I H p pv M L v) (i : Nat) (z : Int) (e : L.set i z = L') (h1 : gk + 1 + 1 < gn) (h2 : gm ≠ gn) (h3 : w.heap.size ≤ gn) : UF w gk gm gn S K I H p pv M L' (v.drew.setCell ⟨gn, i, none⟩ (.int .u8 z)) :=
  ⟨⟨Blk.far (w := v.drew) h.1.k (p := ⟨gn, i, none⟩) (by show gk ≠ gn; omega) _, Blk.far (w := v.drew) h.1.h (p := ⟨gn, i, none⟩) (by show gk + 1 ≠ gn; omega) _⟩, Blk.far (w := v.drew) h.2.1 (p := ⟨gn, i, none⟩) (by show gk + 1 + 1 ≠ gn; omega) _, (Arr.drew h.2.2.1).far (p := ⟨gn, i, none⟩) h2 _, Arr.cast ((Arr.drew h.2.2.2.1).set i z) e, h.2.2.2.2.drew.setCell (p := ⟨gn, i, none⟩) h3 _⟩
set_option maxRecDepth 100000 in
set_option maxHeartbeats 8000000 in
theorem unmask_yes (S K I H : List Int) (p sp : Int) (at_ pbn n cb : Nat) (vd vs vt : Value) (Ab : Option Addr) (Ld Ls Lt Lb : List Int) (next E : Int) (w : World) (hk : KyOk S K I H) (sd : Sl w vd Ld) (ss : Sl w vs Ls) (st : Sl w vt Lt) (hn : Lb.length = n) (hcb : n ≤ cb) (rb : Rd w.heap.size .u8 w Ab Lb) (hLb : Byt Lb)
    (h1 : 1 ≤ at_) (h20 : at_ + 20 ≤ n) (hl : n ≤ 90000) (hl3 : Ld.length ≤ 1000000000000 ∧ Ls.length ≤ 1000000000000 ∧ Lt.length ≤ 1000000000000)
    (h2 : bits .andNot .u8 (bits .xor .u8 (fstL H Lb at_ sp) (Lb.getD 0 0)) (bitsV sp) = 0) (h3 : bits .and .u8 (fstL H Lb at_ sp) (if sp = 2 then 24 else 12) = 0) (hpb : fstL H Lb at_ sp % 4 + 1 = (pbn : Int))
    (hE : ∀ w : World, Calls Try.prog 14 #[.int .u64 next, .int .u64 (ofF 0 ((numL H Lb at_).take pbn)), .int .i64 pbn] w fun e w' => e = .returned (.int .u64 E) ∧ Below w.heap.size w w') :
    Calls Try.prog 11 #[kyV S K I H p, .agg #[.int .u8 sp, vd, vs, vt, .int .i64 at_, .slice Ab n cb], .int .u64 next] w
      (UnmPost { bareH sp Ld Ls Lt (numL H Lb at_) (fstL H Lb at_ sp) with pn := E } (ovi (fstL H Lb at_ sp :: (Lb.drop 1).take (at_ + pbn - 1)) at_ ((numL H Lb at_).take pbn)) (Lb.drop (at_ + pbn)) w) := by
  unfold kyV
  have hx8 : B8 (fstL H Lb at_ sp) := xb_u _ _
  have HK := Lib.hid hk
  have HN := Lib.hid hn
  have HBY := Lib.hid hLb
  have HMO : Hid (Blk16 (maskL H Lb at_)) := Lib.hid (maskL_ok ⟨hk.h, hk.bh⟩ hLb (by rw [hn]; exact h20))
  have HNL := Lib.hid (numL_len H Lb at_)
  have HNB := Lib.hid (numL_byt H Lb at_)
  have HNG : Hid (∀ i, i < 4 → (numL H Lb at_).getD i 0 = xb (Lb.getD (at_ + i) 0) ((maskL H Lb at_).getD (1 + i) 0)) := Lib.hid (fun i hi => numL_getD H Lb at_ hi)
  have HF : Hid (fstL H Lb at_ sp = xb (Lb.getD 0 0) (ab ((maskL H Lb at_).getD 0 0) (bitsI sp))) := Lib.hid rfl
  have hp1 : 1 ≤ pbn := by omega
  have hp4 : pbn ≤ 4 := by omega
  have SD := Lib.hid sd
  have SS := Lib.hid ss
  have ST := Lib.hid st
  have RB := Lib.hid rb
  have hbp : (bareH sp Ld Ls Lt (numL H Lb at_) (fstL H Lb at_ sp)).pb = (pbn : Int) := hpb
  have hbn : (bareH sp Ld Ls Lt (numL H Lb at_) (fstL H Lb at_ sp)).pn = ofF 0 ((numL H Lb at_).take pbn) := by
    show ofF 0 ((numL H Lb at_).take (fstL H Lb at_ sp % 4 + 1).toNat) = _
    rw [hpb, Int.toNat_natCast]
  obtain ⟨ph, hph⟩ : ∃ ph, (bareH sp Ld Ls Lt (numL H Lb at_) (fstL H Lb at_ sp)).phase = ph := ⟨_, rfl⟩
  obtain ⟨pn0, hpn0⟩ : ∃ q, ofF 0 ((numL H Lb at_).take pbn) = q := ⟨_, rfl⟩
  have HBR := Lib.hid (fun (w' : World) (vn : Value) (b1 : Sl w' vd Ld) (b2 : Sl w' vs Ls) (b3 : Sl w' vt Lt) (b4 : Sl w' (.slice Ab n cb) Lb) (b5 : Sl w' vn (numL H Lb at_)) => Calls.mono (bare_yesF sp at_ vd vs vt (.slice Ab n cb) vn Ld Ls Lt Lb (numL H Lb at_) (fstL H Lb at_ sp) w' b1 b2 b3 b4 b5 (numL_byt H Lb at_) hx8.1 hx8.2 (by rw [hn]; omega) h2 h3 (by rw [numL_len]; omega) ⟨hl3.1, hl3.2.1, hl3.2.2, by rw [hn]; omega, by rw [numL_len]; decide⟩) (R' := fun e w'' => ∃ E1 m1 d1 E2 m2 d2 E3 m3 d3, e = .returned (.tuple #[.agg #[.int .u8 sp, .slice E1 m1 d1, .slice E2 m2 d2, .slice E3 m3 d3, .bool ph, .int .u64 pn0, .int .i64 pbn], .int .i64 0]) ∧ SlF w'.heap.size w'' (.slice E1 m1 d1) Ld ∧ SlF w'.heap.size w'' (.slice E2 m2 d2) Ls ∧ SlF w'.heap.size w'' (.slice E3 m3 d3) Lt ∧ Below w'.heap.size w' w'') (fun e w'' hx => by
    obtain ⟨v, rfl, ⟨v1, v2, v3, rfl, s1, s2, s3⟩, hb⟩ := hx
    obtain ⟨E1, m1, d1, rfl⟩ := s1.1.form
    obtain ⟨E2, m2, d2, rfl⟩ := s2.1.form
    obtain ⟨E3, m3, d3, rfl⟩ := s3.1.form
    rw [hbp, hbn, hph, hpn0]
    exact ⟨E1, m1, d1, E2, m2, d2, E3, m3, d3, rfl, s1, s2, s3, hb⟩))
  have HEX : Hid (∀ w : World, Calls Try.prog 14 #[.int .u64 next, .int .u64 pn0, .int .i64 pbn] w fun e w' => e = .returned (.int .u64 E) ∧ Below w.heap.size w w') := Lib.hid (by rw [← hpn0]; exact hE)
  have HPOST : Hid (∀ (w' : World) E1 m1 d1 E2 m2 d2 E3 m3 d3 E4 m4 d4 E5 m5 d5 hdr box, SlF w.heap.size w' (.slice E1 m1 d1) Ld → SlF w.heap.size w' (.slice E2 m2 d2) Ls → SlF w.heap.size w' (.slice E3 m3 d3) Lt → SlF w.heap.size w' (.slice E4 m4 d4) hdr → SlF w.heap.size w' (.slice E5 m5 d5) box → BarF w.heap.size w' (.agg #[.int .u8 sp, .slice E1 m1 d1, .slice E2 m2 d2, .slice E3 m3 d3, .bool ph, .int .u64 E, .int .i64 pbn, .slice E4 m4 d4, .slice E5 m5 d5]) { bareH sp Ld Ls Lt (numL H Lb at_) (fstL H Lb at_ sp) with pn := E } hdr box) := Lib.hid (fun w' E1 m1 d1 E2 m2 d2 E3 m3 d3 E4 m4 d4 E5 m5 d5 hdr box s1 s2 s3 s4 s5 => ⟨.slice E1 m1 d1, .slice E2 m2 d2, .slice E3 m3 d3, .slice E4 m4 d4, .slice E5 m5 d5, by rw [← hph, ← hbp]; rfl, s1, s2, s3, s4, s5⟩)
  obtain ⟨x0, x1⟩ := hx8
  have HW : ∃ W : World, W = (((w.alloc (.cells (kyL S K I H p).toArray 27)).alloc (.cells #[.int .u8 sp, vd, vs, vt, .int .i64 at_, .slice Ab n cb] 38)).alloc (.cells barZ 42)) := ⟨_, rfl⟩
  obtain ⟨ad, rfl, had⟩ := rb.isSome (by omega)
  have K0 : Hid (KP w.heap.size (w.heap.size + 1) S K I H p #[.int .u8 sp, vd, vs, vt, .int .i64 at_, .slice (some ad) n cb] (((w.alloc (.cells (kyL S K I H p).toArray 27)).alloc (.cells #[.int .u8 sp, vd, vs, vt, .int .i64 at_, .slice (some ad) n cb] 38)).alloc (.cells barZ 42))) := Lib.hid ⟨((Blk.new w 27 (kyL S K I H p).toArray).alloc _).alloc _, (blk_new_at (by simp)).alloc _⟩
  have Z0 : Hid (Blk (((w.alloc (.cells (kyL S K I H p).toArray 27)).alloc (.cells #[.int .u8 sp, vd, vs, vt, .int .i64 at_, .slice (some ad) n cb] 38)).alloc (.cells barZ 42)) (w.heap.size + 1 + 1) 42 barZ) := Lib.hid (blk_new_at (by simp))
  have B0 : Hid (Below w.heap.size w (((w.alloc (.cells (kyL S K I H p).toArray 27)).alloc (.cells #[.int .u8 sp, vd, vs, vt, .int .i64 at_, .slice (some ad) n cb] 38)).alloc (.cells barZ 42))) := Lib.hid ((((Below.refl _ _).alloc (Nat.le_refl _) _).alloc (by simp) _).alloc (by simp <;> omega) _)
  clear hk hn hLb sd ss st rb hE h2 h3 hpb hl3 HW hbp hbn hph hpn0
  generalize fstL H Lb at_ sp = x at *
  generalize numL H Lb at_ = Ln at *
  unfold barZ at K0 Z0 B0
  have L37 := Lib.hid (ky_load HK.out K0.out.k)
  go_enter Try.func11, Try.ntmps11
  go_wp2_with ((with_reducible (show wpList _ _ _ (⟨some 37, .load _ _, _, _, _, _⟩ :: _) _ _)); refine wpList_loadV (o := ⟨some 37, .load _ _, _, _, _, _⟩) rfl _ rfl rfl (L37.out) ?_)
  obtain ⟨gk, hgk⟩ : ∃ gk, w.heap.size = gk := ⟨_, rfl⟩
  generalize ((w.alloc (.cells (kyL S K I H p).toArray 27)).alloc (.cells #[.int .u8 sp, vd, vs, vt, .int .i64 at_, .slice (some ad) n cb] 38)).alloc (.cells #[.int .u8 0, .slice none 0 0, .slice none 0 0, .slice none 0 0, .bool false, .int .u64 0, .int .i64 0, .slice none 0 0, .slice none 0 0] 42) = w1 at *
  have hwz : w.heap.size ≤ w1.heap.size := B0.out.size
  rw [hgk] at K0 Z0 hwz ⊢
  have hz0 := K0.out.lt
  have hzr := Z0.out.lt
  clear L37
  refine Calls.mono (mask_any S K I H Lb p (some ad) n cb at_ _ HK.out HN.out HBY.out hcb (by omega) h20 ((RB.out.below B0.out (Nat.le_refl _)).mono B0.out.size)) ?_
  rintro e w2 ⟨rfl, hb2⟩
  have K2 := Lib.hid (K0.out.all hb2)
  have Z2 : Hid (Blk w2 (gk + 1 + 1) 42 barZ) := Lib.hid (by unfold barZ; exact Z0.out.below hb2 Z0.out.lt)
  have B2 := Lib.hid (B0.out.trans (hb2.mono (by omega)))
  have hz2 := hb2.size
  clear hb2 K0 Z0 B0
  generalize maskL H Lb at_ = M at *
  go_wp2_with ((with_reducible (show wpList _ _ _ (⟨none, .store 23 _ _, _, _, _, _⟩ :: _) _ _)); go_loud (refine wpList_storeArr (o := ⟨none, .store 23 _ _, _, _, _, _⟩) (g := w2.heap.size) (t := 23) (k := .u8) (xs := M) (n := 16) rfl _ _ rfl rfl rfl (Blk.new _ _ _) size16 HMO.out.1.symm rfl ?_; intro w3 ha3 hg3; have HA3 := Lib.hid ha3; have HB3 := Lib.hid (((Below.refl w2.heap.size w2).alloc (Nat.le_refl _) _).trans (below_of_only hg3 (Nat.le_refl _) (by simp))); clear ha3 hg3))
  have K3 := Lib.hid (K2.out.all HB3.out)
  have Z3 := Lib.hid (Z2.out.below HB3.out Z2.out.lt)
  have B3 := Lib.hid (B2.out.trans (HB3.out.mono (by omega)))
  obtain ⟨gm, hgm⟩ : ∃ gm, w2.heap.size = gm := ⟨_, rfl⟩
  rw [hgm] at HA3 ⊢
  have hzm := HA3.out.lt
  have hm2 : gk + 1 + 1 < gm := by omega
  have hwz3 : w.heap.size ≤ w3.heap.size := B3.out.size
  clear K2 Z2 B2 HB3
  have a0 : ∀ r : BW w3.heap.size w3, r.world.cell? ⟨gk + 1, 0, none⟩ = some (.int .u8 sp) := fun r => (pt_cells (K3.out.all r.below).h).1
  have a5 : ∀ r : BW w3.heap.size w3, r.world.cell? ⟨gk + 1, 5, none⟩ = some (.slice (some ad) n cb) := fun r => (pt_cells (K3.out.all r.below).h).2.2
  have b0 : ∀ r : BW w3.heap.size w3, r.world.cell? ad = some (.int .u8 (Lb.getD 0 0)) := fun r => ((RB.out.below B3.out (Nat.le_refl _)).below r.below hwz3).at0 (by rw [HN.out]; omega)
  have m0 : ∀ r : BW w3.heap.size w3, r.world.cell? ⟨gm, 0, none⟩ = some (.int .u8 (M.getD 0 0)) := fun r => (HA3.out.belowAll r.below).cell (by rw [HMO.out.1]; decide)
  obtain ⟨z0, z1⟩ := HMO.out.2.getD 0
  obtain ⟨y0, y1⟩ := HBY.out.getD 0
  have HX : Hid (bits .xor .u8 (Lb.getD 0 0) (bits .and .u8 (M.getD 0 0) (bitsV sp)) = x) := Lib.hid HF.out.symm
  generalize hy : Lb.getD 0 0 = y at *
  generalize hm : M.getD 0 0 = m at *
  obtain ⟨t0, t1⟩ : 0 ≤ bitsV sp ∧ bitsV sp < 256 := bitsI_u sp
  clear hy hm
  refine wp_region_mixN w3.heap.size [([0, 1, 2, 3, 4, 5, 6, 7], 8)] [9, 10, 11] (by kernel_rfl) (by kernel_rfl) (by kernel_rfl) (by kernel_rfl) ?_
  try (rw [put_none])
  simp only [pickL, List.map_cons, List.map_nil, List.filterMap_cons, List.filterMap_nil, List.getElem?_cons_succ, List.getElem?_cons_zero]
  refine mixN_cons ?_
  repeat (show wpQuiet _ _ _ _ (_ :: _) _; go_big_quiet_step (fail))
  refine wpQuiet_nil ?_
  show wpList _ _ _ [_] _ _
  go_wp2_with fail
  have D3 := Lib.hid (Below.refl w3.heap.size w3).drew
  refine Calls.mono (bits_any sp _) ?_
  rintro e w4 ⟨rfl, rfl⟩
  generalize bitsV sp = cbt at *
  go_wp2_with fail
  refine MixN.narrow D3.out D3.out.size ?_
  refine mixN_nil ?_
  repeat (show wpQuiet _ _ _ _ (_ :: _) _; go_big_quiet_step (fail))
  rw [HX.out]
  refine wpQuiet_nil ?_
  refine NoPanic.normal ?_
  clear a0 a5 b0 m0
  have F4 : Hid (UF w gk gm w3.heap.size S K I H p #[.int .u8 sp, vd, vs, vt, .int .i64 at_, .slice (some ad) n cb] M (mixL (nul 4) Ln 0) (w3.alloc (.cells #[.int .u8 0, .int .u8 0, .int .u8 0, .int .u8 0] 79)).drew) := Lib.hid (by
    have hD : Below w3.heap.size w3 (w3.alloc (.cells #[.int .u8 0, .int .u8 0, .int .u8 0, .int .u8 0] 79)).drew := ((Below.refl w3.heap.size w3).alloc (Nat.le_refl _) _).drew
    exact ⟨K3.out.all hD, Z3.out.below hD Z3.out.lt, HA3.out.belowAll hD, by rw [mix_zero]; exact Arr.drew (Arr.newAt rfl rfl), B3.out.trans (hD.mono hwz3)⟩)
  clear K3 Z3 HA3 B3 D3
  go_wp2_with fail
  obtain ⟨gn, hgn⟩ : ∃ gn, w3.heap.size = gn := ⟨_, rfl⟩
  generalize (w3.alloc (.cells #[.int .u8 0, .int .u8 0, .int .u8 0, .int .u8 0] 79)).drew = w5 at *
  rw [hgn] at F4 ⊢
  have hgn2 : gk + 1 + 1 < gn := by omega
  have hmn : gm ≠ gn := by omega
  have hwn : w.heap.size ≤ gn := by omega
  clear hgn hzm hwz3 hz2 hwz hz0 hzr
  go_loopw [54] (fun ii wr => ∃ j : Nat, j ≤ 4 ∧ ii = .int .i64 j ∧ Hid (UF w gk gm gn S K I H p #[.int .u8 sp, vd, vs, vt, .int .i64 at_, .slice (some ad) n cb] M (mixL (nul 4) Ln j) wr)) (fun ii _ => 4 - (intOf ii).toNat)
  case atStart => exact ⟨0, by omega, rfl, F4⟩
  case round =>
    clear F4
    obtain ⟨j, hj, rfl, HF5⟩ := hrel
    by_cases hlt : j < 4
    · have hml : Hid ((mixL (nul 4) Ln j).length = 4) := Lib.hid (by rw [mix_len (by rw [nul_len, HNL.out]) (by rw [nul_len]; omega), nul_len])
      have a4 : ∀ r : BW wr.heap.size wr, r.world.cell? ⟨gk + 1, 4, none⟩ = some (.int .i64 at_) := fun r => (pt_cells (HF5.out.1.all r.below).h).2.1
      have a5 : ∀ r : BW wr.heap.size wr, r.world.cell? ⟨gk + 1, 5, none⟩ = some (.slice (some ad) n cb) := fun r => (pt_cells (HF5.out.1.all r.below).h).2.2
      have b0 : ∀ r : BW wr.heap.size wr, r.world.cell? (ad.add (at_ + j)) = some (.int .u8 (Lb.getD (at_ + j) 0)) := fun r => ((RB.out.below HF5.out.2.2.2.2 (Nat.le_refl _)).below r.below HF5.out.2.2.2.2.size).at_ (by rw [HN.out]; omega)
      have m0 : ∀ r : BW wr.heap.size wr, r.world.cell? ⟨gm, 1 + j, none⟩ = some (.int .u8 (M.getD (1 + j) 0)) := fun r => (HF5.out.2.2.1.belowAll r.below).cell (by rw [HMO.out.1]; omega)
      have f1 := HF5.out.2.2.2.1.frozen j
      have q1 := HF5.out.2.2.2.1.cell (i := j) (by rw [hml.out]; exact hlt)
      have HMS := mix_set (xs := nul 4) (ys := Ln) (k := j) (by rw [nul_len, HNL.out]) (by rw [nul_len]; exact hlt)
      rw [HNG.out j hlt] at HMS
      have HMS := Lib.hid HMS
      have e1 : ((at_ : Int) + (j : Int)).toNat = at_ + j := by omega
      have e2 : (1 + (j : Int)).toNat = 1 + j := by omega
      generalize hy2 : Lb.getD (at_ + j) 0 = y2 at *
      generalize hm2' : M.getD (1 + j) 0 = m2 at *
      generalize (mixL (nul 4) Ln j).getD j 0 = old at *
      clear hy2 hm2'
      go_wp2_with fail
      refine wp_region_mixOB wr.heap.size [([0, 1, 2, 3, 4, 5, 6, 7, 8, 9, 10, 11, 12, 13, 14], 15)] (by kernel_rfl) (by kernel_rfl) (by kernel_rfl) (by kernel_rfl) (by kernel_rfl) ?_
      try (rw [put_none])
      simp only [pickL, List.map_cons, List.map_nil, List.filterMap_cons, List.filterMap_nil, List.getElem?_cons_succ, List.getElem?_cons_zero]
      refine mixO_cons ?_
      repeat (show wpQuiet _ _ _ _ (_ :: _) _; go_big_quiet_step (fail))
      refine wpQuiet_nil ?_
      show wpList _ _ _ [_] _ _
      go_wp2_with fail
      refine MixO.last ?_
      refine mixO_nil ?_
      refine wpQuiet_nil ?_
      refine NoPanic.normal ?_
      have HF9 := Lib.hid (HF5.out.set j _ HMS.out hgn2 hmn hwn)
      clear a4 a5 b0 m0 f1 q1 HMS HF5 hml
      go_wp2_with fail
      go_roundw
      case rel => exact ⟨j + 1, by omega, by go_num, HF9⟩
      case measure => simp [intOf]; omega
    · have HF6 : Hid (UF w gk gm gn S K I H p #[.int .u8 sp, vd, vs, vt, .int .i64 at_, .slice (some ad) n cb] M Ln wr) := Lib.hid (by
        have h := HF5.out
        rwa [show j = Ln.length by rw [HNL.out]; omega, mix_full (by rw [nul_len, HNL.out])] at h)
      clear HF5 HNG
      go_wp2_with fail
      have hwr : w.heap.size ≤ wr.heap.size := HF6.out.2.2.2.2.size
      have hne2 : Nonempty (CW (fun v : World => Blk v (gk + 1) 38 #[.int .u8 sp, vd, vs, vt, .int .i64 at_, .slice (some ad) n cb])) := CW.inh HF6.out.1.h
      have FD := Lib.hid (HF6.out.all (Below.refl wr.heap.size wr).drew)
      have BD : Hid (Below wr.heap.size wr wr.drew) := Lib.hid (Below.refl wr.heap.size wr).drew
      refine wp_region_sig (fun v : World => Blk v (gk + 1) 38 #[.int .u8 sp, vd, vs, vt, .int .i64 at_, .slice (some ad) n cb]) (.two [0, 1, 2] 3 (.one [4, 5, 6] 7 (.one [] 8 (.fin [9]))) 7 (.one [] 3 (.one [4, 5, 6] 8 (.fin [9])))) (by kernel_rfl) (by kernel_rfl) (by kernel_rfl) (by kernel_rfl) FD.out.1.h ?_
      refine mixT_two ?_
      simp only [pickL, List.filterMap_cons, List.filterMap_nil, List.getElem?_cons_succ, List.getElem?_cons_zero]
      show wpQuiet _ _ _ _ (_ :: _) _
      refine wpQuiet_loadV (o := ⟨some 74, _, _, _, _, _⟩) rfl _ rfl rfl (fun w' hw' => by obtain ⟨r, rfl⟩ := hw'; exact load_pt r.holds) ?_
      simp only [Act.put, List.setIfInBounds_toArray, List.set_cons_zero, List.set_cons_succ]
      repeat (show wpQuiet _ _ _ _ (_ :: _) _; go_big_quiet_step (fail))
      refine wpQuiet_nil ?_
      generalize wr.drew = wd at *
      refine ⟨?_, ?_⟩
      case' refine_1 =>
        show wpList _ _ _ [_] _ _
        go_wp2_with fail
        refine Calls.mono (HBR.out _ (.slice (some ⟨gn, 0, none⟩) 4 4) ((SD.out.below FD.out.2.2.2.2)) ((SS.out.below FD.out.2.2.2.2)) ((ST.out.below FD.out.2.2.2.2)) ⟨_, _, _, rfl, HN.out.symm, hcb, ((RB.out.below FD.out.2.2.2.2 (Nat.le_refl _)).mono FD.out.2.2.2.2.size)⟩ ⟨_, _, _, rfl, HNL.out.symm, by decide, FD.out.2.2.2.1.rd⟩) ?_
        rintro e w6 ⟨E1, m1, d1, E2, m2, d2, E3, m3, d3, rfl, s1, s2, s3, b6⟩
        have FR1 : Hid (Fr gk (.slice E1 m1 d1) ∧ Fr gk (.slice E2 m2 d2) ∧ Fr gk (.slice E3 m3 d3)) := Lib.hid ⟨s1.2.mono (by have := FD.out.2.2.2.2.size; omega), s2.2.mono (by have := FD.out.2.2.2.2.size; omega), s3.2.mono (by have := FD.out.2.2.2.2.size; omega)⟩
        have F6 := Lib.hid (FD.out.all b6)
        have hz6 := b6.size
        have DA := Lib.hid ((Below.refl w6.heap.size w6).alloc (Nat.le_refl _) (.cells #[.int .u8 0, .slice none 0 0, .slice none 0 0, .slice none 0 0, .bool false, .int .u64 0, .int .i64 0] 30))
        have HB8 := Lib.hid (Blk.new w6 30 #[.int .u8 0, .slice none 0 0, .slice none 0 0, .slice none 0 0, .bool false, .int .u64 0, .int .i64 0])
        have F8 := Lib.hid (F6.out.all DA.out)
        go_wp2_with fail
        refine MixQ.class F6.out.1.h ?_
        refine mixT_one ?_
        simp only [pickL, List.filterMap_cons, List.filterMap_nil, List.getElem?_cons_succ, List.getElem?_cons_zero]
        repeat (show wpQuiet _ _ _ _ (_ :: _) _; go_big_quiet_step (fail))
        refine wpQuiet_nil ?_
        show wpList _ _ _ [_] _ _
        go_wp2_with fail
        refine MixQ.class F8.out.1.h ?_
        refine mixT_one ?_
        simp only [pickL, List.filterMap_cons, List.filterMap_nil, List.getElem?_cons_succ, List.getElem?_cons_zero]
        refine wpQuiet_nil ?_
        show wpList _ _ _ [_] _ _
        obtain ⟨w9, hs9, hz9, hg9⟩ := blk_storeAll (P := Try.prog) (ty := 30) (vs := [.int .u8 sp, .slice E1 m1 d1, .slice E2 m2 d2, .slice E3 m3 d3, .bool ph, .int .u64 pn0, .int .i64 pbn]) HB8.out rfl (by intro v hv; simp only [List.mem_cons, List.not_mem_nil, or_false] at hv; rcases hv with rfl | rfl | rfl | rfl | rfl | rfl | rfl <;> rfl) sizeHead
        have S9 := Lib.hid hs9
        have Z9 := Lib.hid hz9
        have G9 := Lib.hid hg9
        clear hs9 hz9 hg9
        have hg12 : gn < w6.heap.size := F6.out.2.2.2.1.lt
        have hm12 : gm < w6.heap.size := F6.out.2.2.1.lt
        have BG := Lib.hid (DA.out.trans (below_of_only G9.out (Nat.le_refl _) (by simp)))
        have T1 := Lib.hid (SlN.of1 (lo := gn + 1) s1 BG.out rfl FD.out.2.2.2.1.lt)
        have T2 := Lib.hid (SlN.of1 (lo := gn + 1) s2 BG.out rfl FD.out.2.2.2.1.lt)
        have T3 := Lib.hid (SlN.of1 (lo := gn + 1) s3 BG.out rfl FD.out.2.2.2.1.lt)
        have F9 := Lib.hid (F6.out.all BG.out)
        obtain ⟨g12, hg12'⟩ : ∃ g12, w6.heap.size = g12 := ⟨_, rfl⟩
        rw [hg12'] at hg12 hm12 Z9 S9 T1 T2 T3 ⊢
        clear s1 s2 s3 b6 F6 F8 HB8 DA BG G9
      case' refine_2 =>
        show wpList _ _ _ [_] _ _
        have DA := Lib.hid ((Below.refl wd.heap.size wd).alloc (Nat.le_refl _) (.cells #[.int .u8 0, .slice none 0 0, .slice none 0 0, .slice none 0 0, .bool false, .int .u64 0, .int .i64 0] 30))
        have HB7 := Lib.hid (Blk.new wd 30 #[.int .u8 0, .slice none 0 0, .slice none 0 0, .slice none 0 0, .bool false, .int .u64 0, .int .i64 0])
        have F7 := Lib.hid (FD.out.all DA.out)
        have hg12 : gn < wd.heap.size := FD.out.2.2.2.1.lt
        have hm12 : gm < wd.heap.size := FD.out.2.2.1.lt
        go_wp2_with fail
        refine MixQ.class F7.out.1.h ?_
        refine mixT_one ?_
        simp only [pickL, List.filterMap_cons, List.filterMap_nil, List.getElem?_cons_succ, List.getElem?_cons_zero]
        refine wpQuiet_nil ?_
        show wpList _ _ _ [_] _ _
        go_wp2_with fail
        refine Calls.mono (HBR.out _ (.slice (some ⟨gn, 0, none⟩) 4 4) ((SD.out.below F7.out.2.2.2.2)) ((SS.out.below F7.out.2.2.2.2)) ((ST.out.below F7.out.2.2.2.2)) ⟨_, _, _, rfl, HN.out.symm, hcb, ((RB.out.below F7.out.2.2.2.2 (Nat.le_refl _)).mono F7.out.2.2.2.2.size)⟩ ⟨_, _, _, rfl, HNL.out.symm, by decide, F7.out.2.2.2.1.rd⟩) ?_
        rintro e w6 ⟨E1, m1, d1, E2, m2, d2, E3, m3, d3, rfl, s1, s2, s3, b6⟩
        have FR1 : Hid (Fr gk (.slice E1 m1 d1) ∧ Fr gk (.slice E2 m2 d2) ∧ Fr gk (.slice E3 m3 d3)) := Lib.hid ⟨s1.2.mono (by have := F7.out.2.2.2.2.size; omega), s2.2.mono (by have := F7.out.2.2.2.2.size; omega), s3.2.mono (by have := F7.out.2.2.2.2.size; omega)⟩
        have F8 := Lib.hid (F7.out.all b6)
        have HB8 := Lib.hid (HB7.out.below b6 HB7.out.lt)
        have hzz : (wd.alloc (.cells #[.int .u8 0, .slice none 0 0, .slice none 0 0, .slice none 0 0, .bool false, .int .u64 0, .int .i64 0] 30)).heap.size = wd.heap.size + 1 := by simp
        go_wp2_with fail
        refine MixQ.class F8.out.1.h ?_
        refine mixT_one ?_
        simp only [pickL, List.filterMap_cons, List.filterMap_nil, List.getElem?_cons_succ, List.getElem?_cons_zero]
        repeat (show wpQuiet _ _ _ _ (_ :: _) _; go_big_quiet_step (fail))
        refine wpQuiet_nil ?_
        show wpList _ _ _ [_] _ _
        obtain ⟨w9, hs9, hz9, hg9⟩ := blk_storeAll (P := Try.prog) (ty := 30) (vs := [.int .u8 sp, .slice E1 m1 d1, .slice E2 m2 d2, .slice E3 m3 d3, .bool ph, .int .u64 pn0, .int .i64 pbn]) HB8.out rfl (by intro v hv; simp only [List.mem_cons, List.not_mem_nil, or_false] at hv; rcases hv with rfl | rfl | rfl | rfl | rfl | rfl | rfl <;> rfl) sizeHead
        have S9 := Lib.hid hs9
        have Z9 := Lib.hid hz9
        have G9 := Lib.hid hg9
        clear hs9 hz9 hg9
        have T1 := Lib.hid (SlN.of2 (lo := gn + 1) s1 G9.out (by omega) (by omega))
        have T2 := Lib.hid (SlN.of2 (lo := gn + 1) s2 G9.out (by omega) (by omega))
        have T3 := Lib.hid (SlN.of2 (lo := gn + 1) s3 G9.out (by omega) (by omega))
        have hz6 := b6.size
        have F9 := Lib.hid (F8.out.at_ (N := wd.heap.size) (below_of_only G9.out (Nat.le_refl _) (by omega)) (by omega) hm12 hg12 (by omega))
        obtain ⟨g12, hg12'⟩ : ∃ g12, wd.heap.size = g12 := ⟨_, rfl⟩
        rw [hg12'] at hg12 hm12 Z9 S9 T1 T2 T3 ⊢
        clear s1 s2 s3 b6 F7 F8 HB8 HB7 DA G9
      all_goals
        go_wp2_with ((with_reducible (show wpList _ _ _ (⟨none, .store 30 _ _, _, _, _, _⟩ :: _) _ _)); refine wpList_storeV (o := ⟨none, .store 30 _ _, _, _, _, _⟩) rfl _ _ rfl rfl rfl (S9.out) ?_)
        refine MixQ.class F9.out.1.h ?_
        refine mixT_fin ?_
        simp only [pickL, List.filterMap_cons, List.filterMap_nil, List.getElem?_cons_succ, List.getElem?_cons_zero]
        repeat (show wpQuiet _ _ _ _ (_ :: _) _; go_big_quiet_step (fail))
        refine wpQuiet_nil ?_
        refine NoPanic.normal ?_
        have Z9' : Hid (Blk w9 g12 30 #[.int .u8 sp, .slice E1 m1 d1, .slice E2 m2 d2, .slice E3 m3 d3, .bool ph, .int .u64 pn0, .int .i64 pbn]) := Lib.hid Z9.out
        have hz9 := Z9.out.lt
        obtain ⟨e0, e1, e2, e3, e4, e5, e6⟩ := hv_facts Z9'.out
        clear Z9 S9 FD BD hne2 HF6
        go_wp2_with fail
        refine Calls.mono (HEX.out _) ?_
        rintro e w10 ⟨rfl, hb10⟩
        have F10 := Lib.hid (F9.out.all hb10)
        have Z10 := Lib.hid (Z9'.out.below hb10 hz9)
        have hz10 := hb10.size
        have BS : Hid (Below g12 w10 (w10.setCell ⟨g12, 5, none⟩ (.int .u64 E))) := Lib.hid ((Below.refl g12 w10).setCell (p := ⟨g12, 5, none⟩) (Nat.le_refl _) _)
        have GS : Hid (w10.grownBy (w10.setCell ⟨g12, 5, none⟩ (.int .u64 E)) (some g12)) := Lib.hid (only_setCell (World.grownBy.refl _ _) (.inl rfl) _)
        have F11 := Lib.hid (F10.out.at_ BS.out (by omega) hm12 hg12 (by omega))
        have Z11 : Hid (Blk (w10.setCell ⟨g12, 5, none⟩ (.int .u64 E)) g12 30 #[.int .u8 sp, .slice E1 m1 d1, .slice E2 m2 d2, .slice E3 m3 d3, .bool ph, .int .u64 E, .int .i64 pbn]) := Lib.hid (Blk.cast (Z10.out.set_ 5 (.int .u64 E)) (by simp))
        clear e0 e1 e2 e3 e4 e5 e6
        obtain ⟨e0, e1, e2, e3, e4, e5, e6⟩ := hv_facts Z10.out
        obtain ⟨d0', d1', d2', d3', d4', d5', d6'⟩ := hv_facts Z11.out
        have f5 := Z10.out.frozen 5
        obtain ⟨a0, a4, a5⟩ := pt_cells F11.out.1.h
        obtain ⟨b0, b4, b5⟩ := pt_cells (F11.out.1.h.alloc (.cells #[.int .u8 x] 5))
        have hsz11 : (w10.setCell ⟨g12, 5, none⟩ (.int .u64 E)).heap.size = w10.heap.size := by simp [World.setCell]
        obtain ⟨A6, c6, s1, s2, s3, s4, s5⟩ := slice_lhM elB8 ((RB.out.below F11.out.2.2.2.2 (Nat.le_refl _)).alloc F11.out.2.2.2.2.size (.cells #[.int .u8 x] 5)) HN.out hcb 1 ((at_ : Int) + (pbn : Int)) (at_ + pbn - 1) (by omega) (by omega) (by omega) (by omega)
        rw [show (1 : Int).toNat = 1 from rfl] at s3 s4
        have S3 := Lib.hid s3
        have S4 := Lib.hid s4
        clear s3 s4
        go_wp2_with (at_builtin; go_loud (refine wpList_app (o := ⟨some 102, _, _, _, _, _⟩) elB8 rfl _ _ rfl rfl rfl (Own.litAt (B := w10.heap.size) (xs := [x]) (g := w10.heap.size) hsz11 rfl rfl (Nat.le_refl _) (by simp [maxLen])) S3.out S4.out.symm ?_ ?_ ?_; (rw [S4.out]; simp; omega); (simp [World.setCell]); intro A15 n15 c15 w15 q15; have O15 := Lib.hid q15.1; have B15 := Lib.hid (((Below.refl w10.heap.size (w10.setCell ⟨g12, 5, none⟩ (.int .u64 E))).alloc (by rw [hsz11]; exact Nat.le_refl _) _).trans q15.2.2.1); clear q15))
        have T1 := Lib.hid ((T1.out.below hb10).set 5 (.int .u64 E))
        have T2 := Lib.hid ((T2.out.below hb10).set 5 (.int .u64 E))
        have T3 := Lib.hid ((T3.out.below hb10).set 5 (.int .u64 E))
        have F15 := Lib.hid (F11.out.at_ B15.out (by omega) (by omega) (by omega) (by omega))
        have Z15 := Lib.hid (Z11.out.below B15.out (by omega))
        have hxl : Hid (([x] ++ (Lb.drop 1).take (at_ + pbn - 1)).length = at_ + pbn) := Lib.hid (by rw [List.length_append, S4.out]; simp; omega)
        obtain ⟨gh, rfl, hgh, hgh'⟩ := O15.out.addr (by rw [O15.out.len, hxl.out]; omega)
        obtain rfl : n15 = at_ + pbn := by rw [O15.out.len, hxl.out]
        have hc15 := O15.out.cap.1
        clear a0 a4 a5 b0 b4 b5 e0 e1 e2 e3 e4 e5 e6 d0' d1' d2' d3' d4' d5' d6' f5 F10 F11 Z10 Z11 BS GS s5 S3 hb10
        have a4 : ∀ r : BW w15.heap.size w15, r.world.cell? ⟨gk + 1, 4, none⟩ = some (.int .i64 at_) := fun r => (pt_cells (F15.out.1.all r.below).h).2.1
        have e6 : ∀ r : BW w15.heap.size w15, r.world.cell? ⟨g12, 6, none⟩ = some (.int .i64 pbn) := fun r => (hv_facts (Z15.out.below r.below Z15.out.lt)).2.2.2.2.2.2
        have sl6 := fun (w' : World) (kl : IntKind) => slice_atE elB8 gh at_ pbn c15 (by omega) w' kl
        have hpc4 : (pbn : Int) ≤ 4 := by omega
        refine wp_region_mixOB w15.heap.size [([0, 1, 2, 3, 4, 5, 6], 7)] (by kernel_rfl) (by kernel_rfl) (by kernel_rfl) (by kernel_rfl) (by kernel_rfl) ?_
        try (rw [put_none])
        simp only [pickL, List.map_cons, List.map_nil, List.filterMap_cons, List.filterMap_nil, List.getElem?_cons_succ, List.getElem?_cons_zero]
        refine mixO_cons ?_
        repeat (show wpQuiet _ _ _ _ (_ :: _) _; go_big_quiet_step (fail))
        refine wpQuiet_nil ?_
        show wpList _ _ _ [_] _ _
        have O15d := Lib.hid (O15.out.drew)
        have HSRC : Hid (Rd w15.heap.size .u8 w15.drew (some ⟨gn, 0, none⟩) (Ln.take pbn)) := Lib.hid (rd_take F15.out.2.2.2.1.rd pbn)
        have HLT : Hid ((Ln.take pbn).length = pbn) := Lib.hid (by rw [List.length_take, HNL.out]; omega)
        go_wp2_with ((with_reducible (show wpList _ _ _ (⟨some 110, _, _, _, _, _⟩ :: _) _ _)); go_loud (refine wpList_copyOwn (o := ⟨some 110, _, _, _, _, _⟩) (off := at_) (m := pbn) (dc := c15 - at_) (sc := 4) rfl _ _ rfl Try.underlying28 sizeE1 O15d.out HSRC.out HLT.out rfl rfl ?_; intro w16 o16 g16; have O16 := Lib.hid o16; have G16 := Lib.hid g16; clear o16 g16))
        refine MixO.last ?_
        refine mixO_nil ?_
        refine wpQuiet_nil ?_
        refine NoPanic.normal ?_
        have B16a := Lib.hid ((Below.refl w10.heap.size w15).drew.trans (below_of_only G16.out hgh (by have := B15.out.size; rw [hsz11] at this; exact this)))
        have B16 := Lib.hid (B15.out.trans B16a.out)
        have F16 := Lib.hid (F15.out.at_ B16a.out (by omega) (by omega) (by omega) (by omega))
        have Z16 := Lib.hid (Z15.out.below B16a.out (by omega))
        have hz16 := Z16.out.lt
        obtain ⟨A7, c7, s1, s2, s3, s4, s5⟩ := slice_lN elB8 (RB.out.below F16.out.2.2.2.2 (Nat.le_refl _)) HN.out hcb ((at_ : Int) + (pbn : Int)) (n - (at_ + pbn)) (by omega) (by omega) (by omega)
        rw [show ((at_ : Int) + (pbn : Int)).toNat = at_ + pbn by omega] at s3 s4
        have S3 := Lib.hid s3
        have S4 := Lib.hid s4
        have HBX : Hid (∀ CA Cn Cc, Try.prog.built 42 [(0, .agg #[.int .u8 sp, .slice E1 m1 d1, .slice E2 m2 d2, .slice E3 m3 d3, .bool ph, .int .u64 E, .int .i64 pbn]), (1, .slice (some ⟨gh, 0, none⟩) (at_ + pbn) c15), (2, .slice CA Cn Cc)] = some #[.int .u8 sp, .slice E1 m1 d1, .slice E2 m2 d2, .slice E3 m3 d3, .bool ph, .int .u64 E, .int .i64 pbn, .slice (some ⟨gh, 0, none⟩) (at_ + pbn) c15, .slice CA Cn Cc]) := Lib.hid (fun CA Cn Cc => by kernel_rfl)
        clear s3 s4 O15 O15d F15 Z15 B15 a4 e6 sl6 HSRC
        have S16 : Hid (KP gk (gk + 1) S K I H p #[.int .u8 sp, vd, vs, vt, .int .i64 at_, .slice (some ad) n cb] w16 ∧ Blk w16 g12 30 #[.int .u8 sp, .slice E1 m1 d1, .slice E2 m2 d2, .slice E3 m3 d3, .bool ph, .int .u64 E, .int .i64 pbn]) := Lib.hid ⟨F16.out.1, Z16.out⟩
        have hne : Nonempty (CW (fun v : World => KP gk (gk + 1) S K I H p #[.int .u8 sp, vd, vs, vt, .int .i64 at_, .slice (some ad) n cb] v ∧ Blk v g12 30 #[.int .u8 sp, .slice E1 m1 d1, .slice E2 m2 d2, .slice E3 m3 d3, .bool ph, .int .u64 E, .int .i64 pbn])) := CW.inh S16.out
        have a5 : ∀ r : CW (fun v : World => KP gk (gk + 1) S K I H p #[.int .u8 sp, vd, vs, vt, .int .i64 at_, .slice (some ad) n cb] v ∧ Blk v g12 30 #[.int .u8 sp, .slice E1 m1 d1, .slice E2 m2 d2, .slice E3 m3 d3, .bool ph, .int .u64 E, .int .i64 pbn]), r.world.cell? ⟨gk + 1, 5, none⟩ = some (.slice (some ad) n cb) := fun r => (pt_cells r.holds.1.h).2.2
        go_wp2_with fail
        refine wp_region_mix_class (fun v : World => KP gk (gk + 1) S K I H p #[.int .u8 sp, vd, vs, vt, .int .i64 at_, .slice (some ad) n cb] v ∧ Blk v g12 30 #[.int .u8 sp, .slice E1 m1 d1, .slice E2 m2 d2, .slice E3 m3 d3, .bool ph, .int .u64 E, .int .i64 pbn]) [([0, 1, 2, 3, 4, 5], 6), ([7], 8)] [9] (by kernel_rfl) (by kernel_rfl) (by kernel_rfl) (by kernel_rfl) ⟨S16.out.1.all (Below.refl _ _).drew, Blk.drew S16.out.2⟩ ?_
        simp only [pickL, List.map_cons, List.map_nil, List.filterMap_cons, List.filterMap_nil, List.getElem?_cons_succ, List.getElem?_cons_zero]
        refine mixS_cons ?_
        show wpQuiet _ _ _ _ (_ :: _) _
        refine wpQuiet_loadV (o := ⟨some 111, _, _, _, _, _⟩) rfl _ rfl rfl (fun w' hw' => by obtain ⟨r, rfl⟩ := hw'; exact blk_load r.holds.2 head_fine rfl sizeHead) ?_
        simp only [Act.put, List.setIfInBounds_toArray, List.set_cons_zero, List.set_cons_succ]
        repeat (show wpQuiet _ _ _ _ (_ :: _) _; go_big_quiet_step (fail))
        refine wpQuiet_nil ?_
        show wpList _ _ _ [_] _ _
        go_wp2_with (at_builtin; go_loud (refine wpList_app (o := ⟨some 117, _, _, _, _, _⟩) elB8 rfl _ _ rfl rfl rfl (Own.nil w16.heap.size _ _ _) S3.out S4.out.symm ?_ ?_ ?_; (rw [S4.out]; simp; omega); (exact Nat.le_refl _); intro A17 n17 c17 w17 q17; have O17 := Lib.hid q17.1; have B17 := Lib.hid ((Below.refl w16.heap.size w16).drew.trans q17.2.2.1); clear q17))
        have F17 := Lib.hid (F16.out.all B17.out)
        have Z17 := Lib.hid (Z16.out.below B17.out Z16.out.lt)
        refine MixQ.class ⟨F17.out.1, Z17.out⟩ ?_
        refine mixS_cons ?_
        show wpQuiet _ _ _ _ (_ :: _) _
        refine wpQuiet_buildV (o := ⟨some 118, _, _, _, _, _⟩) rfl _ rfl (HBX.out _ _ _) ?_
        simp only [Act.put, List.setIfInBounds_toArray, List.set_cons_zero, List.set_cons_succ]
        refine wpQuiet_nil ?_
        show wpList _ _ _ [_] _ _
        obtain ⟨w18, t1, t2, t3⟩ := blk_storeAll (vs := [.int .u8 sp, .slice E1 m1 d1, .slice E2 m2 d2, .slice E3 m3 d3, .bool ph, .int .u64 E, .int .i64 pbn, .slice (some ⟨gh, 0, none⟩) (at_ + pbn) c15, .slice A17 n17 c17]) F17.out.2.1 rfl (by
          intro v hv
          simp only [List.mem_cons, List.not_mem_nil, or_false] at hv
          rcases hv with rfl | rfl | rfl | rfl | rfl | rfl | rfl | rfl | rfl <;> rfl) size9
        have ST18 := Lib.hid t1
        have Z18 := Lib.hid t2
        have G18 := Lib.hid t3
        clear t1 t2 t3
        go_wp2_with ((with_reducible (show wpList _ _ _ (⟨none, .store 42 _ _, _, _, _, _⟩ :: _) _ _)); refine wpList_storeV (o := ⟨none, .store 42 _ _, _, _, _, _⟩) rfl _ _ rfl rfl rfl (ST18.out) ?_)
        have hz17 := F17.out.2.1.lt
        have B18 := Lib.hid (below_of_only (B := gk + 1 + 1) G18.out (Nat.le_refl _) (by omega))
        refine MixQ.class ⟨F17.out.1.to B18.out (by omega) (by omega), Z17.out.grown G18.out (by intro q; injection q; omega)⟩ ?_
        refine mixS_nil ?_
        repeat (show wpQuiet _ _ _ _ (_ :: _) _; go_big_quiet_step (fail))
        refine wpQuiet_nil ?_
        refine NoPanic.normal ?_
        have hz16' := B16.out.size
        rw [hsz11] at hz16'
        have TB : Hid (Below (w10.setCell ⟨g12, 5, none⟩ (.int .u64 E)).heap.size (w10.setCell ⟨g12, 5, none⟩ (.int .u64 E)) w17) := Lib.hid (by rw [hsz11]; exact B16.out.trans (B17.out.mono hz16'))
        have O16' := (O16.out.below B17.out).kept G18.out (fun ad hA => by injection hA with hA; subst hA; show some gh ≠ some (gk + 1 + 1); intro q; injection q; omega)
        have O17' := O17.out.kept G18.out (fun ad hA => by have := (O17.out.block ad hA).1; intro q; injection q; omega)
        have FIN := Lib.hid (HPOST.out w18 E1 m1 d1 E2 m2 d2 E3 m3 d3 _ _ _ _ _ _ _ _ ⟨(T1.out.below TB.out).grow G18.out (by omega), FR1.out.1.mono (by omega)⟩ ⟨(T2.out.below TB.out).grow G18.out (by omega), FR1.out.2.1.mono (by omega)⟩ ⟨(T3.out.below TB.out).grow G18.out (by omega), FR1.out.2.2.mono (by omega)⟩ (SlF.own O16' (by omega)) (SlF.own O17' (by omega)))
        have WF := Lib.hid (F17.out.2.2.2.2.trans (B18.out.mono (by omega)))
        clear O16' O17'
        go_wp2_with fail
        exact bodyPost_ret (results_bare rfl rfl Z18.out) rfl ⟨_, rfl, FIN.out, WF.out⟩
end Go.Proofs.Ythpacdondnenmaa
namespace Go.Proofs.Ythpacdondnenmaa
open Go.RowKit
/-- the boxed arguments -/
structure KB (gk gb : Nat) (S K I H : List Int) (p : Int) (bv : Array Value) (v : World) : Prop where
  k : KyB v gk S K I H p
  h : Blk v gb 42 bv
theorem KB.to {gk gb N : Nat} {S K I H : List Int} {p : Int} {bv : Array Value} {v v' : World} (h : KB gk gb S K I H p bv v) (hb : Below N v v') (h1 : gk < N) (h2 : gb < N) : KB gk gb S K I H p bv v' := ⟨Blk.below h.k hb h1, Blk.below h.h hb h2⟩
theorem KB.all {gk gb : Nat} {S K I H : List Int} {p : Int} {bv : Array Value} {v v' : World} (h : KB gk gb S K I H p bv v) (hb : Below v.heap.size v v') : KB gk gb S K I H p bv v' := h.to hb (Blk.lt h.k) (Blk.lt h.h)
theorem br_cells {w : World} {g : Nat} {c0 c1 c2 c3 c4 c5 c6 c7 c8 : Value} (h : Blk w g 42 #[c0, c1, c2, c3, c4, c5, c6, c7, c8]) : w.cell? ⟨g, 5, none⟩ = some c5 ∧ w.cell? ⟨g, 7, none⟩ = some c7 ∧ w.cell? ⟨g, 8, none⟩ = some c8 := ⟨Blk.cell h 5, Blk.cell h 7, Blk.cell h 8⟩
attribute [local irreducible] gopenL
set_option maxRecDepth 100000 in
set_option maxHeartbeats 4000000 in
theorem kopen_yes (S K I H : List Int) (p : Int) (v : Value) (h : HD) (hdr box T : List Int) (N m : Nat) (w : World) (hk : KyOk S K I H) (hN : h.pn = (N : Int)) (hN2 : N < 18446744073709551616) (hv : BarV w v h hdr box) (hb1 : Byt hdr) (hb2 : Byt box) (hl1 : hdr.length ≤ 5000) (hm : box.length = m + 16) (hl2 : m ≤ 5000)
    (hg : gopenL K (nonL I N) hdr box = some T) :
    Calls Try.prog 16 #[kyV S K I H p, v] w (RetOwn2 5 .u8 T (.int .i64 0) w) := by
  obtain ⟨v1, v2, v3, v4, v5, rfl, s1, s2, s3, ⟨A4, n4, c4, rfl, e4, l4, r4⟩, ⟨A5, n5, c5, rfl, e5, l5, r5⟩⟩ := hv
  obtain rfl : n5 = m + 16 := by omega
  rw [hN]
  unfold kyV
  have HK := Lib.hid hk
  have HKK : Hid (Blk16 K) := Lib.hid ⟨hk.k, hk.bk⟩
  have HI : Hid (I.length = 12) := Lib.hid hk.i
  have R4 := Lib.hid r4
  have R5 := Lib.hid r5
  have HG := Lib.hid hg
  have HOP := Lib.hid (fun (w' : World) (a1 : Rd w'.heap.size .u8 w' A4 hdr) (a2 : Rd w'.heap.size .u8 w' A5 box) => gopen_long n4 c4 m c5 A4 A5 K (nonL I N) hdr box w' HKK.out (nonL_len HI.out N) (nonL_byt I N) e4.symm hm l5 hb1 hb2 (by omega) hl2 a1 a2)
  have K0 : Hid (KB w.heap.size (w.heap.size + 1) S K I H p #[.int .u8 h.space, v1, v2, v3, .bool h.phase, .int .u64 N, .int .i64 h.pb, .slice A4 n4 c4, .slice A5 (m + 16) c5] ((w.alloc (.cells (kyL S K I H p).toArray 27)).alloc (.cells #[.int .u8 h.space, v1, v2, v3, .bool h.phase, .int .u64 N, .int .i64 h.pb, .slice A4 n4 c4, .slice A5 (m + 16) c5] 42))) := Lib.hid ⟨(Blk.new w 27 (kyL S K I H p).toArray).alloc _, blk_new_at (by simp)⟩
  have B0 : Hid (Below w.heap.size w ((w.alloc (.cells (kyL S K I H p).toArray 27)).alloc (.cells #[.int .u8 h.space, v1, v2, v3, .bool h.phase, .int .u64 N, .int .i64 h.pb, .slice A4 n4 c4, .slice A5 (m + 16) c5] 42))) := Lib.hid (((Below.refl _ _).alloc (Nat.le_refl _) _).alloc (by simp) _)
  clear hk r4 r5 hg hm hb1 hb2 e4 e5 s1 s2 s3 hN l4 l5 hl1
  go_enter Try.func16, Try.ntmps16
  go_wp2_with fail
  obtain ⟨gk, hgk⟩ : ∃ gk, w.heap.size = gk := ⟨_, rfl⟩
  generalize ((w.alloc (.cells (kyL S K I H p).toArray 27)).alloc (.cells #[.int .u8 h.space, v1, v2, v3, .bool h.phase, .int .u64 N, .int .i64 h.pb, .slice A4 n4 c4, .slice A5 (m + 16) c5] 42)) = w1 at *
  rw [hgk] at K0 ⊢
  have hz0 := B0.out.size
  have q5 : ∀ r : CW (fun v : World => KB gk (gk + 1) S K I H p #[.int .u8 h.space, v1, v2, v3, .bool h.phase, .int .u64 N, .int .i64 h.pb, .slice A4 n4 c4, .slice A5 (m + 16) c5] v), r.world.cell? ⟨gk + 1, 5, none⟩ = some (.int .u64 N) := fun r => (br_cells r.holds.h).1
  have q7 : ∀ r : CW (fun v : World => KB gk (gk + 1) S K I H p #[.int .u8 h.space, v1, v2, v3, .bool h.phase, .int .u64 N, .int .i64 h.pb, .slice A4 n4 c4, .slice A5 (m + 16) c5] v), r.world.cell? ⟨gk + 1, 7, none⟩ = some (.slice A4 n4 c4) := fun r => (br_cells r.holds.h).2.1
  have q8 : ∀ r : CW (fun v : World => KB gk (gk + 1) S K I H p #[.int .u8 h.space, v1, v2, v3, .bool h.phase, .int .u64 N, .int .i64 h.pb, .slice A4 n4 c4, .slice A5 (m + 16) c5] v), r.world.cell? ⟨gk + 1, 8, none⟩ = some (.slice A5 (m + 16) c5) := fun r => (br_cells r.holds.h).2.2
  have hne : Nonempty (CW (fun v : World => KB gk (gk + 1) S K I H p #[.int .u8 h.space, v1, v2, v3, .bool h.phase, .int .u64 N, .int .i64 h.pb, .slice A4 n4 c4, .slice A5 (m + 16) c5] v)) := CW.inh K0.out
  refine wp_region_mix_class (fun v : World => KB gk (gk + 1) S K I H p #[.int .u8 h.space, v1, v2, v3, .bool h.phase, .int .u64 N, .int .i64 h.pb, .slice A4 n4 c4, .slice A5 (m + 16) c5] v) [([0, 1, 2, 3, 4, 5, 7, 8, 9, 10], 6), ([], 11)] [12, 13, 14, 15, 16] (by kernel_rfl) (by kernel_rfl) (by kernel_rfl) (by kernel_rfl) (K0.out.all (Below.refl _ _).drew) ?_
  simp only [pickL, List.map_cons, List.map_nil, List.filterMap_cons, List.filterMap_nil, List.getElem?_cons_succ, List.getElem?_cons_zero]
  refine mixS_cons ?_
  show wpQuiet _ _ _ _ (_ :: _) _
  go_big_quiet_step (fail)
  show wpQuiet _ _ _ _ (_ :: _) _
  refine wpQuiet_loadV (o := ⟨some 10, _, _, _, _, _⟩) rfl _ rfl rfl (fun w' hw' => by obtain ⟨r, rfl⟩ := hw'; exact ky_load1 HK.out r.holds.k) ?_
  simp only [Act.put, List.setIfInBounds_toArray, List.set_cons_zero, List.set_cons_succ]
  show wpQuiet _ _ _ _ (_ :: _) _
  refine wpQuiet_loadV (o := ⟨some 11, _, _, _, _, _⟩) rfl _ rfl rfl (fun w' hw' => by obtain ⟨r, rfl⟩ := hw'; exact ky_load HK.out r.holds.k) ?_
  simp only [Act.put, List.setIfInBounds_toArray, List.set_cons_zero, List.set_cons_succ]
  repeat (show wpQuiet _ _ _ _ (_ :: _) _; go_big_quiet_step (fail))
  refine wpQuiet_nil ?_
  show wpList _ _ _ [_] _ _
  have D1 := (Below.refl w1.heap.size w1).drew
  go_wp2_with fail
  refine Calls.mono (nonce_any S K I H p N _ HK.out hN2) ?_
  rintro e w4 ⟨rfl, hb4⟩
  have B4 := Lib.hid (D1.trans hb4)
  have K4 := Lib.hid (K0.out.all B4.out)
  have W4 := Lib.hid (B0.out.trans (B4.out.mono hz0))
  have hz4 := W4.out.size
  clear hb4 D1
  go_wp2_with fail
  refine MixQ.class K4.out ?_
  refine mixS_cons ?_
  refine wpQuiet_nil ?_
  show wpList _ _ _ [_] _ _
  go_wp2_with fail
  have HO := HOP.out w4 ((R4.out.below W4.out (Nat.le_refl _)).mono hz4) ((R5.out.below W4.out (Nat.le_refl _)).mono hz4)
  rw [HG.out] at HO
  refine Calls.mono HO ?_
  clear HO
  rintro e w5 ⟨A9, n9, c9, rfl, o9, b9⟩
  have O9 := Lib.hid (o9.mono hz4)
  have W5 := Lib.hid (W4.out.trans (b9.mono hz4))
  have K5 := Lib.hid (K4.out.all b9)
  clear o9 b9
  go_wp2_with fail
  refine MixQ.class K5.out ?_
  refine mixS_nil ?_
  repeat (show wpQuiet _ _ _ _ (_ :: _) _; go_big_quiet_step (fail))
  refine wpQuiet_nil ?_
  refine NoPanic.normal ?_
  have FIN : Hid (RetOwn2 5 .u8 T (.int .i64 0) w (.returned (.tuple #[.slice A9 n9 c9, .int .i64 0])) w5) := Lib.hid ⟨A9, n9, c9, rfl, O9.out, W5.out⟩
  clear q5 q7 q8 hne
  go_wp2_with fail
  go_ret2
  exact FIN.out
end Go.Proofs.Ythpacdondnenmaa
namespace Go.Proofs.Ythpacdondnenmaa
open Go.RowKit
theorem beL_getD : ∀ (k : Nat) (n : Int) (i : Nat), i < k → (beL n k).getD i 0 = n / 256 ^ (k - 1 - i) % 256
  | 0, _, _, h => absurd h (by omega)
  | k + 1, n, 0, _ => by rw [beL, List.getD_cons_zero]; rfl
  | k + 1, n, i + 1, h => by rw [beL, List.getD_cons_succ, beL_getD k n i (by omega), show k + 1 - 1 - (i + 1) = k - 1 - i by omega]
theorem beL_byk (N k : Nat) : beL (N : Int) k = byk k N := by
  refine ext_getD (by rw [beL_len, byk_len]) fun i hi => ?_
  rw [beL_len] at hi
  rw [beL_getD k _ i hi, byk_getD k N i hi, Int.natCast_emod, Int.natCast_ediv, Int.natCast_pow]
  rfl
theorem put_pn (h : HD) (n : Int) : ∃ q, ∀ pn', HD.put { h with pn := pn' } n = q ++ beL pn' h.pb.toNat := by
  unfold HD.put HD.rest HD.first
  by_cases hs : h.space = 2
  · exact ⟨((if h.phase = true then 68 else 64) + (h.pb - 1)) :: h.dst, fun pn' => by simp only [if_pos hs]; rfl⟩
  · exact ⟨((if h.space = 1 then 224 else 192) + (h.pb - 1)) :: ([0, 0, 0, 1, (h.dst.length : Int)] ++ h.dst ++ [(h.src.length : Int)] ++ h.src ++ (if h.space = 0 then vput h.tok.length ++ h.tok else []) ++ vput (h.pb + n)), fun pn' => by simp only [if_neg hs]; rfl⟩
theorem protL_getD (B m : List Int) (at_ : Nat) (c : Int) (ha : 1 ≤ at_) : ∀ j, at_ + j ≤ B.length → ∀ i, (protL B m at_ c j).getD i 0 = if i = 0 then xb (B.getD 0 0) (ab (m.getD 0 0) c) else if at_ ≤ i ∧ i < at_ + j then xb (B.getD i 0) (m.getD (1 + (i - at_)) 0) else B.getD i 0
  | 0, hl, i => by
    rw [protL_zero]
    by_cases h0 : i = 0
    · subst h0
      rw [if_pos rfl, (set_getD _ _ _).2 (by omega)]
    · rw [if_neg h0, if_neg (by omega), (set_getD _ _ _).1 i h0]
  | j + 1, hl, i => by
    rw [protL_succ, protL_getD B m at_ c ha j (by omega) (at_ + j), if_neg (by omega), if_neg (by omega)]
    by_cases hi : i = at_ + j
    · subst hi
      rw [(set_getD _ _ _).2 (by rw [protL_len]; omega), if_neg (by omega), if_pos (by omega), Nat.add_sub_cancel_left]
    · rw [(set_getD _ _ _).1 i hi, protL_getD B m at_ c ha j (by omega) i]
      by_cases h0 : i = 0
      · rw [if_pos h0, if_pos h0]
      · rw [if_neg h0, if_neg h0]
        by_cases h1 : at_ ≤ i ∧ i < at_ + j
        · rw [if_pos h1, if_pos (by omega)]
        · rw [if_neg h1, if_neg (by omega)]
theorem prot_drop (B m : List Int) (at_ : Nat) (c : Int) (ha : 1 ≤ at_) (j : Nat) (hl : at_ + j ≤ B.length) {d : Nat} (hd : at_ + j ≤ d) : (protL B m at_ c j).drop d = B.drop d := by
  refine ext_getD (by rw [List.length_drop, List.length_drop, protL_len]) fun i hi => ?_
  rw [List.getD_eq_getElem?_getD, List.getD_eq_getElem?_getD, List.getElem?_drop, List.getElem?_drop, ← List.getD_eq_getElem?_getD, ← List.getD_eq_getElem?_getD, protL_getD B m at_ c ha j hl, if_neg (by omega), if_neg (by omega)]
theorem bits_same (sp : Int) : bitsI sp = bitsV sp := rfl
section
variable {h : HD} {E M : List Int} {n at_ : Nat}
theorem pkt_facts (hf : h.Fit) (hm : h.May) (hE : E.length = n) (hn : n ≤ 65536) (h20 : 20 ≤ h.pb + n) (htok : h.tok.length ≤ 4611686018427387903) (hat : (at_ : Int) = (h.put n).length - h.pb) (_hM : M.length = 16) (hMb : Byt M) (hEb : Byt E)
    {P : List Int} (hP : P = protL (h.put n ++ E) M at_ (bitsI h.space) h.pb.toNat) :
    splitL P h.dst.length = some ⟨h.space, h.dst, h.src, h.tok, at_, P.length⟩ ∧ P.getD 0 0 = h.masked (M.getD 0 0) ∧ (∀ i, i < h.pb.toNat → P.getD (at_ + i) 0 = xb ((beL h.pn h.pb.toNat).getD i 0) (M.getD (1 + i) 0)) ∧
      P.drop (at_ + h.pb.toNat) = E ∧ (∀ i, 1 ≤ i → i < at_ → P.getD i 0 = (h.put n).getD i 0) ∧ Byt P ∧ P.length = at_ + h.pb.toNat + n ∧ 1 ≤ at_ := by
  have hm' := hm
  obtain ⟨m1, m2, m3, m4, m5, m6, m7, m8, m9⟩ := hm
  obtain ⟨k, hk⟩ : ∃ k : Nat, h.pb = (k : Int) := ⟨h.pb.toNat, by omega⟩
  obtain ⟨q, hq⟩ := put_pn h n
  have hkt : h.pb.toNat = k := by omega
  have hX : h.put n = q ++ beL h.pn k := by have := hq h.pn; rw [hkt] at this; exact this
  have hlen := (put_lens hm' n).1
  rw [hk, Int.toNat_natCast] at hlen
  have hql : q.length = at_ := by rw [hX, List.length_append, beL_len, hk] at hat; omega
  have ha : 1 ≤ at_ := by rw [hX, List.length_append, beL_len] at hlen; omega
  rw [hk, Int.toNat_natCast] at hP ⊢
  have hXl : (h.put n).length = at_ + k := by rw [hX, List.length_append, beL_len, hql]
  have hBl : (h.put n ++ E).length = at_ + k + n := by rw [List.length_append, hXl, hE]
  have hPl : P.length = at_ + k + n := by rw [hP, protL_len, hBl]
  have hXb := put_byt hf hm' n (by omega) (by omega) htok
  have hg := protL_getD (h.put n ++ E) M at_ (bitsI h.space) ha k (by rw [hBl]; omega)
  have h0 : (h.put n ++ E).getD 0 0 = h.first := by unfold HD.put; rfl
  have hP0 : P.getD 0 0 = h.masked (M.getD 0 0) := by rw [hP, hg 0, if_pos rfl, h0]; rfl
  have hmid : ∀ i, i < k → (h.put n ++ E).getD (at_ + i) 0 = (beL h.pn k).getD i 0 := fun i hi => by
    rw [append_getD, if_pos (by rw [hXl]; omega), hX, append_getD, if_neg (by rw [hql]; omega), hql, Nat.add_sub_cancel_left]
  have hPn : ∀ i, i < k → P.getD (at_ + i) 0 = xb ((beL h.pn k).getD i 0) (M.getD (1 + i) 0) := fun i hi => by
    rw [hP, hg, if_neg (by omega), if_pos (by omega), hmid i hi, Nat.add_sub_cancel_left]
  have hPE : P.drop (at_ + k) = E := by
    rw [hP, prot_drop _ _ _ _ ha k (by rw [hBl]; omega) (Nat.le_refl _), ← hXl, List.drop_left]
  have hPr : ∀ i, 1 ≤ i → i < at_ → P.getD i 0 = (h.put n).getD i 0 := fun i h1 h2 => by
    rw [hP, hg, if_neg (by omega), if_neg (by omega), append_getD, if_pos (by rw [hXl]; omega)]
  have hPb : Byt P := by rw [hP]; exact protL_byt (hXb.append hEb) _ _ _
  refine ⟨?_, hP0, hPn, hPE, hPr, hPb, hPl, ha⟩
  -- the head whose number's bytes are the masked ones
  have hZl : ((P.drop at_).take k).length = k := by rw [List.length_take, List.length_drop, hPl]; omega
  have hZb : Byt ((P.drop at_).take k) := (hPb.drop _).take _
  have hNlt := beN_lt k _ hZl hZb
  have h256 : (256 : Nat) ^ k ≤ 4294967296 := by
    have : (256 : Nat) ^ k ≤ 256 ^ 4 := Nat.pow_le_pow_right (by decide) (by omega)
    exact this
  obtain ⟨h', hh'⟩ : ∃ h' : HD, h' = { h with pn := (beN ((P.drop at_).take k) : Int) } := ⟨_, rfl⟩
  have hf' : h'.Fit := by
    obtain ⟨f1, f2, f3, f4, f5, f6, f7⟩ := hf
    subst hh'
    exact ⟨f1, f2, f3, f4, f5, by simp only; omega, by simp only; omega⟩
  have hm2 : h'.May := by
    subst hh'
    exact ⟨m1, m2, m3, m4, m5, by simp only; omega, m7, m8, m9⟩
  have hput' : h'.put n = q ++ (P.drop at_).take k := by
    have := hq (beN ((P.drop at_).take k) : Int)
    rw [hkt, beL_byk, byk_beN k _ hZl hZb] at this
    rw [hh']; exact this
  have hl' : (h'.put n).length = at_ + k := by rw [hput', List.length_append, hZl, hql]
  have hfirst : h'.masked (M.getD 0 0) = h.masked (M.getD 0 0) := by rw [hh']; rfl
  have h0m := hMb.getD 0
  have hPB : P = ((h'.put E.length ++ E) ++ (if h'.space = 2 then [] else [])).set 0 (h'.masked (M.getD 0 0)) := by
    rw [ite_self, List.append_nil, hE]
    refine ext_getD (by rw [List.length_set, List.length_append, hl', hPl, hE]) fun i hi => ?_
    rw [hPl] at hi
    by_cases hi0 : i = 0
    · subst hi0
      rw [(set_getD _ _ _).2 (by rw [List.length_append, hl']; omega), hP0, hfirst]
    · rw [(set_getD _ _ _).1 i hi0]
      rcases Nat.lt_or_ge i at_ with h1 | h1
      · rw [hPr i (by omega) h1, append_getD, if_pos (by rw [hl']; omega), hput', hX, append_getD, if_pos (by rw [hql]; exact h1), append_getD, if_pos (by rw [hql]; exact h1)]
      · rcases Nat.lt_or_ge i (at_ + k) with h2 | h2
        · rw [append_getD, if_pos (by rw [hl']; exact h2), hput', append_getD, if_neg (by rw [hql]; omega), hql, getD_take (by omega), List.getD_eq_getElem?_getD (l := List.drop at_ P), List.getElem?_drop, ← List.getD_eq_getElem?_getD, show at_ + (i - at_) = i by omega]
        · rw [append_getD, if_neg (by rw [hl']; omega), hl', ← hPE, List.getD_eq_getElem?_getD (l := List.drop (at_ + k) P), List.getElem?_drop, ← List.getD_eq_getElem?_getD, show at_ + k + (i - (at_ + k)) = i by omega]
  have hpb' : h'.pb = h.pb := by rw [hh']
  have hs := put_back (h := h') hf' hm2 h0m.1 h0m.2 E [] (by rw [hpb', hE]; exact h20) (by rw [hE]; exact hn) (by rw [hh']; exact htok) at_ (by rw [hE, hl', hpb', hk]; omega)
  rw [← hPB, hE, hl'] at hs
  rw [hPl, show h.space = h'.space by rw [hh'], show h.dst = h'.dst by rw [hh'], show h.src = h'.src by rw [hh'], show h.tok = h'.tok by rw [hh']]
  exact hs
end
end Go.Proofs.Ythpacdondnenmaa
namespace Go.Proofs.Ythpacdondnenmaa
open Go.RowKit
theorem ab_u (a b : Int) : B8 (ab a b) := by have h1 := bits_lo_u8 .and a b; have h2 := bits_hi_u8 .and a b; unfold B8 ab; omega
structure PktOf (K I H : List Int) (h : HD) (plain P : List Int) (at_ : Nat) : Prop where
  split : splitL P h.dst.length = some ⟨h.space, h.dst, h.src, h.tok, at_, P.length⟩
  byt : Byt P
  len : P.length = at_ + h.pb.toNat + (plain.length + 16)
  at1 : 1 ≤ at_
  most : at_ + h.pb.toNat ≤ h.tok.length + 150
  fst : fstL H P at_ h.space = h.first
  num : (numL H P at_).take h.pb.toNat = beL h.pn h.pb.toNat
  hdr : ovi (h.first :: (P.drop 1).take (at_ + h.pb.toNat - 1)) at_ (beL h.pn h.pb.toNat) = h.put (plain.length + 16)
  box : P.drop (at_ + h.pb.toNat) = gsealL K (nonL I h.pn.toNat) (h.put (plain.length + 16)) plain
  h2 : bits .andNot .u8 (bits .xor .u8 h.first (P.getD 0 0)) (bitsV h.space) = 0
  h3 : bits .and .u8 h.first (if h.space = 2 then 24 else 12) = 0
theorem pkt_of {S K I H : List Int} (hk : KyOk S K I H) {h : HD} (hf : h.Fit) (hm : h.May) {plain : List Int} (_hpl : Byt plain) (h4 : 4 ≤ h.pb + plain.length) (hl : plain.length ≤ 300) (htok : h.tok.length ≤ 300) :
    PktOf K I H h plain (pktL K I H h plain) (atN h plain) := by
  have hm' := hm
  obtain ⟨m1, m2, m3, m4, m5, m6, m7, m8, m9⟩ := hm
  have hK : Blk16 K := ⟨hk.k, hk.bk⟩
  have hN := nonL_len hk.i h.pn.toNat
  have hNb := nonL_byt I h.pn.toNat
  have hE : (gsealL K (nonL I h.pn.toNat) (h.put (plain.length + 16)) plain).length = plain.length + 16 := gsealL_len hK hN hNb
  have hEb := gsealL_byt K (nonL I h.pn.toNat) (h.put (plain.length + 16)) plain
  have hXb := put_byt hf hm' (plain.length + 16) (by omega) (by omega) (by omega)
  have hlens := put_lens hm' (plain.length + 16)
  have hat : (atN h plain : Int) = (h.put ((plain.length + 16 : Nat) : Int)).length - h.pb := by
    unfold atN
    rw [Int.natCast_add] at *
    have := hlens.1
    simp only [Int.cast_ofNat_Int] at *
    omega
  have hat1 : atN h plain + h.pb.toNat = (h.put (plain.length + 16)).length := by unfold atN; have := hlens.1; omega
  obtain ⟨P, hP⟩ : ∃ P, pktL K I H h plain = P := ⟨_, rfl⟩
  obtain ⟨at_, ha⟩ : ∃ a, atN h plain = a := ⟨_, rfl⟩
  have hBl : (boxL_ K I h plain).length = at_ + h.pb.toNat + (plain.length + 16) := by unfold boxL_; rw [List.length_append, hE, ← ha, hat1]
  have hBb : Byt (boxL_ K I h plain) := by unfold boxL_; exact hXb.append hEb
  obtain ⟨M, hM⟩ : ∃ M, maskL H (boxL_ K I h plain) at_ = M := ⟨_, rfl⟩
  have hMo : Blk16 M := by rw [← hM]; exact maskL_ok ⟨hk.h, hk.bh⟩ hBb (by rw [hBl]; omega)
  have hP' : P = protL (h.put ((plain.length + 16 : Nat) : Int) ++ gsealL K (nonL I h.pn.toNat) (h.put (plain.length + 16)) plain) M at_ (bitsI h.space) h.pb.toNat := by
    rw [← hP, ← hM, ← ha]; rfl
  obtain ⟨f1, f2, f3, f4, f5, f6, f7, f8⟩ := pkt_facts (E := gsealL K (nonL I h.pn.toNat) (h.put (plain.length + 16)) plain) (M := M) (n := plain.length + 16) (at_ := at_) hf hm' hE (by omega) (by omega) (by omega) (by rw [← ha]; exact hat) hMo.1 hMo.2 hEb hP'
  have hMP : maskL H P at_ = M := by
    rw [← hM]
    unfold maskL smpL
    rw [← hP]
    unfold pktL
    rw [ha, prot_drop _ _ _ _ f8 h.pb.toNat (by rw [hBl]; omega) (by omega)]
  have hfr := first_rng hm'
  have hf8 : B8 h.first := ⟨hfr.1, hfr.2.1⟩
  have hfst : fstL H P at_ h.space = h.first := by
    unfold fstL
    rw [hMP, f2]
    show xb (xb h.first (ab (M.getD 0 0) (bitsV h.space))) (ab (M.getD 0 0) (bitsI h.space)) = h.first
    rw [bits_same]
    exact xb_cancel hf8 (ab_u _ _)
  have hM0 := hMo.2.getD 0
  have hmr := masked_rng hm' hM0.1 hM0.2
  have hX : h.put (plain.length + 16) = (h.put (plain.length + 16)).take at_ ++ beL h.pn h.pb.toNat := by
    have := put_number hm' (plain.length + 16) at_ (by rw [← ha]; exact hat)
    rw [← this.1, List.take_append_drop]
  refine ⟨by rw [hP, ha]; exact f1, by rw [hP]; exact f6, by rw [hP, ha]; exact f7, by rw [ha]; exact f8, by rw [hat1]; exact hlens.2, by rw [hP, ha]; exact hfst, ?_, ?_, by rw [hP, ha]; exact f4, by rw [hP, f2]; exact hmr.2.2.1, hmr.2.2.2⟩
  · rw [hP, ha]
    refine ext_getD (by rw [List.length_take, numL_len, beL_len]; omega) fun i hi => ?_
    rw [List.length_take, numL_len] at hi
    rw [getD_take (by omega), numL_getD H P at_ (by omega), hMP, f3 i (by omega)]
    exact xb_cancel ((beL_byt h.pn h.pb.toNat).getD i) (hMo.2.getD _)
  · rw [hP, ha]
    have hl1 : (h.first :: (P.drop 1).take (at_ + h.pb.toNat - 1)).length = at_ + h.pb.toNat := by
      rw [List.length_cons, List.length_take, List.length_drop, f7]; omega
    unfold ovi
    have hd1 : (h.first :: (P.drop 1).take (at_ + h.pb.toNat - 1)).drop (at_ + h.pb.toNat) = [] := List.drop_eq_nil_of_le (by rw [hl1]; omega)
    rw [beL_len, hd1, List.append_nil]
    conv => rhs; rw [hX]
    congr 1
    refine ext_getD (by rw [List.length_take, hl1, List.length_take, ← hat1, ha]) fun i hi => ?_
    rw [List.length_take, hl1] at hi
    rw [getD_take (by omega), getD_take (by omega)]
    cases i with
    | zero => rfl
    | succ i =>
      rw [List.getD_cons_succ, getD_take (by omega), List.getD_eq_getElem?_getD, List.getElem?_drop, ← List.getD_eq_getElem?_getD, Nat.add_comm 1 i, f5 (i + 1) (by omega) (by omega)]
      rfl
end Go.Proofs.Ythpacdondnenmaa
namespace Go.Proofs.Ythpacdondnenmaa
open Go.RowKit
/-- the number that is expanded -/
def expE (h : HD) (next : Int) : Int := Pn.expandS next (h.pn % 256 ^ h.pb.toNat) (256 ^ h.pb.toNat)
/-- the head, with that number -/
def HD.at_ (h : HD) (e : Int) : HD := { h with pn := e }
theorem pows {pb : Int} (h1 : 1 ≤ pb) (h4 : pb ≤ 4) : (pb = 1 ∧ (256 : Int) ^ pb.toNat = 256) ∨ (pb = 2 ∧ (256 : Int) ^ pb.toNat = 65536) ∨ (pb = 3 ∧ (256 : Int) ^ pb.toNat = 16777216) ∨ (pb = 4 ∧ (256 : Int) ^ pb.toNat = 4294967296) := by
  rcases (by omega : pb = 1 ∨ pb = 2 ∨ pb = 3 ∨ pb = 4) with rfl | rfl | rfl | rfl
  · exact .inl ⟨rfl, rfl⟩
  · exact .inr (.inl ⟨rfl, rfl⟩)
  · exact .inr (.inr (.inl ⟨rfl, rfl⟩))
  · exact .inr (.inr (.inr ⟨rfl, rfl⟩))
theorem expand_pkt {h : HD} (_hf : h.Fit) (hm : h.May) {next : Int} (n0 : 0 ≤ next) (n1 : next < 18446744073709551616) (w : World) :
    Calls Try.prog 14 #[.int .u64 next, .int .u64 (h.pn % 256 ^ h.pb.toNat), .int .i64 h.pb] w fun e w' => e = .returned (.int .u64 (expE h next)) ∧ Below w.heap.size w w' := by
  have hp := pows hm.2.2.2.1 hm.2.2.2.2.1
  have hW : 0 < (256 : Int) ^ h.pb.toNat ∧ (256 : Int) ^ h.pb.toNat ≤ 4294967296 := by rcases hp with ⟨_, e⟩ | ⟨_, e⟩ | ⟨_, e⟩ | ⟨_, e⟩ <;> rw [e] <;> omega
  have m0 := Int.emod_nonneg h.pn (show (256 : Int) ^ h.pb.toNat ≠ 0 by omega)
  have m1 := Int.emod_lt_of_pos h.pn hW.1
  unfold expE
  generalize (256 : Int) ^ h.pb.toNat = W at *
  exact Pn.expand_in next (h.pn % W) h.pb W w n0 n1 m0 (by omega) hp
theorem trunc_pkt {h : HD} (hf : h.Fit) (hm : h.May) (w : World) :
    Calls Try.prog 15 #[.int .u64 h.pn, .int .i64 h.pb] w fun e w' => e = .returned (.int .u64 (h.pn % 256 ^ h.pb.toNat)) ∧ w = w' :=
  Pn.trunc_in h.pn h.pb w hf.2.2.2.2.2.1 hf.2.2.2.2.2.2 hm.2.2.2.1 hm.2.2.2.2.1
theorem bareH_at {h : HD} (hm : h.May) (Ln : List Int) (e : Int) : { bareH h.space h.dst h.src h.tok Ln h.first with pn := e } = h.at_ e := by
  obtain ⟨f0, f1, f2, f3⟩ := first_rng hm
  unfold bareH HD.at_
  rw [f2, f3]
theorem unmask_pkt (S K I H S' K' I' : List Int) (p' : Int) (h : HD) (plain : List Int) (n cb : Nat) (vd vs vt : Value) (Ab : Option Addr) (next : Int) (w : World) (hk : KyOk S K I H) (hk' : KyOk S' K' I' H) (hf : h.Fit) (hm : h.May) (hpl : Byt plain) (h4 : 4 ≤ h.pb + plain.length) (hl : plain.length ≤ 300) (htok : h.tok.length ≤ 300) (n0 : 0 ≤ next) (n1 : next < 18446744073709551616)
    (hn : (pktL K I H h plain).length = n) (hcb : n ≤ cb) (sd : Sl w vd h.dst) (ss : Sl w vs h.src) (st : Sl w vt h.tok) (rb : Rd w.heap.size .u8 w Ab (pktL K I H h plain)) :
    Calls Try.prog 11 #[kyV S' K' I' H p', .agg #[.int .u8 h.space, vd, vs, vt, .int .i64 (atN h plain : Nat), .slice Ab n cb], .int .u64 next] w
      (UnmPost (h.at_ (expE h next)) (h.put (plain.length + 16)) (gsealL K (nonL I h.pn.toNat) (h.put (plain.length + 16)) plain) w) := by
  have pk := pkt_of hk hf hm hpl h4 hl htok
  have hpb : 1 ≤ h.pb ∧ h.pb ≤ 4 := ⟨hm.2.2.2.1, hm.2.2.2.2.1⟩
  have hlen := pk.len
  have hmost := pk.most
  have hd := hm.2.1
  have hs := hm.2.2.1
  have hnum : ofF 0 (beL h.pn h.pb.toNat) = h.pn % 256 ^ h.pb.toNat := by rw [ofF_beL _ _ hf.2.2.2.2.2.1]; simp
  have U := unmask_yes S' K' I' H p' h.space (atN h plain) h.pb.toNat n cb vd vs vt Ab h.dst h.src h.tok (pktL K I H h plain) next (expE h next) w hk' sd ss st hn hcb rb pk.byt pk.at1 (by omega) (by omega) ⟨by omega, by omega, by omega⟩
    (by rw [pk.fst]; exact pk.h2) (by rw [pk.fst]; exact pk.h3) (by rw [pk.fst, (first_rng hm).2.2.1]; omega)
    (fun w => by rw [pk.num, hnum, show ((h.pb.toNat : Nat) : Int) = h.pb by omega]; exact expand_pkt hf hm n0 n1 w)
  rw [pk.fst, pk.num, pk.hdr, pk.box, bareH_at hm] at U
  exact U
theorem open_pkt (S K I H : List Int) (p : Int) (h : HD) (plain : List Int) (v : Value) (ev : Int) (w : World) (hk : KyOk S K I H) (hf : h.Fit) (hm : h.May) (hpl : Byt plain) (hl : plain.length ≤ 300) (htok : h.tok.length ≤ 300) (he : ev = h.pn)
    (hv : BarV w v (h.at_ ev) (h.put (plain.length + 16)) (gsealL K (nonL I h.pn.toNat) (h.put (plain.length + 16)) plain)) :
    Calls Try.prog 16 #[kyV S K I H p, v] w (RetOwn2 5 .u8 plain (.int .i64 0) w) := by
  have hK : Blk16 K := ⟨hk.k, hk.bk⟩
  have hN := nonL_len hk.i h.pn.toNat
  have hNb := nonL_byt I h.pn.toNat
  have hpn : h.pn = (h.pn.toNat : Int) := by have := hf.2.2.2.2.2.1; omega
  have hpm := hm.2.2.2.2.2.1
  have hpb : 1 ≤ h.pb ∧ h.pb ≤ 4 := ⟨hm.2.2.2.1, hm.2.2.2.2.1⟩
  have hlens := put_lens hm (plain.length + 16)
  exact kopen_yes S K I H p v (h.at_ ev) _ _ plain h.pn.toNat plain.length w hk (he.trans hpn) (by omega) hv (put_byt hf hm _ (by omega) (by omega) (by omega)) (gsealL_byt _ _ _ _) (by omega) (gsealL_len hK hN hNb) (by omega) (gback hK hN hNb hpl)
theorem split_pkt (S K I H : List Int) (h : HD) (plain : List Int) (A : Option Addr) (n c : Nat) (w : World) (hk : KyOk S K I H) (hf : h.Fit) (hm : h.May) (hpl : Byt plain) (h4 : 4 ≤ h.pb + plain.length) (hl : plain.length ≤ 300) (htok : h.tok.length ≤ 300)
    (hn : (pktL K I H h plain).length = n) (hc : n ≤ c) (rb : Rd w.heap.size .u8 w A (pktL K I H h plain)) :
    Calls Try.prog 10 #[.slice A n c, .int .i64 (h.dst.length : Nat)] w fun e w' => ∃ vd vs vt A2 c2 A3 c3, e = .returned (.tuple #[.agg #[.int .u8 h.space, vd, vs, vt, .int .i64 (atN h plain : Nat), .slice A2 n c2], .slice A3 0 c3, .int .i64 0]) ∧
      Sl w' vd h.dst ∧ Sl w' vs h.src ∧ Sl w' vt h.tok ∧ n ≤ c2 ∧ Rd w'.heap.size .u8 w' A2 (pktL K I H h plain) ∧ Below w.heap.size w w' := by
  have pk := pkt_of hk hf hm hpl h4 hl htok
  have hlen := pk.len
  have hmost := pk.most
  have hpb : 1 ≤ h.pb ∧ h.pb ≤ 4 := ⟨hm.2.2.2.1, hm.2.2.2.2.1⟩
  have hd := hm.2.1
  subst hn
  refine Calls.mono (split_any A c (pktL K I H h plain) h.dst.length w rb pk.byt hc (by omega) (by omega) (by omega)) ?_
  rintro e w' ⟨hy, _⟩
  obtain ⟨vd, vs, vt, vb, vr, rfl, sd, ss, st, ⟨A2, n2, c2, rfl, e2, l2, r2⟩, ⟨A3, n3, c3, rfl, e3, l3, r3⟩, hb⟩ := hy _ pk.split
  rw [List.take_of_length_le (Nat.le_refl _)] at e2 r2
  rw [List.drop_eq_nil_of_le (Nat.le_refl _)] at e3
  subst e2
  obtain rfl : n3 = 0 := e3
  exact ⟨vd, vs, vt, A2, c2, A3, c3, rfl, sd, ss, st, l2, r2, hb⟩
end Go.Proofs.Ythpacdondnenmaa
namespace Go.Proofs.Ythpacdondnenmaa
open Go.RowKit
theorem hv_all {w : World} {g : Nat} {h : HD} {A1 A2 A3 : Option Addr} {c1 c2 c3 dl tl : Nat} {pb pn : Int} (b : Blk w g 30 (HV h A1 c1 A2 c2 A3 c3)) (hd : h.dst.length = dl) (ht : h.tok.length = tl) (hp : h.pb = pb) (hn : h.pn = pn) :
    w.cell? ⟨g, 1, none⟩ = some (.slice A1 dl c1) ∧ w.cell? ⟨g, 3, none⟩ = some (.slice A3 tl c3) ∧ w.cell? ⟨g, 5, none⟩ = some (.int .u64 pn) ∧ w.cell? ⟨g, 6, none⟩ = some (.int .i64 pb) :=
  ⟨by rw [Blk.cell b, ← hd]; unfold HV; rfl, by rw [Blk.cell b, ← ht]; unfold HV; rfl, by rw [Blk.cell b, ← hn]; unfold HV; rfl, by rw [Blk.cell b, ← hp]; unfold HV; rfl⟩
theorem hv_size (h : HD) (A1 A2 A3 : Option Addr) (c1 c2 c3 : Nat) : (HV h A1 c1 A2 c2 A3 c3).size = 7 := by unfold HV; rfl
theorem hv_one (h : HD) (A1 A2 A3 : Option Addr) (c1 c2 c3 : Nat) : ∀ v ∈ (HV h A1 c1 A2 c2 A3 c3).toList, v.oneCell' = true := by
  unfold HV
  intro v hv
  simp only [List.mem_cons, List.not_mem_nil, or_false] at hv
  rcases hv with rfl | rfl | rfl | rfl | rfl | rfl | rfl <;> rfl
theorem hv_set (h : HD) (A1 A2 A3 : Option Addr) (c1 c2 c3 : Nat) (e : Int) : (HV h A1 c1 A2 c2 A3 c3).setIfInBounds 5 (.int .u64 e) = HV (h.at_ e) A1 c1 A2 c2 A3 c3 := by unfold HV HD.at_; rfl
theorem pt_facts {w : World} {g : Nat} {c0 c1 c2 c3 c4 c5 : Value} (h : Blk w g 38 #[c0, c1, c2, c3, c4, c5]) : w.cell? ⟨g, 5, none⟩ = some c5 := Blk.cell h 5
theorem one6 {c0 c1 c2 c3 c4 c5 : Value} (h0 : c0.oneCell' = true) (h1 : c1.oneCell' = true) (h2 : c2.oneCell' = true) (h3 : c3.oneCell' = true) (h4 : c4.oneCell' = true) (h5 : c5.oneCell' = true) : ∀ v ∈ [c0, c1, c2, c3, c4, c5], v.oneCell' = true := by
  intro v hv
  simp only [List.mem_cons, List.not_mem_nil, or_false] at hv
  rcases hv with rfl | rfl | rfl | rfl | rfl | rfl <;> assumption
theorem Sl.one {w : World} {v : Value} {L : List Int} (h : Sl w v L) : v.oneCell' = true := by obtain ⟨A, n, c, rfl⟩ := h.form; rfl
theorem size6P : (Try.prog.info? 38).map (·.size) = some 6 := by kernel_rfl
theorem wpList_storeBlk {P : Program} {ops : Array Oper} {rest : List Oper} {o : Oper} {a : Act} {w : World} {Q : Exit → Act → World → Prop} {ty t : TypeId} {g : Nat} {vs : List Value} {old : Array Value} (hgd : o.guard = none) (x y : Operand) (ho : o.op = .store ty x y) (hx : a.eval x = .pointer (some ⟨g, 0, none⟩)) (hy : a.eval y = .agg vs.toArray)
    (h : Blk w g t old) (hl : vs.length = old.size) (h1 : ∀ v ∈ vs, v.oneCell' = true) (hi : (P.info? ty).map (·.size) = some vs.length) (hK : ∀ w', Blk w' g t vs.toArray → w.grownBy w' (some g) → wpList P ops Q rest (a.put o.dst undef) w') : wpList P ops Q (o :: rest) a w := by
  obtain ⟨w', h2, h3, h4⟩ := blk_storeAll (P := P) (ty := ty) h hl h1 hi
  exact wpList_storeV hgd x y ho hx hy h2 (hK w' h3 h4)
theorem bare_head {w : World} {g : Nat} {c0 c1 c2 c3 c4 c5 c6 c7 c8 : Value} (h : Blk w g 42 #[c0, c1, c2, c3, c4, c5, c6, c7, c8]) : (Instr.loadAt 30 (.pointer (some ⟨g, 0, none⟩))).run Try.prog w = .ok (.agg #[c0, c1, c2, c3, c4, c5, c6]) w :=
  blk_loadMid (A := []) (B := [c0, c1, c2, c3, c4, c5, c6]) (C := [c7, c8]) h rfl head_fine rfl sizeHead
theorem hv_hd {w : World} {h : HD} {A1 A2 A3 : Option Addr} {c1 c2 c3 : Nat} (r1 : Rd w.heap.size .u8 w A1 h.dst) (r2 : Rd w.heap.size .u8 w A2 h.src) (r3 : Rd w.heap.size .u8 w A3 h.tok) (k1 : h.dst.length ≤ c1) (k2 : h.src.length ≤ c2) (k3 : h.tok.length ≤ c3) : HdV w (.agg (HV h A1 c1 A2 c2 A3 c3)) h :=
  ⟨_, _, _, by unfold HV; rfl, ⟨_, _, _, rfl, rfl, k1, r1⟩, ⟨_, _, _, rfl, rfl, k2, r2⟩, ⟨_, _, _, rfl, rfl, k3, r3⟩⟩
theorem one9 {c0 c4 c5 c6 : Value} {w1 w2 w3 : World} {a1 a2 a3 a7 a8 : Value} {L1 L2 L3 : List Int} (h0 : c0.oneCell' = true) (h4 : c4.oneCell' = true) (h5 : c5.oneCell' = true) (h6 : c6.oneCell' = true) (h7 : a7.oneCell' = true) (h8 : a8.oneCell' = true) (s1 : Sl w1 a1 L1) (s2 : Sl w2 a2 L2) (s3 : Sl w3 a3 L3) : ∀ v ∈ [c0, a1, a2, a3, c4, c5, c6, a7, a8], v.oneCell' = true := by
  intro v hv
  have o1 := s1.one
  have o2 := s2.one
  have o3 := s3.one
  simp only [List.mem_cons, List.not_mem_nil, or_false] at hv
  rcases hv with rfl | rfl | rfl | rfl | rfl | rfl | rfl | rfl | rfl <;> assumption
/-- the value of a bared packet, its slices laid open -/
def BarR (sp : Int) (ph : Bool) (ev pb : Int) (D S T X BX : List Int) (w : World) (e : Ending) (w' : World) : Prop :=
  ∃ a1 a2 a3 A4 m4 d4 A5 m5 d5, e = .returned (.tuple #[.agg #[.int .u8 sp, a1, a2, a3, .bool ph, .int .u64 ev, .int .i64 pb, .slice A4 m4 d4, .slice A5 m5 d5], .int .i64 0]) ∧ SlF w.heap.size w' a1 D ∧ SlF w.heap.size w' a2 S ∧ SlF w.heap.size w' a3 T ∧ SlF w.heap.size w' (.slice A4 m4 d4) X ∧ SlF w.heap.size w' (.slice A5 m5 d5) BX ∧ Below w.heap.size w w'
theorem barR_of {h : HD} {X BX : List Int} {w : World} {e : Ending} {w' : World} {sp ev pb : Int} {ph : Bool} (hu : UnmPost (h.at_ ev) X BX w e w') (h1 : h.space = sp) (h2 : h.phase = ph) (h3 : h.pb = pb) : BarR sp ph ev pb h.dst h.src h.tok X BX w e w' := by
  obtain ⟨v, rfl, ⟨v1, v2, v3, v4, v5, rfl, s1, s2, s3, s4, s5⟩, hb⟩ := hu
  obtain ⟨A4, m4, d4, rfl⟩ := s4.1.form
  obtain ⟨A5, m5, d5, rfl⟩ := s5.1.form
  subst h1; subst h2; subst h3
  exact ⟨v1, v2, v3, A4, m4, d4, A5, m5, d5, rfl, s1, s2, s3, s4, s5, hb⟩
theorem wpList_storeCs {P : Program} {ops : Array Oper} {rest : List Oper} {o : Oper} {a : Act} {w : World} {Q : Exit → Act → World → Prop} {ty t : TypeId} {g : Nat} {cs old : Array Value} (hgd : o.guard = none) (x y : Operand) (ho : o.op = .store ty x y) (hx : a.eval x = .pointer (some ⟨g, 0, none⟩)) (hy : a.eval y = .agg cs)
    (h : Blk w g t old) (hl : cs.size = old.size) (h1 : ∀ v ∈ cs.toList, v.oneCell' = true) (hi : (P.info? ty).map (·.size) = some cs.size) (hK : ∀ w', Blk w' g t cs → w.grownBy w' (some g) → wpList P ops Q rest (a.put o.dst undef) w') : wpList P ops Q (o :: rest) a w :=
  wpList_storeBlk (vs := cs.toList) hgd x y ho hx (by rw [hy]) h (by simpa using hl) h1 (by simpa using hi) (fun w' z g => hK w' (by simpa using z) g)
theorem br_78 {w : World} {g : Nat} {c0 c1 c2 c3 c4 c5 c6 c7 c8 : Value} (h : Blk w g 42 #[c0, c1, c2, c3, c4, c5, c6, c7, c8]) : w.cell? ⟨g, 7, none⟩ = some c7 ∧ w.cell? ⟨g, 8, none⟩ = some c8 := ⟨Blk.cell h 7, Blk.cell h 8⟩
theorem sl_conv {w : World} {A : Option Addr} {n c : Nat} {L : List Int} (h : Sl w (.slice A n c) L) : (convert 28 9 (.slice A n c)).run Try.prog w = .ok (.string (strOfNums L)) w := conv_sl h
/-- what the second baring's region reads -/
def SK (gk gp : Nat) (S K I H : List Int) (p : Int) (hv pv : Array Value) (v : World) : Prop := KH gk (gk + 1) S K I H p hv v ∧ Blk v gp 38 pv
theorem SK.all {gk gp : Nat} {S K I H : List Int} {p : Int} {hv pv : Array Value} {v v' : World} (h : SK gk gp S K I H p hv pv v) (hb : Below v.heap.size v v') : SK gk gp S K I H p hv pv v' := ⟨h.1.all hb, h.2.below hb h.2.lt⟩
theorem hd_of {h : HD} {w : World} {a1 a2 a3 : Value} {sp ev pb : Int} {ph : Bool} (h1 : h.space = sp) (h2 : h.phase = ph) (h3 : h.pb = pb) (s1 : Sl w a1 h.dst) (s2 : Sl w a2 h.src) (s3 : Sl w a3 h.tok) : HdV w (.agg #[.int .u8 sp, a1, a2, a3, .bool ph, .int .u64 ev, .int .i64 pb]) (h.at_ ev) := by
  subst h1; subst h2; subst h3
  exact ⟨a1, a2, a3, rfl, s1, s2, s3⟩
theorem bar_of {h : HD} {w : World} {a1 a2 a3 a4 a5 : Value} {X BX : List Int} {sp ev pb : Int} {ph : Bool} (h1 : h.space = sp) (h2 : h.phase = ph) (h3 : h.pb = pb) (s1 : Sl w a1 h.dst) (s2 : Sl w a2 h.src) (s3 : Sl w a3 h.tok) (s4 : Sl w a4 X) (s5 : Sl w a5 BX) : BarV w (.agg #[.int .u8 sp, a1, a2, a3, .bool ph, .int .u64 ev, .int .i64 pb, a4, a5]) (h.at_ ev) X BX := by
  subst h1; subst h2; subst h3
  exact ⟨a1, a2, a3, a4, a5, rfl, s1, s2, s3, s4, s5⟩
attribute [local irreducible] HV pktL gsealL
set_option maxRecDepth 100000 in
set_option maxHeartbeats 8000000 in
theorem keyback_walk (S K I H : List Int) (p : Int) (h : HD) (A1 : Option Addr) (c1 : Nat) (A2 : Option Addr) (c2 : Nat) (A3 : Option Addr) (c3 : Nat) (A4 : Option Addr) (n c4 : Nat) (plain : List Int) (next : Int) (w : World) (hk : KyOk S K I H) (hp0 : 0 ≤ p ∧ p < 18446744073709551616) (hf : h.Fit) (hn : plain.length = n) (hpl : Byt plain) (hn3 : n ≤ 140737488355328) (ht3 : h.tok.length ≤ 140737488355328)
    (k1 : h.dst.length ≤ c1) (k2 : h.src.length ≤ c2) (k3 : h.tok.length ≤ c3) (x0 : 0 ≤ next) (x1 : next < 18446744073709551616) (r1 : Rd w.heap.size .u8 w A1 h.dst) (r2 : Rd w.heap.size .u8 w A2 h.src) (r3 : Rd w.heap.size .u8 w A3 h.tok) (r4 : Rd w.heap.size .u8 w A4 plain) :
    Calls Try.prog 4 #[kyV S K I H p, .agg (HV h A1 c1 A2 c2 A3 c3), .slice A4 n c4, .int .u64 next] w fun e w' => e = .returned (.bool true) ∧ Below w.heap.size w w' := by
  unfold kyV
  have HK := Lib.hid hk
  have HP0 := Lib.hid hp0
  have HF := Lib.hid hf
  have HPL := Lib.hid hpl
  have HN := Lib.hid hn
  have X0 := Lib.hid x0
  have X1 := Lib.hid x1
  have K1 := Lib.hid k1
  have K2' := Lib.hid k2
  have K3' := Lib.hid k3
  have R1 := Lib.hid r1
  have R2 := Lib.hid r2
  have R3 := Lib.hid r3
  have R4 := Lib.hid r4
  obtain ⟨dl, hdl⟩ : ∃ l, h.dst.length = l := ⟨_, rfl⟩
  obtain ⟨tl, htl⟩ : ∃ l, h.tok.length = l := ⟨_, rfl⟩
  obtain ⟨pb, hpb⟩ : ∃ l, h.pb = l := ⟨_, rfl⟩
  obtain ⟨pn, hpn⟩ : ∃ l, h.pn = l := ⟨_, rfl⟩
  have HDL := Lib.hid hdl
  have HTL := Lib.hid htl
  have HPB := Lib.hid hpb
  have HPN := Lib.hid hpn
  have HC := Lib.hid (fun (w' : World) (g : Nat) (b : Blk w' g 30 (HV h A1 c1 A2 c2 A3 c3)) => hv_all b hdl htl hpb hpn)
  have HMY := Lib.hid (fun w => may_any h A1 c1 A2 c2 A3 c3 w hf)
  rw [htl] at ht3
  have B0 : Hid (Below w.heap.size w ((w.alloc (.cells (kyL S K I H p).toArray 27)).alloc (.cells (HV h A1 c1 A2 c2 A3 c3) 30))) := Lib.hid (((Below.refl _ _).alloc (Nat.le_refl _) _).alloc (by simp) _)
  have K0 : Hid (KH w.heap.size (w.heap.size + 1) S K I H p (HV h A1 c1 A2 c2 A3 c3) ((w.alloc (.cells (kyL S K I H p).toArray 27)).alloc (.cells (HV h A1 c1 A2 c2 A3 c3) 30))) := Lib.hid ⟨(Blk.new w 27 (kyL S K I H p).toArray).alloc _, blk_new_at (by simp)⟩
  clear hk hp0 hf hn hpl r1 r2 r3 r4 hdl htl hpb hpn k1 k2 k3 x0 x1
  go_enter Try.func4, Try.ntmps4
  go_wp2_with fail
  refine Calls.mono (known10_any _) ?_
  rintro e w2 ⟨rfl, hb2⟩
  have K2 := Lib.hid (K0.out.all hb2)
  have B2 := Lib.hid (B0.out.trans (hb2.mono B0.out.size))
  have hz2 := B2.out.size
  clear hb2 K0 B0
  obtain ⟨gk, hgk⟩ : ∃ gk, w.heap.size = gk := ⟨_, rfl⟩
  have HGK := Lib.hid hgk
  rw [hgk] at K2 ⊢
  clear hgk
  obtain ⟨q1, q3, q5, q6⟩ := HC.out _ _ K2.out.h
  by_cases g1 : 300 < n
  · go_wp2_with fail
    go_ret
    exact ⟨rfl, B2.out⟩
  by_cases g2 : 300 < tl
  · go_wp2_with fail
    go_ret
    exact ⟨rfl, B2.out⟩
  have g1' : decide ((300 : Int) < (n : Int)) = false := decide_eq_false (by omega)
  have g2' : decide ((300 : Int) < (tl : Int)) = false := decide_eq_false (by omega)
  have L31 := Lib.hid (hv_load K2.out.h)
  by_cases hm : ¬ h.May
  · go_wp2_with ((with_reducible (show wpList _ _ _ (⟨some 31, .load _ _, _, _, _, _⟩ :: _) _ _)); refine wpList_unguard rfl ?_; refine wpList_loadV (o := ⟨some 31, .load _ _, _, _, _, _⟩) rfl _ rfl rfl L31.out ?_)
    refine Calls.mono (HMY.out _) ?_
    rintro e w3 ⟨rfl, hb3⟩
    rw [decide_eq_false hm]
    have B3 := Lib.hid (B2.out.trans (hb3.mono hz2))
    clear hb3
    go_wp2_with fail
    go_ret
    exact ⟨rfl, B3.out⟩
  have hm := Classical.not_not.1 hm
  have HM := Lib.hid hm
  have hp1 : 1 ≤ pb := by rw [← HPB.out]; exact hm.2.2.2.1
  have hp4 : pb ≤ 4 := by rw [← HPB.out]; exact hm.2.2.2.2.1
  by_cases g4 : pb + n < 4
  · go_wp2_with ((with_reducible (show wpList _ _ _ (⟨some 31, .load _ _, _, _, _, _⟩ :: _) _ _)); refine wpList_unguard rfl ?_; refine wpList_loadV (o := ⟨some 31, .load _ _, _, _, _, _⟩) rfl _ rfl rfl L31.out ?_)
    refine Calls.mono (HMY.out _) ?_
    rintro e w3 ⟨rfl, hb3⟩
    rw [decide_eq_true hm]
    have B3 := Lib.hid (B2.out.trans (hb3.mono hz2))
    have K3 := Lib.hid (K2.out.all hb3)
    clear hb3 q1 q3 q5 q6 hm
    obtain ⟨q1, q3, q5, q6⟩ := HC.out _ _ K3.out.h
    go_wp2_with fail
    go_ret
    exact ⟨rfl, B3.out⟩
  -- the facts of the packet
  have HPK := Lib.hid (pkt_of HK.out HF.out hm HPL.out (by rw [HPB.out, HN.out]; omega) (by rw [HN.out]; omega) (by rw [HTL.out]; omega))
  have HSL := Lib.hid (fun (w' : World) (a1 : Rd w'.heap.size .u8 w' A1 h.dst) (a2 : Rd w'.heap.size .u8 w' A2 h.src) (a3 : Rd w'.heap.size .u8 w' A3 h.tok) (a4 : Rd w'.heap.size .u8 w' A4 plain) => kseal_yes S K I H p h A1 c1 A2 c2 A3 c3 A4 n c4 plain w' HK.out HF.out hm HN.out HPL.out (by rw [HPB.out]; omega) (by omega) (by rw [HTL.out]; omega) a1 a2 a3 a4)
  have HSP := Lib.hid (fun (A : Option Addr) (m c : Nat) (w' : World) (hm1 : (pktL K I H h plain).length = m) (hc : m ≤ c) (rb : Rd w'.heap.size .u8 w' A (pktL K I H h plain)) => split_pkt S K I H h plain A m c w' HK.out HF.out hm HPL.out (by rw [HPB.out, HN.out]; omega) (by rw [HN.out]; omega) (by rw [HTL.out]; omega) hm1 hc rb)
  have HUM := Lib.hid (fun (S' K' I' : List Int) (p' : Int) (hk' : KyOk S' K' I' H) (m cb : Nat) (vd vs vt : Value) (Ab : Option Addr) (w' : World) (hm1 : (pktL K I H h plain).length = m) (hcb : m ≤ cb) (sd : Sl w' vd h.dst) (ss : Sl w' vs h.src) (st : Sl w' vt h.tok) (rb : Rd w'.heap.size .u8 w' Ab (pktL K I H h plain)) =>
    unmask_pkt S K I H S' K' I' p' h plain m cb vd vs vt Ab next w' HK.out hk' HF.out hm HPL.out (by rw [HPB.out, HN.out]; omega) (by rw [HN.out]; omega) (by rw [HTL.out]; omega) X0.out X1.out hm1 hcb sd ss st rb)
  have HOP := Lib.hid (fun (v : Value) (ev : Int) (w' : World) (he : ev = h.pn) hv => open_pkt S K I H p h plain v ev w' HK.out HF.out hm HPL.out (by rw [HN.out]; omega) (by rw [HTL.out]; omega) he hv)
  have HTR := Lib.hid (fun w' => trunc_pkt HF.out hm w')
  have HEX := Lib.hid (fun w' => expand_pkt HF.out hm X0.out X1.out w')
  rw [HPN.out, HPB.out] at HTR HEX
  rw [HDL.out] at HSP
  obtain ⟨sp, hsp⟩ : ∃ s, h.space = s := ⟨_, rfl⟩
  obtain ⟨at_, hat⟩ : ∃ s, atN h plain = s := ⟨_, rfl⟩
  obtain ⟨tv, htv⟩ : ∃ s, pn % 256 ^ pb.toNat = s := ⟨_, rfl⟩
  obtain ⟨ev, hev⟩ : ∃ s, expE h next = s := ⟨_, rfl⟩
  obtain ⟨X, hX⟩ : ∃ s, h.put (plain.length + 16) = s := ⟨_, rfl⟩
  obtain ⟨BX, hBX⟩ : ∃ s, gsealL K (nonL I h.pn.toNat) X plain = s := ⟨_, rfl⟩
  obtain ⟨P, hP⟩ : ∃ s, pktL K I H h plain = s := ⟨_, rfl⟩
  rw [hX, hBX] at HUM HOP
  rw [hP, hsp, hat] at HUM HSP
  rw [hev] at HUM HEX
  rw [htv] at HTR HEX
  rw [hP] at HSL
  have HXX := Lib.hid hX
  have HBX := Lib.hid hBX
  have HPP := Lib.hid hP
  have HSPC := Lib.hid hsp
  obtain ⟨ph, hph⟩ : ∃ s, h.phase = s := ⟨_, rfl⟩
  have HPHC := Lib.hid hph
  have HUR := Lib.hid (fun S' K' I' p' hk' m cb vd vs vt Ab w' hm1 hcb sd ss st rb => Calls.mono (HUM.out S' K' I' p' hk' m cb vd vs vt Ab w' hm1 hcb sd ss st rb) (fun e w'' hu => barR_of hu HSPC.out HPHC.out HPB.out))
  clear HUM
  clear hsp hat htv hev hX hBX hP hph
  go_wp2_with ((with_reducible (show wpList _ _ _ (⟨some 31, .load _ _, _, _, _, _⟩ :: _) _ _)); refine wpList_unguard rfl ?_; refine wpList_loadV (o := ⟨some 31, .load _ _, _, _, _, _⟩) rfl _ rfl rfl L31.out ?_)
  refine Calls.mono (HMY.out _) ?_
  rintro e w3 ⟨rfl, hb3⟩
  rw [decide_eq_true hm]
  have B3 := Lib.hid (B2.out.trans (hb3.mono hz2))
  have K3 := Lib.hid (K2.out.all hb3)
  clear hb3 q1 q3 q5 q6 hm L31 K2 B2 hz2
  obtain ⟨q1, q3, q5, q6⟩ := HC.out _ _ K3.out.h
  have hz3 := B3.out.size
  have v1 : (convert 28 9 (.slice A4 n c4)).run Try.prog w3 = .ok (.string (strOfNums plain)) w3 := conv_nE (R4.out.below B3.out (Nat.le_refl _)) HN.out _
  have L46 := Lib.hid (ky_load HK.out K3.out.k)
  have L47 := Lib.hid (hv_load K3.out.h)
  go_wp2_with (first
    | ((with_reducible (show wpList _ _ _ (⟨some 46, .load _ _, _, _, _, _⟩ :: _) _ _)); refine wpList_loadV (o := ⟨some 46, .load _ _, _, _, _, _⟩) rfl _ rfl rfl (L46.out) ?_)
    | ((with_reducible (show wpList _ _ _ (⟨some 47, .load _ _, _, _, _, _⟩ :: _) _ _)); refine wpList_loadV (o := ⟨some 47, .load _ _, _, _, _, _⟩) rfl _ rfl rfl (L47.out) ?_))
  refine Calls.mono (HSL.out _ ((R1.out.below B3.out (Nat.le_refl _)).mono hz3) ((R2.out.below B3.out (Nat.le_refl _)).mono hz3) ((R3.out.below B3.out (Nat.le_refl _)).mono hz3) ((R4.out.below B3.out (Nat.le_refl _)).mono hz3)) ?_
  rintro e w4 ⟨A5, n5, c5, rfl, o5, b5⟩
  have O5 := Lib.hid o5
  have B4 := Lib.hid (B3.out.trans (b5.mono hz3))
  have K4 := Lib.hid (K3.out.all b5)
  have hz4 := B4.out.size
  clear o5 b5 v1 q1 q3 q5 q6 L46 L47 K3 B3 hz3
  have L5 : Hid (P.length = n5) := Lib.hid O5.out.len.symm
  have hc5 := O5.out.cap.1
  have v1 : (convert 28 9 (.slice A4 n c4)).run Try.prog w4 = .ok (.string (strOfNums plain)) w4 := conv_nE (R4.out.below B4.out (Nat.le_refl _)) HN.out _
  have ss1 := str_same plain
  obtain ⟨q1, q3, q5, q6⟩ := HC.out _ _ K4.out.h
  go_wp2_with fail
  refine Calls.mono (HSP.out A5 n5 c5 _ L5.out hc5 O5.out.rd) ?_
  rintro e w5 ⟨vd, vs, vt, A6, c6, A7, c7, rfl, sd, ss, st, hc6, r6, b6⟩
  have SD := Lib.hid sd
  have SS := Lib.hid ss
  have ST := Lib.hid st
  have R6 := Lib.hid r6
  have B5 := Lib.hid (B4.out.trans (b6.mono hz4))
  have K5 := Lib.hid (K4.out.all b6)
  have O5' := Lib.hid (O5.out.below b6)
  have hz5 := B5.out.size
  clear sd ss st r6 b6 v1 ss1 q1 q3 q5 q6 B4 K4 O5 hz4
  have HCV := Lib.hid (fun (A : Option Addr) (c : Nat) (w' : World) (r : Rd w'.heap.size .u8 w' A P) => conv_nE r L5.out c)
  go_wp2_with (first
    | ((with_reducible (show wpList _ _ _ (⟨none, .store 38 _ _, _, _, _, _⟩ :: _) _ _)); go_loud (refine wpList_storeBlk (o := ⟨none, .store 38 _ _, _, _, _, _⟩) (g := w5.heap.size) (t := 38) (vs := [.int .u8 sp, vd, vs, vt, .int .i64 at_, .slice A6 n5 c6]) rfl _ _ rfl rfl rfl (Blk.new _ _ _) rfl (one6 rfl SD.out.one SS.out.one ST.out.one rfl rfl) size6P ?_); intro w6 z6 g6; have Z6 := Lib.hid z6; have G6 := Lib.hid (((Below.refl w5.heap.size w5).alloc (Nat.le_refl _) _).trans (below_of_only g6 (Nat.le_refl _) (by simp))); clear z6 g6; have R66 := Lib.hid ((R6.out.below G6.out (Nat.le_refl _)).mono G6.out.size); have O6 := Lib.hid (O5'.out.below G6.out); have e5 := pt_facts Z6.out; have v1 := HCV.out A6 c6 w6 R66.out; have v2 := HCV.out A5 c5 w6 O6.out.rd; have ss1 := str_same P; have L85 := Lib.hid (ky_load HK.out (K5.out.all G6.out).k); have L86 := Lib.hid (load_pt Z6.out))
    | ((with_reducible (show wpList _ _ _ (⟨some 85, .load _ _, _, _, _, _⟩ :: _) _ _)); refine wpList_loadV (o := ⟨some 85, .load _ _, _, _, _, _⟩) rfl _ rfl rfl (L85.out) ?_)
    | ((with_reducible (show wpList _ _ _ (⟨some 86, .load _ _, _, _, _, _⟩ :: _) _ _)); refine wpList_loadV (o := ⟨some 86, .load _ _, _, _, _, _⟩) rfl _ rfl rfl (L86.out) ?_))
  have K6 := Lib.hid (K5.out.all G6.out)
  have B6 := Lib.hid (B5.out.trans (G6.out.mono hz5))
  have hz6 := B6.out.size
  have SD6 := Lib.hid (SD.out.below G6.out)
  have SS6 := Lib.hid (SS.out.below G6.out)
  have ST6 := Lib.hid (ST.out.below G6.out)
  obtain ⟨gp, hgp⟩ : ∃ g, w5.heap.size = g := ⟨_, rfl⟩
  rw [hgp] at Z6 e5 ⊢
  clear L85 L86
  clear SD SS ST R6 O5' K5 B5 hz5 hgp G6
  refine Calls.mono (HUR.out S K I p HK.out n5 c6 vd vs vt A6 _ L5.out hc6 SD6.out SS6.out ST6.out R66.out) ?_
  rintro e w7 ⟨a1, a2, a3, A8, m8, d8, A9, m9, d9, rfl, t1, t2, t3, t4, t5, b7⟩
  have K7 := Lib.hid (K6.out.all b7)
  have B7 := Lib.hid (B6.out.trans (b7.mono hz6))
  have Z7 := Lib.hid (Z6.out.below b7 Z6.out.lt)
  have hz7 := B7.out.size
  have SD7 := Lib.hid (SD6.out.below b7)
  have SS7 := Lib.hid (SS6.out.below b7)
  have ST7 := Lib.hid (ST6.out.below b7)
  have R7 := Lib.hid ((R66.out.below b7 (Nat.le_refl _)).mono b7.size)
  have T1 := Lib.hid t1.1
  have T2 := Lib.hid t2.1
  have T3 := Lib.hid t3.1
  have T4 := Lib.hid t4.1
  have T5 := Lib.hid t5.1
  clear t1 t2 t3 t4 t5 b7 K6 B6 Z6 hz6 SD6 SS6 ST6 R66 O6 e5 v1 v2 ss1
  go_wp2_with ((with_reducible (show wpList _ _ _ (⟨none, .store 42 _ _, _, _, _, _⟩ :: _) _ _)); go_loud (refine wpList_storeBlk (o := ⟨none, .store 42 _ _, _, _, _, _⟩) (g := w7.heap.size) (t := 42) (vs := [.int .u8 sp, a1, a2, a3, .bool ph, .int .u64 ev, .int .i64 pb, .slice A8 m8 d8, .slice A9 m9 d9]) rfl _ _ rfl rfl rfl (Blk.new _ _ _) rfl (one9 rfl rfl rfl rfl rfl rfl T1.out T2.out T3.out) size9 ?_); intro w8 z8 g8; have Y8 := Lib.hid z8; have G8 := Lib.hid (((Below.refl w7.heap.size w7).alloc (Nat.le_refl _) _).trans (below_of_only g8 (Nat.le_refl _) (by simp))); clear z8 g8)
  have K8 := Lib.hid (K7.out.all G8.out)
  have B8 := Lib.hid (B7.out.trans (G8.out.mono hz7))
  have Z8 := Lib.hid (Z7.out.below G8.out Z7.out.lt)
  have hz8 := B8.out.size
  have SD8 := Lib.hid (SD7.out.below G8.out)
  have SS8 := Lib.hid (SS7.out.below G8.out)
  have ST8 := Lib.hid (ST7.out.below G8.out)
  have R8 := Lib.hid ((R7.out.below G8.out (Nat.le_refl _)).mono G8.out.size)
  have T18 := Lib.hid (T1.out.below G8.out)
  have T28 := Lib.hid (T2.out.below G8.out)
  have T38 := Lib.hid (T3.out.below G8.out)
  have T48 := Lib.hid (T4.out.below G8.out)
  have T58 := Lib.hid (T5.out.below G8.out)
  obtain ⟨gx, hgx⟩ : ∃ g, w7.heap.size = g := ⟨_, rfl⟩
  rw [hgx] at Y8 ⊢
  clear K7 B7 Z7 SD7 SS7 ST7 R7 T1 T2 T3 T4 T5 hz7 hgx G8
  have hk8 := K8.out.lt
  have hx8 := Y8.out.lt
  have hp8 := Z8.out.lt
  have FD := Lib.hid (Below.refl w8.heap.size w8).drew
  have S8 : Hid ((SK gk gp S K I H p (HV h A1 c1 A2 c2 A3 c3) #[.int .u8 sp, vd, vs, vt, .int .i64 at_, .slice A6 n5 c6]) w8.drew) := Lib.hid (SK.all ⟨K8.out, Z8.out⟩ FD.out)
  have hne : Nonempty (CW (SK gk gp S K I H p (HV h A1 c1 A2 c2 A3 c3) #[.int .u8 sp, vd, vs, vt, .int .i64 at_, .slice A6 n5 c6])) := CW.inh S8.out
  go_wp2_with fail
  refine wp_region_sig (SK gk gp S K I H p (HV h A1 c1 A2 c2 A3 c3) #[.int .u8 sp, vd, vs, vt, .int .i64 at_, .slice A6 n5 c6]) (.two [0, 2, 3] 1 (.two [] 4 (.one [5, 6, 7] 8 (.one [] 9 (.fin [10]))) 8 (.one [] 4 (.one [5, 6, 7] 9 (.fin [10])))) 8 (.one [] 1 (.one [] 4 (.one [5, 6, 7] 9 (.fin [10]))))) (by kernel_rfl) (by kernel_rfl) (by kernel_rfl) (by kernel_rfl) S8.out ?_
  refine mixT_two ?_
  simp only [pickL, List.filterMap_cons, List.filterMap_nil, List.getElem?_cons_succ, List.getElem?_cons_zero]
  show wpQuiet _ _ _ _ (_ :: _) _
  refine wpQuiet_loadV (o := ⟨some 92, _, _, _, _, _⟩) rfl _ rfl rfl (fun w' hw' => by obtain ⟨r, rfl⟩ := hw'; exact ky_load HK.out r.holds.1.k) ?_
  simp only [Act.put, List.setIfInBounds_toArray, List.set_cons_zero, List.set_cons_succ]
  show wpQuiet _ _ _ _ (_ :: _) _
  refine wpQuiet_loadV (o := ⟨some 94, _, _, _, _, _⟩) rfl _ rfl rfl (fun w' hw' => by obtain ⟨r, rfl⟩ := hw'; exact load_pt r.holds.2) ?_
  simp only [Act.put, List.setIfInBounds_toArray, List.set_cons_zero, List.set_cons_succ]
  repeat (show wpQuiet _ _ _ _ (_ :: _) _; go_big_quiet_step (fail))
  refine wpQuiet_nil ?_
  generalize w8.drew = wd at *
  refine ⟨?first, ?leafC⟩
  case' first =>
    show wpList _ _ _ [_] _ _
    go_wp2_with fail
    refine Calls.mono (next_any S K I H p _ HK.out HP0.out) ?_
    rintro e y1 ⟨rfl, hb1⟩
    unfold nextV
    have X1' := Lib.hid (FD.out.trans (hb1.mono FD.out.size))
    have S1 := Lib.hid (S8.out.all hb1)
    clear hb1
    go_wp2_with fail
    refine MixQ.class S1.out ?_
    refine mixT_two ?_
    simp only [pickL, List.filterMap_cons, List.filterMap_nil, List.getElem?_cons_succ, List.getElem?_cons_zero]
    refine wpQuiet_nil ?_
    refine ⟨?leafA, ?leafB⟩
  case' leafA =>
    show wpList _ _ _ [_] _ _
    go_wp2_with fail
    refine Calls.mono (HUR.out _ _ _ _ (ofNext HK.out.h HK.out.bh) n5 c6 vd vs vt A6 _ L5.out hc6 (SD8.out.below X1'.out) (SS8.out.below X1'.out) (ST8.out.below X1'.out) ((R8.out.below X1'.out (Nat.le_refl _)).mono X1'.out.size)) ?_
    rintro e y3 ⟨f1, f2, f3, E8, i8, j8, E9, i9, j9, rfl, u1, u2, u3, u4, u5, hb3⟩
    have X3 := Lib.hid (X1'.out.trans (hb3.mono X1'.out.size))
    have S3 := Lib.hid (S1.out.all hb3)
    have U1 := Lib.hid u1
    have U2 := Lib.hid u2
    have U3 := Lib.hid u3
    have U4 := Lib.hid u4
    have U5 := Lib.hid u5
    clear u1 u2 u3 u4 u5
    go_wp2_with fail
    refine MixQ.class S3.out ?_
    refine mixT_one ?_
    simp only [pickL, List.filterMap_cons, List.filterMap_nil, List.getElem?_cons_succ, List.getElem?_cons_zero]
    repeat (show wpQuiet _ _ _ _ (_ :: _) _; go_big_quiet_step (fail))
    refine wpQuiet_nil ?_
    show wpList _ _ _ [_] _ _
    have DA : Hid (Below y3.heap.size y3 (y3.alloc (.cells barZ 42))) := Lib.hid ((Below.refl y3.heap.size y3).alloc (Nat.le_refl _) _)
    have DAb : Hid (Blk (y3.alloc (.cells barZ 42)) y3.heap.size 42 barZ) := Lib.hid (Blk.new _ _ _)
    have X4 := Lib.hid (X3.out.trans (DA.out.mono X3.out.size))
    have S4 := Lib.hid (S3.out.all DA.out)
    have hszDA : (y3.alloc (.cells barZ 42)).heap.size = y3.heap.size + 1 := by simp
    unfold barZ at DA DAb X4 S4 hszDA
    go_wp2_with fail
    refine MixQ.class S4.out ?_
    refine mixT_one ?_
    simp only [pickL, List.filterMap_cons, List.filterMap_nil, List.getElem?_cons_succ, List.getElem?_cons_zero]
    refine wpQuiet_nil ?_
    show wpList _ _ _ [_] _ _
    have hgy : w8.heap.size ≤ y3.heap.size := X3.out.size
    obtain ⟨y9, hs9, hz9, hg9⟩ := blk_storeAll (P := Try.prog) (ty := 42) (vs := [.int .u8 sp, f1, f2, f3, .bool ph, .int .u64 ev, .int .i64 pb, .slice E8 i8 j8, .slice E9 i9 j9]) DAb.out rfl (one9 rfl rfl rfl rfl rfl rfl U1.out.1 U2.out.1 U3.out.1) size9
    have ST9 := Lib.hid hs9
    have YY := Lib.hid hz9
    have G9 := Lib.hid hg9
    clear hs9 hz9 hg9
    have BG := Lib.hid (DA.out.trans (below_of_only G9.out (Nat.le_refl _) (by simp)))
    have XX := Lib.hid (X3.out.trans (BG.out.mono X3.out.size))
    have V1 := Lib.hid (U1.out.1.below BG.out)
    have V2 := Lib.hid (U2.out.1.below BG.out)
    have V3 := Lib.hid (U3.out.1.below BG.out)
    have V4 := Lib.hid (U4.out.1.below BG.out)
    have V5 := Lib.hid (U5.out.1.below BG.out)
    have S9 := Lib.hid (S3.out.all BG.out)
    obtain ⟨gy, hgy'⟩ : ∃ g, y3.heap.size = g := ⟨_, rfl⟩
    rw [hgy'] at hgy YY ST9 ⊢
    clear DA DAb X4 S4 BG G9 hb3 hszDA
  case' leafB =>
    show wpList _ _ _ [_] _ _
    have DA : Hid (Below y1.heap.size y1 (y1.alloc (.cells barZ 42))) := Lib.hid ((Below.refl y1.heap.size y1).alloc (Nat.le_refl _) _)
    have DAb : Hid (Blk (y1.alloc (.cells barZ 42)) y1.heap.size 42 barZ) := Lib.hid (Blk.new _ _ _)
    have X4 := Lib.hid (X1'.out.trans (DA.out.mono X1'.out.size))
    have S4 := Lib.hid (S1.out.all DA.out)
    have hszDA : (y1.alloc (.cells barZ 42)).heap.size = y1.heap.size + 1 := by simp
    unfold barZ at DA DAb X4 S4 hszDA
    go_wp2_with fail
    refine MixQ.class S4.out ?_
    refine mixT_one ?_
    simp only [pickL, List.filterMap_cons, List.filterMap_nil, List.getElem?_cons_succ, List.getElem?_cons_zero]
    refine wpQuiet_nil ?_
    show wpList _ _ _ [_] _ _
    go_wp2_with fail
    refine Calls.mono (HUR.out _ _ _ _ (ofNext HK.out.h HK.out.bh) n5 c6 vd vs vt A6 _ L5.out hc6 (SD8.out.below X4.out) (SS8.out.below X4.out) (ST8.out.below X4.out) ((R8.out.below X4.out (Nat.le_refl _)).mono X4.out.size)) ?_
    rintro e y3 ⟨f1, f2, f3, E8, i8, j8, E9, i9, j9, rfl, u1, u2, u3, u4, u5, hb3⟩
    have X3 := Lib.hid (X4.out.trans (hb3.mono X4.out.size))
    have S3 := Lib.hid (S4.out.all hb3)
    have U1 := Lib.hid u1
    have U2 := Lib.hid u2
    have U3 := Lib.hid u3
    have U4 := Lib.hid u4
    have U5 := Lib.hid u5
    clear u1 u2 u3 u4 u5
    go_wp2_with fail
    refine MixQ.class S3.out ?_
    refine mixT_one ?_
    simp only [pickL, List.filterMap_cons, List.filterMap_nil, List.getElem?_cons_succ, List.getElem?_cons_zero]
    repeat (show wpQuiet _ _ _ _ (_ :: _) _; go_big_quiet_step (fail))
    refine wpQuiet_nil ?_
    show wpList _ _ _ [_] _ _
    have hgy : w8.heap.size ≤ y1.heap.size := X1'.out.size
    obtain ⟨y9, hs9, hz9, hg9⟩ := blk_storeAll (P := Try.prog) (ty := 42) (vs := [.int .u8 sp, f1, f2, f3, .bool ph, .int .u64 ev, .int .i64 pb, .slice E8 i8 j8, .slice E9 i9 j9]) (DAb.out.below hb3 DAb.out.lt) rfl (one9 rfl rfl rfl rfl rfl rfl U1.out.1 U2.out.1 U3.out.1) size9
    have ST9 := Lib.hid hs9
    have YY := Lib.hid hz9
    have G9 := Lib.hid hg9
    clear hs9 hz9 hg9
    have BG := Lib.hid (below_of_only G9.out (Nat.le_refl _) (by have := hb3.size; omega))
    have XX := Lib.hid (X3.out.trans (BG.out.mono X1'.out.size))
    have V1 := Lib.hid (U1.out.grow G9.out (by omega))
    have V2 := Lib.hid (U2.out.grow G9.out (by omega))
    have V3 := Lib.hid (U3.out.grow G9.out (by omega))
    have V4 := Lib.hid (U4.out.grow G9.out (by omega))
    have V5 := Lib.hid (U5.out.grow G9.out (by omega))
    have S9 : Hid ((SK gk gp S K I H p (HV h A1 c1 A2 c2 A3 c3) #[.int .u8 sp, vd, vs, vt, .int .i64 at_, .slice A6 n5 c6]) y9) := Lib.hid ⟨S3.out.1.to BG.out S1.out.1.lt.1 S1.out.1.lt.2, S3.out.2.below BG.out S1.out.2.lt⟩
    obtain ⟨gy, hgy'⟩ : ∃ g, y1.heap.size = g := ⟨_, rfl⟩
    rw [hgy'] at hgy YY ST9 ⊢
    clear DA DAb X4 S4 BG G9 hb3 hszDA
  case' leafC =>
    show wpList _ _ _ [_] _ _
    have DA : Hid (Below wd.heap.size wd (wd.alloc (.cells barZ 42))) := Lib.hid ((Below.refl wd.heap.size wd).alloc (Nat.le_refl _) _)
    have DAb : Hid (Blk (wd.alloc (.cells barZ 42)) wd.heap.size 42 barZ) := Lib.hid (Blk.new _ _ _)
    have X4 := Lib.hid (FD.out.trans (DA.out.mono FD.out.size))
    have S4 := Lib.hid (S8.out.all DA.out)
    have hszDA : (wd.alloc (.cells barZ 42)).heap.size = wd.heap.size + 1 := by simp
    unfold barZ at DA DAb X4 S4 hszDA
    go_wp2_with fail
    refine MixQ.class S4.out ?_
    refine mixT_one ?_
    simp only [pickL, List.filterMap_cons, List.filterMap_nil, List.getElem?_cons_succ, List.getElem?_cons_zero]
    refine wpQuiet_nil ?_
    show wpList _ _ _ [_] _ _
    go_wp2_with fail
    refine Calls.mono (next_any S K I H p _ HK.out HP0.out) ?_
    rintro e y1 ⟨rfl, hb1⟩
    unfold nextV
    have X1' := Lib.hid (X4.out.trans (hb1.mono X4.out.size))
    have S1 := Lib.hid (S4.out.all hb1)
    have D1 := Lib.hid hb1
    clear hb1
    go_wp2_with fail
    refine MixQ.class S1.out ?_
    refine mixT_one ?_
    simp only [pickL, List.filterMap_cons, List.filterMap_nil, List.getElem?_cons_succ, List.getElem?_cons_zero]
    refine wpQuiet_nil ?_
    show wpList _ _ _ [_] _ _
    go_wp2_with fail
    refine Calls.mono (HUR.out _ _ _ _ (ofNext HK.out.h HK.out.bh) n5 c6 vd vs vt A6 _ L5.out hc6 (SD8.out.below X1'.out) (SS8.out.below X1'.out) (ST8.out.below X1'.out) ((R8.out.below X1'.out (Nat.le_refl _)).mono X1'.out.size)) ?_
    rintro e y3 ⟨f1, f2, f3, E8, i8, j8, E9, i9, j9, rfl, u1, u2, u3, u4, u5, hb3⟩
    have X3 := Lib.hid (X1'.out.trans (hb3.mono X1'.out.size))
    have S3 := Lib.hid (S1.out.all hb3)
    have U1 := Lib.hid u1
    have U2 := Lib.hid u2
    have U3 := Lib.hid u3
    have U4 := Lib.hid u4
    have U5 := Lib.hid u5
    clear u1 u2 u3 u4 u5
    go_wp2_with fail
    refine MixQ.class S3.out ?_
    refine mixT_one ?_
    simp only [pickL, List.filterMap_cons, List.filterMap_nil, List.getElem?_cons_succ, List.getElem?_cons_zero]
    repeat (show wpQuiet _ _ _ _ (_ :: _) _; go_big_quiet_step (fail))
    refine wpQuiet_nil ?_
    show wpList _ _ _ [_] _ _
    have hgy : w8.heap.size ≤ wd.heap.size := FD.out.size
    have hy1 := X1'.out.size
    have DC := Lib.hid ((DAb.out.below D1.out DAb.out.lt).below hb3 (by have := DAb.out.lt; have := D1.out.size; omega))
    obtain ⟨y9, hs9, hz9, hg9⟩ := blk_storeAll (P := Try.prog) (ty := 42) (vs := [.int .u8 sp, f1, f2, f3, .bool ph, .int .u64 ev, .int .i64 pb, .slice E8 i8 j8, .slice E9 i9 j9]) DC.out rfl (one9 rfl rfl rfl rfl rfl rfl U1.out.1 U2.out.1 U3.out.1) size9
    have ST9 := Lib.hid hs9
    have YY := Lib.hid hz9
    have G9 := Lib.hid hg9
    clear hs9 hz9 hg9
    have BG := Lib.hid (below_of_only G9.out (Nat.le_refl _) (by have := hb3.size; have := D1.out.size; omega))
    have XX := Lib.hid (X3.out.trans (BG.out.mono FD.out.size))
    have hlt1 : wd.heap.size < y1.heap.size := by have := D1.out.size; omega
    have V1 := Lib.hid (U1.out.grow G9.out hlt1)
    have V2 := Lib.hid (U2.out.grow G9.out hlt1)
    have V3 := Lib.hid (U3.out.grow G9.out hlt1)
    have V4 := Lib.hid (U4.out.grow G9.out hlt1)
    have V5 := Lib.hid (U5.out.grow G9.out hlt1)
    have S9 : Hid ((SK gk gp S K I H p (HV h A1 c1 A2 c2 A3 c3) #[.int .u8 sp, vd, vs, vt, .int .i64 at_, .slice A6 n5 c6]) y9) := Lib.hid ⟨S3.out.1.to BG.out S8.out.1.lt.1 S8.out.1.lt.2, S3.out.2.below BG.out S8.out.2.lt⟩
    obtain ⟨gy, hgy'⟩ : ∃ g, wd.heap.size = g := ⟨_, rfl⟩
    rw [hgy'] at hgy YY ST9 ⊢
    clear DA DAb X4 S4 BG G9 hb3 hszDA D1 DC
  all_goals
    go_wp2_with ((with_reducible (show wpList _ _ _ (⟨none, .store 42 _ _, _, _, _, _⟩ :: _) _ _)); refine wpList_storeV (o := ⟨none, .store 42 _ _, _, _, _, _⟩) rfl _ _ rfl rfl rfl (ST9.out) ?_)
    refine MixQ.class S9.out ?_
    refine mixT_fin ?_
    simp only [pickL, List.filterMap_cons, List.filterMap_nil, List.getElem?_cons_succ, List.getElem?_cons_zero]
    repeat (show wpQuiet _ _ _ _ (_ :: _) _; go_big_quiet_step (fail))
    refine wpQuiet_nil ?_
    refine NoPanic.normal ?_
    have W0 := Lib.hid (B8.out.trans (XX.out.mono hz8))
    have K9 := Lib.hid S9.out.1
    have Y9 := Lib.hid (Y8.out.below XX.out hx8)
    have hx9 := Y9.out.lt
    have hy9 := YY.out.lt
    have hz9 := W0.out.size
    have A1' := Lib.hid (T18.out.below XX.out)
    have A2' := Lib.hid (T28.out.below XX.out)
    have A3' := Lib.hid (T38.out.below XX.out)
    have A4' := Lib.hid (T48.out.below XX.out)
    have A5' := Lib.hid (T58.out.below XX.out)
    clear XX S9 ST9 T18 T28 T38 T48 T58 K8 Z8 Y8 SD8 SS8 ST8 R8 B8 S8 X1' X3 S1 S3 U1 U2 U3 U4 U5 FD hne
    have L107 := Lib.hid (bare_head Y9.out)
    have L109 := Lib.hid (bare_head YY.out)
    go_wp2_with (first
      | ((with_reducible (show wpList _ _ _ (⟨some 107, .load _ _, _, _, _, _⟩ :: _) _ _)); refine wpList_unguard rfl ?_; refine wpList_loadV (o := ⟨some 107, .load _ _, _, _, _, _⟩) rfl _ rfl rfl (L107.out) ?_)
      | ((with_reducible (show wpList _ _ _ (⟨some 109, .load _ _, _, _, _, _⟩ :: _) _ _)); refine wpList_unguard rfl ?_; refine wpList_loadV (o := ⟨some 109, .load _ _, _, _, _, _⟩) rfl _ rfl rfl (L109.out) ?_))
    refine Calls.mono (same_yes _ _ (h.at_ ev) _ (hd_of HSPC.out HPHC.out HPB.out A1'.out A2'.out A3'.out) (hd_of HSPC.out HPHC.out HPB.out V1.out V2.out V3.out)) ?_
    rintro e z1 ⟨rfl, hb⟩
    have W1 := Lib.hid (W0.out.trans (hb.mono hz9))
    have K1z := Lib.hid (K9.out.all hb)
    have Y1z := Lib.hid (Y9.out.below hb hx9)
    have Q1z := Lib.hid (YY.out.below hb hy9)
    have D1 := Lib.hid (A1'.out.below hb)
    have D2 := Lib.hid (A2'.out.below hb)
    have D3 := Lib.hid (A3'.out.below hb)
    have D4 := Lib.hid (A4'.out.below hb)
    have D5 := Lib.hid (A5'.out.below hb)
    have v1 := sl_conv D4.out
    have v2 := sl_conv D5.out
    have v3 := sl_conv (V4.out.below hb)
    have v4 := sl_conv (V5.out.below hb)
    have ss1 := str_same X
    have ss2 := str_same BX
    obtain ⟨p7, p8⟩ := br_78 Y1z.out
    obtain ⟨q7, q8⟩ := br_78 Q1z.out
    have L131 := Lib.hid (hv_load K1z.out.h)
    have hz1 := W1.out.size
    have hx1 := Y1z.out.lt
    clear hb K9 Y9 YY A1' A2' A3' A4' A5' V1 V2 V3 V4 V5 L107 L109 W0
    go_wp2_with (first
      | ((with_reducible (show wpList _ _ _ (⟨some 131, .load _ _, _, _, _, _⟩ :: _) _ _)); refine wpList_loadV (o := ⟨some 131, .load _ _, _, _, _, _⟩) rfl _ rfl rfl (L131.out) ?_)
      | ((with_reducible (show wpList _ _ _ (⟨none, .store 30 _ _, _, _, _, _⟩ :: _) _ _)); go_loud (refine wpList_storeCs (o := ⟨none, .store 30 _ _, _, _, _, _⟩) (g := z1.heap.size) (t := 30) (cs := HV h A1 c1 A2 c2 A3 c3) rfl _ _ rfl rfl rfl (Blk.new _ _ _) (by rw [hv_size]; rfl) (hv_one _ _ _ _ _ _ _) (by rw [hv_size]; exact sizeHead) ?_); intro z2 zz2 g2; have Z2 := Lib.hid zz2; have G2 := Lib.hid (((Below.refl z1.heap.size z1).alloc (Nat.le_refl _) _).trans (below_of_only g2 (Nat.le_refl _) (by simp))); clear zz2 g2))
    have W2 := Lib.hid (W1.out.trans (G2.out.mono hz1))
    have K2z := Lib.hid (K1z.out.all G2.out)
    have Y2z := Lib.hid (Y1z.out.below G2.out hx1)
    have hk2 := K1z.out.lt
    obtain ⟨gw, hgw⟩ : ∃ g, z1.heap.size = g := ⟨_, rfl⟩
    rw [hgw] at Z2 hx1 hk2 ⊢
    have hz2 := W2.out.size
    have hw2 := Z2.out.lt
    clear Q1z v1 v2 v3 v4 ss1 ss2 p7 p8 q7 q8 L131
    have m5 : ∀ r : BW z2.heap.size z2, r.world.cell? ⟨gk + 1, 5, none⟩ = some (.int .u64 pn) := fun r => (HC.out _ _ (K2z.out.all r.below).h).2.2.1
    have m6 : ∀ r : BW z2.heap.size z2, r.world.cell? ⟨gk + 1, 6, none⟩ = some (.int .i64 pb) := fun r => (HC.out _ _ (K2z.out.all r.below).h).2.2.2
    refine wp_region_mixOB z2.heap.size [([0, 1, 2, 3, 4, 6, 7], 5), ([], 8), ([9], 10)] (by kernel_rfl) (by kernel_rfl) (by kernel_rfl) (by kernel_rfl) (by kernel_rfl) ?_
    try (rw [put_none])
    simp only [pickL, List.map_cons, List.map_nil, List.filterMap_cons, List.filterMap_nil, List.getElem?_cons_succ, List.getElem?_cons_zero]
    refine mixO_cons ?_
    repeat (show wpQuiet _ _ _ _ (_ :: _) _; go_big_quiet_step (fail))
    refine wpQuiet_nil ?_
    show wpList _ _ _ [_] _ _
    have N2 := Lib.hid ((Below.refl z2.heap.size z2).drew)
    generalize z2.drew = zd at *
    go_wp2_with fail
    refine Calls.mono (HTR.out _) ?_
    rintro e z3 ⟨rfl, rfl⟩
    go_wp2_with fail
    refine MixO.narrowB N2.out N2.out.size ?_
    refine mixO_cons ?_
    repeat (show wpQuiet _ _ _ _ (_ :: _) _; go_big_quiet_step (fail))
    refine wpQuiet_nil ?_
    show wpList _ _ _ [_] _ _
    go_wp2_with fail
    refine Calls.mono (HEX.out _) ?_
    rintro e z4 ⟨rfl, hb4⟩
    have HB4 := Lib.hid hb4
    have N4 := Lib.hid (N2.out.trans (hb4.mono N2.out.size))
    clear hb4
    have Z4 := Lib.hid (Z2.out.below N4.out hw2)
    obtain ⟨r1, r3, r5, r6⟩ := HC.out _ _ Z4.out
    have f5 := Z4.out.frozen 5
    go_wp2_with fail
    refine MixO.narrowB HB4.out HB4.out.size ?_
    refine mixO_cons ?_
    repeat (show wpQuiet _ _ _ _ (_ :: _) _; go_big_quiet_step (fail))
    refine wpQuiet_nil ?_
    show wpList _ _ _ [_] _ _
    go_wp2_with fail
    refine MixO.last ?_
    refine mixO_nil ?_
    refine wpQuiet_nil ?_
    refine NoPanic.normal ?_
    have Z5 : Hid (Blk (z4.setCell ⟨gw, 5, none⟩ (.int .u64 ev)) gw 30 (HV (h.at_ ev) A1 c1 A2 c2 A3 c3)) := Lib.hid (Blk.cast (Z4.out.set_ 5 _) (hv_set h A1 A2 A3 c1 c2 c3 ev))
    have BZ : Hid (Below z1.heap.size z1 (z4.setCell ⟨gw, 5, none⟩ (.int .u64 ev))) := Lib.hid (G2.out.trans ((N4.out.mono (by omega)).setCell (p := ⟨gw, 5, none⟩) (by rw [hgw]; exact Nat.le_refl _) _))
    generalize z4.setCell ⟨gw, 5, none⟩ (.int .u64 ev) = z5 at *
    have W5 := Lib.hid (W1.out.trans (BZ.out.mono hz1))
    have K5z := Lib.hid (K1z.out.all BZ.out)
    have Y5z := Lib.hid (Y1z.out.below BZ.out (by omega))
    have E1 := Lib.hid (D1.out.below BZ.out)
    have E2 := Lib.hid (D2.out.below BZ.out)
    have E3 := Lib.hid (D3.out.below BZ.out)
    have E4 := Lib.hid (D4.out.below BZ.out)
    have E5 := Lib.hid (D5.out.below BZ.out)
    have hz5 := W5.out.size
    clear Z4 N4 N2 HB4 r1 r3 r5 r6 f5 D1 D2 D3 D4 D5 K1z Y1z K2z Y2z Z2 W1 W2 G2 BZ m5 m6
    have L143 := Lib.hid (bare_head Y5z.out)
    have L144 := Lib.hid (hv_load Z5.out)
    go_wp2_with (first
      | ((with_reducible (show wpList _ _ _ (⟨some 143, .load _ _, _, _, _, _⟩ :: _) _ _)); refine wpList_loadV (o := ⟨some 143, .load _ _, _, _, _, _⟩) rfl _ rfl rfl (L143.out) ?_)
      | ((with_reducible (show wpList _ _ _ (⟨some 144, .load _ _, _, _, _, _⟩ :: _) _ _)); refine wpList_loadV (o := ⟨some 144, .load _ _, _, _, _, _⟩) rfl _ rfl rfl (L144.out) ?_))
    have HW := hv_hd (h := h.at_ ev) (w := z5) (A1 := A1) (A2 := A2) (A3 := A3) ((R1.out.below W5.out (Nat.le_refl _)).mono hz5) ((R2.out.below W5.out (Nat.le_refl _)).mono hz5) ((R3.out.below W5.out (Nat.le_refl _)).mono hz5) K1.out K2'.out K3'.out
    refine Calls.mono (same_yes _ _ (h.at_ ev) _ (hd_of HSPC.out HPHC.out HPB.out E1.out E2.out E3.out) HW) ?_
    clear HW
    rintro e z6 ⟨rfl, hb6⟩
    have W6 := Lib.hid (W5.out.trans (hb6.mono hz5))
    have K6z := Lib.hid (K5z.out.all hb6)
    have Y6z := Lib.hid (Y5z.out.below hb6 Y5z.out.lt)
    have Z6 := Lib.hid (Z5.out.below hb6 Z5.out.lt)
    have E1 := Lib.hid (E1.out.below hb6)
    have E2 := Lib.hid (E2.out.below hb6)
    have E3 := Lib.hid (E3.out.below hb6)
    have E4 := Lib.hid (E4.out.below hb6)
    have E5 := Lib.hid (E5.out.below hb6)
    have hz6 := W6.out.size
    clear hb6 K5z Y5z Z5 W5 L143 L144
    obtain ⟨r1, r3, r5, r6⟩ := HC.out _ _ K6z.out.h
    have s5 : z6.cell? ⟨gw, 5, none⟩ = some (.int .u64 ev) := by rw [Blk.cell Z6.out]; unfold HV; rfl
    by_cases hee : ev = pn
    · have L153 := Lib.hid (ky_load HK.out K6z.out.k)
      have L154 := Lib.hid (blk_load Y6z.out bare_fine rfl size9)
      have hee1 : (ev == pn) = true := by simp [hee]
      have hee2 : (ev != pn) = false := by simp [hee]
      have HEE := Lib.hid hee
      clear hee
      go_wp2_with (first
        | ((with_reducible (show wpList _ _ _ (⟨some 153, .load _ _, _, _, _, _⟩ :: _) _ _)); refine wpList_loadV (o := ⟨some 153, .load _ _, _, _, _, _⟩) rfl _ rfl rfl (L153.out) ?_)
        | ((with_reducible (show wpList _ _ _ (⟨some 154, .load _ _, _, _, _, _⟩ :: _) _ _)); refine wpList_loadV (o := ⟨some 154, .load _ _, _, _, _, _⟩) rfl _ rfl rfl (L154.out) ?_))
      refine Calls.mono (HOP.out _ ev _ (HEE.out.trans HPN.out.symm) (bar_of HSPC.out HPHC.out HPB.out E1.out E2.out E3.out E4.out E5.out)) ?_
      rintro e z7 ⟨B1, l1, d1, rfl, o7, hb7⟩
      have v1 : (convert 28 9 (.slice B1 l1 d1)).run Try.prog z7 = .ok (.string (strOfNums plain)) z7 := conv_own elB8 Try.underlying9 o7
      have W7 := Lib.hid (W6.out.trans (hb7.mono hz6))
      have ss1 := str_same plain
      clear o7 hb7
      go_wp2_with fail
      go_ret
      exact ⟨rfl, W7.out⟩
    · have hee1 : (ev == pn) = false := by simp [hee]
      have hee2 : (ev != pn) = true := by simp [hee]
      clear hee
      go_wp2_with fail
      go_ret
      exact ⟨rfl, W6.out⟩
end Go.Proofs.Ythpacdondnenmaa
