/- Layer 20: words: bytes in blocks of bytes, rows of the call's own, bytes.Clone, bytes.Equal, entries in memory. Conditions: as each theorem states them. -/
import Derived.Test.YtghjlndkleclfaaRows
import Derived.Test.YtghjlndkleclfaaAV
import Derived.Test.YtghjlndkleclfaaB2
import Derived.Test.YtghjlndkleclfaaQO
import Derived.Test.YtghjlndkleclfaaQP
import Derived.Test.YtghjlndkleclfaaQB
import Derived.Test.YtghjlndkleclfaaLV
import Derived.Test.YtghjlndkleclfaaBZ
import Derived.Test.YtghjlndkleclfaaWS
import Derived.Test.YtghjlndkleclfaaBO
import Derived.Lib.SmallJoins
namespace Go.Proofs.Ytghjlndkleclfaa
open Go.RowKit
theorem elC : ElT Try.prog 26 5 .u8 1 := ⟨Try.underlying26, Try.underlying5, by kernel_rfl, by decide⟩
/-- bytes that lie in a block of bytes -/
def SlT (w : World) (v : Value) (L : List Int) : Prop := ∃ A c, v = .slice A L.length c ∧ L.length ≤ c ∧ Rd w.heap.size .u8 w A L ∧ ∀ ad, A = some ad → ∃ cur, w.heap[ad.block]? = some (.cells cur 5 (0, 0))
theorem SlT.nil (w : World) : SlT w (.slice none 0 0) [] := ⟨none, 0, rfl, Nat.le_refl _, Rd.nil, fun ad e => by cases e⟩
theorem SlT.own {B : Nat} {w : World} {A : Option Addr} {n c : Nat} {L : List Int} (h : Own B 5 .u8 w A n c L) : SlT w (.slice A n c) L := by
  obtain rfl := h.2
  refine ⟨A, c, rfl, h.cap.1, h.rd, fun ad e => ?_⟩
  subst e
  rcases h.1.2 with ⟨h1, _⟩ | ⟨g, cap, cur, h1, _, h3, _⟩
  · cases h1
  · injection h1 with h1
    injection h1 with h1
    subst h1
    exact ⟨cur, h3⟩
theorem SlT.below {w w' : World} {v : Value} {L : List Int} (h : SlT w v L) (hb : Below w.heap.size w w') : SlT w' v L := by
  obtain ⟨A, c, h1, h2, h3, h4⟩ := h
  refine ⟨A, c, h1, h2, (h3.below hb (Nat.le_refl _)).mono hb.size, fun ad e => ?_⟩
  obtain ⟨cur, hc⟩ := h4 ad e
  have hlt : ad.block < w.heap.size := by
    rcases Nat.lt_or_ge ad.block w.heap.size with q | q
    · exact q
    · rw [Array.getElem?_eq_none q] at hc; cases hc
  exact ⟨cur, (hb.block _ hlt).trans hc⟩
theorem SlT.grown2 {w w' : World} {v : Value} {L : List Int} {b : Nat} (h : SlT w v L) (hg : w.grownBy w' (some b)) (ht : ∀ cur, w.heap[b]? ≠ some (.cells cur 5 (0, 0))) : SlT w' v L := by
  obtain ⟨A, c, h1, h2, h3, h4⟩ := h
  have hne : ∀ ad, A = some ad → ad.block ≠ b := fun ad e q => by
    obtain ⟨cur, hc⟩ := h4 ad e
    rw [q] at hc
    exact ht cur hc
  refine ⟨A, c, h1, h2, fun i hi => ?_, fun ad e => ?_⟩
  · obtain ⟨ad, e, h5, h6⟩ := h3 i hi
    exact ⟨ad, e, Nat.lt_of_lt_of_le h5 hg.size, (World.cell?_of_block (hg.block _ (by rw [block_of_add]; exact h5) (by rw [block_of_add]; intro q; injection q with q; exact hne ad e q))).trans h6⟩
  · obtain ⟨cur, hc⟩ := h4 ad e
    have hlt : ad.block < w.heap.size := by
      rcases Nat.lt_or_ge ad.block w.heap.size with q | q
      · exact q
      · rw [Array.getElem?_eq_none q] at hc; cases hc
    exact ⟨cur, (hg.block _ hlt (by intro q; injection q with q; exact hne ad e q)).trans hc⟩
theorem clone_any (A : Option Addr) (c : Nat) (xs : List Int) (w : World) (hr : Rd w.heap.size .u8 w A xs) (hl : xs.length ≤ 1099511627776) :
    Calls Try.prog 19 #[.slice A xs.length c] w (RetOwn 5 .u8 xs w) := by
  have HR := Lib.hid hr
  have hnil := fun (w : World) (a : Option Addr) (n c : Nat) => Lib.run_eql_slice_nil (P := Try.prog) w 26 5 a n c 0 0 Try.underlying26
  rcases A with _ | ad
  · have hx : xs = [] := by
      rcases xs with _ | ⟨x, r⟩
      · rfl
      · obtain ⟨ad, h, _⟩ := hr 0 (by simp); cases h
    subst hx
    clear hr HR
    go_enter Try.func19, Try.ntmps19
    go_wp2_with fail
    go_ret
    exact ⟨none, 0, 0, rfl, Own.nil _ _ _ _, Below.refl _ _⟩
  · clear hr
    go_enter Try.func19, Try.ntmps19
    go_wp2_with (first
      | (at_builtin; refine wpList_app (o := ⟨some 7, _, _, _, _, _⟩) elC rfl _ _ rfl rfl rfl (Own.litAt (xs := []) rfl rfl rfl (Nat.le_refl _) (by simp)) (HR.out.alloc (Nat.le_refl _) _) (by first | rfl | simp) ?_ ?_ ?_; (simp <;> omega); exact Below.size ((Below.refl w.heap.size w).alloc (Nat.le_refl _) _); intro A1 n1 c1 w1 h1; have H1 := Lib.hid h1; have B1 := Lib.hid (Below.trans ((Below.refl w.heap.size w).alloc (Nat.le_refl _) _) h1.2.2.1); clear h1))
    go_ret
    exact ⟨A1, n1, c1, rfl, H1.out.1, B1.out⟩
theorem clone_n (A : Option Addr) (c n : Nat) (xs : List Int) (w : World) (hr : Rd w.heap.size .u8 w A xs) (hn : n = xs.length) (hl : n ≤ 1099511627776) :
    Calls Try.prog 19 #[.slice A n c] w (RetOwn 5 .u8 xs w) := by
  subst hn; exact clone_any A c xs w hr hl

theorem equal_any (A A2 : Option Addr) (c c2 : Nat) (xs ys : List Int) (w : World) (hr : Rd w.heap.size .u8 w A xs) (hr2 : Rd w.heap.size .u8 w A2 ys) (hb : Byt xs) (hb2 : Byt ys) :
    Calls Try.prog 37 #[.slice A xs.length c, .slice A2 ys.length c2] w fun e w' => e = .returned (.bool (decide (xs = ys))) ∧ w = w' := by
  have h1 := conv_rd elC Try.underlying9 hr c
  have h2 := conv_rd elC Try.underlying9 hr2 c2
  have HE := Lib.hid (str_eq hb hb2)
  clear hr hr2 hb hb2
  generalize strOfNums xs = s1 at *
  generalize strOfNums ys = s2 at *
  go_enter Try.func37, Try.ntmps37
  go_wp2_with fail
  go_ret
  exact ⟨ret_bool HE.out, rfl⟩


theorem equal_n {A A2 : Option Addr} {n n2 c c2 : Nat} {xs ys : List Int} {w : World} (h1 : xs.length = n) (h2 : ys.length = n2) (hr : Rd w.heap.size .u8 w A xs) (hr2 : Rd w.heap.size .u8 w A2 ys) (hb : Byt xs) (hb2 : Byt ys) :
    Calls Try.prog 37 #[.slice A n c, .slice A2 n2 c2] w fun e w' => e = .returned (.bool (decide (xs = ys))) ∧ w = w' := by subst h1; subst h2; exact equal_any A A2 c c2 xs ys w hr hr2 hb hb2
theorem wpList_storeBlk {P : Program} {ops : Array Oper} {rest : List Oper} {o : Oper} {a : Act} {w : World} {Q : Exit → Act → World → Prop} {ty t : TypeId} {g : Nat} {vs : List Value} {old : Array Value} (hgd : o.guard = none) (x y : Operand) (ho : o.op = .store ty x y) (hx : a.eval x = .pointer (some ⟨g, 0, none⟩)) (hy : a.eval y = .agg vs.toArray)
    (h : Blk w g t old) (hl : vs.length = old.size) (h1 : ∀ v ∈ vs, v.oneCell' = true) (hi : (P.info? ty).map (·.size) = some vs.length) (hK : ∀ w', Blk w' g t vs.toArray → w.grownBy w' (some g) → wpList P ops Q rest (a.put o.dst undef) w') : wpList P ops Q (o :: rest) a w := by
  obtain ⟨w', h2, h3, h4⟩ := blk_storeAll (P := P) (ty := ty) h hl h1 hi
  exact wpList_storeV hgd x y ho hx hy h2 (hK w' h3 h4)
theorem blk_new_at {w : World} {cs : Array Value} {t : TypeId} {g : Nat} (hg : w.heap.size = g) : Blk (w.alloc (.cells cs t)) g t cs := by subst hg; exact Blk.new _ _ _
theorem below_own {w w' : World} {B : Nat} {e : TypeId} {size n : Nat} {v : Value} {xs : List Value} (h : w.ownsRow B e size v n xs) (hg : w.grownBy w' v.ownBlock) (hB : B ≤ w.heap.size) : Below B w w' :=
  ⟨hg.os, hg.tape, hg.output, hg.size, fun i hi => hg.block i (by omega) (fun e' => by
    rcases h.2 with ⟨rfl, _⟩ | ⟨g, _, _, rfl, h1, _⟩
    · cases e'
    · simp only [Value.ownBlock] at e'
      injection e' with e'
      omega)⟩
theorem own_form {w : World} {B : Nat} {e : TypeId} {size n : Nat} {v : Value} {xs : List Value} (h : w.ownsRow B e size v n xs) : ∃ A c, v = .slice A n c ∧ n ≤ c := by
  rcases h.2 with ⟨rfl, rfl⟩ | ⟨g, cap, cur, rfl, _, _, h4, _⟩
  · exact ⟨none, 0, rfl, Nat.le_refl _⟩
  · exact ⟨_, _, rfl, h4⟩
theorem own_below {w w' : World} {B : Nat} {e : TypeId} {size n : Nat} {v : Value} {xs : List Value} (h : w.ownsRow B e size v n xs) (hb : Below w.heap.size w w') : w'.ownsRow B e size v n xs :=
  h.kept (only_of_below hb none) (by
    rcases h.2 with ⟨rfl, _⟩ | ⟨g, _, _, rfl, h1, _⟩
    · exact .inl rfl
    · exact .inr (by simp [Value.ownBlock]))
theorem add_zero_addr2 (g j : Nat) : (⟨g, 0, none⟩ : Addr).add j = ⟨g, j, none⟩ := by
  unfold Addr.add
  split
  · rename_i q; subst q; rfl
  · simp
theorem blk_at {w : World} {g : Nat} {t : TypeId} {vs : List Value} (h : Blk w g t vs.toArray) : ∀ j u, vs[j]? = some u → w.cell? ((⟨g, 0, none⟩ : Addr).add j) = some u := fun j u hu => by
  rw [add_zero_addr2, Blk.cell h j]; simpa using hu
/-- a block that is not the row's -/
theorem row_kept {w w' : World} {B b : Nat} {e : TypeId} {size n : Nat} {v : Value} {xs : List Value} (h : w.ownsRow B e size v n xs) (hg : w.grownBy w' (some b)) (hne : ∀ cur, w.heap[b]? ≠ some (.cells cur e (0, 0))) : w'.ownsRow B e size v n xs :=
  h.kept hg (by
    rcases h.2 with ⟨rfl, _⟩ | ⟨g, _, cur, rfl, _, h1, _⟩
    · exact .inl rfl
    · refine .inr (fun q => ?_)
      simp only [Value.ownBlock] at q
      injection q with q
      subst q
      exact hne cur h1)
theorem Blk.notT {w : World} {g : Nat} {t e : TypeId} {cs : Array Value} (h : Blk w g t cs) (ht : t ≠ e) : ∀ cur, w.heap[g]? ≠ some (.cells cur e (0, 0)) := fun cur q => by
  unfold Blk at h
  rw [h] at q
  injection q with q
  injection q with _ q
  exact ht q
/-- a row's own block, if it has one -/
theorem row_block {w w' : World} {B : Nat} {e : TypeId} {size n : Nat} {v : Value} {xs : List Value} (h : w.ownsRow B e size v n xs) (hg : w.grownBy w' v.ownBlock) : Below w.heap.size w w' ∨ ∃ b cs, w.grownBy w' (some b) ∧ Blk w b e cs := by
  rcases h.2 with ⟨rfl, _⟩ | ⟨g, _, cur, rfl, _, h1, _⟩
  · exact .inl ⟨hg.os, hg.tape, hg.output, hg.size, fun i hi => hg.block i hi (by simp [Value.ownBlock])⟩
  · exact .inr ⟨g, cur, hg, h1⟩
/-- an entry in memory: its number, its id (where it lies, its bytes), its token -/
structure CX where
  seq : Int
  A : Option Addr
  n : Nat
  c : Nat
  bs : List Int
  tok : List Int
/-- an entry by itself -/
structure CE where
  seq : Int
  bs : List Int
  tok : List Int
def CX.e (x : CX) : CE := ⟨x.seq, x.bs, x.tok⟩
def CX.zero : CX := ⟨0, none, 0, 0, [], List.replicate 16 0⟩
def CX.vs (x : CX) : List Value := .int .u64 x.seq :: .slice x.A x.n x.c :: x.tok.map (Value.int .u8)
structure CX.Ok (w : World) (x : CX) : Prop where
  sl : SlT w (.slice x.A x.n x.c) x.bs
  byt : Byt x.bs
  len : x.bs.length ≤ 1000
  tl : x.tok.length = 16
  tb : Byt x.tok
def vsE (l : List CX) : List Value := l.flatMap CX.vs
section
variable {w w' : World} {x : CX} {l : List CX}
theorem CX.Ok.n (h : x.Ok w) : x.n = x.bs.length := by
  obtain ⟨A, c, e, _⟩ := h.sl
  injection e
theorem CX.Ok.rd (h : x.Ok w) : Rd w.heap.size .u8 w x.A x.bs := by
  obtain ⟨A, c, e, _, h2, _⟩ := h.sl
  injection e with e1 _ _
  subst e1
  exact h2
theorem CX.Ok.below (h : x.Ok w) (hb : Below w.heap.size w w') : x.Ok w' := ⟨h.sl.below hb, h.byt, h.len, h.tl, h.tb⟩
theorem CX.Ok.grown {b : Nat} (h : x.Ok w) (hg : w.grownBy w' (some b)) (ht : ∀ cur, w.heap[b]? ≠ some (.cells cur 5 (0, 0))) : x.Ok w' := ⟨h.sl.grown2 hg ht, h.byt, h.len, h.tl, h.tb⟩
theorem CX.vs_len (h : x.tok.length = 16) : x.vs.length = 18 := by simp [CX.vs, h]
theorem vsE_len : ∀ (l : List CX), (∀ x ∈ l, x.tok.length = 16) → (vsE l).length = l.length * 18
  | [], _ => rfl
  | x :: l, h => by
    have ih := vsE_len l (fun y hy => h y (List.mem_cons_of_mem _ hy))
    unfold vsE at ih ⊢
    rw [List.flatMap_cons, List.length_append, ih, CX.vs_len (h x (List.mem_cons_self ..)), List.length_cons]
    omega
theorem vsE_get : ∀ (l : List CX) (i j : Nat) (v : Value), (∀ x ∈ l, x.tok.length = 16) → i < l.length → (l.getD i CX.zero).vs[j]? = some v → (vsE l)[i * 18 + j]? = some v
  | [], i, j, v, _, h, _ => absurd h (Nat.not_lt_zero i)
  | x :: l, 0, j, v, ht, h, hv => by
    have hj : j < x.vs.length := by
      rcases Nat.lt_or_ge j x.vs.length with q | q
      · exact q
      · rw [List.getD_cons_zero, List.getElem?_eq_none q] at hv; cases hv
    unfold vsE
    rw [List.flatMap_cons, Nat.zero_mul, Nat.zero_add, List.getElem?_append_left hj]
    exact hv
  | x :: l, i + 1, j, v, ht, h, hv => by
    have ih := vsE_get l i j v (fun y hy => ht y (List.mem_cons_of_mem _ hy)) (by simpa using h) (by rw [List.getD_cons_succ] at hv; exact hv)
    unfold vsE at ih ⊢
    have hx : x.vs.length = 18 := CX.vs_len (ht x (List.mem_cons_self ..))
    rw [List.flatMap_cons, List.getElem?_append_right (by omega), hx, show (i + 1) * 18 + j - 18 = i * 18 + j by omega]
    exact ih
end
/-- a slice of entries, in a row of the call's own -/
def EntR (B : Nat) (w : World) (v : Value) (l : List CX) : Prop := w.ownsRow B 47 18 v l.length (vsE l) ∧ ∀ x ∈ l, x.Ok w
theorem memD {l : List CX} {i : Nat} (h : i < l.length) : l.getD i CX.zero ∈ l := by
  rw [List.getD_eq_getElem?_getD, List.getElem?_eq_getElem h]
  exact List.getElem_mem h
theorem EntR.below {B : Nat} {w w' : World} {v : Value} {l : List CX} (h : EntR B w v l) (hb : Below w.heap.size w w') : EntR B w' v l := ⟨own_below h.1 hb, fun x hx => (h.2 x hx).below hb⟩
/-- another block is turned -/
theorem EntR.grown {B b : Nat} {w w' : World} {v : Value} {l : List CX} (h : EntR B w v l) (hg : w.grownBy w' (some b)) (hne : v.ownBlock ≠ some b) (ht : ∀ cur, w.heap[b]? ≠ some (.cells cur 5 (0, 0))) : EntR B w' v l := ⟨h.1.kept hg (.inr hne), fun x hx => (h.2 x hx).grown hg ht⟩
/-- entry i of a slice, its cells -/
theorem EntR.cells {B g n c : Nat} {w : World} {l : List CX} (h : EntR B w (.slice (some ⟨g, 0, none⟩) n c) l) {i : Nat} (hi : i < l.length) (j : Nat) (v : Value) (hv : (l.getD i CX.zero).vs[j]? = some v) : w.cell? ⟨g, i * 18 + j, none⟩ = some v := by
  have := h.1.cells (g := g) rfl (i * 18 + j) v (vsE_get l i j v (fun x hx => (h.2 x hx).tl) hi hv)
  rwa [add_zero_addr2] at this
theorem EntR.form {B : Nat} {w : World} {v : Value} {l : List CX} (h : EntR B w v l) : (v = .slice none 0 0 ∧ l = []) ∨ ∃ g c, v = .slice (some ⟨g, 0, none⟩) l.length c ∧ B ≤ g ∧ g < w.heap.size ∧ l.length ≤ c := by
  rcases h.1.2 with ⟨h1, h2⟩ | ⟨g, cap, cur, h1, h2, h3, h4, _⟩
  · exact .inl ⟨h1, List.length_eq_zero_iff.1 h2⟩
  · exact .inr ⟨g, cap, h1, h2, (Array.getElem?_eq_some_iff.1 h3).1, h4⟩
theorem infoE : (Try.prog.info? 47).map (fun i => (i.zero, i.size, i.bytes)) = some (some (.agg #[.int .u64 0, .slice none 0 0, .int .u8 0, .int .u8 0, .int .u8 0, .int .u8 0, .int .u8 0, .int .u8 0, .int .u8 0, .int .u8 0, .int .u8 0, .int .u8 0, .int .u8 0, .int .u8 0, .int .u8 0, .int .u8 0, .int .u8 0, .int .u8 0]), 18, 48) := by kernel_rfl
theorem sizeE : (Try.prog.info? 47).map (·.size) = some 18 := by kernel_rfl
end Go.Proofs.Ytghjlndkleclfaa
