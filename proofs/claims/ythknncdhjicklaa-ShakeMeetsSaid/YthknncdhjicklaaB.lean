/- Slices of integers that read as lists; slices that the call itself made (append); conversions to strings; slicing. Conditions: as each theorem states them. -/
import Derived.Test.YthknncdhjicklaaW
import Derived.Laws.BytesArg
namespace Go.Proofs.Ythknncdhjicklaa
open Go.RowKit

/-- in w the slice at A reads as the integers xs, of kind k, in a block below B -/
def Rd (B : Nat) (k : IntKind) (w : World) (A : Option Addr) (xs : List Int) : Prop :=
  ∀ i, i < xs.length → ∃ ad, A = some ad ∧ ad.block < B ∧ w.cell? (ad.add i) = some (.int k (xs.getD i 0))
/-- bytes -/
def Byt (xs : List Int) : Prop := ∀ x ∈ xs, 0 ≤ x ∧ x < 256
def Wrd (xs : List Int) : Prop := ∀ x ∈ xs, 0 ≤ x ∧ x < 4294967296
theorem getD_mem_or {xs : List Int} (i : Nat) : xs.getD i 0 ∈ xs ∨ xs.getD i 0 = 0 := by
  rcases Nat.lt_or_ge i xs.length with h | h
  · exact .inl (by rw [List.getD_eq_getElem?_getD, List.getElem?_eq_getElem h]; simp)
  · exact .inr (by rw [List.getD_eq_getElem?_getD, List.getElem?_eq_none h]; rfl)
theorem Byt.getD {xs : List Int} (h : Byt xs) (i : Nat) : 0 ≤ xs.getD i 0 ∧ xs.getD i 0 < 256 := by
  rcases getD_mem_or (xs := xs) i with g | g
  · exact h _ g
  · rw [g]; decide
theorem Wrd.getD {xs : List Int} (h : Wrd xs) (i : Nat) : 0 ≤ xs.getD i 0 ∧ xs.getD i 0 < 4294967296 := by
  rcases getD_mem_or (xs := xs) i with g | g
  · exact h _ g
  · rw [g]; decide
theorem Byt.nil : Byt [] := fun x hx => by simp at hx
theorem Byt.cons {x : Int} {xs : List Int} (hx : 0 ≤ x ∧ x < 256) (h : Byt xs) : Byt (x :: xs) := fun y hy => by
  rcases List.mem_cons.1 hy with rfl | hy
  · exact hx
  · exact h y hy
theorem Byt.append {xs ys : List Int} (h : Byt xs) (k : Byt ys) : Byt (xs ++ ys) := fun x hx => (List.mem_append.1 hx).elim (h x) (k x)
theorem Byt.take {xs : List Int} (h : Byt xs) (n : Nat) : Byt (xs.take n) := fun x hx => h x (List.mem_of_mem_take hx)
theorem Byt.drop {xs : List Int} (h : Byt xs) (n : Nat) : Byt (xs.drop n) := fun x hx => h x (List.mem_of_mem_drop hx)

section
variable {B B' : Nat} {k : IntKind} {w w' : World} {A : Option Addr} {xs : List Int}
theorem Rd.nil : Rd B k w A [] := fun i hi => by simp at hi
theorem Rd.mono (h : Rd B k w A xs) (hB : B ≤ B') : Rd B' k w A xs := fun i hi => by
  obtain ⟨ad, e, hb, hc⟩ := h i hi; exact ⟨ad, e, by omega, hc⟩
theorem Rd.keep (h : Rd B k w A xs) (hk : ∀ p : Addr, p.block < B → w'.cell? p = w.cell? p) : Rd B k w' A xs := fun i hi => by
  obtain ⟨ad, e, hb, hc⟩ := h i hi
  exact ⟨ad, e, hb, (hk _ (by rw [block_of_add]; exact hb)).trans hc⟩
theorem Rd.below {N : Nat} (h : Rd B k w A xs) (hb : Below N w w') (hB : B ≤ N) : Rd B k w' A xs := h.keep fun p hp => hb.cell (by omega)
theorem Rd.drew (h : Rd B k w A xs) : Rd B k w.drew A xs := h
theorem Rd.drewN (h : Rd B k w A xs) (n : Nat) : Rd B k (w.drewN n) A xs := h
theorem Rd.alloc (h : Rd B k w A xs) (hB : B ≤ w.heap.size) (o : Obj) : Rd B k (w.alloc o) A xs := h.keep fun p hp => World.cell?_alloc_lt w o p (by omega)
theorem Rd.setCell (h : Rd B k w A xs) {p : Addr} (hB : B ≤ p.block) (u : Value) : Rd B k (w.setCell p u) A xs :=
  h.keep fun q hq => World.cell?_setCell_other w p q u (fun e => by subst e; omega)
theorem Rd.grown {row : Option Nat} (h : Rd B k w A xs) (hg : w.grownBy w' row) (hB : B ≤ w.heap.size) (hr : ∀ g, row = some g → B ≤ g) : Rd B k w' A xs :=
  h.keep fun p hp => World.cell?_of_block (hg.block p.block (by omega) (fun e => by have := hr _ e.symm; omega))
/-- another block was written -/
theorem Rd.far {g : Nat} (h : Rd B k w A xs) (hg : w.grownBy w' (some g)) (hB : B ≤ w.heap.size) (hne : ∀ ad, A = some ad → ad.block ≠ g) : Rd B k w' A xs := fun i hi => by
  obtain ⟨ad, e, hb, hc⟩ := h i hi
  exact ⟨ad, e, hb, (World.cell?_of_block (hg.block _ (by rw [block_of_add]; omega) (fun e' => hne ad e (by rw [block_of_add] at e'; injection e')))).trans hc⟩
theorem Rd.reads (h : Rd B k w A xs) : Reads w B 1 A xs.length (xs.map (Value.int k)) := by
  refine ⟨by simp, fun hn => ?_⟩
  obtain ⟨ad, rfl, hb, _⟩ := h 0 hn
  refine ⟨ad, rfl, hb, fun j u hu => ?_⟩
  simp only [List.getElem?_map, Option.map_eq_some_iff] at hu
  obtain ⟨x, hx, rfl⟩ := hu
  have hj : j < xs.length := by
    rcases Nat.lt_or_ge j xs.length with g | g
    · exact g
    · rw [List.getElem?_eq_none g] at hx; cases hx
  obtain ⟨ad', e, _, hc⟩ := h j hj
  injection e with e
  subst e
  rw [hc, List.getD_eq_getElem?_getD, hx]
  rfl
theorem Rd.of_reads {n : Nat} (h : Reads w B 1 A n (xs.map (Value.int k))) : Rd B k w A xs := fun i hi => by
  have hn : n = xs.length := by have := h.1; simp at this; omega
  obtain ⟨ad, e, hb, hc⟩ := h.2 (by omega)
  exact ⟨ad, e, hb, hc i _ (by simp [List.getElem?_map, List.getD_eq_getElem?_getD, List.getElem?_eq_getElem hi])⟩
theorem Rd.hx (h : Rd B k w A xs) {i : Nat} (hi : i < xs.length) : ∃ ad x, A = some ad ∧ ad.block < B ∧ w.cell? (ad.add i) = some (.int k x) ∧ Hid (xs.getD i 0 = x) := by
  obtain ⟨ad, e, hb, hc⟩ := h i hi; exact ⟨ad, _, e, hb, hc, Lib.hid rfl⟩
theorem Rd.lt_of (h : Rd B k w A xs) {i : Nat} (hi : i < xs.length) : ∃ ad, A = some ad ∧ ad.block < B ∧ w.cell? (ad.add i) = some (.int k (xs.getD i 0)) := h i hi
theorem Rd.isSome (h : Rd B k w A xs) (hn : 0 < xs.length) : ∃ ad, A = some ad ∧ ad.block < B := by obtain ⟨ad, e, hb, _⟩ := h 0 hn; exact ⟨ad, e, hb⟩
theorem Rd.at_ {ad : Addr} (h : Rd B k w (some ad) xs) {i : Nat} (hi : i < xs.length) : w.cell? (ad.add i) = some (.int k (xs.getD i 0)) := by
  obtain ⟨ad', e, _, hc⟩ := h i hi
  injection e with e
  subst e
  exact hc
/-- at a numeral's place, as the walk spells it -/
theorem Rd.at0 {ad : Addr} (h : Rd B k w (some ad) xs) (hi : 0 < xs.length) : w.cell? ad = some (.int k (xs.getD 0 0)) := by
  have := h.at_ hi
  simpa [Addr.add] using this
theorem Rd.atN {ad : Addr} (h : Rd B k w (some ad) xs) (i : Nat) (hi : i < xs.length) (h0 : i ≠ 0) : w.cell? ⟨ad.block, ad.off + i, none⟩ = some (.int k (xs.getD i 0)) := by
  have := h.at_ hi
  unfold Addr.add at this
  rwa [if_neg h0] at this
theorem Rd.new (w : World) (e : TypeId) (k : IntKind) (xs : List Int) : Rd (w.heap.size + 1) k (w.alloc (.cells (xs.map (Value.int k)).toArray e)) (some ⟨w.heap.size, 0, none⟩) xs := fun i hi =>
  ⟨_, rfl, Nat.lt_succ_self _, by
    have h := Blk.cell (Blk.new w e (xs.map (Value.int k)).toArray) i
    have e1 : (⟨w.heap.size, 0, none⟩ : Addr).add i = ⟨w.heap.size, i, none⟩ := by unfold Addr.add; split <;> simp_all
    rw [e1, h]
    simp [List.getElem?_map, List.getD_eq_getElem?_getD, List.getElem?_eq_getElem hi]⟩
/-- a block that was just made, its number as the walk spells it -/
theorem Rd.newAt {w : World} {g : Nat} {e : TypeId} {k : IntKind} {cs : Array Value} {xs : List Int} (hg : w.heap.size = g) (hc : cs = (xs.map (Value.int k)).toArray) : Rd (g + 1) k (w.alloc (.cells cs e)) (some ⟨g, 0, none⟩) xs := by
  subst hg; subst hc; exact Rd.new w e k xs
theorem Rd.cut (h : Rd B k w A xs) (l m c : Nat) (hl : l + m ≤ xs.length) (hc : xs.length ≤ c) : Rd B k w (if c = l then A else A.map (·.add (l * 1))) ((xs.drop l).take m) := fun i hi => by
  simp at hi
  obtain ⟨ad, rfl, hb, hc'⟩ := h (l + i) (by omega)
  rw [if_neg (by omega)]
  refine ⟨ad.add (l * 1), rfl, by rw [block_of_add]; exact hb, ?_⟩
  rw [add_of_add, Nat.mul_one, hc']
  simp [List.getD_eq_getElem?_getD, List.getElem?_drop, show i < m by omega]
end

/-- the types: T a slice of e, e an integer of one cell -/
structure ElT (P : Program) (t e : TypeId) (k : IntKind) (bytes : Nat) : Prop where
  ht : P.underlying t = some (.slice e)
  he : P.underlying e = some (.int k)
  info : (P.info? e).map (fun i => (i.zero, i.size, i.bytes)) = some (some (.int k 0), 1, bytes)
  most : bytes ≤ 8
theorem ElT.size {P : Program} {t e : TypeId} {k : IntKind} {bytes : Nat} (E : ElT P t e k bytes) (w : World) : (sizeOf e).run P w = .ok 1 w := by
  obtain ⟨i, hi, _, hs, _⟩ := info_parts E.info
  simp [sizeOf, typeInfo, hi, hs]
theorem ElT.elem {P : Program} {t e : TypeId} {k : IntKind} {bytes : Nat} (E : ElT P t e k bytes) : P.elem t = e := by
  simp [Program.elem, E.ht]

section
variable {P : Program} {t e : TypeId} {k : IntKind} {bytes : Nat} {B : Nat} {w : World} {A : Option Addr} {xs : List Int} {c : Nat}

theorem slice_lh (E : ElT P t e k bytes) (hr : Rd B k w A xs) (hc : xs.length ≤ c) (l h : Int) (m : Nat) (h0 : 0 ≤ l) (h1 : l ≤ h) (h2 : h ≤ xs.length) (hm : (m : Int) = h - l) :
    ∃ A' c', m ≤ c' ∧ c' ≤ c ∧ Rd B k w A' ((xs.drop l.toNat).take m) ∧ ((xs.drop l.toNat).take m).length = m ∧
      ∀ (w : World) (kl kh : IntKind), (Instr.sliceAt t (.slice A xs.length c) (some (.int kl l)) (some (.int kh h)) none).run P w = .ok (.slice A' m c') w := by
  refine ⟨_, c - l.toNat, by omega, by omega, hr.cut l.toNat m c (by omega) hc, by simp; omega, fun w kl kh => ?_⟩
  rw [run_sliceAt_slice _ _ _ _ _ _ (by rw [E.elem]; exact E.ht), run_slice_lh _ _ _ _ _ (by rw [E.elem]; exact E.ht) kl kh l h h0 h1 (by omega), E.elem, E.size]
  simp [Result.andThen, sliced, show h.toNat - l.toNat = m by omega]
theorem slice_l (E : ElT P t e k bytes) (hr : Rd B k w A xs) (hc : xs.length ≤ c) (l : Int) (m : Nat) (h0 : 0 ≤ l) (h2 : l ≤ xs.length) (hm : (m : Int) = xs.length - l) :
    ∃ A' c', m ≤ c' ∧ c' ≤ c ∧ Rd B k w A' (xs.drop l.toNat) ∧ (xs.drop l.toNat).length = m ∧
      ∀ (w : World) (kl : IntKind), (Instr.sliceAt t (.slice A xs.length c) (some (.int kl l)) none none).run P w = .ok (.slice A' m c') w := by
  have hcut := hr.cut l.toNat m c (by omega) hc
  rw [List.take_of_length_le (by simp; omega)] at hcut
  refine ⟨_, c - l.toNat, by omega, by omega, hcut, by simp; omega, fun w kl => ?_⟩
  rw [run_sliceAt_slice _ _ _ _ _ _ (by rw [E.elem]; exact E.ht), run_slice_l _ _ _ _ _ (by rw [E.elem]; exact E.ht) kl l h0 h2, E.elem, E.size]
  simp [Result.andThen, sliced, show xs.length - l.toNat = m by omega]
theorem slice_h (E : ElT P t e k bytes) (hr : Rd B k w A xs) (hc : xs.length ≤ c) (h : Int) (m : Nat) (h2 : h ≤ xs.length) (hm : (m : Int) = h) :
    ∃ A' c', m ≤ c' ∧ c' ≤ c ∧ Rd B k w A' (xs.take m) ∧ (xs.take m).length = m ∧
      ∀ (w : World) (kh : IntKind), (Instr.sliceAt t (.slice A xs.length c) none (some (.int kh h)) none).run P w = .ok (.slice A' m c') w := by
  have hcut := hr.cut 0 m c (by omega) hc
  rw [List.drop_zero] at hcut
  refine ⟨_, c, by omega, Nat.le_refl _, hcut, by simp; omega, fun w kh => ?_⟩
  rw [run_sliceAt_slice _ _ _ _ _ _ (by rw [E.elem]; exact E.ht), run_slice_h _ _ _ _ _ (by rw [E.elem]; exact E.ht) kh h (by omega) (by omega), E.elem, E.size]
  simp [Result.andThen, sliced, show h.toNat = m by omega]

/-- a slice of bytes as a string -/
theorem conv_rd (E : ElT P t e .u8 bytes) {s : TypeId} (hs : P.underlying s = some .string) (hr : Rd B .u8 w A xs) (c : Nat) :
    (convert t s (.slice A xs.length c)).run P w = .ok (.string (strOfNums xs)) w := by
  rw [run_convert_bytes_string w t s e A xs.length c E.ht E.he hs]
  rcases A with _ | ad
  · have : xs = [] := by
      rcases xs with _ | ⟨x, r⟩
      · rfl
      · obtain ⟨ad, h, _⟩ := hr 0 (by simp); cases h
    subst this
    simp [Conv.bytesToString, strOfNums]
    rfl
  · have hl : (loadCells ad xs.length).run P w = .ok (xs.map (Value.int .u8)).toArray w := by
      have := run_loadCells_list (P := P) w ad (xs.map (Value.int .u8)) (fun j v hj => by
        simp only [List.getElem?_map, Option.map_eq_some_iff] at hj
        obtain ⟨x, hx, rfl⟩ := hj
        have hj : j < xs.length := by
          rcases Nat.lt_or_ge j xs.length with g | g
          · exact g
          · rw [List.getElem?_eq_none g] at hx; cases hx
        rw [hr.at_ hj, List.getD_eq_getElem?_getD, hx]
        rfl)
      simpa using this
    rw [run_bytesToString w ad xs.length c xs hl, foldl_push_bytes]
    simp [strOfNums, ByteArray.empty, ByteArray.emptyWithCapacity]
    rfl
end
theorem strOfNums_inj {xs ys : List Int} (hx : Byt xs) (hy : Byt ys) (h : strOfNums xs = strOfNums ys) : xs = ys := by
  have h1 : (xs.map fun n => UInt8.ofNat n.toNat) = ys.map fun n => UInt8.ofNat n.toNat := by
    rw [← strOfNums_data, ← strOfNums_data, h]
  induction xs generalizing ys with
  | nil => cases ys with
    | nil => rfl
    | cons y ys => simp at h1
  | cons x xs ih => cases ys with
    | nil => simp at h1
    | cons y ys =>
      simp only [List.map_cons, List.cons.injEq] at h1
      have e1 := congrArg UInt8.toNat h1.1
      have b1 := hx x (by simp)
      have b2 := hy y (by simp)
      simp at e1
      rw [ih (fun z hz => hx z (by simp [hz])) (fun z hz => hy z (by simp [hz])) (by unfold strOfNums; rw [h1.2]) h1.2]
      congr 1
      omega
theorem str_eq {xs ys : List Int} (hx : Byt xs) (hy : Byt ys) : ((strOfNums xs).toList == (strOfNums ys).toList) = decide (xs = ys) := by
  rw [Bool.eq_iff_iff]
  simp only [beq_iff_eq, decide_eq_true_eq, ByteArray.toList_eq]
  refine ⟨fun h => strOfNums_inj hx hy ?_, fun h => by rw [h]⟩
  have e : (strOfNums xs).data = (strOfNums ys).data := Array.toList_inj.1 h
  cases hX : strOfNums xs
  cases hY : strOfNums ys
  rw [hX, hY] at e
  simp at e
  rw [e]

/-- a slice of the call's own, whose block is B or later -/
def Own (B : Nat) (e : TypeId) (k : IntKind) (w : World) (A : Option Addr) (n c : Nat) (xs : List Int) : Prop :=
  w.ownsRow B e 1 (.slice A n c) n (xs.map (Value.int k)) ∧ n = xs.length
section
variable {B : Nat} {e : TypeId} {k : IntKind} {w w' : World} {A : Option Addr} {n c : Nat} {xs : List Int}
theorem Own.nil (B : Nat) (e : TypeId) (k : IntKind) (w : World) : Own B e k w none 0 0 [] := ⟨World.ownsRow_nil w B e 1, rfl⟩
theorem Own.rd (h : Own B e k w A n c xs) : Rd w.heap.size k w A xs := Rd.of_reads (Reads.of_own h.1)
theorem Own.len (h : Own B e k w A n c xs) : n = xs.length := h.2
theorem Own.cap (h : Own B e k w A n c xs) : n ≤ c ∧ c ≤ maxLen := by
  rcases h.1.2 with ⟨h1, h2⟩ | ⟨g, cap, cur, h1, _, _, h4, h5, _⟩
  · injection h1 with _ _ h3; subst h3; subst h2; exact ⟨Nat.le_refl _, Nat.zero_le _⟩
  · injection h1 with _ _ h3; subst h3; exact ⟨h4, h5⟩
theorem Own.block (h : Own B e k w A n c xs) : ∀ ad, A = some ad → B ≤ ad.block ∧ ad.block < w.heap.size := fun ad hA => h.1.lt ad.block (by subst hA; rfl)
theorem Own.kept {row : Option Nat} (h : Own B e k w A n c xs) (hg : w.grownBy w' row) (hne : ∀ ad, A = some ad → some ad.block ≠ row) : Own B e k w' A n c xs :=
  ⟨h.1.kept hg (by
    rcases A with _ | ad
    · exact .inl rfl
    · exact .inr (hne ad rfl)), h.2⟩
theorem Own.same (h : Own B e k w A n c xs) (hs : ∀ ad, A = some ad → w'.heap[ad.block]? = w.heap[ad.block]?) : Own B e k w' A n c xs := by
  refine ⟨⟨h.1.1, h.1.2.imp id ?_⟩, h.2⟩
  rintro ⟨g, cap, cur, h1, h2, h3, h4⟩
  have hA : A = some ⟨g, 0, none⟩ := by injection h1
  exact ⟨g, cap, cur, h1, h2, (hs _ hA).trans h3, h4⟩
theorem Own.below (h : Own B e k w A n c xs) (hb : Below w.heap.size w w') : Own B e k w' A n c xs :=
  h.kept (only_of_below hb none) (fun _ _ e => by cases e)
theorem Own.alloc (h : Own B e k w A n c xs) (o : Obj) : Own B e k (w.alloc o) A n c xs := ⟨h.1.alloc o, h.2⟩
theorem Own.drew (h : Own B e k w A n c xs) : Own B e k w.drew A n c xs := h
theorem Own.drewN (h : Own B e k w A n c xs) (m : Nat) : Own B e k (w.drewN m) A n c xs := h
theorem Own.mono {B' : Nat} (h : Own B e k w A n c xs) (hB : B' ≤ B) : Own B' e k w A n c xs := ⟨⟨h.1.1, h.1.2.imp id (fun ⟨g, cap, cur, h1, h2, h3⟩ => ⟨g, cap, cur, h1, by omega, h3⟩)⟩, h.2⟩
theorem Own.lit (w : World) (e : TypeId) (k : IntKind) (xs : List Int) (hB : B ≤ w.heap.size) (hm : xs.length ≤ maxLen) :
    Own B e k (w.alloc (.cells (xs.map (Value.int k)).toArray e)) (some ⟨w.heap.size, 0, none⟩) xs.length xs.length xs := by
  refine ⟨?_, rfl⟩
  have := World.ownsRow_lit (e := e) (size := 1) (base := B) w (xs.map (Value.int k)).toArray xs.length hB hm (by simp)
  simpa using this
end
theorem Own.litAt {B : Nat} {e : TypeId} {k : IntKind} {w : World} {g n : Nat} {cs : Array Value} {xs : List Int} (hg : w.heap.size = g) (hc : cs = (xs.map (Value.int k)).toArray) (hn : n = xs.length) (hB : B ≤ g) (hm : xs.length ≤ maxLen) :
    Own B e k (w.alloc (.cells cs e)) (some ⟨g, 0, none⟩) n n xs := by
  subst hg; subst hc; subst hn; exact Own.lit w e k xs hB hm
theorem conv_own {P : Program} {t e : TypeId} {bytes B : Nat} {w : World} {A : Option Addr} {n c : Nat} {xs : List Int} (E : ElT P t e .u8 bytes) {s : TypeId} (hs : P.underlying s = some .string) (ho : Own B e .u8 w A n c xs) :
    (convert t s (.slice A n c)).run P w = .ok (.string (strOfNums xs)) w := by
  obtain rfl := ho.2
  exact conv_rd E hs ho.rd c
def ablk (A : Option Addr) : Option Nat := A.map (·.block)
theorem ownBlock_slice (A : Option Addr) (n c : Nat) : (Value.slice A n c).ownBlock = ablk A := by cases A <;> rfl

/-- what an append leaves -/
def Apd (B : Nat) (e : TypeId) (k : IntKind) (w : World) (A : Option Addr) (zs : List Int) (A' : Option Addr) (n' c' : Nat) (w' : World) : Prop :=
  Own B e k w' A' n' c' zs ∧ w.grownBy w' (ablk A) ∧ Below B w w' ∧ (A' = A ∨ ∃ b, A' = some b ∧ w.heap.size ≤ b.block)
theorem append_own {P : Program} {t e : TypeId} {k : IntKind} {bytes B B2 : Nat} {w : World} {A A2 : Option Addr} {n c m c2 : Nat} {xs ys : List Int} (E : ElT P t e k bytes) (ty : TypeId) (ho : Own B e k w A n c xs) (hr : Rd B2 k w A2 ys) (hm : m = ys.length)
    (hl0 : xs.length + ys.length ≤ 17592186044416) (hB : B ≤ w.heap.size) :
    ∃ A' n' c' w', (Builtin.append_ #[t, t] ty #[.slice A n c, .slice A2 m c2]).run P w = .ok (.slice A' n' c') w' ∧ Apd B e k w A (xs ++ ys) A' n' c' w' := by
  subst hm
  have hl : (xs.length + ys.length) * bytes ≤ 140737488355328 := Nat.le_trans (Nat.mul_le_mul hl0 E.most) (by decide)
  have hl' : xs.length + ys.length ≤ maxLen := Nat.le_trans hl0 (by decide)
  obtain ⟨i, hi, hz, hs, hby⟩ := info_parts E.info
  have hn := ho.2
  subst hn
  obtain ⟨v', w', hrun, h2, h3, h4⟩ := run_append_any (P := P) w B t ty e i (.int k 0) 1 bytes E.ht hi hz hs hby rfl (by decide) _ _ _ ho.1 B2 A2 ys.length c2 _ hr.reads (ints_oneCell k ys) hl' hl hB
  have hbel : Below B w w' := ⟨h3.os, h3.tape, h3.output, h3.size, fun i hi' => h3.block i (by omega) (fun e' => by
    rw [ownBlock_slice] at e'
    rcases A with _ | ad
    · cases e'
    · have := ho.block ad rfl
      simp [ablk] at e'
      omega)⟩
  rw [ownBlock_slice] at h3
  rcases h2.2 with ⟨hv, hn⟩ | ⟨g, cap, cur, hv, hg⟩
  · have hnil : xs ++ ys = [] := List.eq_nil_of_length_eq_zero (by rw [List.length_append]; omega)
    refine ⟨none, 0, 0, w', by rw [hrun, hv], ⟨by rw [hnil]; exact Own.nil _ _ _ _, h3, hbel, ?_⟩⟩
    rw [hv, ownBlock_slice] at h4
    rcases h4 with h4 | h4
    · left; rcases A with _ | ad
      · rfl
      · simp [ablk, Value.ownBlock] at h4
    · simp [ablk] at h4
  · refine ⟨some ⟨g, 0, none⟩, xs.length + ys.length, cap, w', by rw [hrun, hv], ⟨⟨?_, by simp⟩, h3, hbel, ?_⟩⟩
    · rw [hv] at h2
      rw [List.map_append]
      exact h2
    · rw [hv, ownBlock_slice] at h4
      rcases h4 with h4 | h4
      · left
        rcases A with _ | ad
        · simp [ablk, Value.ownBlock] at h4
        · rcases ho.1.2 with ⟨h1, _⟩ | ⟨g', cap', cur', h1, _⟩
          · cases h1
          · injection h1 with h1
            injection h1 with h1
            subst h1
            simp [ablk, Value.ownBlock] at h4
            rw [h4]
      · right
        exact ⟨_, rfl, by simp [ablk] at h4; simp [h4]⟩
theorem wpList_app {P : Program} {t e : TypeId} {k : IntKind} {bytes B B2 : Nat} {w : World} {A A2 : Option Addr} {n c m c2 : Nat} {xs ys : List Int} {ops : Array Oper} {rest : List Oper} {o : Oper} {a : Act} {Q : Exit → Act → World → Prop}
    (E : ElT P t e k bytes) (hgd : o.guard = none) (s x : Operand) (hop : o.op = .call { callee := .builtin .append, args := #[s, x], argTypes := #[t, t] })
    (hs : a.eval s = .slice A n c) (hx : a.eval x = .slice A2 m c2) (ho : Own B e k w A n c xs) (hr : Rd B2 k w A2 ys) (hm : m = ys.length) (hl : xs.length + ys.length ≤ 17592186044416) (hB : B ≤ w.heap.size)
    (h : ∀ A' n' c' w', Apd B e k w A (xs ++ ys) A' n' c' w' → wpList P ops Q rest (a.put o.dst (.slice A' n' c')) w') : wpList P ops Q (o :: rest) a w := by
  refine wpList_plain hgd fun K hK => ?_
  obtain ⟨A', n', c', w', hrun, hA⟩ := append_own (c2 := c2) E o.type ho hr hm hl hB
  unfold Oper.wp execOp
  simp only [hop, resolve, invoke, builtin, Sem.run_bind, Sem.run_pure, Result.andThen_ok, List.map_toArray, List.map_cons, List.map_nil, hs, hx, hrun]
  exact hK _ _ (h A' n' c' w' hA)
theorem step_app {P : Program} {t e : TypeId} {k : IntKind} {bytes B B2 : Nat} {w : World} {A A2 : Option Addr} {n c m c2 : Nat} {xs ys : List Int} {ops : Array Oper} {o : Oper} {a : Act} {K : Act → World → Prop} {Q : Exit → Act → World → Prop} {F : Prop}
    (E : ElT P t e k bytes) (hgd : o.guard = none) (s x : Operand) (hop : o.op = .call { callee := .builtin .append, args := #[s, x], argTypes := #[t, t] })
    (hs : a.eval s = .slice A n c) (hx : a.eval x = .slice A2 m c2) (ho : Own B e k w A n c xs) (hr : Rd B2 k w A2 ys) (hm : m = ys.length) (hl : xs.length + ys.length ≤ 17592186044416) (hB : B ≤ w.heap.size)
    (h : ∀ A' n' c' w', Apd B e k w A (xs ++ ys) A' n' c' w' → K (a.put o.dst (.slice A' n' c')) w') : if Region.wanted o (yielded ops a.tmps) = true then Oper.wp P o a w K Q else F := by
  have hw : Region.wanted o (yielded ops a.tmps) = true := by simp [Region.wanted, hgd]
  rw [if_pos hw]
  obtain ⟨A', n', c', w', hrun, hA⟩ := append_own (c2 := c2) E o.type ho hr hm hl hB
  unfold Oper.wp execOp
  simp only [hop, resolve, invoke, builtin, Sem.run_bind, Sem.run_pure, Result.andThen_ok, List.map_toArray, List.map_cons, List.map_nil, hs, hx, hrun]
  exact h A' n' c' w' hA
/-- a call that hands back a slice of its own -/
def RetOwn (t : TypeId) (k : IntKind) (L : List Int) (w : World) (e : Ending) (w' : World) : Prop :=
  ∃ A n c, e = .returned (.slice A n c) ∧ Own w.heap.size t k w' A n c L ∧ Below w.heap.size w w'
def RetOwn2 (t : TypeId) (k : IntKind) (L : List Int) (v : Value) (w : World) (e : Ending) (w' : World) : Prop :=
  ∃ A n c, e = .returned (.tuple #[.slice A n c, v]) ∧ Own w.heap.size t k w' A n c L ∧ Below w.heap.size w w'
theorem RetOwn.cast {t : TypeId} {k : IntKind} {L L' : List Int} {w : World} {e : Ending} {w' : World} (h : RetOwn t k L w e w') (hL : L = L') : RetOwn t k L' w e w' := hL ▸ h
end Go.Proofs.Ythknncdhjicklaa
