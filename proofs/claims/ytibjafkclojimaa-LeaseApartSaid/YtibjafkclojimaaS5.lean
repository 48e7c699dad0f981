
/- Texts (a slice of slices of bytes), plain laws on feeding, contracts of sha.first and sha.constants. Conditions: as each theorem states them. -/
import Derived.Test.YtibjafkclojimaaS4
import Derived.Test.YtibjafkclojimaaAV
namespace Go.Proofs.Ytibjafkclojimaa
open Go.RowKit

/-- one text -/
structure Tx where
  A : Option Addr
  c : Nat
  xs : List Int
def Tx.none : Tx := ⟨Option.none, 0, []⟩
def Txs (B : Nat) (w : World) (A : Option Addr) (ts : List Tx) : Prop :=
  ∀ i, i < ts.length → ∃ ad, A = some ad ∧ ad.block < B ∧ w.cell? (ad.add i) = some (.slice (ts.getD i Tx.none).A (ts.getD i Tx.none).xs.length (ts.getD i Tx.none).c) ∧ Rd B .u8 w (ts.getD i Tx.none).A (ts.getD i Tx.none).xs ∧ (ts.getD i Tx.none).xs.length ≤ (ts.getD i Tx.none).c
def BytT (ts : List Tx) : Prop := ∀ t ∈ ts, Byt t.xs
def joinT (ts : List Tx) : List Int := ts.flatMap (·.xs)
theorem Txs.below {B N : Nat} {w w' : World} {A : Option Addr} {ts : List Tx} (h : Txs B w A ts) (hb : Below N w w') (hB : B ≤ N) : Txs B w' A ts := fun i hi => by
  obtain ⟨ad, e, h1, h2, h3, h4⟩ := h i hi
  exact ⟨ad, e, h1, Below.cell_some hb h2 (by rw [block_of_add]; omega), h3.below hb hB, h4⟩
theorem Txs.mono {B B' : Nat} {w : World} {A : Option Addr} {ts : List Tx} (h : Txs B w A ts) (hB : B ≤ B') : Txs B' w A ts := fun i hi => by
  obtain ⟨ad, e, h1, h2, h3, h4⟩ := h i hi
  exact ⟨ad, e, by omega, h2, h3.mono hB, h4⟩
theorem Txs.nil {B : Nat} {w : World} {A : Option Addr} : Txs B w A [] := fun i hi => by simp at hi
theorem getD_mem {α : Type} {xs : List α} {z : α} {i : Nat} (h : i < xs.length) : xs.getD i z ∈ xs := by
  rw [List.getD_eq_getElem?_getD, List.getElem?_eq_getElem h]; simp
theorem join_snoc {ts : List Tx} {k : Nat} (h : k < ts.length) : joinT (ts.take (k + 1)) = joinT (ts.take k) ++ (ts.getD k Tx.none).xs := by
  unfold joinT
  rw [List.take_succ_eq_append_getElem h, List.flatMap_append]
  simp [List.getD_eq_getElem?_getD, List.getElem?_eq_getElem h]
theorem join_take_le (ts : List Tx) (k : Nat) : (joinT (ts.take k)).length ≤ (joinT ts).length := by
  have : joinT ts = joinT (ts.take k) ++ joinT (ts.drop k) := by
    unfold joinT; rw [← List.flatMap_append, List.take_append_drop]
  rw [this, List.length_append]; omega
theorem byt_join {ts : List Tx} (h : BytT ts) : Byt (joinT ts) := fun x hx => by
  unfold joinT at hx
  obtain ⟨t, ht, hm⟩ := List.mem_flatMap.1 hx
  exact h t ht x hm
theorem BytT.take {ts : List Tx} (h : BytT ts) (k : Nat) : BytT (ts.take k) := fun t ht => h t (List.mem_of_mem_take ht)

/-- what was fed so far: whole blocks into the state, the rest kept -/
def fedS (Y : List Int) : S8 := comps (Y.length / 64) hL Y
def fedR (Y : List Int) : List Int := Y.drop (64 * (Y.length / 64))
theorem fed_len (Y : List Int) : (fedR Y).length = Y.length % 64 := by unfold fedR; rw [List.length_drop]; omega
theorem fed_ok (Y : List Int) : (fedS Y).Ok := comps_ok hL_ok _ _
theorem fed_more (Y X : List Int) : comps ((fedR Y ++ X).length / 64) (fedS Y) (fedR Y ++ X) = fedS (Y ++ X) ∧ (fedR Y ++ X).drop (64 * ((fedR Y ++ X).length / 64)) = fedR (Y ++ X) := by
  have hd : (Y ++ X).drop (64 * (Y.length / 64)) = fedR Y ++ X := by
    unfold fedR; rw [List.drop_append_of_le_length (by omega)]
  have hlen : (Y ++ X).length / 64 = Y.length / 64 + (fedR Y ++ X).length / 64 := by
    rw [List.length_append, List.length_append, fed_len]; omega
  constructor
  · unfold fedS
    rw [hlen, comps_add, hd, comps_append (Y.length / 64) hL Y X (by omega)]
  · conv => rhs; unfold fedR
    rw [hlen, Nat.mul_add, ← List.drop_drop, hd]
theorem byt_fedR {Y : List Int} (h : Byt Y) : Byt (fedR Y) := h.drop _
theorem shaL_fed (Y : List Int) : shaL Y = outL (fedS (Y ++ padL Y.length)) := by
  unfold shaL fedS shaN
  rw [List.length_append, padL_len, show Y.length + 9 + padN Y.length = Y.length + (9 + padN Y.length) by omega]
attribute [irreducible] fedS fedR joinT

theorem first_any (w : World) : Calls Try.prog 30 #[] w fun e w' => e = .returned (.agg (cellsL .u32 hL.l)) ∧ Below w.heap.size w w' := by
  go_enter Try.func30, Try.ntmps30
  go_wp2_with fail
  refine ret_arr (g := w.heap.size) (t := 77) (k := .u32) (xs := hL.l) rfl rfl (Arr.newAt rfl rfl) Try.underlying77 (by kernel_rfl) rfl rfl ⟨rfl, (Below.refl _ _).alloc (Nat.le_refl _) _⟩

set_option maxRecDepth 100000 in
set_option maxHeartbeats 4000000 in
theorem constants_any (w : World) : Calls Try.prog 31 #[] w fun e w' => e = .returned (.agg (cellsL .u32 kL)) ∧ Below w.heap.size w w' := by
  go_enter Try.func31, Try.ntmps31
  go_wp2_with (refine wpList_storeArr (o := ⟨none, .store _ _ _, _, _, _, _⟩) (k := .u32) (xs := kL) (n := 64) rfl _ _ rfl rfl (by unfold kL; rfl) (Blk.new _ _ _) (by kernel_rfl) (by rw [kL_len]) rfl ?_; intro w1 ha1 hg1)
  exact ret_arr (g := w.heap.size) (t := 79) (k := .u32) (xs := kL) rfl rfl ha1 Try.underlying79 (by kernel_rfl) (by rw [kL_len]) rfl ⟨rfl, ((Below.refl _ _).alloc (Nat.le_refl _) _).trans (below_of_only hg1 (Nat.le_refl _) (by simp))⟩
end Go.Proofs.Ytibjafkclojimaa
