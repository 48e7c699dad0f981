
/- Layer 26: contracts of New, Fail, and of calls of no store. Conditions: as each theorem states them. -/
import Derived.Test.YtibjafkclojimaaD14
namespace Go.Proofs.Ytibjafkclojimaa
open Go.RowKit
theorem new_any (w : World) : Calls Try.prog 5 #[] w fun e w' => ∃ g, e = .returned (.pointer (some ⟨g, 0, none⟩)) ∧ StB g w' [] [] false 0 false ∧ w.heap.size ≤ g ∧ Below w.heap.size w w' := by
  go_enter Try.func5, Try.ntmps5
  go_wp2_with fail
  go_ret
  exact ⟨_, rfl, ⟨_, _, Blk.new _ _ _, SlT.nil _, SlT.nil _⟩, Nat.le_refl _, (Below.refl _ _).alloc (Nat.le_refl _) _⟩
theorem st_cells {g : Nat} {c0 c1 c2 c3 c4 : Value} {v : World} (h : Blk v g 53 #[c0, c1, c2, c3, c4]) : v.cell? ⟨g, 0, none⟩ = some c0 ∧ v.cell? ⟨g, 1, none⟩ = some c1 ∧ v.cell? ⟨g, 2, none⟩ = some c2 ∧ v.cell? ⟨g, 3, none⟩ = some c3 ∧ v.cell? ⟨g, 4, none⟩ = some c4 :=
  ⟨Blk.cell h 0, Blk.cell h 1, Blk.cell h 2, Blk.cell h 3, Blk.cell h 4⟩
set_option maxRecDepth 100000 in
set_option maxHeartbeats 1000000 in
theorem fail_any (g : Nat) (L0 L1 : List Int) (f t : Bool) (a x : Int) (w : World) (h : StB g w L0 L1 f a t) :
    Calls Try.prog 10 #[.pointer (some ⟨g, 0, none⟩), .int .i64 x] w fun e w' => e = .returned (.tuple #[]) ∧ StB g w' L0 L1 true x t ∧ w.grownBy w' (some g) := by
  obtain ⟨v0, v1, h1, h2, h3⟩ := h
  have H1 := Lib.hid h1
  have H2 := Lib.hid h2
  have H3 := Lib.hid h3
  obtain ⟨c0, c1, c2, c3, c4⟩ := st_cells h1
  have f2 := h1.frozen 2
  have f3 := h1.frozen 3
  have G : ∀ u v, Hid (w.grownBy ((w.setCell ⟨g, 2, none⟩ u).setCell ⟨g, 3, none⟩ v) (some g)) := fun u v => Lib.hid (only_setCell (p := ⟨g, 3, none⟩) (only_setCell (p := ⟨g, 2, none⟩) (World.grownBy.refl w (some g)) (.inl rfl) u) (.inl rfl) v)
  have K : Hid (Blk ((w.setCell ⟨g, 2, none⟩ (.bool true)).setCell ⟨g, 3, none⟩ (.int .i64 x)) g 53 #[v0, v1, .bool true, .int .i64 x, .bool t]) := Lib.hid (Blk.cast ((h1.set_ 2 _).set_ 3 _) (by simp))
  clear h1 h2 h3
  go_enter Try.func10, Try.ntmps10
  go_wp2_with fail
  exact bodyPost_end (results_none rfl _ _ _) rfl ⟨rfl, ⟨v0, v1, K.out, H2.out.grown (G _ _).out H1.out (by decide), H3.out.grown (G _ _).out H1.out (by decide)⟩, (G _ _).out⟩
theorem fail_nil (x : Int) (w : World) : Calls Try.prog 10 #[.pointer none, .int .i64 x] w fun e w' => e = .returned (.tuple #[]) ∧ w = w' := by
  go_enter Try.func10, Try.ntmps10
  go_wp2_with fail
  exact bodyPost_end (results_none rfl _ _ _) rfl ⟨rfl, rfl⟩
theorem write_nil (ep ow nx sn : Int) (A : Option Addr) (n cap : Nat) (w : World) : Calls Try.prog 6 #[.pointer none, .agg #[.int .u64 ep, .int .u8 ow, .int .u64 nx, .int .u64 sn, .slice A n cap]] w fun e w' => e = .returned (.int .i64 1) ∧ Below w.heap.size w w' := by
  have B0 := Lib.hid ((Below.refl w.heap.size w).alloc (Nat.le_refl _) (.cells #[.int .u64 ep, .int .u8 ow, .int .u64 nx, .int .u64 sn, .slice A n cap] 31))
  go_enter Try.func6, Try.ntmps6
  go_wp2_with fail
  go_ret
  exact ⟨rfl, B0.out⟩
theorem read_nil (w : World) : Calls Try.prog 8 #[.pointer none] w fun e w' => e = .returned (.tuple #[.agg #[.int .u64 0, .int .u8 0, .int .u64 0, .int .u64 0, .slice none 0 0], .bool false]) ∧ Below w.heap.size w w' := by
  have B0 : Hid (Below w.heap.size w (w.alloc (.cells #[.int .u64 0, .int .u8 0, .int .u64 0, .int .u64 0, .slice none 0 0] 31))) := Lib.hid ((Below.refl _ _).alloc (Nat.le_refl _) _)
  have Z0 : Hid (Blk (w.alloc (.cells #[.int .u64 0, .int .u8 0, .int .u64 0, .int .u64 0, .slice none 0 0] 31)) w.heap.size 31 #[.int .u64 0, .int .u8 0, .int .u64 0, .int .u64 0, .slice none 0 0]) := Lib.hid (Blk.new _ _ _)
  go_enter Try.func8, Try.ntmps8
  go_wp2_with (first
    | ((with_reducible (show wpList _ _ _ (⟨some 8, .load _ _, _, _, _, _⟩ :: _) _ _)); refine wpList_loadV (o := ⟨some 8, .load _ _, _, _, _, _⟩) rfl _ rfl rfl (cb_load Z0.out) ?_)
    | ((with_reducible (show wpList _ _ _ (⟨none, .store 31 _ _, _, _, _, _⟩ :: _) _ _)); go_loud (refine wpList_storeBlk (o := ⟨none, .store 31 _ _, _, _, _, _⟩) (g := w.heap.size) (t := 31) (vs := [.int .u64 0, .int .u8 0, .int .u64 0, .int .u64 0, .slice none 0 0]) rfl _ _ rfl rfl rfl Z0.out rfl (one5 rfl rfl rfl rfl rfl) size5 ?_); intro w2 z2 g2; have Z2 := Lib.hid z2; have B2 := Lib.hid (B0.out.trans (below_of_only (B := w.heap.size) g2 (Nat.le_refl _) (by simp))); clear z2 g2))
  exact bodyPost_ret (results_rd rfl rfl Z2.out) rfl ⟨rfl, B2.out⟩
end Go.Proofs.Ytibjafkclojimaa
