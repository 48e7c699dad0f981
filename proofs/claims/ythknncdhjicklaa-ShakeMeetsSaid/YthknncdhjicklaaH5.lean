/- Layer 21: contracts of secret, sum, notes. Conditions: as each theorem states them. -/
import Derived.Test.YthknncdhjicklaaH4
namespace Go.Proofs.Ythknncdhjicklaa
open Go.RowKit
def zer (n : Nat) : List Int := List.replicate n 0
theorem zer_len (n : Nat) : (zer n).length = n := by simp [zer]
/-- 32 bytes that are expanded -/
def secL (S : List Int) (s : ByteArray) (C : List Int) : List Int := labelL S s C 32
theorem secL_len (S : List Int) (s : ByteArray) (C : List Int) (h3 : s.size ≤ 249) (h4 : C.length ≤ 255) : (secL S s C).length = 32 := by
  unfold secL
  rw [labelL_in S s C 32 (by omega)]; exact expL_len S _ (N := 32) (by omega) (by omega)
theorem secL_byt (S : List Int) (s : ByteArray) (C : List Int) : Byt (secL S s C) := by
  unfold secL
  by_cases h : (32 : Int) < 1 ∨ (8160 : Int) < 32 ∨ 249 < s.size ∨ 255 < C.length
  · rw [labelL_out S s C 32 h]; exact Byt.nil
  · rw [labelL_in S s C 32 h]; exact expL_byt S _ 32
attribute [irreducible] secL
theorem label_sec (S : List Int) (s : ByteArray) (A : Option Addr) (n c : Nat) (C : List Int) (w : World) (hS : S.length = 32) (hSb : Byt S) (hr : Rd w.heap.size .u8 w A C) (hn : C.length = n) (hb : Byt C) (hC : n ≤ 255) (hs : s.size ≤ 249) :
    Calls Try.prog 32 #[.agg (cellsL .u8 S), .string s, .slice A n c, .int .i64 32] w (SliPost (secL S s C) w) := by
  subst hn
  unfold secL
  exact label_any S s A c C 32 w hS hSb hr hb (by omega) (by omega)
set_option maxRecDepth 100000 in
set_option maxHeartbeats 8000000 in
theorem secret_any (S : List Int) (s : ByteArray) (A : Option Addr) (n c : Nat) (C : List Int) (w : World) (hS : S.length = 32) (hSb : Byt S) (hr : Rd w.heap.size .u8 w A C) (hn : C.length = n) (hb : Byt C) (hC : n ≤ 255) (hs : s.size ≤ 249) : Calls Try.prog 28 #[.agg (cellsL .u8 S), .string s, .slice A n c] w (ArrPost (secL S s C) w) := by
  have HS := Lib.hid hS
  have HSB := Lib.hid hSb
  have HSS := Lib.hid hs
  have HR := Lib.hid hr
  have HN := Lib.hid hn
  have HB := Lib.hid hb
  clear hS hSb hs hr hn hb
  go_enter Try.func28, Try.ntmps28
  go_wp2_with ((with_reducible (show wpList _ _ _ (⟨some 7, .load _ _, _, _, _, _⟩ :: _) _ _)); refine wpList_loadV (o := ⟨some 7, .load _ _, _, _, _, _⟩) rfl _ rfl rfl (arr_load ((Arr.newAt rfl rfl).alloc _) Try.underlying22 size32 HS.out.symm) ?_)
  refine Calls.mono (label_sec S s A n c C _ HS.out HSB.out (((HR.out.alloc (Nat.le_refl _) _).alloc (by simp) _).mono (by simp <;> omega)) HN.out HB.out hC HSS.out) ?_
  rintro e w3 ⟨A3, n3, c3, rfl, hn3, hc3, hr3, hb3⟩
  have B3 : Hid (Below w.heap.size w w3) := Lib.hid ((((Below.refl _ _).alloc (Nat.le_refl _) _).alloc (by simp) _).trans (hb3.mono (by simp <;> omega)))
  have Z3 : Hid (Blk w3 (w.heap.size + 1) 22 (cellsL .u8 (zer 32))) := Lib.hid (blk_below_new hb3 (by simp) (by simp))
  have R3 := Lib.hid hr3
  have K3 : Hid ((secL S s C).length = 32) := Lib.hid (secL_len S s C HSS.out (by rw [HN.out]; exact hC))
  have N3 : Hid (n3 = 32) := Lib.hid (by rw [hn3, K3.out])
  have T3 : Hid ((secL S s C).take 32 = secL S s C) := Lib.hid (List.take_of_length_le (by rw [K3.out]; exact Nat.le_refl _))
  clear hn3 hc3 hr3 hb3
  have hl8 : (Instr.loadAt 22 (.pointer A3)).run Try.prog w3 = .ok (.agg (cellsL .u8 (secL S s C))) w3 := by
    have := rd_loadArr R3.out Try.underlying22 size32 (by rw [K3.out]; exact Nat.le_refl _) (by decide)
    rwa [T3.out] at this
  have L8 := Lib.hid hl8
  clear hl8
  obtain ⟨w6, hs6, hz6, hg6⟩ := blk_storeAll (P := Try.prog) (ty := 22) (vs := b8 (secL S s C)) Z3.out (by rw [b8_len, K3.out, cellsL_size, zer_len]) (b8_one _) (by rw [b8_len, K3.out]; exact size32)
  have S6 := Lib.hid hs6
  have Z6 := Lib.hid hz6
  have G6 := Lib.hid hg6
  clear hs6 hz6 hg6
  go_wp2_with (first
    | ((with_reducible (show wpList _ _ _ (⟨some 11, .sliceToArrayPointer _ _, _, _, _, _⟩ :: _) _ _)); refine wpList_arrayAt (o := ⟨some 11, .sliceToArrayPointer _ _, _, _, _, _⟩) rfl _ rfl rfl (arrayAt_run Try.underlying22 A3 c3 (by rw [N3.out]; exact Nat.le_refl _) _) ?_)
    | ((with_reducible (show wpList _ _ _ (⟨some 12, .load _ _, _, _, _, _⟩ :: _) _ _)); refine wpList_loadV (o := ⟨some 12, .load _ _, _, _, _, _⟩) rfl _ rfl rfl (L8.out) ?_)
    | ((with_reducible (show wpList _ _ _ (⟨none, .store 22 _ _, _, _, _, _⟩ :: _) _ _)); refine wpList_storeV (o := ⟨none, .store 22 _ _, _, _, _, _⟩) rfl _ _ rfl rfl rfl (S6.out) ?_))
  refine ret_row rfl rfl Z6.out Try.underlying22 rfl (by rw [List.size_toArray, b8_len, K3.out]; exact size32) rfl ⟨rfl, ?_⟩
  exact B3.out.trans (below_of_only G6.out (by omega) B3.out.size)
end Go.Proofs.Ythknncdhjicklaa
