/- Contracts of kdf.Label and the reference's Label. Conditions: as each theorem states them. -/
import Derived.Test.YthpacdondnenmaaK9
import Derived.Test.YthpacdondnenmaaBS
import Derived.Deep.Cut
namespace Go.Proofs.Ythpacdondnenmaa
open Go.RowKit
def infoL (n : Int) (s : ByteArray) (C : List Int) : List Int := [n / 256 % 256, n % 256, (6 + (s.size : Int)) % 256] ++ ([116, 108, 115, 49, 51, 32] ++ strL s) ++ [(C.length : Int) % 256] ++ C
def labelL (S : List Int) (s : ByteArray) (C : List Int) (n : Int) : List Int := if n < 1 ∨ 8160 < n ∨ 249 < s.size ∨ 255 < C.length then [] else expL S (infoL n s C) n
theorem infoL_eq (n : Int) (s : ByteArray) (C : List Int) : infoL n s C = [n / 256 % 256, n % 256, (6 + (s.size : Int)) % 256] ++ ([116, 108, 115, 49, 51, 32] ++ strL s) ++ [(C.length : Int) % 256] ++ C := rfl
theorem infoL_len (n : Int) (s : ByteArray) (C : List Int) : (infoL n s C).length = 10 + s.size + C.length := by
  unfold infoL; simp only [List.length_append, List.length_cons, List.length_nil, strL_len]; omega
theorem infoL_byt (n : Int) (s : ByteArray) {C : List Int} (h : Byt C) : Byt (infoL n s C) := by
  unfold infoL
  refine Byt.append (Byt.append (Byt.append ?_ (Byt.append ?_ (strL_byt s))) ?_) h
  · exact Byt.cons (by omega) (Byt.cons (by omega) (Byt.cons (by omega) Byt.nil))
  · intro x hx; simp at hx; omega
  · exact Byt.cons (by omega) Byt.nil
theorem labelL_in (S : List Int) (s : ByteArray) (C : List Int) (n : Int) (h : ¬ (n < 1 ∨ 8160 < n ∨ 249 < s.size ∨ 255 < C.length)) : labelL S s C n = expL S (infoL n s C) n := by unfold labelL; rw [if_neg h]
theorem labelL_out (S : List Int) (s : ByteArray) (C : List Int) (n : Int) (h : n < 1 ∨ 8160 < n ∨ 249 < s.size ∨ 255 < C.length) : labelL S s C n = [] := by unfold labelL; rw [if_pos h]
attribute [irreducible] infoL labelL

set_option maxRecDepth 100000 in
set_option maxHeartbeats 4000000 in
theorem label_in (S : List Int) (s : ByteArray) (A : Option Addr) (c : Nat) (C : List Int) (N : Nat) (w : World) (hS : S.length = 32) (hSb : Byt S) (hr : Rd w.heap.size .u8 w A C) (hb : Byt C) (hC : C.length ≤ 255) (hs : s.size ≤ 249) (h1 : 1 ≤ N) (h2 : N ≤ 8160) :
    Calls Try.prog 44 #[.agg (cellsL .u8 S), .string s, .slice A C.length c, .int .i64 N] w (SliPost (expL S (infoL N s C) (N : Int)) w) := by
  have HR := Lib.hid hr
  have HBY := Lib.hid hb
  have HS := Lib.hid hS
  have HSB := Lib.hid hSb
  clear hr hb hS hSb
  have SA : Hid (Arr (w.alloc (.cells (cellsL .u8 S) 22)) w.heap.size 22 .u8 S) := Lib.hid (Arr.newAt rfl rfl)
  have BA : Hid (Below w.heap.size w (w.alloc (.cells (cellsL .u8 S) 22))) := Lib.hid ((Below.refl _ _).alloc (Nat.le_refl _) _)
  have z0 : w.heap.size < (w.alloc (.cells (cellsL .u8 S) 22)).heap.size := by simp
  have HI := Lib.hid (infoL_eq (N : Int) s C)
  have HIB := Lib.hid (infoL_byt (N : Int) s HBY.out)
  have HIL := Lib.hid (infoL_len (N : Int) s C)
  have hcl : (C.length : Int) % 256 = C.length := by omega
  have HCL := Lib.hid hcl
  clear hcl
  obtain ⟨u, hu⟩ : ∃ u : ByteArray, (⟨#[116, 108, 115, 49, 51, 32]⟩ ++ s : ByteArray) = u := ⟨_, rfl⟩
  have HU : Hid (strL u = [116, 108, 115, 49, 51, 32] ++ strL s) := Lib.hid (by rw [← hu, strL_append]; rfl)
  have HSZ : Hid ((strL u).length = 6 + s.size) := Lib.hid (by rw [HU.out, List.length_append, strL_len]; rfl)
  have HSS : Hid (u.size = 6 + s.size) := Lib.hid (by rw [← strL_len]; exact HSZ.out)
  go_enter Try.func44, Try.ntmps44
  go_upto_region 3 with (fail)
  generalize w.alloc (.cells (cellsL .u8 S) 22) = w1 at *
  have R1 := Lib.hid ((HR.out.below BA.out (Nat.le_refl _)).mono BA.out.size)
  have L1 : Hid (∀ V1 V2 V3 : Int, Own w1.heap.size 5 .u8 (w1.alloc (.cells #[.int .u8 V1, .int .u8 V2, .int .u8 V3] 5)) (some ⟨w1.heap.size, 0, none⟩) 3 3 [V1, V2, V3]) := Lib.hid (fun V1 V2 V3 => Own.litAt rfl rfl rfl (Nat.le_refl _) (by simp [maxLen]))
  go_wp2_with (first
    | ((with_reducible (show wpList _ _ _ (⟨some 38, _, _, _, _, _⟩ :: _) _ _)); refine wpList_appStr (o := ⟨some 38, _, _, _, _, _⟩) elU8 Try.underlying9 rfl _ _ rfl rfl rfl (L1.out _ _ _) ?_ ?_ ?_; (rw [HSS.out]; simp only [List.length_cons, List.length_nil]; omega); (simp); intro A5 n5 c5 w5 q5 q6; have O5 := Lib.hid q5; have B5 := Lib.hid (((Below.refl w1.heap.size w1).alloc (Nat.le_refl _) _).trans q6); clear q5 q6)
    | ((with_reducible (show wpList _ _ _ (⟨some 44, _, _, _, _, _⟩ :: _) _ _)); refine wpList_app (o := ⟨some 44, _, _, _, _, _⟩) elU8 rfl _ _ rfl rfl rfl (O5.out.alloc _) (Rd.newAt (xs := [_]) rfl rfl) rfl ?_ ?_ ?_; (simp only [List.length_cons, List.length_append, HSZ.out, List.length_nil]; omega); (exact (B5.out.alloc B5.out.size _).size); intro A6 n6 c6 w6 q6; have O6 := Lib.hid q6.1; have B6 := Lib.hid ((B5.out.alloc B5.out.size _).trans q6.2.2.1); have R6 := Lib.hid (R1.out.below B6.out (Nat.le_refl _)); clear q6)
    | ((with_reducible (show wpList _ _ _ (⟨some 46, _, _, _, _, _⟩ :: _) _ _)); refine wpList_app (o := ⟨some 46, _, _, _, _, _⟩) elU8 rfl _ _ rfl rfl rfl O6.out R6.out rfl ?_ ?_ ?_; (simp only [List.length_cons, List.length_append, HSZ.out, List.length_nil]; omega); (exact B6.out.size); intro A7 n7 c7 w7 q7; have O7 := Lib.hid q7.1; have B7 := Lib.hid (B6.out.trans q7.2.2.1); have S7 := Lib.hid (SA.out.below B7.out z0); clear q7)
    | (with_reducible (show wpList _ _ _ (⟨some 47, _, _, _, _, _⟩ :: _) _ _); refine wpList_loadArr (o := ⟨some 47, _, _, _, _, _⟩) (g := w.heap.size) (t := 22) (k := .u8) (xs := S) (n := 32) rfl _ rfl rfl S7.out Try.underlying22 size32 HS.out.symm ?_))
  have O8 : Hid (Own w1.heap.size 5 .u8 w7 A7 n7 c7 (infoL N s C)) := Lib.hid (Own.cast O7.out (by
    rw [HI.out, HU.out]
    simp only [List.cons_append, List.nil_append, List.append_assoc]
    rw [HCL.out]
    congr 1
    · omega
    · congr 2
      omega))
  have HN7 := Lib.hid O8.out.len
  have hc7 := O8.out.cap
  refine Calls.mono (expand_any S A7 c7 (infoL N s C) (N : Int) _ HN7.out.symm HS.out HSB.out O8.out.rd HIB.out (by rw [← HN7.out]; exact hc7.1) (by rw [HIL.out]; omega)) ?_
  rintro e w8 ⟨A8, n8, c8, rfl, hn8, hc8, hr8, hb8⟩
  have R8 := Lib.hid hr8
  have N8 := Lib.hid hn8
  have B8 := Lib.hid ((BA.out.trans (B7.out.mono BA.out.size)).trans (hb8.mono (Nat.le_trans BA.out.size B7.out.size)))
  clear hr8 hn8 hb8
  go_wp2_with fail
  go_ret
  exact ⟨A8, n8, c8, rfl, N8.out, hc8, R8.out, B8.out⟩
set_option maxHeartbeats 1000000 in
theorem label_any (S : List Int) (s : ByteArray) (A : Option Addr) (c : Nat) (C : List Int) (n : Int) (w : World) (hS : S.length = 32) (hSb : Byt S) (hr : Rd w.heap.size .u8 w A C) (hb : Byt C) (hC : C.length ≤ 140737488351232) (hs : s.size ≤ 140737488351232) :
    Calls Try.prog 44 #[.agg (cellsL .u8 S), .string s, .slice A C.length c, .int .i64 n] w (SliPost (labelL S s C n) w) := by
  by_cases h : n < 1 ∨ 8160 < n ∨ 249 < s.size ∨ 255 < C.length
  · have HE := Lib.hid (labelL_out S s C n h)
    clear hr hb hS hSb
    have hx : SliPost (labelL S s C n) w (.returned (.slice none 0 0)) (w.alloc (.cells (cellsL .u8 S) 22)) := ⟨none, 0, 0, rfl, by rw [HE.out]; rfl, Nat.le_refl _, by rw [HE.out]; exact Rd.nil, (Below.refl _ _).alloc (Nat.le_refl _) _⟩
    have HX := Lib.hid hx
    clear hx
    by_cases h1 : n < 1
    · clear h
      go_enter Try.func44, Try.ntmps44
      go_wp2_with fail
      go_ret
      exact HX.out
    by_cases h2 : 8160 < n
    · clear h
      go_enter Try.func44, Try.ntmps44
      go_wp2_with fail
      go_ret
      exact HX.out
    by_cases h3 : 249 < s.size
    · clear h
      go_enter Try.func44, Try.ntmps44
      go_wp2_with fail
      go_ret
      exact HX.out
    have h4 : 255 < C.length := by omega
    clear h
    go_enter Try.func44, Try.ntmps44
    go_wp2_with fail
    go_ret
    exact HX.out
  · rw [labelL_in S s C n h]
    obtain ⟨N, rfl⟩ : ∃ N : Nat, n = (N : Int) := ⟨n.toNat, by omega⟩
    exact label_in S s A c C N w hS hSb hr hb (by omega) (by omega) (by omega) (by omega)
set_option maxRecDepth 100000 in
set_option maxHeartbeats 4000000 in
theorem rlabel_inF (S : List Int) (s : ByteArray) (A : Option Addr) (c : Nat) (C : List Int) (N : Nat) (w : World) (hS : S.length = 32) (hSb : Byt S) (hr : Rd w.heap.size .u8 w A C) (hb : Byt C) (hC : C.length ≤ 255) (hs : s.size ≤ 249) (h1 : 1 ≤ N) (h2 : N ≤ 8160) :
    Calls Try.prog 48 #[.agg (cellsL .u8 S), .string s, .slice A C.length c, .int .i64 N] w (SliF (expL S (infoL N s C) (N : Int)) w) := by
  have HR := Lib.hid hr
  have HBY := Lib.hid hb
  have HS := Lib.hid hS
  have HSB := Lib.hid hSb
  clear hr hb hS hSb
  have SA : Hid (Arr (w.alloc (.cells (cellsL .u8 S) 22)) w.heap.size 22 .u8 S) := Lib.hid (Arr.newAt rfl rfl)
  have BA : Hid (Below w.heap.size w (w.alloc (.cells (cellsL .u8 S) 22))) := Lib.hid ((Below.refl _ _).alloc (Nat.le_refl _) _)
  have z0 : w.heap.size < (w.alloc (.cells (cellsL .u8 S) 22)).heap.size := by simp
  have HI := Lib.hid (infoL_eq (N : Int) s C)
  have HIB := Lib.hid (infoL_byt (N : Int) s HBY.out)
  have HIL := Lib.hid (infoL_len (N : Int) s C)
  have hcl : (C.length : Int) % 256 = C.length := by omega
  have HCL := Lib.hid hcl
  clear hcl
  go_enter Try.func48, Try.ntmps48
  go_upto_region 3 with (fail)
  generalize w.alloc (.cells (cellsL .u8 S) 22) = w1 at *
  have R1 := Lib.hid ((HR.out.below BA.out (Nat.le_refl _)).mono BA.out.size)
  have L1 : Hid (∀ V1 V2 V3 : Int, Own w1.heap.size 5 .u8 (w1.alloc (.cells #[.int .u8 V1, .int .u8 V2, .int .u8 V3, .int .u8 116, .int .u8 108, .int .u8 115, .int .u8 49, .int .u8 51, .int .u8 32] 5)) (some ⟨w1.heap.size, 0, none⟩) 9 9 [V1, V2, V3, 116, 108, 115, 49, 51, 32]) := Lib.hid (fun V1 V2 V3 => Own.litAt rfl rfl rfl (Nat.le_refl _) (by simp [maxLen]))
  have HSL := Lib.hid (strL_len s)
  go_wp2_with (first
    | ((with_reducible (show wpList _ _ _ (⟨some 39, _, _, _, _, _⟩ :: _) _ _)); refine wpList_appStr (o := ⟨some 39, _, _, _, _, _⟩) elU8 Try.underlying9 rfl _ _ rfl rfl rfl (L1.out _ _ _) ?_ ?_ ?_; (simp only [List.length_cons, List.length_nil]; omega); (simp); intro A5 n5 c5 w5 q5 q6; have O5 := Lib.hid q5; have B5 := Lib.hid (((Below.refl w1.heap.size w1).alloc (Nat.le_refl _) _).trans q6); clear q5 q6)
    | ((with_reducible (show wpList _ _ _ (⟨some 45, _, _, _, _, _⟩ :: _) _ _)); refine wpList_app (o := ⟨some 45, _, _, _, _, _⟩) elU8 rfl _ _ rfl rfl rfl (O5.out.alloc _) (Rd.newAt (xs := [_]) rfl rfl) rfl ?_ ?_ ?_; (simp only [List.length_cons, List.length_append, HSL.out, List.length_nil]; omega); (exact (B5.out.alloc B5.out.size _).size); intro A6 n6 c6 w6 q6; have O6 := Lib.hid q6.1; have B6 := Lib.hid ((B5.out.alloc B5.out.size _).trans q6.2.2.1); have R6 := Lib.hid (R1.out.below B6.out (Nat.le_refl _)); clear q6)
    | ((with_reducible (show wpList _ _ _ (⟨some 47, _, _, _, _, _⟩ :: _) _ _)); refine wpList_app (o := ⟨some 47, _, _, _, _, _⟩) elU8 rfl _ _ rfl rfl rfl O6.out R6.out rfl ?_ ?_ ?_; (simp only [List.length_cons, List.length_append, HSL.out, List.length_nil]; omega); (exact B6.out.size); intro A7 n7 c7 w7 q7; have O7 := Lib.hid q7.1; have B7 := Lib.hid (B6.out.trans q7.2.2.1); have S7 := Lib.hid (SA.out.below B7.out z0); clear q7)
    | (with_reducible (show wpList _ _ _ (⟨some 48, _, _, _, _, _⟩ :: _) _ _); refine wpList_loadArr (o := ⟨some 48, _, _, _, _, _⟩) (g := w.heap.size) (t := 22) (k := .u8) (xs := S) (n := 32) rfl _ rfl rfl S7.out Try.underlying22 size32 HS.out.symm ?_))
  have O8 : Hid (Own w1.heap.size 5 .u8 w7 A7 n7 c7 (infoL N s C)) := Lib.hid (Own.cast O7.out (by
    rw [HI.out]
    simp only [List.cons_append, List.nil_append, List.append_assoc]
    rw [HCL.out]
    congr 1
    · omega
    · congr 2
      omega))
  have HN7 := Lib.hid O8.out.len
  have hc7 := O8.out.cap
  refine Calls.mono (rexpand_anyF S A7 c7 (infoL N s C) (N : Int) _ HN7.out.symm HS.out HSB.out O8.out.rd HIB.out (by rw [HIL.out]; omega)) ?_
  rintro e w8 ⟨A8, n8, c8, rfl, hn8, hc8, hr8, hb8, hf8⟩
  have F8 : Hid (∀ ad, A8 = some ad → w.heap.size ≤ ad.block) := Lib.hid (fun ad h => by
    have h1 := hf8 ad h
    have h2 := (BA.out.trans (B7.out.mono BA.out.size)).size
    omega)
  have R8 := Lib.hid hr8
  have N8 := Lib.hid hn8
  have B8 := Lib.hid ((BA.out.trans (B7.out.mono BA.out.size)).trans (hb8.mono (Nat.le_trans BA.out.size B7.out.size)))
  clear hr8 hn8 hb8 hf8
  go_wp2_with fail
  go_ret
  exact ⟨A8, n8, c8, rfl, N8.out, hc8, R8.out, B8.out, F8.out⟩
set_option maxHeartbeats 1000000 in
theorem rlabel_anyF (S : List Int) (s : ByteArray) (A : Option Addr) (c : Nat) (C : List Int) (n : Int) (w : World) (hS : S.length = 32) (hSb : Byt S) (hr : Rd w.heap.size .u8 w A C) (hb : Byt C) (hC : C.length ≤ 140737488351232) (hs : s.size ≤ 140737488351232) :
    Calls Try.prog 48 #[.agg (cellsL .u8 S), .string s, .slice A C.length c, .int .i64 n] w (SliF (labelL S s C n) w) := by
  by_cases h : n < 1 ∨ 8160 < n ∨ 249 < s.size ∨ 255 < C.length
  · have HE := Lib.hid (labelL_out S s C n h)
    clear hr hb hS hSb
    have hx : SliF (labelL S s C n) w (.returned (.slice none 0 0)) (w.alloc (.cells (cellsL .u8 S) 22)) := ⟨none, 0, 0, rfl, by rw [HE.out]; rfl, Nat.le_refl _, by rw [HE.out]; exact Rd.nil, (Below.refl _ _).alloc (Nat.le_refl _) _, fun _ h => by cases h⟩
    have HX := Lib.hid hx
    clear hx
    by_cases h1 : n < 1
    · clear h
      go_enter Try.func48, Try.ntmps48
      go_wp2_with fail
      go_ret
      exact HX.out
    by_cases h2 : 8160 < n
    · clear h
      go_enter Try.func48, Try.ntmps48
      go_wp2_with fail
      go_ret
      exact HX.out
    by_cases h3 : 249 < s.size
    · clear h
      go_enter Try.func48, Try.ntmps48
      go_wp2_with fail
      go_ret
      exact HX.out
    have h4 : 255 < C.length := by omega
    clear h
    go_enter Try.func48, Try.ntmps48
    go_wp2_with fail
    go_ret
    exact HX.out
  · rw [labelL_in S s C n h]
    obtain ⟨N, rfl⟩ : ∃ N : Nat, n = (N : Int) := ⟨n.toNat, by omega⟩
    exact rlabel_inF S s A c C N w hS hSb hr hb (by omega) (by omega) (by omega) (by omega)
theorem rlabel_any (S : List Int) (s : ByteArray) (A : Option Addr) (c : Nat) (C : List Int) (n : Int) (w : World) (hS : S.length = 32) (hSb : Byt S) (hr : Rd w.heap.size .u8 w A C) (hb : Byt C) (hC : C.length ≤ 140737488351232) (hs : s.size ≤ 140737488351232) :
    Calls Try.prog 48 #[.agg (cellsL .u8 S), .string s, .slice A C.length c, .int .i64 n] w (SliPost (labelL S s C n) w) := (rlabel_anyF S s A c C n w hS hSb hr hb hC hs).mono fun _ _ h => h.sli
end Go.Proofs.Ythpacdondnenmaa
