/- Contracts of the reference's Mac, of kdf.Mac and kdf.Extract. Conditions: as each theorem states them. -/
import Derived.Test.YthpacdondnenmaaK1
import Derived.Test.YthpacdondnenmaaQM
namespace Go.Proofs.Ythpacdondnenmaa
open Go.RowKit

/-- a call that hands back an array of bytes -/
def ArrPost (X : List Int) (w : World) (e : Ending) (w' : World) : Prop := e = .returned (.agg (cellsL .u8 X)) ∧ Below w.heap.size w w'

set_option maxRecDepth 100000 in
set_option maxHeartbeats 4000000 in
theorem rmac_any (A : Option Addr) (c : Nat) (K : List Int) (A2 : Option Addr) (c2 : Nat) (T : List Int) (w : World) (hr : Rd w.heap.size .u8 w A K) (hb : Byt K) (hl : K.length ≤ 1000000000) (hr2 : Rd w.heap.size .u8 w A2 T) (hb2 : Byt T) (hl2 : T.length ≤ 1000000000) :
    Calls Try.prog 50 #[.slice A K.length c, .slice A2 T.length c2] w (ArrPost (macL K T) w) := by
  have HR := Lib.hid hr
  have HBY := Lib.hid hb
  have HR2 := Lib.hid hr2
  have HBY2 := Lib.hid hb2
  have HM := Lib.hid (macL_eq K T)
  have HP1 := Lib.hid (blkL_len K 54)
  have HP2 := Lib.hid (blkL_len K 92)
  have HQ1 := Lib.hid (blkL_byt K 54)
  have HQ2 := Lib.hid (blkL_byt K 92)
  clear hr hb hr2 hb2
  go_enter Try.func50, Try.ntmps50
  go_wp2_with fail
  refine Calls.mono (padded_any A c K 54 _ ((HR.out.alloc (Nat.le_refl _) _).mono (by simp)) HBY.out (by omega)) ?_
  rintro e w1 ⟨A3, n3, c3, rfl, ho3, hb3⟩
  have RB1 := Lib.hid (Blk.below (Blk.new w 22 _) hb3 (by simp))
  have B1 := Lib.hid (((Below.refl w.heap.size w).alloc (Nat.le_refl _) _).trans (hb3.mono (by simp)))
  have O1 := Lib.hid ho3
  have R1 := Lib.hid (HR2.out.below B1.out (Nat.le_refl _))
  have hn3 : n3 = 64 := by have := ho3.len; rw [HP1.out] at this; exact this
  subst hn3
  have z1 := B1.out.size
  have z0 : w.heap.size < w1.heap.size := Blk.lt RB1.out
  clear hb3 ho3
  generalize blkL K 54 = P at *
  go_wp2_with (at_builtin; refine wpList_app (o := ⟨some 11, _, _, _, _, _⟩) (B := w.heap.size + 1) elU8 rfl _ _ rfl rfl rfl (O1.out.mono (by simp)) R1.out rfl ?_ ?_ ?_; (rw [HP1.out]; omega); exact z0; intro A4 n4 c4 w2 q2; have O2 := Lib.hid q2.1; have B2 := Lib.hid (B1.out.trans (q2.2.2.1.mono (by omega))); have RB2 := Lib.hid (Blk.below RB1.out q2.2.2.1 (by omega)); clear q2)
  obtain rfl := O2.out.len
  refine Calls.mono (rsum_any A4 c4 (P ++ T) _ O2.out.rd (HQ1.out.append HBY2.out) (by rw [List.length_append, HP1.out]; omega)) ?_
  rintro e w3 ⟨rfl, hb3⟩
  have B3 := Lib.hid (B2.out.trans (hb3.mono B2.out.size))
  have RB3 := Lib.hid (Blk.below RB2.out hb3 (Blk.lt RB2.out))
  have hX : Hid ((shaL (P ++ T)).length = 32) := Lib.hid (shaL_len _)
  have HXB := Lib.hid (shaL_byt (P ++ T))
  clear hb3 B1 RB1 O1 R1 O2 B2 RB2
  generalize shaL (P ++ T) = X at *
  have R3 := Lib.hid (HR.out.below B3.out (Nat.le_refl _))
  go_wp2_with (with_reducible (show wpList _ _ _ (⟨none, .store 22 _ _, _, _, _, _⟩ :: _) _ _); refine wpList_storeArr (o := ⟨none, .store 22 _ _, _, _, _, _⟩) (g := w3.heap.size) (t := 22) (k := .u8) (xs := X) (n := 32) rfl _ _ rfl rfl rfl (Blk.new _ _ _) size32 hX.out.symm rfl ?_; intro w4 ha4 hg4; have A4' := Lib.hid ha4; have B4 := Lib.hid ((B3.out.alloc B3.out.size _).trans (below_of_only hg4 B3.out.size (by have := B3.out.size; simp; omega))); have RB4 := Lib.hid (Blk.grown (Blk.alloc RB3.out _) hg4 (by have := Blk.lt RB3.out; simp; omega)); clear ha4 hg4)
  refine Calls.mono (padded_any A c K 92 _ ((HR.out.below B4.out (Nat.le_refl _)).mono B4.out.size) HBY.out (by omega)) ?_
  rintro e w5 ⟨A5, n5, c5, rfl, ho5, hb5⟩
  have hgl : w3.heap.size < w4.heap.size := A4'.out.lt
  have A5' := Lib.hid (A4'.out.belowAll hb5)
  have B5 := Lib.hid (B4.out.trans (hb5.mono B4.out.size))
  have RB5 := Lib.hid (Blk.below RB4.out hb5 (Blk.lt RB4.out))
  have hgl5 : w3.heap.size < w5.heap.size := A5'.out.lt
  have O5 := Lib.hid ho5
  have hn5 : n5 = 64 := by have := ho5.len; rw [HP2.out] at this; exact this
  subst hn5
  have z45 := hb5.size
  have z04 : w.heap.size < w4.heap.size := Blk.lt RB4.out
  clear ho5 hb5 A4' B4 RB4 R3 B3 RB3
  generalize blkL K 92 = P2 at *
  generalize w3.heap.size = g at *
  go_wp2_with fail
  go_loopw [6, 7] (fun v i wr => ∃ (k : Nat) (A6 : Option Addr) (n6 c6 : Nat), k ≤ 32 ∧ i = .int .i64 k ∧ v = .slice A6 n6 c6 ∧ Hid (Own w4.heap.size 5 .u8 wr A6 n6 c6 (P2 ++ X.take k)) ∧ Hid (Below w4.heap.size w5 wr)) (fun _ i _ => 32 - (intOf i).toNat)
  case atStart => exact ⟨0, A5, 64, c5, by omega, rfl, rfl, Lib.hid (by rw [List.take_zero, List.append_nil]; exact O5.out), Lib.hid (Below.refl _ _)⟩
  case round =>
    obtain ⟨k, A6, n6, c6, hk, rfl, rfl, HO, HB⟩ := hrel
    by_cases hlt : k < 32
    · have c0 := (A5'.out.below HB.out hgl).cell (i := k) (by rw [hX.out]; omega)
      have HTK := Lib.hid (take_snoc_getD (xs := X) (t := k) (by rw [hX.out]; omega))
      have HTL : Hid ((P2 ++ X.take k).length = 64 + k) := Lib.hid (by rw [List.length_append, List.length_take, hX.out, HP2.out]; omega)
      generalize X.getD k 0 = z at *
      have hsz : w4.heap.size ≤ wr.heap.size := Nat.le_trans z45 HB.out.size
      go_wp2_with (at_builtin; refine wpList_app (o := ⟨some 24, _, _, _, _, _⟩) elU8 rfl _ _ rfl rfl rfl (HO.out.alloc _) (Rd.newAt (xs := [_]) rfl rfl) rfl ?_ ?_ ?_; (rw [HTL.out]; simp only [List.length_cons, List.length_nil]; omega); (simp <;> omega); intro A9 n9 c9 w9 q9; have H9 := Lib.hid q9.1; have B9 := Lib.hid ((HB.out.alloc hsz _).trans q9.2.2.1); clear q9)
      go_roundw
      case rel => exact ⟨k + 1, A9, n9, c9, by omega, by go_num, rfl, Lib.hid (by rw [HTK.out, ← List.append_assoc]; exact H9.out), B9⟩
      case measure => simp [intOf]; omega
    · have hk32 : k = 32 := by omega
      have HO2 : Hid (Own w4.heap.size 5 .u8 wr A6 n6 c6 (P2 ++ X)) := Lib.hid (by have h := HO.out; rw [List.take_of_length_le (by rw [hX.out]; omega)] at h; exact h)
      have HL2 : Hid ((P2 ++ X).length = 96) := Lib.hid (by rw [List.length_append, HP2.out, hX.out])
      have HZB := Lib.hid (HQ2.out.append HXB.out)
      generalize P2 ++ X = Z at *
      obtain rfl := HO2.out.len
      have RB6 := Lib.hid (Blk.below RB5.out HB.out (by omega))
      have B6 := Lib.hid (B5.out.trans (HB.out.mono (by omega)))
      clear HO hk32
      go_wp2_with fail
      refine Calls.mono (rsum_any A6 c6 Z _ HO2.out.rd HZB.out (by rw [HL2.out]; omega)) ?_
      rintro e w7 ⟨rfl, hb7⟩
      have RB7 := Lib.hid (Blk.below RB6.out hb7 (Blk.lt RB6.out))
      have B7 := Lib.hid (B6.out.trans (hb7.mono B6.out.size))
      have hY : Hid ((shaL Z).length = 32) := Lib.hid (shaL_len _)
      clear hb7
      generalize shaL Z = Y at *
      go_wp2_with (with_reducible (show wpList _ _ _ (⟨none, .store 22 _ _, _, _, _, _⟩ :: _) _ _); refine wpList_storeArr (o := ⟨none, .store 22 _ _, _, _, _, _⟩) (g := w.heap.size) (t := 22) (k := .u8) (xs := Y) (n := 32) rfl _ _ rfl rfl rfl RB7.out size32 hY.out.symm rfl ?_; intro w8 ha8 hg8)
      exact ret_arr (g := w.heap.size) (t := 22) (k := .u8) (xs := Y) rfl rfl ha8 Try.underlying22 size32 hY.out.symm rfl ⟨by rw [HM.out], B7.out.trans (below_of_only hg8 (Nat.le_refl _) B7.out.size)⟩
end Go.Proofs.Ythpacdondnenmaa
