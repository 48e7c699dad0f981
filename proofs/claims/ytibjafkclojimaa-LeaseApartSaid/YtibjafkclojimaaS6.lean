
/- Contract: sha.Sum. Conditions: as each theorem states them. -/
import Derived.Test.YtibjafkclojimaaS5
namespace Go.Proofs.Ytibjafkclojimaa
open Go.RowKit

theorem size32 : (Try.prog.info? 67).map (·.size) = some 32 := by kernel_rfl
theorem index_k0 (s : S8) (w : World) : (Instr.index 77 (.agg (cellsL .u32 s.l)) (.int .i64 ((0 : Nat) : Int))).run Try.prog w = .ok (.int .u32 (s.l.getD 0 0)) w := by kernel_rfl
theorem index_k1 (s : S8) (w : World) : (Instr.index 77 (.agg (cellsL .u32 s.l)) (.int .i64 ((1 : Nat) : Int))).run Try.prog w = .ok (.int .u32 (s.l.getD 1 0)) w := by kernel_rfl
theorem index_k2 (s : S8) (w : World) : (Instr.index 77 (.agg (cellsL .u32 s.l)) (.int .i64 ((2 : Nat) : Int))).run Try.prog w = .ok (.int .u32 (s.l.getD 2 0)) w := by kernel_rfl
theorem index_k3 (s : S8) (w : World) : (Instr.index 77 (.agg (cellsL .u32 s.l)) (.int .i64 ((3 : Nat) : Int))).run Try.prog w = .ok (.int .u32 (s.l.getD 3 0)) w := by kernel_rfl
theorem index_k4 (s : S8) (w : World) : (Instr.index 77 (.agg (cellsL .u32 s.l)) (.int .i64 ((4 : Nat) : Int))).run Try.prog w = .ok (.int .u32 (s.l.getD 4 0)) w := by kernel_rfl
theorem index_k5 (s : S8) (w : World) : (Instr.index 77 (.agg (cellsL .u32 s.l)) (.int .i64 ((5 : Nat) : Int))).run Try.prog w = .ok (.int .u32 (s.l.getD 5 0)) w := by kernel_rfl
theorem index_k6 (s : S8) (w : World) : (Instr.index 77 (.agg (cellsL .u32 s.l)) (.int .i64 ((6 : Nat) : Int))).run Try.prog w = .ok (.int .u32 (s.l.getD 6 0)) w := by kernel_rfl
theorem index_k7 (s : S8) (w : World) : (Instr.index 77 (.agg (cellsL .u32 s.l)) (.int .i64 ((7 : Nat) : Int))).run Try.prog w = .ok (.int .u32 (s.l.getD 7 0)) w := by kernel_rfl
theorem index_s8 (s : S8) (k : Nat) (hk : k < 8) (w : World) : (Instr.index 77 (.agg (cellsL .u32 s.l)) (.int .i64 k)).run Try.prog w = .ok (.int .u32 (s.l.getD k 0)) w := by
  match k, hk with
  | 0, _ => exact index_k0 s w
  | 1, _ => exact index_k1 s w
  | 2, _ => exact index_k2 s w
  | 3, _ => exact index_k3 s w
  | 4, _ => exact index_k4 s w
  | 5, _ => exact index_k5 s w
  | 6, _ => exact index_k6 s w
  | 7, _ => exact index_k7 s w

theorem be8_snoc (n : Nat) {j : Nat} (h : j < 8) : (be8 n).take j ++ [(be8 n).getD j 0] = (be8 n).take (j + 1) := by
  rw [List.take_succ_eq_append_getElem (by rw [be8_len]; exact h), List.getD_eq_getElem?_getD, List.getElem?_eq_getElem (by rw [be8_len]; exact h)]; rfl
theorem own_snoc {B : Nat} {e : TypeId} {k : IntKind} {w : World} {A : Option Addr} {n c : Nat} {P Q Q' : List Int} {v z : Int} (h : Own B e k w A n c (P ++ Q ++ [v])) (hv : v = z) (ht : Q ++ [z] = Q') : Own B e k w A n c (P ++ Q') := by
  rw [List.append_assoc, hv, ht] at h; exact h

def ShaPost (L : List Int) (w : World) (e : Ending) (w' : World) : Prop := e = .returned (.agg (cellsL .u8 (shaL L))) ∧ Below w.heap.size w w'

set_option maxRecDepth 100000 in
set_option maxHeartbeats 8000000 in
theorem sum_any (A : Option Addr) (c : Nat) (ts : List Tx) (w : World) (ht : Txs w.heap.size w A ts) (hb : BytT ts) (hl : (joinT ts).length ≤ 1000000000000) (hn : ts.length ≤ 1000000000000) :
    Calls Try.prog 22 #[.slice A ts.length c] w (ShaPost (joinT ts) w) := by
  have HT := Lib.hid ht
  have HBT := Lib.hid hb
  clear ht hb
  go_enter Try.func22, Try.ntmps22
  go_wp2_with fail
  refine (first_any _).mono ?_
  rintro e w1 ⟨rfl, hb1⟩
  have RB1 := Lib.hid (Blk.below (Blk.new w 67 _) hb1 (by simp))
  have B1 := Lib.hid (((Below.refl w.heap.size w).alloc (Nat.le_refl _) _).trans (hb1.mono (by simp)))
  clear hb1
  go_wp2_with fail
  refine (constants_any _).mono ?_
  rintro e w2 ⟨rfl, hb2⟩
  have RB2 := Lib.hid (Blk.below RB1.out hb2 (Blk.lt RB1.out))
  have B2 := Lib.hid (B1.out.trans (hb2.mono B1.out.size))
  have z2 : w.heap.size < w2.heap.size := Blk.lt RB2.out
  clear hb2
  go_wp2_with (first
    | (refine wpList_storeArr (o := ⟨none, .store 77 _ _, _, _, _, _⟩) (k := .u32) (xs := hL.l) (n := 8) rfl _ _ rfl rfl rfl (Blk.alloc (Blk.new _ _ _) _) (by kernel_rfl) rfl rfl ?_; intro w3 ha3 hg3; have hk3 := blk_grown_new hg3 (g := w2.heap.size + 1) (by simp) (by simp))
    | (refine wpList_storeArr (o := ⟨none, .store 79 _ _, _, _, _, _⟩) (k := .u32) (xs := kL) (n := 64) rfl _ _ rfl rfl rfl hk3 (by kernel_rfl) (by rw [kL_len]) rfl ?_; intro w4 ha4 hg4))
  have hgA := fun (o : Obj) => only_alloc (World.grownBy.refl w2 none) o
  have RB4 := Lib.hid (Blk.grown (Blk.grown (Blk.alloc (Blk.alloc RB2.out _) _) hg3 (by simp; omega)) hg4 (by simp; omega))
  have S4 := Lib.hid (ha3.grown hg4 (by simp))
  have K4 := Lib.hid ha4
  have B4 := Lib.hid ((((B2.out.alloc B2.out.size _).alloc (by have := B2.out.size; simp; omega) _).trans (below_of_only hg3 (by omega) (by simp; omega))).trans (below_of_only hg4 (by omega) (by have := hg3.size; simp at this; omega)))
  have z4 : w2.heap.size + 2 ≤ w4.heap.size := by have h1 := hg3.size; have h2 := hg4.size; simp at h1; omega
  clear ha3 hg3 hk3 ha4 hg4 hgA RB1 B1 RB2 B2
  have RB := Lib.hid (Blk.alloc RB4.out (.cells #[.slice none 0 0] 50))
  have HS := Lib.hid (S4.out.alloc (.cells #[.slice none 0 0] 50))
  have HK := Lib.hid (K4.out.alloc (.cells #[.slice none 0 0] 50))
  have HR : Hid (Blk (w4.alloc (.cells #[.slice none 0 0] 50)) w4.heap.size 50 #[.slice none 0 0]) := Lib.hid (Blk.new _ _ _)
  have HB := Lib.hid (B4.out.alloc B4.out.size (.cells #[.slice none 0 0] 50))
  have HZ : Hid ((w4.alloc (.cells #[.slice none 0 0] 50)).heap.size = w4.heap.size + 1) := Lib.hid (by simp)
  generalize w4.alloc (.cells #[.slice none 0 0] 50) = w5 at *
  clear RB4 S4 K4 B4
  have z5 : w.heap.size < w2.heap.size := z2
  generalize w4.heap.size = br at *
  generalize w2.heap.size = g at *
  have f0 : fedS [] = hL := by unfold fedS; exact comps_zero _ _
  have f1 : fedR [] = [] := by unfold fedR; rfl
  have F0 := Lib.hid f0
  have F1 := Lib.hid f1
  clear f0 f1
  generalize hz32 : #[Value.int .u8 0, .int .u8 0, .int .u8 0, .int .u8 0, .int .u8 0, .int .u8 0, .int .u8 0, .int .u8 0, .int .u8 0, .int .u8 0, .int .u8 0, .int .u8 0, .int .u8 0, .int .u8 0, .int .u8 0, .int .u8 0, .int .u8 0, .int .u8 0, .int .u8 0, .int .u8 0, .int .u8 0, .int .u8 0, .int .u8 0, .int .u8 0, .int .u8 0, .int .u8 0, .int .u8 0, .int .u8 0, .int .u8 0, .int .u8 0, .int .u8 0, .int .u8 0] = zz at *
  have hzz : Hid (zz.size = 32) := Lib.hid (by rw [← hz32]; rfl)
  clear hz32
  go_loopw [6, 21] (fun n i wr => ∃ (k N : Nat) (A0 : Option Addr) (n0 c0 : Nat), k ≤ ts.length ∧ i = .int .i64 k ∧ n = .int .u64 N ∧ N ≤ 1000000000000 ∧ Hid (N = (joinT (ts.take k)).length) ∧ Hid (Blk wr br 50 #[.slice A0 n0 c0]) ∧ Hid (Own (br + 1) 5 .u8 wr A0 n0 c0 (fedR (joinT (ts.take k)))) ∧ Hid (Arr wr g 77 .u32 (fedS (joinT (ts.take k))).l) ∧ Hid (Arr wr (g + 1) 79 .u32 kL) ∧ Hid (Blk wr w.heap.size 67 zz) ∧ Hid (Below w.heap.size w wr) ∧ br < wr.heap.size) (fun _ i _ => ts.length - (intOf i).toNat)
  case atStart => exact ⟨0, 0, none, 0, 0, by omega, rfl, rfl, by omega, Lib.hid (by simp [joinT]), HR, Lib.hid (by rw [show joinT (ts.take 0) = [] by simp [joinT], F1.out]; exact Own.nil _ _ _ _), Lib.hid (by rw [show joinT (ts.take 0) = [] by simp [joinT], F0.out]; exact HS.out), HK, RB, HB, by have := HZ.out; omega⟩
  case round =>
    clear HR HS HK RB HB HZ
    obtain ⟨k, N, A0, n0, c0, hk, rfl, rfl, hN, HN, HR, HO, HS, HK, RB, HB, hbw⟩ := hrel
    by_cases hlt : k < ts.length
    · obtain ⟨pa, hA, p1, p2, p3, p4⟩ := HT.out k hlt
      have HJ := Lib.hid (join_snoc hlt)
      have HJl := Lib.hid (join_take_le ts (k + 1))
      have HBk := Lib.hid (HBT.out _ (getD_mem (z := Tx.none) hlt))
      have HBY := Lib.hid (byt_join (HBT.out.take k))
      generalize ts.getD k Tx.none = t at *
      obtain ⟨tA, tc, tx⟩ := t
      simp only at p2 p3 p4 HJ HBk
      generalize hY : joinT (ts.take k) = Y at *
      have hYl : (Y ++ tx).length ≤ 1000000000000 := by have h1 := HJl.out; rw [HJ.out] at h1; omega
      rw [List.length_append] at hYl
      have hNY : N = Y.length := HN.out
      have c1 := Below.cell_some HB.out p2 (by rw [block_of_add]; exact p1)
      have P3 := Lib.hid ((p3.below HB.out (Nat.le_refl _)).mono HB.out.size)
      subst hA
      have hxl : N + tx.length ≤ 1000000000000 := by omega
      have HNY := Lib.hid hNY
      have hY' := Lib.hid hY
      clear p2 p3 p4 hNY hY
      go_wp2_with fail
      refine (feed_any (br + 1) br g (g + 1) (fedS Y) A0 tA n0 c0 tc (fedR Y) tx _ HR.out HO.out HS.out HK.out P3.out HBk.out (byt_fedR HBY.out) (fed_ok Y) (by omega) (by omega) (by omega) (by omega) (by omega) (by omega) (by omega) (by rw [fed_len]; omega)).mono ?_
      rintro e w6 ⟨rfl, A1, n1, c1', hr6, ho6, hs6, hk6, hb6⟩
      obtain ⟨m1, m2⟩ := fed_more Y tx
      rw [m1] at hs6
      rw [m2] at ho6
      rw [← HJ.out] at hs6 ho6
      have HR6 := Lib.hid hr6
      have HO6 := Lib.hid ho6
      have HS6 := Lib.hid hs6
      have HK6 := Lib.hid hk6
      have RB6 := Lib.hid (Blk.below RB.out hb6 (by omega))
      have HB6 := Lib.hid (HB.out.trans (hb6.mono (by omega)))
      have hbw6 : br < w6.heap.size := Blk.lt hr6
      clear hr6 ho6 hs6 hk6 hb6 m1 m2 c1
      go_wp2_with fail
      go_roundw
      case rel => exact ⟨k + 1, N + tx.length, A1, n1, c1', by omega, by go_num, by go_num, by omega, Lib.hid (by rw [HJ.out, List.length_append, HNY.out]), HR6, HO6, HS6, HK6, RB6, HB6, hbw6⟩
      case measure => simp [intOf]; omega
    · have hkt : k = ts.length := by omega
      have HTK : Hid (ts.take k = ts) := Lib.hid (List.take_of_length_le (by omega))
      rw [HTK.out] at HN HO HS
      obtain ⟨k1, rfl⟩ : ∃ k1 : Nat, k1 = k := ⟨_, rfl⟩
      obtain ⟨w7, rfl⟩ : ∃ w7 : World, w7 = wr := ⟨_, rfl⟩
      have HYB := Lib.hid (byt_join HBT.out)
      clear hkt HTK HT HBT hl
      generalize hY : joinT ts = Y at *
      clear hY
      have hn0 : n0 = N % 64 := by have h1 := HO.out.len; rw [fed_len, ← HN.out] at h1; exact h1
      have HN0 := Lib.hid hn0
      have hn0' : n0 < 64 := by omega
      clear hn0
      go_wp2_with fail
      have hpn : padN N < 64 := by unfold padN; omega
      go_loopw [10] (fun b wr => ∃ (j : Nat) (A1 : Option Addr) (n1 c1 : Nat), j ≤ padN N ∧ b = .slice A1 n1 c1 ∧ Hid (Own w7.heap.size 5 .u8 wr A1 n1 c1 (128 :: List.replicate j 0)) ∧ Hid (Below w7.heap.size w7 wr)) (fun b _ => 64 - (match b with | .slice _ n _ => n | _ => 0))
      case atStart => exact ⟨0, some ⟨w7.heap.size, 0, none⟩, 1, 1, by omega, rfl, Lib.hid (Own.litAt (xs := [128]) rfl rfl rfl (Nat.le_refl _) (by simp [maxLen])), Lib.hid ((Below.refl _ _).alloc (Nat.le_refl _) _)⟩
      case round =>
        obtain ⟨j, A1, n1, c1, hj, rfl, HE, HX⟩ := hrel
        have hn1 : n1 = 1 + j := by have h1 := HE.out.len; rw [List.length_cons, List.length_replicate] at h1; omega
        have y1 := Blk.cell (Blk.below HR.out HX.out hbw) 0
        simp at y1
        by_cases hlt2 : j < padN N
        · have ht : (((n0 : Int) + (n1 : Int)) % 64 != 56) = true := by have h1 := HN0.out; rw [bne_iff_ne]; unfold padN at hlt2; omega
          have HN1 := Lib.hid hn1
          have hn1' : n1 ≤ 64 := by omega
          clear hn1
          go_wp2_with (at_builtin; refine wpList_app (o := ⟨some 44, _, _, _, _, _⟩) elU8 rfl _ _ rfl rfl rfl (HE.out.alloc _) (Rd.newAt (xs := [0]) rfl rfl) rfl ?_ ?_ ?_; (simp only [List.length_cons, List.length_replicate, List.length_nil]; omega); exact (HX.out.alloc HX.out.size _).size; intro A9 n9 c9 w9 q9; have H9 := Lib.hid q9; have B9 := Lib.hid ((HX.out.alloc HX.out.size _).trans q9.2.2.1); clear q9)
          go_roundw
          case rel => exact ⟨j + 1, A9, n9, c9, by omega, rfl, Lib.hid (by have := H9.out.1; rw [List.cons_append, ← List.replicate_succ'] at this; exact this), B9⟩
          case measure =>
            have h1 := H9.out.1.len
            rw [List.length_append, List.length_cons, List.length_replicate, List.length_cons, List.length_nil] at h1
            have h2 := HN1.out
            simp only
            omega
        · have hjp : j = padN N := by omega
          have ht : (((n0 : Int) + (n1 : Int)) % 64 != 56) = false := by have h1 := HN0.out; rw [bne_eq_false_iff_eq]; unfold padN at hjp; omega
          rw [hjp] at HE
          have HN1 := Lib.hid hn1
          have hn1' : n1 ≤ 64 := by omega
          clear hn1 hjp hlt2
          obtain ⟨w8, rfl⟩ : ∃ w8 : World, w8 = wr := ⟨_, rfl⟩
          go_wp2_with fail
          clear ht
          go_loopw [10, 11] (fun b i wr => ∃ (j : Nat) (A1 : Option Addr) (n1 c1 : Nat), j ≤ 8 ∧ i = .int .i64 (7 - (j : Int)) ∧ b = .slice A1 n1 c1 ∧ Hid (Own w7.heap.size 5 .u8 wr A1 n1 c1 ((128 :: List.replicate (padN N) 0) ++ (be8 (8 * N)).take j)) ∧ Hid (Below w7.heap.size w7 wr)) (fun _ i _ => (intOf i + 1).toNat)
          case atStart => exact ⟨0, A1, n1, c1, by omega, rfl, rfl, Lib.hid (by simpa using HE.out), HX⟩
          case round =>
            clear HE HX
            obtain ⟨j, A1, n1, c1, hj, rfl, rfl, HE, HX⟩ := hrel
            rcases (show j = 0 ∨ j = 1 ∨ j = 2 ∨ j = 3 ∨ j = 4 ∨ j = 5 ∨ j = 6 ∨ j = 7 ∨ j = 8 by omega) with rfl | rfl | rfl | rfl | rfl | rfl | rfl | rfl | rfl
            · go_wp2_with (at_builtin; refine wpList_app (o := ⟨some 57, _, _, _, _, _⟩) elU8 rfl _ _ rfl rfl rfl (HE.out.alloc _) (Rd.newAt (xs := [_]) rfl rfl) rfl ?_ ?_ ?_; (simp only [List.length_append, List.length_cons, List.length_replicate, List.length_take, List.length_nil]; omega); exact (HX.out.alloc HX.out.size _).size; intro A9 n9 c9 w9 q9; have H9 := Lib.hid q9; have B9 := Lib.hid ((HX.out.alloc HX.out.size _).trans q9.2.2.1); clear q9)
              go_roundw
              case rel => exact ⟨1, A9, n9, c9, by omega, by go_num, rfl, Lib.hid (own_snoc H9.out.1 (by rw [be8_get _ (by decide)]; simp only [Nat.reduceSub, Nat.reducePow]; omega) (be8_snoc _ (by decide))), B9⟩
              case measure => simp [intOf]
            · go_wp2_with (at_builtin; refine wpList_app (o := ⟨some 57, _, _, _, _, _⟩) elU8 rfl _ _ rfl rfl rfl (HE.out.alloc _) (Rd.newAt (xs := [_]) rfl rfl) rfl ?_ ?_ ?_; (simp only [List.length_append, List.length_cons, List.length_replicate, List.length_take, List.length_nil]; omega); exact (HX.out.alloc HX.out.size _).size; intro A9 n9 c9 w9 q9; have H9 := Lib.hid q9; have B9 := Lib.hid ((HX.out.alloc HX.out.size _).trans q9.2.2.1); clear q9)
              go_roundw
              case rel => exact ⟨2, A9, n9, c9, by omega, by go_num, rfl, Lib.hid (own_snoc H9.out.1 (by rw [be8_get _ (by decide)]; simp only [Nat.reduceSub, Nat.reducePow]; omega) (be8_snoc _ (by decide))), B9⟩
              case measure => simp [intOf]
            · go_wp2_with (at_builtin; refine wpList_app (o := ⟨some 57, _, _, _, _, _⟩) elU8 rfl _ _ rfl rfl rfl (HE.out.alloc _) (Rd.newAt (xs := [_]) rfl rfl) rfl ?_ ?_ ?_; (simp only [List.length_append, List.length_cons, List.length_replicate, List.length_take, List.length_nil]; omega); exact (HX.out.alloc HX.out.size _).size; intro A9 n9 c9 w9 q9; have H9 := Lib.hid q9; have B9 := Lib.hid ((HX.out.alloc HX.out.size _).trans q9.2.2.1); clear q9)
              go_roundw
              case rel => exact ⟨3, A9, n9, c9, by omega, by go_num, rfl, Lib.hid (own_snoc H9.out.1 (by rw [be8_get _ (by decide)]; simp only [Nat.reduceSub, Nat.reducePow]; omega) (be8_snoc _ (by decide))), B9⟩
              case measure => simp [intOf]
            · go_wp2_with (at_builtin; refine wpList_app (o := ⟨some 57, _, _, _, _, _⟩) elU8 rfl _ _ rfl rfl rfl (HE.out.alloc _) (Rd.newAt (xs := [_]) rfl rfl) rfl ?_ ?_ ?_; (simp only [List.length_append, List.length_cons, List.length_replicate, List.length_take, List.length_nil]; omega); exact (HX.out.alloc HX.out.size _).size; intro A9 n9 c9 w9 q9; have H9 := Lib.hid q9; have B9 := Lib.hid ((HX.out.alloc HX.out.size _).trans q9.2.2.1); clear q9)
              go_roundw
              case rel => exact ⟨4, A9, n9, c9, by omega, by go_num, rfl, Lib.hid (own_snoc H9.out.1 (by rw [be8_get _ (by decide)]; simp only [Nat.reduceSub, Nat.reducePow]; omega) (be8_snoc _ (by decide))), B9⟩
              case measure => simp [intOf]
            · go_wp2_with (at_builtin; refine wpList_app (o := ⟨some 57, _, _, _, _, _⟩) elU8 rfl _ _ rfl rfl rfl (HE.out.alloc _) (Rd.newAt (xs := [_]) rfl rfl) rfl ?_ ?_ ?_; (simp only [List.length_append, List.length_cons, List.length_replicate, List.length_take, List.length_nil]; omega); exact (HX.out.alloc HX.out.size _).size; intro A9 n9 c9 w9 q9; have H9 := Lib.hid q9; have B9 := Lib.hid ((HX.out.alloc HX.out.size _).trans q9.2.2.1); clear q9)
              go_roundw
              case rel => exact ⟨5, A9, n9, c9, by omega, by go_num, rfl, Lib.hid (own_snoc H9.out.1 (by rw [be8_get _ (by decide)]; simp only [Nat.reduceSub, Nat.reducePow]; omega) (be8_snoc _ (by decide))), B9⟩
              case measure => simp [intOf]
            · go_wp2_with (at_builtin; refine wpList_app (o := ⟨some 57, _, _, _, _, _⟩) elU8 rfl _ _ rfl rfl rfl (HE.out.alloc _) (Rd.newAt (xs := [_]) rfl rfl) rfl ?_ ?_ ?_; (simp only [List.length_append, List.length_cons, List.length_replicate, List.length_take, List.length_nil]; omega); exact (HX.out.alloc HX.out.size _).size; intro A9 n9 c9 w9 q9; have H9 := Lib.hid q9; have B9 := Lib.hid ((HX.out.alloc HX.out.size _).trans q9.2.2.1); clear q9)
              go_roundw
              case rel => exact ⟨6, A9, n9, c9, by omega, by go_num, rfl, Lib.hid (own_snoc H9.out.1 (by rw [be8_get _ (by decide)]; simp only [Nat.reduceSub, Nat.reducePow]; omega) (be8_snoc _ (by decide))), B9⟩
              case measure => simp [intOf]
            · go_wp2_with (at_builtin; refine wpList_app (o := ⟨some 57, _, _, _, _, _⟩) elU8 rfl _ _ rfl rfl rfl (HE.out.alloc _) (Rd.newAt (xs := [_]) rfl rfl) rfl ?_ ?_ ?_; (simp only [List.length_append, List.length_cons, List.length_replicate, List.length_take, List.length_nil]; omega); exact (HX.out.alloc HX.out.size _).size; intro A9 n9 c9 w9 q9; have H9 := Lib.hid q9; have B9 := Lib.hid ((HX.out.alloc HX.out.size _).trans q9.2.2.1); clear q9)
              go_roundw
              case rel => exact ⟨7, A9, n9, c9, by omega, by go_num, rfl, Lib.hid (own_snoc H9.out.1 (by rw [be8_get _ (by decide)]; simp only [Nat.reduceSub, Nat.reducePow]; omega) (be8_snoc _ (by decide))), B9⟩
              case measure => simp [intOf]
            · go_wp2_with (at_builtin; refine wpList_app (o := ⟨some 57, _, _, _, _, _⟩) elU8 rfl _ _ rfl rfl rfl (HE.out.alloc _) (Rd.newAt (xs := [_]) rfl rfl) rfl ?_ ?_ ?_; (simp only [List.length_append, List.length_cons, List.length_replicate, List.length_take, List.length_nil]; omega); exact (HX.out.alloc HX.out.size _).size; intro A9 n9 c9 w9 q9; have H9 := Lib.hid q9; have B9 := Lib.hid ((HX.out.alloc HX.out.size _).trans q9.2.2.1); clear q9)
              go_roundw
              case rel => exact ⟨8, A9, n9, c9, by omega, by go_num, rfl, Lib.hid (own_snoc H9.out.1 (by rw [be8_get _ (by decide)]; simp only [Nat.reduceSub, Nat.reducePow]; omega) (be8_snoc _ (by decide))), B9⟩
              case measure => simp [intOf]
            · have HE8 : Hid (Own w7.heap.size 5 .u8 wr A1 n1 c1 (padL N)) := Lib.hid (by have h := HE.out; rw [List.take_of_length_le (by rw [be8_len]; exact Nat.le_refl _), ← padL_eq] at h; exact h)
              clear HE
              obtain rfl := HE8.out.len
              have hpl : (padL N).length ≤ 73 := by rw [padL_len]; omega
              have hw7 := HX.out.size
              have HR9 := Lib.hid (Blk.below HR.out HX.out hbw)
              have HO9 := Lib.hid (HO.out.below HX.out)
              have HS9 := Lib.hid (HS.out.belowAll HX.out)
              have HK9 := Lib.hid (HK.out.belowAll HX.out)
              have RB9 := Lib.hid (Blk.below RB.out HX.out (Blk.lt RB.out))
              have HB9 := Lib.hid (HB.out.trans (HX.out.mono HB.out.size))
              obtain ⟨w9, rfl⟩ : ∃ w9 : World, w9 = wr := ⟨_, rfl⟩
              clear HR HO HS HK RB HB
              go_wp2_with fail
              refine (feed_any (br + 1) br g (g + 1) (fedS Y) A0 A1 n0 c0 c1 (fedR Y) (padL N) _ HR9.out HO9.out HS9.out HK9.out HE8.out.rd (byt_pad N) (byt_fedR HYB.out) (fed_ok Y) (by omega) (by omega) (by omega) (by omega) (by omega) (by omega) (by omega) (by rw [fed_len]; omega)).mono ?_
              rintro e w10 ⟨rfl, A2, n2, c2, -, -, hs10, -, hb10⟩
              rw [(fed_more Y (padL N)).1] at hs10
              have HSS := Lib.hid (fed_ok (Y ++ padL N))
              have HF := Lib.hid (show shaL Y = outL (fedS (Y ++ padL N)) by rw [HN.out]; exact shaL_fed Y)
              generalize fedS (Y ++ padL N) = S at *
              have HST := Lib.hid hs10
              have RBT := Lib.hid (Blk.below RB9.out hb10 (by omega))
              have HBT := Lib.hid (HB9.out.trans (hb10.mono (by omega)))
              clear hs10 hb10 HR9 HO9 HS9 HK9 RB9 HB9 HE8 HX HYB HN0 HN1
              go_wp2_with (refine wpList_loadArr (o := ⟨some 61, _, _, _, _, _⟩) (n := 8) rfl _ rfl rfl (Arr.alloc HST.out _) Try.underlying77 (by kernel_rfl) rfl ?_)
              have HOL := Lib.hid (outL_len S)
              have hbl : w.heap.size < w10.heap.size := Blk.lt RBT.out
              go_loopw [62] (fun i wr => ∃ k : Nat, k ≤ 8 ∧ i = .int .i64 k ∧ Hid (Arr wr w10.heap.size 67 .u8 (fil (outL S) (4 * k))) ∧ Hid (Below w10.heap.size w10 wr)) (fun i _ => 8 - (intOf i).toNat)
              case atStart => exact ⟨0, by omega, rfl, Lib.hid (Arr.newAt rfl (by rw [Nat.mul_zero, fil_zero, HOL.out]; rfl)), Lib.hid ((Below.refl _ _).alloc (Nat.le_refl _) _)⟩
              case round =>
                obtain ⟨k, hk, rfl, HA, HC⟩ := hrel
                by_cases hlt4 : k < 8
                · have q1 := index_s8 S k hlt4
                  have HU := Lib.hid (S8.u HSS.out k)
                  have HG := Lib.hid (fun (j : Nat) (hj : j < 4) => outL_get S hlt4 hj)
                  generalize S.l.getD k 0 = x at *
                  have hu := HU.out
                  unfold U32 at hu
                  obtain ⟨hu0, hu1⟩ := hu
                  obtain ⟨wk, rfl⟩ : ∃ wk : World, wk = wr := ⟨_, rfl⟩
                  go_wp2_with fail
                  clear q1
                  go_loopw [66] (fun i wr => ∃ j : Nat, j ≤ 4 ∧ i = .int .i64 j ∧ Hid (Arr wr w10.heap.size 67 .u8 (fil (outL S) (4 * k + j))) ∧ Hid (Below w10.heap.size w10 wr)) (fun i _ => 4 - (intOf i).toNat)
                  case atStart => exact ⟨0, by omega, rfl, HA, HC⟩
                  case round =>
                    clear HA HC
                    obtain ⟨j, hj, rfl, HA, HC⟩ := hrel
                    by_cases hlt5 : j < 4
                    · have d0 := HA.out.cell (i := 4 * k + j) (by rw [fil_len, HOL.out]; omega)
                      have f0 := HA.out.frozen (4 * k + j)
                      have HV := Lib.hid (HG.out j hlt5)
                      have HFS := Lib.hid (fil_set (xs := outL S) (k := 4 * k + j) (by rw [HOL.out]; omega))
                      generalize (fil (outL S) (4 * k + j)).getD (4 * k + j) 0 = old at d0
                      have e1 : (4 * (k : Int) + (j : Int)).toNat = 4 * k + j := by omega
                      rcases (show j = 0 ∨ j = 1 ∨ j = 2 ∨ j = 3 by omega) with rfl | rfl | rfl | rfl
                      · have d1 := HA.out.cellAdd (i := 4 * k) (by rw [fil_len, HOL.out]; omega)
                        have f1 := HA.out.frozenAdd (4 * k)
                        have e0 : (4 * (k : Int)).toNat = 4 * k := by omega
                        simp only [Nat.add_zero] at d0 f0 d1
                        generalize (fil (outL S) (4 * k)).getD (4 * k) 0 = old1 at d1
                        go_wp2_with fail
                        go_roundw
                        case rel => exact ⟨1, by omega, by go_num, Lib.hid (Arr.cast (HA.out.set _ _) (by rw [← HFS.out, HV.out] <;> (congr 1 <;> simp only [b4, wrapu8, List.getD_cons_zero, List.getD_cons_succ] <;> omega))), Lib.hid (HC.out.setCell (by simp) _)⟩
                        case measure => simp [intOf]
                      · go_wp2_with fail
                        go_roundw
                        case rel => exact ⟨2, by omega, by go_num, Lib.hid (Arr.cast (HA.out.set _ _) (by rw [← HFS.out, HV.out] <;> (congr 1 <;> simp only [b4, wrapu8, List.getD_cons_zero, List.getD_cons_succ] <;> omega))), Lib.hid (HC.out.setCell (by simp) _)⟩
                        case measure => simp [intOf]
                      · go_wp2_with fail
                        go_roundw
                        case rel => exact ⟨3, by omega, by go_num, Lib.hid (Arr.cast (HA.out.set _ _) (by rw [← HFS.out, HV.out] <;> (congr 1 <;> simp only [b4, wrapu8, List.getD_cons_zero, List.getD_cons_succ] <;> omega))), Lib.hid (HC.out.setCell (by simp) _)⟩
                        case measure => simp [intOf]
                      · go_wp2_with fail
                        go_roundw
                        case rel => exact ⟨4, by omega, by go_num, Lib.hid (Arr.cast (HA.out.set _ _) (by rw [← HFS.out, HV.out] <;> (congr 1 <;> simp only [b4, wrapu8, List.getD_cons_zero, List.getD_cons_succ] <;> omega))), Lib.hid (HC.out.setCell (by simp) _)⟩
                        case measure => simp [intOf]
                    · have hj4 : j = 4 := by omega
                      rw [hj4] at HA
                      clear hj4
                      go_wp2_with fail
                      go_roundw
                      case rel => exact ⟨k + 1, by omega, by go_num, Lib.hid (by rw [Nat.mul_succ]; exact HA.out), HC⟩
                      case measure => simp [intOf]; omega
                · have hk8 : k = 8 := by omega
                  rw [hk8] at HA
                  clear hk8
                  have HA8 : Hid (Arr wr w10.heap.size 67 .u8 (outL S)) := Lib.hid (Arr.cast HA.out (by have := fil_full (outL S); rwa [HOL.out] at this))
                  clear HA
                  have RB8 := Lib.hid (Blk.below RBT.out HC.out hbl)
                  go_wp2_with (first
                    | (with_reducible (show wpList _ _ _ (⟨some 82, _, _, _, _, _⟩ :: _) _ _); refine wpList_loadArr (o := ⟨some 82, _, _, _, _, _⟩) (g := w10.heap.size) (t := 67) (k := .u8) (xs := outL S) (n := 32) rfl _ rfl rfl HA8.out Try.underlying67 size32 HOL.out.symm ?_)
                    | (with_reducible (show wpList _ _ _ (⟨none, .store 67 _ _, _, _, _, _⟩ :: _) _ _); refine wpList_storeArr (o := ⟨none, .store 67 _ _, _, _, _, _⟩) (g := w.heap.size) (t := 67) (k := .u8) (xs := outL S) (n := 32) rfl _ _ rfl rfl rfl RB8.out size32 HOL.out.symm hzz.out ?_; intro w12 ha12 hg12))
                  exact ret_arr (g := w.heap.size) (t := 67) (k := .u8) (xs := outL S) rfl rfl ha12 Try.underlying67 size32 HOL.out.symm rfl ⟨by rw [HF.out], (HBT.out.trans (HC.out.mono HBT.out.size)).trans (below_of_only hg12 (Nat.le_refl _) (Nat.le_trans (Nat.le_of_lt hbl) HC.out.size))⟩
end Go.Proofs.Ytibjafkclojimaa
