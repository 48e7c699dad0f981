/- Contracts: aes.twice, aes.boxes, aes.Sub. Conditions: as each theorem states them. -/
import Derived.Test.YtepkbllcaeceeaaE1
import Derived.Test.YtepkbllcaeceeaaRows
import Derived.Test.YtepkbllcaeceeaaAV
namespace Go.Proofs.Ytepkbllcaeceeaa
open Go.RowKit
theorem and_128E : (allE.all fun b => bits .and .u8 b 128 == (if 128 ≤ b then 128 else 0)) = true := by decide +kernel
theorem and128E {b : Int} (hb : B8 b) : bits .and .u8 b 128 = if 128 ≤ b then 128 else 0 := by
  have h := List.all_eq_true.1 and_128E b (allE_mem hb)
  rwa [beq_iff_eq] at h
theorem twice_any (b : Int) (w : World) (hb : B8 b) : Calls Try.prog 70 #[.int .u8 b] w fun e w' => e = .returned (.int .u8 (tw b)) ∧ w = w' := by
  have ha := and128E hb
  have h0 := hb.1
  have h1 := hb.2
  by_cases h : 128 ≤ b
  · have HT := Lib.hid (show tw b = xb (2 * b % 256) 27 by unfold tw; rw [if_pos h])
    rw [if_pos h] at ha
    go_enter Try.func70, Try.ntmps70
    go_wp2_with fail
    go_ret
    exact ⟨ret_int (by rw [HT.out]; unfold xb; congr 1; omega), rfl⟩
  · have HT := Lib.hid (show tw b = 2 * b by unfold tw; rw [if_neg h])
    rw [if_neg h] at ha
    go_enter Try.func70, Try.ntmps70
    go_wp2_with fail
    go_ret
    exact ⟨ret_int (by rw [HT.out]; omega), rfl⟩
theorem or_shift : (allE.all fun q => bits .or .u8 (q * 2 % 256) (q / 128) == q * 2 % 256 + q / 128 && bits .or .u8 (q * 4 % 256) (q / 64) == q * 4 % 256 + q / 64 && bits .or .u8 (q * 8 % 256) (q / 32) == q * 8 % 256 + q / 32 && bits .or .u8 (q * 16 % 256) (q / 16) == q * 16 % 256 + q / 16) = true := by decide +kernel
theorem ors {q : Int} (h : B8 q) : bits .or .u8 (q * 2 % 256) (q / 128) = q * 2 % 256 + q / 128 ∧ bits .or .u8 (q * 4 % 256) (q / 64) = q * 4 % 256 + q / 64 ∧ bits .or .u8 (q * 8 % 256) (q / 32) = q * 8 % 256 + q / 32 ∧ bits .or .u8 (q * 16 % 256) (q / 16) = q * 16 % 256 + q / 16 := by
  have h1 := List.all_eq_true.1 or_shift q (allE_mem h)
  simp only [Bool.and_eq_true, beq_iff_eq] at h1
  exact ⟨h1.1.1.1, h1.1.1.2, h1.1.2, h1.2⟩
def gqs : Nat → Int → Int
  | 0, q => q
  | 1, q => xb q (q * 2 % 256)
  | 2, q => xb (xb q (q * 2 % 256)) (xb q (q * 2 % 256) * 4 % 256)
  | _, q => xb (xb (xb q (q * 2 % 256)) (xb q (q * 2 % 256) * 4 % 256)) (xb (xb q (q * 2 % 256)) (xb q (q * 2 % 256) * 4 % 256) * 16 % 256)
theorem gqs_u (j : Nat) {q : Int} (h : B8 q) : B8 (gqs j q) := by
  match j with
  | 0 => exact h
  | 1 => exact xb_u _ _
  | 2 => exact xb_u _ _
  | n + 3 => exact xb_u _ _
theorem gq_hi {q : Int} (h : 128 ≤ gqs 3 q) : gq q = xb (gqs 3 q) 9 := by
  have e : gq q = if 128 ≤ gqs 3 q then xb (gqs 3 q) 9 else gqs 3 q := by unfold gq; rfl
  rw [e, if_pos h]
theorem gq_lo {q : Int} (h : ¬ 128 ≤ gqs 3 q) : gq q = gqs 3 q := by
  have e : gq q = if 128 ≤ gqs 3 q then xb (gqs 3 q) 9 else gqs 3 q := by unfold gq; rfl
  rw [e, if_neg h]
theorem aff_eq (q : Int) : bits .xor .u8 (bits .xor .u8 (bits .xor .u8 (bits .xor .u8 (bits .xor .u8 q (q * 2 % 256 + q / 128)) (q * 4 % 256 + q / 64)) (q * 8 % 256 + q / 32)) (q * 16 % 256 + q / 16)) 99 = aff q := by unfold aff; rfl
theorem size256 : (Try.prog.info? 78).map (·.size) = some 256 := by kernel_rfl
set_option maxRecDepth 100000 in
set_option maxHeartbeats 2000000 in
theorem boxes_any (w : World) : Calls Try.prog 52 #[] w fun e w' => e = .returned (.agg (cellsL .u8 boxL)) ∧ Below w.heap.size w w' := by
  have hb : Try.zeroCells78.setIfInBounds 0 (.int .u8 99) = cellsL .u8 (gen 0).2.2 := by kernel_rfl
  have HZ : Hid (Try.zeroCells78.size = 256) := Lib.hid (by kernel_rfl)
  go_enter Try.func52, Try.ntmps52
  have hg0 := Lib.hid (gen_ok 0)
  have BN : Hid (Blk ((w.alloc (.cells Try.zeroCells78 78)).alloc (.cells Try.zeroCells78 78)) (w.heap.size + 1) 78 Try.zeroCells78) := Lib.hid (by
    have h := Blk.new (w.alloc (.cells Try.zeroCells78 78)) 78 Try.zeroCells78
    have e : (w.alloc (.cells Try.zeroCells78 78)).heap.size = w.heap.size + 1 := by simp
    rwa [e] at h)
  obtain ⟨G0, hG0⟩ : ∃ G, (gen 0).2.2 = G := ⟨_, rfl⟩
  have HG0 := Lib.hid hG0
  rw [hG0] at hb
  clear hG0
  have HGL : Hid (G0.length = 256) := Lib.hid (by rw [← HG0.out]; exact hg0.out.2.2)
  go_wp2_with ((with_reducible (show wpList _ _ _ (⟨none, .store 78 _ _, _, _, _, _⟩ :: _) _ _)); refine wpList_storeArr (o := ⟨none, .store 78 _ _, _, _, _, _⟩) (g := w.heap.size + 1) (t := 78) (k := .u8) (xs := G0) (n := 256) rfl _ _ rfl rfl rfl BN.out size256 HGL.out.symm HZ.out ?_; intro w1 ha1 hg1; have A1 := Lib.hid ha1; have G1 := Lib.hid hg1; clear ha1 hg1)
  clear hb BN
  have B1 := Lib.hid ((((Below.refl w.heap.size w).alloc (Nat.le_refl _) (.cells Try.zeroCells78 78)).alloc (by simp) (.cells Try.zeroCells78 78)).trans (below_of_only G1.out (by omega) (by simp <;> omega)))
  have RB1 : Hid (Blk w1 w.heap.size 78 Try.zeroCells78) := Lib.hid (Blk.grown (Blk.alloc (Blk.new w _ _) _) G1.out (by simp))
  have hz1 : w.heap.size < w1.heap.size := Blk.lt RB1.out
  have i0 : ∀ W : World, (Instr.index 97 (.agg #[.int .i64 1, .int .i64 2, .int .i64 4]) (.int .i64 0)).run Try.prog W = .ok (.int .i64 1) W := fun _ => by kernel_rfl
  have i1 : ∀ W : World, (Instr.index 97 (.agg #[.int .i64 1, .int .i64 2, .int .i64 4]) (.int .i64 1)).run Try.prog W = .ok (.int .i64 2) W := fun _ => by kernel_rfl
  have i2 : ∀ W : World, (Instr.index 97 (.agg #[.int .i64 1, .int .i64 2, .int .i64 4]) (.int .i64 2)).run Try.prog W = .ok (.int .i64 4) W := fun _ => by kernel_rfl
  have I0 := Lib.hid i0
  have I1 := Lib.hid i1
  have I2 := Lib.hid i2
  clear i0 i1 i2
  have HGZ : Hid ((gen 0).1 = 1 ∧ (gen 0).2.1 = 1) := Lib.hid (by rw [gen_zero]; exact ⟨rfl, rfl⟩)
  go_loopw [2, 3, 7] (fun p q i wr => ∃ (k : Nat) (a b : Int), k ≤ 255 ∧ i = .int .i64 k ∧ p = .int .u8 a ∧ q = .int .u8 b ∧ Hid (a = (gen k).1) ∧ Hid (b = (gen k).2.1) ∧ Hid (Arr wr (w.heap.size + 1) 78 .u8 (gen k).2.2) ∧ Hid (w1.grownBy wr (some (w.heap.size + 1)))) (fun _ _ i _ => 255 - (intOf i).toNat)
  case atStart => exact ⟨0, 1, 1, by omega, rfl, rfl, rfl, Lib.hid HGZ.out.1.symm, Lib.hid HGZ.out.2.symm, Lib.hid (by rw [HG0.out]; exact A1.out), Lib.hid (World.grownBy.refl _ _)⟩
  case round =>
    obtain ⟨k, a, b, hk, rfl, rfl, rfl, HA, HB, HX, HG⟩ := hrel
    by_cases hlt : k < 255
    · have HOK := Lib.hid (gen_ok k)
      have hA : B8 a := by rw [HA.out]; exact HOK.out.1
      have hB : B8 b := by rw [HB.out]; exact HOK.out.2.1
      have HA8 := Lib.hid hA
      have HB8 := Lib.hid hB
      have HT := Lib.hid (tw_u hA)
      obtain ⟨ha0, ha1⟩ := hA
      obtain ⟨hb0, hb1⟩ := hB
      obtain ⟨wo, rfl⟩ : ∃ wo : World, wo = wr := ⟨_, rfl⟩
      go_wp2_with fail
      refine Calls.mono (twice_any a _ HA8.out) ?_
      rintro e w2 ⟨rfl, rfl⟩
      obtain ⟨a2, ha2⟩ : ∃ x, bits .xor .u8 a (tw a) = x := ⟨_, rfl⟩
      have HA2 : Hid (a2 = xb a (tw a)) := Lib.hid ha2.symm
      have ha28 : B8 a2 := by rw [← ha2]; exact xb_u _ _
      obtain ⟨ha20, ha21⟩ := ha28
      go_wp2_with fail
      clear ha2
      go_loop [3, 5, 14] (fun q _ i => ∃ (j : Nat) (x : Int), j ≤ 3 ∧ i = .int .i64 j ∧ q = .int .u8 x ∧ 0 ≤ x ∧ x < 256 ∧ Hid (x = gqs j b)) (fun _ _ i => 3 - (intOf i).toNat)
      case atStart => exact ⟨0, b, by omega, rfl, rfl, hb0, hb1, Lib.hid rfl⟩
      case round =>
        obtain ⟨j, x, hj, rfl, rfl, hx0, hx1, HXX⟩ := hrel
        have hn := fun j => gqs_u j HB8.out
        rcases (show j = 0 ∨ j = 1 ∨ j = 2 ∨ j = 3 by omega) with rfl | rfl | rfl | rfl
        · have i0 := I0.out
          have HN := Lib.hid (hn 1)
          clear hn
          go_wp2_with fail
          go_round
          case rel => exact ⟨1, _, by omega, by go_num, rfl, bits_lo_u8 _ _ _, by have := bits_hi_u8 .xor x (x * 2 % 256); omega, Lib.hid (by rw [HXX.out]; rfl)⟩
          case measure => simp [intOf]
        · have i1 := I1.out
          clear hn
          go_wp2_with fail
          go_round
          case rel => exact ⟨2, _, by omega, by go_num, rfl, bits_lo_u8 _ _ _, by have := bits_hi_u8 .xor x (x * 4 % 256); omega, Lib.hid (by rw [HXX.out]; rfl)⟩
          case measure => simp [intOf]
        · have i2 := I2.out
          clear hn
          go_wp2_with fail
          go_round
          case rel => exact ⟨3, _, by omega, by go_num, rfl, bits_lo_u8 _ _ _, by have := bits_hi_u8 .xor x (x * 16 % 256); omega, Lib.hid (by rw [HXX.out]; rfl)⟩
          case measure => simp [intOf]
        · clear hn
          have hx8 : B8 x := ⟨hx0, hx1⟩
          have hand := and128E hx8
          by_cases hge : 128 ≤ x
          · rw [if_pos hge] at hand
            obtain ⟨q, hq⟩ : ∃ q, bits .xor .u8 x 9 = q := ⟨_, rfl⟩
            have HQ : Hid (q = gq b) := Lib.hid (by rw [gq_hi (by rw [← HXX.out]; exact hge), ← HXX.out]; exact hq.symm)
            have HQ8 : Hid (B8 q) := Lib.hid (by rw [← hq]; exact xb_u _ _)
            have HGN := Lib.hid (gen_succ k)
            have hQ : B8 q := HQ8.out
            obtain ⟨hq0, hq1⟩ := hQ
            obtain ⟨r1, r2, r3, r4⟩ := ors HQ8.out
            have r5 := aff_eq q
            obtain ⟨f, hf⟩ : ∃ f, aff q = f := ⟨_, rfl⟩
            rw [hf] at r5
            have HF := Lib.hid hf
            clear hf
            have e1 : (a2.toNat : Int) = a2 := by omega
            have hat : a2.toNat < 256 := by omega
            have d0 := HX.out.cell (i := a2.toNat) (by rw [HOK.out.2.2]; exact hat)
            have f0 := HX.out.frozen a2.toNat
            generalize (gen k).2.2.getD a2.toNat 0 = old at d0
            have E1 := Lib.hid e1
            clear e1
            go_wp2_with fail
            go_roundw
            case rel => exact ⟨k + 1, a2, q, by omega, by go_num, rfl, rfl, Lib.hid (by rw [HGN.out, ← HA.out]; exact HA2.out), Lib.hid (by rw [HGN.out, ← HB.out]; exact HQ.out), Lib.hid (Arr.cast (HX.out.set a2.toNat _) (by rw [HGN.out, ← HA.out, ← HB.out, ← HQ.out, ← HA2.out, HF.out])), Lib.hid (only_setCell HG.out (.inl rfl) _)⟩
            case measure => simp [intOf]; omega
          · rw [if_neg hge] at hand
            obtain ⟨q, rfl⟩ : ∃ q, q = x := ⟨_, rfl⟩
            have HQ : Hid (q = gq b) := Lib.hid (by rw [gq_lo (by rw [← HXX.out]; exact hge), ← HXX.out])
            have HQ8 : Hid (B8 q) := Lib.hid hx8
            have HGN := Lib.hid (gen_succ k)
            have hQ : B8 q := HQ8.out
            obtain ⟨hq0, hq1⟩ := hQ
            obtain ⟨r1, r2, r3, r4⟩ := ors HQ8.out
            have r5 := aff_eq q
            obtain ⟨f, hf⟩ : ∃ f, aff q = f := ⟨_, rfl⟩
            rw [hf] at r5
            have HF := Lib.hid hf
            have R1 : Hid (bits .or .u8 (q * 2) (q / 128) = q * 2 % 256 + q / 128) := Lib.hid (by have h := r1; rw [show q * 2 % 256 = q * 2 by omega] at h ⊢; exact h)
            have R5 := Lib.hid r5
            clear hf
            have e1 : (a2.toNat : Int) = a2 := by omega
            have hat : a2.toNat < 256 := by omega
            have d0 := HX.out.cell (i := a2.toNat) (by rw [HOK.out.2.2]; exact hat)
            have f0 := HX.out.frozen a2.toNat
            generalize (gen k).2.2.getD a2.toNat 0 = old at d0
            have E1 := Lib.hid e1
            clear e1
            go_wp2_with fail
            go_roundw
            case rel => exact ⟨k + 1, a2, q, by omega, by go_num, rfl, rfl, Lib.hid (by rw [HGN.out, ← HA.out]; exact HA2.out), Lib.hid (by rw [HGN.out, ← HB.out]; exact HQ.out), Lib.hid (Arr.cast (HX.out.set a2.toNat _) (by rw [HGN.out, ← HA.out, ← HB.out, ← HQ.out, ← HA2.out, HF.out]; show _ = (gen k).2.2.set a2.toNat f; rw [R1.out, R5.out])), Lib.hid (only_setCell HG.out (.inl rfl) _)⟩
            case measure => simp [intOf]; omega
    · have hk255 : k = 255 := by omega
      have HAB : Hid (Arr wr (w.heap.size + 1) 78 .u8 boxL) := Lib.hid (Arr.cast HX.out (by rw [hk255, boxL_eq]))
      have HBL := Lib.hid boxL_len
      have RB2 := Lib.hid (Blk.grown RB1.out HG.out (by simp))
      have B2 := Lib.hid (B1.out.trans (below_of_only HG.out (by omega) B1.out.size))
      clear HX hk255
      go_wp2_with (first
        | ((with_reducible (show wpList _ _ _ (⟨some 57, _, _, _, _, _⟩ :: _) _ _)); refine wpList_loadArr (o := ⟨some 57, _, _, _, _, _⟩) (g := w.heap.size + 1) (t := 78) (k := .u8) (xs := boxL) (n := 256) rfl _ rfl rfl HAB.out Try.underlying78 size256 HBL.out.symm ?_)
        | ((with_reducible (show wpList _ _ _ (⟨none, .store 78 _ _, _, _, _, _⟩ :: _) _ _)); refine wpList_storeArr (o := ⟨none, .store 78 _ _, _, _, _, _⟩) (g := w.heap.size) (t := 78) (k := .u8) (xs := boxL) (n := 256) rfl _ _ rfl rfl rfl RB2.out size256 HBL.out.symm HZ.out ?_; intro w9 ha9 hg9))
      exact ret_arr (g := w.heap.size) (t := 78) (k := .u8) (xs := boxL) rfl rfl ha9 Try.underlying78 size256 HBL.out.symm rfl ⟨rfl, B2.out.trans (below_of_only hg9 (Nat.le_refl _) B2.out.size)⟩

set_option maxRecDepth 100000 in
theorem sub_any (b : Int) (w : World) (hb : B8 b) : Calls Try.prog 21 #[.int .u8 b] w fun e w' => e = .returned (.int .u8 (sub b)) ∧ Below w.heap.size w w' := by
  have HZ : Hid (Try.zeroCells78.size = 256) := Lib.hid (by kernel_rfl)
  have HBL := Lib.hid boxL_len
  have HS := Lib.hid (show boxL.getD b.toNat 0 = sub b from rfl)
  obtain ⟨h0, h1⟩ := hb
  go_enter Try.func21, Try.ntmps21
  go_wp2_with fail
  refine Calls.mono (boxes_any _) ?_
  rintro e w1 ⟨rfl, hb1⟩
  have B1 := Lib.hid hb1
  clear hb1
  go_wp2_with ((with_reducible (show wpList _ _ _ (⟨none, .store 78 _ _, _, _, _, _⟩ :: _) _ _)); refine wpList_storeArr (o := ⟨none, .store 78 _ _, _, _, _, _⟩) (g := w1.heap.size) (t := 78) (k := .u8) (xs := boxL) (n := 256) rfl _ _ rfl rfl rfl (Blk.new _ _ _) size256 HBL.out.symm HZ.out ?_; intro w2 ha2 hg2; have B2 := Lib.hid ((B1.out.alloc B1.out.size _).trans (below_of_only hg2 B1.out.size (by have := B1.out.size; simp; omega))); have d0 := ha2.cell (i := b.toNat) (by rw [HBL.out]; omega); rw [HS.out] at d0; clear ha2 hg2)
  go_ret
  exact ⟨rfl, B2.out⟩
end Go.Proofs.Ytepkbllcaeceeaa
