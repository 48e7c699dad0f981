/- Contract: aes.mix. Conditions: as each theorem states them. -/
import Derived.Test.YtepkbllcaeceeaaE2
import Derived.Test.YtepkbllcaeceeaaE7
import Derived.Test.YtepkbllcaeceeaaQO
import Derived.Test.YtepkbllcaeceeaaLV
namespace Go.Proofs.Ytepkbllcaeceeaa
open Go.RowKit
/-- behind k bytes of the column that begins at i -/
def mixSt (s : List Int) (i : Nat) : Nat → List Int
  | 0 => s
  | k + 1 => (mixSt s i k).set (i + k) (mixJ s i k)
theorem mixSt_len (s : List Int) (i : Nat) : ∀ k, (mixSt s i k).length = s.length
  | 0 => rfl
  | k + 1 => by rw [mixSt, List.length_set, mixSt_len s i k]
theorem mixSt_getD (s : List Int) (i : Nat) : ∀ k j, i + k ≤ j → (mixSt s i k).getD j 0 = s.getD j 0
  | 0, _, _ => rfl
  | k + 1, j, h => by rw [mixSt, getD_set', if_neg (by omega), mixSt_getD s i k j (by omega)]
theorem mixSt_all (s : List Int) (i : Nat) : mixSt s i 4 = mixAt s i := rfl
theorem mixSt_succ (s : List Int) (i k : Nat) : mixSt s i (k + 1) = (mixSt s i k).set (i + k) (mixJ s i k) := rfl
attribute [irreducible] mixSt
set_option maxRecDepth 100000 in
set_option maxHeartbeats 4000000 in
theorem mix_any (g i c : Nat) (s : List Int) (w : World) (hs : Blk16 s) (hi : i + 3 < 16) (h : Arr w g 32 .u8 s) : Calls Try.prog 55 #[.slice (some ⟨g, i, none⟩) 4 c] w fun e w' => (∃ v, e = .returned v) ∧ Arr w' g 32 .u8 (mixAt s i) ∧ w.grownBy w' (some g) := by
  have c0 := h.cell (i := i) (by rw [hs.1]; omega)
  have c1 := h.cell (i := i + 1) (by rw [hs.1]; omega)
  have c2 := h.cell (i := i + 2) (by rw [hs.1]; omega)
  have c3 := h.cell (i := i + 3) (by rw [hs.1]; omega)
  have HS := Lib.hid hs
  have HA := Lib.hid h
  have J0 : Hid (mixJ s i 0 = mcolB (s.getD i 0) (s.getD (i + 1) 0) (allX (s.getD i 0) (s.getD (i + 1) 0) (s.getD (i + 2) 0) (s.getD (i + 3) 0))) := Lib.hid rfl
  have J1 : Hid (mixJ s i 1 = mcolB (s.getD (i + 1) 0) (s.getD (i + 2) 0) (allX (s.getD i 0) (s.getD (i + 1) 0) (s.getD (i + 2) 0) (s.getD (i + 3) 0))) := Lib.hid rfl
  have J2 : Hid (mixJ s i 2 = mcolB (s.getD (i + 2) 0) (s.getD (i + 3) 0) (allX (s.getD i 0) (s.getD (i + 1) 0) (s.getD (i + 2) 0) (s.getD (i + 3) 0))) := Lib.hid rfl
  have J3 : Hid (mixJ s i 3 = mcolB (s.getD (i + 3) 0) (s.getD i 0) (allX (s.getD i 0) (s.getD (i + 1) 0) (s.getD (i + 2) 0) (s.getD (i + 3) 0))) := Lib.hid rfl
  have G1 : Hid (∀ k, k < 4 → ∀ j, i + k ≤ j → (mixSt s i k).getD j 0 = s.getD j 0) := Lib.hid (fun k _ j hj => mixSt_getD s i k j hj)
  have GL : Hid (∀ k, (mixSt s i k).length = 16) := Lib.hid (fun k => by rw [mixSt_len, hs.1])
  have GS := Lib.hid (mixSt_succ s i)
  have GA := Lib.hid (mixSt_all s i)
  have G0 : Hid (mixSt s i 0 = s) := Lib.hid (by unfold mixSt; rfl)
  clear hs h
  obtain ⟨x0, hx0⟩ : ∃ x, s.getD i 0 = x := ⟨_, rfl⟩
  obtain ⟨x1, hx1⟩ : ∃ x, s.getD (i + 1) 0 = x := ⟨_, rfl⟩
  obtain ⟨x2, hx2⟩ : ∃ x, s.getD (i + 2) 0 = x := ⟨_, rfl⟩
  obtain ⟨x3, hx3⟩ : ∃ x, s.getD (i + 3) 0 = x := ⟨_, rfl⟩
  rw [hx0] at c0 J0 J1 J2 J3
  rw [hx1] at c1 J0 J1 J2 J3
  rw [hx2] at c2 J0 J1 J2 J3
  rw [hx3] at c3 J0 J1 J2 J3
  have HX0 := Lib.hid hx0
  have HX1 := Lib.hid hx1
  have HX2 := Lib.hid hx2
  have HX3 := Lib.hid hx3
  clear hx0 hx1 hx2 hx3
  go_enter Try.func55, Try.ntmps55
  go_wp2_with fail
  go_quiet (fail)
  go_wp2_with fail
  obtain ⟨al, hal⟩ : ∃ al, bits .xor .u8 (bits .xor .u8 (bits .xor .u8 x0 x1) x2) x3 = al := ⟨_, rfl⟩
  have HAL : Hid (allX x0 x1 x2 x3 = al) := Lib.hid hal
  rw [hal]
  clear hal c0 c1 c2 c3
  go_loopw [26] (fun j wr => ∃ k : Nat, k ≤ 4 ∧ j = .int .i64 k ∧ Hid (Arr wr g 32 .u8 (mixSt s i k)) ∧ Hid (w.grownBy wr (some g))) (fun j _ => 4 - (intOf j).toNat)
  case atStart => exact ⟨0, by omega, rfl, Lib.hid (by rw [G0.out]; exact HA.out), Lib.hid (only_drewN (World.grownBy.refl _ _) _)⟩
  case round =>
    obtain ⟨k, hk, rfl, HR, HG⟩ := hrel
    rcases (show k = 0 ∨ k = 1 ∨ k = 2 ∨ k = 3 ∨ k = 4 by omega) with rfl | rfl | rfl | rfl | rfl
    · have hgl := HR.out.lt
      have d0 : ∀ r : BW wr.heap.size wr, r.world.cell? ⟨g, i, none⟩ = some (.int .u8 x0) := fun r => by
        have := (HR.out.belowAll r.below).cell (i := i) (by rw [GL.out]; omega)
        rwa [G1.out 0 (by decide) (i) (by omega), HX0.out] at this
      have e0 : wr.cell? ⟨g, i, none⟩ = some (.int .u8 x0) := d0 ⟨wr, Below.refl _ _⟩
      have f0 := HR.out.frozen (i)
      have e1 : wr.cell? ⟨g, i + 1, none⟩ = some (.int .u8 x1) := by
        have := HR.out.cell (i := i + 1) (by rw [GL.out]; omega)
        rwa [G1.out 0 (by decide) (i + 1) (by omega), HX1.out] at this
      go_wp2_with fail
      have BD := Lib.hid (Below.drew (Below.refl wr.heap.size wr))
      refine wp_region_mixOB wr.heap.size [([0, 1, 2, 3, 4, 5, 6, 7, 8, 9, 10], 11), ([12, 13, 14], 15)] (by kernel_rfl) (by kernel_rfl) (by kernel_rfl) (by kernel_rfl) (by kernel_rfl) ?_
      try (rw [put_none])
      simp only [pickL, List.map_cons, List.map_nil, List.filterMap_cons, List.filterMap_nil, List.getElem?_cons_succ, List.getElem?_cons_zero]
      refine mixO_cons ?_
      repeat (show wpQuiet _ _ _ _ (_ :: _) _; go_big_quiet_step (fail))
      refine wpQuiet_nil ?_
      show wpList _ _ _ [_] _ _
      go_wp2_with fail
      refine Calls.mono (twice_any _ _ (xb_u _ _)) ?_
      rintro e w4 ⟨rfl, rfl⟩
      go_wp2_with fail
      refine MixO.narrowB BD.out BD.out.size ?_
      refine mixO_cons ?_
      repeat (show wpQuiet _ _ _ _ (_ :: _) _; go_big_quiet_step (fail))
      refine wpQuiet_nil ?_
      show wpList _ _ _ [_] _ _
      go_wp2_with fail
      refine MixO.last ?_
      refine mixO_nil ?_
      refine wpQuiet_nil ?_
      refine NoPanic.normal ?_
      go_wp2_with fail
      go_roundw
      case rel => exact ⟨1, by omega, by go_num, Lib.hid (Arr.cast (Arr.set (w := wr.drew) HR.out (i) _) (by rw [GS.out 0, J0.out, HAL.out]; rfl)), Lib.hid (only_setCell (only_drew HG.out) (.inl rfl) _)⟩
      case measure => simp [intOf]
    · have hgl := HR.out.lt
      have d0 : ∀ r : BW wr.heap.size wr, r.world.cell? ⟨g, i + 1, none⟩ = some (.int .u8 x1) := fun r => by
        have := (HR.out.belowAll r.below).cell (i := i + 1) (by rw [GL.out]; omega)
        rwa [G1.out 1 (by decide) (i + 1) (by omega), HX1.out] at this
      have e0 : wr.cell? ⟨g, i + 1, none⟩ = some (.int .u8 x1) := d0 ⟨wr, Below.refl _ _⟩
      have f0 := HR.out.frozen (i + 1)
      have e1 : wr.cell? ⟨g, i + 2, none⟩ = some (.int .u8 x2) := by
        have := HR.out.cell (i := i + 2) (by rw [GL.out]; omega)
        rwa [G1.out 1 (by decide) (i + 2) (by omega), HX2.out] at this
      go_wp2_with fail
      have BD := Lib.hid (Below.drew (Below.refl wr.heap.size wr))
      refine wp_region_mixOB wr.heap.size [([0, 1, 2, 3, 4, 5, 6, 7, 8, 9, 10], 11), ([12, 13, 14], 15)] (by kernel_rfl) (by kernel_rfl) (by kernel_rfl) (by kernel_rfl) (by kernel_rfl) ?_
      try (rw [put_none])
      simp only [pickL, List.map_cons, List.map_nil, List.filterMap_cons, List.filterMap_nil, List.getElem?_cons_succ, List.getElem?_cons_zero]
      refine mixO_cons ?_
      repeat (show wpQuiet _ _ _ _ (_ :: _) _; go_big_quiet_step (fail))
      refine wpQuiet_nil ?_
      show wpList _ _ _ [_] _ _
      go_wp2_with fail
      refine Calls.mono (twice_any _ _ (xb_u _ _)) ?_
      rintro e w4 ⟨rfl, rfl⟩
      go_wp2_with fail
      refine MixO.narrowB BD.out BD.out.size ?_
      refine mixO_cons ?_
      repeat (show wpQuiet _ _ _ _ (_ :: _) _; go_big_quiet_step (fail))
      refine wpQuiet_nil ?_
      show wpList _ _ _ [_] _ _
      go_wp2_with fail
      refine MixO.last ?_
      refine mixO_nil ?_
      refine wpQuiet_nil ?_
      refine NoPanic.normal ?_
      go_wp2_with fail
      go_roundw
      case rel => exact ⟨2, by omega, by go_num, Lib.hid (Arr.cast (Arr.set (w := wr.drew) HR.out (i + 1) _) (by rw [GS.out 1, J1.out, HAL.out]; rfl)), Lib.hid (only_setCell (only_drew HG.out) (.inl rfl) _)⟩
      case measure => simp [intOf]
    · have hgl := HR.out.lt
      have d0 : ∀ r : BW wr.heap.size wr, r.world.cell? ⟨g, i + 2, none⟩ = some (.int .u8 x2) := fun r => by
        have := (HR.out.belowAll r.below).cell (i := i + 2) (by rw [GL.out]; omega)
        rwa [G1.out 2 (by decide) (i + 2) (by omega), HX2.out] at this
      have e0 : wr.cell? ⟨g, i + 2, none⟩ = some (.int .u8 x2) := d0 ⟨wr, Below.refl _ _⟩
      have f0 := HR.out.frozen (i + 2)
      have e1 : wr.cell? ⟨g, i + 3, none⟩ = some (.int .u8 x3) := by
        have := HR.out.cell (i := i + 3) (by rw [GL.out]; omega)
        rwa [G1.out 2 (by decide) (i + 3) (by omega), HX3.out] at this
      go_wp2_with fail
      have BD := Lib.hid (Below.drew (Below.refl wr.heap.size wr))
      refine wp_region_mixOB wr.heap.size [([0, 1, 2, 3, 4, 5, 6, 7, 8, 9, 10], 11), ([12, 13, 14], 15)] (by kernel_rfl) (by kernel_rfl) (by kernel_rfl) (by kernel_rfl) (by kernel_rfl) ?_
      try (rw [put_none])
      simp only [pickL, List.map_cons, List.map_nil, List.filterMap_cons, List.filterMap_nil, List.getElem?_cons_succ, List.getElem?_cons_zero]
      refine mixO_cons ?_
      repeat (show wpQuiet _ _ _ _ (_ :: _) _; go_big_quiet_step (fail))
      refine wpQuiet_nil ?_
      show wpList _ _ _ [_] _ _
      go_wp2_with fail
      refine Calls.mono (twice_any _ _ (xb_u _ _)) ?_
      rintro e w4 ⟨rfl, rfl⟩
      go_wp2_with fail
      refine MixO.narrowB BD.out BD.out.size ?_
      refine mixO_cons ?_
      repeat (show wpQuiet _ _ _ _ (_ :: _) _; go_big_quiet_step (fail))
      refine wpQuiet_nil ?_
      show wpList _ _ _ [_] _ _
      go_wp2_with fail
      refine MixO.last ?_
      refine mixO_nil ?_
      refine wpQuiet_nil ?_
      refine NoPanic.normal ?_
      go_wp2_with fail
      go_roundw
      case rel => exact ⟨3, by omega, by go_num, Lib.hid (Arr.cast (Arr.set (w := wr.drew) HR.out (i + 2) _) (by rw [GS.out 2, J2.out, HAL.out]; rfl)), Lib.hid (only_setCell (only_drew HG.out) (.inl rfl) _)⟩
      case measure => simp [intOf]
    · have hgl := HR.out.lt
      have d0 : ∀ r : BW wr.heap.size wr, r.world.cell? ⟨g, i + 3, none⟩ = some (.int .u8 x3) := fun r => by
        have := (HR.out.belowAll r.below).cell (i := i + 3) (by rw [GL.out]; omega)
        rwa [G1.out 3 (by decide) (i + 3) (by omega), HX3.out] at this
      have e0 : wr.cell? ⟨g, i + 3, none⟩ = some (.int .u8 x3) := d0 ⟨wr, Below.refl _ _⟩
      have f0 := HR.out.frozen (i + 3)
      go_wp2_with fail
      have BD := Lib.hid (Below.drew (Below.refl wr.heap.size wr))
      refine wp_region_mixOB wr.heap.size [([0, 1, 2, 3, 4, 5, 6, 7, 8, 9, 10], 11), ([12, 13, 14], 15)] (by kernel_rfl) (by kernel_rfl) (by kernel_rfl) (by kernel_rfl) (by kernel_rfl) ?_
      try (rw [put_none])
      simp only [pickL, List.map_cons, List.map_nil, List.filterMap_cons, List.filterMap_nil, List.getElem?_cons_succ, List.getElem?_cons_zero]
      refine mixO_cons ?_
      repeat (show wpQuiet _ _ _ _ (_ :: _) _; go_big_quiet_step (fail))
      refine wpQuiet_nil ?_
      show wpList _ _ _ [_] _ _
      go_wp2_with fail
      refine Calls.mono (twice_any _ _ (xb_u _ _)) ?_
      rintro e w4 ⟨rfl, rfl⟩
      go_wp2_with fail
      refine MixO.narrowB BD.out BD.out.size ?_
      refine mixO_cons ?_
      repeat (show wpQuiet _ _ _ _ (_ :: _) _; go_big_quiet_step (fail))
      refine wpQuiet_nil ?_
      show wpList _ _ _ [_] _ _
      go_wp2_with fail
      refine MixO.last ?_
      refine mixO_nil ?_
      refine wpQuiet_nil ?_
      refine NoPanic.normal ?_
      go_wp2_with fail
      go_roundw
      case rel => exact ⟨4, by omega, by go_num, Lib.hid (Arr.cast (Arr.set (w := wr.drew) HR.out (i + 3) _) (by rw [GS.out 3, J3.out, HAL.out]; rfl)), Lib.hid (only_setCell (only_drew HG.out) (.inl rfl) _)⟩
      case measure => simp [intOf]
    · have HF : Hid (Arr wr g 32 .u8 (mixAt s i)) := Lib.hid (Arr.cast HR.out GA.out)
      go_wp2_with fail
      go_end0
      exact ⟨⟨_, rfl⟩, HF.out, HG.out⟩
end Go.Proofs.Ytepkbllcaeceeaa
