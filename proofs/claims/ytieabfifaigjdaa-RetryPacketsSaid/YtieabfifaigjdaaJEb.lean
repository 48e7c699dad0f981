/- Layer 8 and its reference: contracts. Conditions: as each theorem states them. -/
import Derived.Test.YtieabfifaigjdaaJEa
import Derived.Test.YtieabfifaigjdaaQO
import Derived.Test.YtieabfifaigjdaaLV
import Derived.Test.YtieabfifaigjdaaCP
import Derived.Test.YtieabfifaigjdaaQP
import Derived.Test.YtieabfifaigjdaaMK
/- Contract: aes.mix. Conditions: as each theorem states them. -/
namespace Go.Proofs.Ytieabfifaigjdaa
open Go.RowKit
/-- behind k bytes of the column that begins at i -/
def mixSt (s : List Int) (i : Nat) : Nat → List Int
  | 0 => s
  | k + 1 => (mixSt s i k).set (i + k) (mixJ s i k)
theorem mixSt_len (s : List Int) (i : Nat) : ∀ k, (mixSt s i k).length = s.length
  | 0 => rfl
  | k + 1 => by rw [mixSt, List.length_set, mixSt_len s i k]
theorem mixSt_getD (s : List Int) (i : Nat) : ∀ k j, i + k ≤ j → (mixSt s i k).getD j 0 = s.getD j 0
  | 0, _, _ => rfl
  | k + 1, j, h => by rw [mixSt, getD_set', if_neg (by omega), mixSt_getD s i k j (by omega)]
theorem mixSt_all (s : List Int) (i : Nat) : mixSt s i 4 = mixAt s i := rfl
theorem mixSt_succ (s : List Int) (i k : Nat) : mixSt s i (k + 1) = (mixSt s i k).set (i + k) (mixJ s i k) := rfl
attribute [irreducible] mixSt
set_option maxRecDepth 100000 in
set_option maxHeartbeats 4000000 in
theorem mix_any (g i c : Nat) (s : List Int) (w : World) (hs : Blk16 s) (hi : i + 3 < 16) (h : Arr w g 66 .u8 s) : Calls Try.prog 74 #[.slice (some ⟨g, i, none⟩) 4 c] w fun e w' => (∃ v, e = .returned v) ∧ Arr w' g 66 .u8 (mixAt s i) ∧ w.grownBy w' (some g) := by
  have c0 := h.cell (i := i) (by rw [hs.1]; omega)
  have c1 := h.cell (i := i + 1) (by rw [hs.1]; omega)
  have c2 := h.cell (i := i + 2) (by rw [hs.1]; omega)
  have c3 := h.cell (i := i + 3) (by rw [hs.1]; omega)
  have HS := Lib.hid hs
  have HA := Lib.hid h
  have J0 : Hid (mixJ s i 0 = mcolB (s.getD i 0) (s.getD (i + 1) 0) (allX (s.getD i 0) (s.getD (i + 1) 0) (s.getD (i + 2) 0) (s.getD (i + 3) 0))) := Lib.hid rfl
  have J1 : Hid (mixJ s i 1 = mcolB (s.getD (i + 1) 0) (s.getD (i + 2) 0) (allX (s.getD i 0) (s.getD (i + 1) 0) (s.getD (i + 2) 0) (s.getD (i + 3) 0))) := Lib.hid rfl
  have J2 : Hid (mixJ s i 2 = mcolB (s.getD (i + 2) 0) (s.getD (i + 3) 0) (allX (s.getD i 0) (s.getD (i + 1) 0) (s.getD (i + 2) 0) (s.getD (i + 3) 0))) := Lib.hid rfl
  have J3 : Hid (mixJ s i 3 = mcolB (s.getD (i + 3) 0) (s.getD i 0) (allX (s.getD i 0) (s.getD (i + 1) 0) (s.getD (i + 2) 0) (s.getD (i + 3) 0))) := Lib.hid rfl
  have G1 : Hid (∀ k, k < 4 → ∀ j, i + k ≤ j → (mixSt s i k).getD j 0 = s.getD j 0) := Lib.hid (fun k _ j hj => mixSt_getD s i k j hj)
  have GL : Hid (∀ k, (mixSt s i k).length = 16) := Lib.hid (fun k => by rw [mixSt_len, hs.1])
  have GS := Lib.hid (mixSt_succ s i)
  have GA := Lib.hid (mixSt_all s i)
  have G0 : Hid (mixSt s i 0 = s) := Lib.hid (by unfold mixSt; rfl)
  clear hs h
  obtain ⟨x0, hx0⟩ : ∃ x, s.getD i 0 = x := ⟨_, rfl⟩
  obtain ⟨x1, hx1⟩ : ∃ x, s.getD (i + 1) 0 = x := ⟨_, rfl⟩
  obtain ⟨x2, hx2⟩ : ∃ x, s.getD (i + 2) 0 = x := ⟨_, rfl⟩
  obtain ⟨x3, hx3⟩ : ∃ x, s.getD (i + 3) 0 = x := ⟨_, rfl⟩
  rw [hx0] at c0 J0 J1 J2 J3
  rw [hx1] at c1 J0 J1 J2 J3
  rw [hx2] at c2 J0 J1 J2 J3
  rw [hx3] at c3 J0 J1 J2 J3
  have HX0 := Lib.hid hx0
  have HX1 := Lib.hid hx1
  have HX2 := Lib.hid hx2
  have HX3 := Lib.hid hx3
  clear hx0 hx1 hx2 hx3
  go_enter Try.func74, Try.ntmps74
  go_wp2_with fail
  go_quiet (fail)
  go_wp2_with fail
  obtain ⟨al, hal⟩ : ∃ al, bits .xor .u8 (bits .xor .u8 (bits .xor .u8 x0 x1) x2) x3 = al := ⟨_, rfl⟩
  have HAL : Hid (allX x0 x1 x2 x3 = al) := Lib.hid hal
  rw [hal]
  clear hal c0 c1 c2 c3
  go_loopw [26] (fun j wr => ∃ k : Nat, k ≤ 4 ∧ j = .int .i64 k ∧ Hid (Arr wr g 66 .u8 (mixSt s i k)) ∧ Hid (w.grownBy wr (some g))) (fun j _ => 4 - (intOf j).toNat)
  case atStart => exact ⟨0, by omega, rfl, Lib.hid (by rw [G0.out]; exact HA.out), Lib.hid (only_drewN (World.grownBy.refl _ _) _)⟩
  case round =>
    obtain ⟨k, hk, rfl, HR, HG⟩ := hrel
    rcases (show k = 0 ∨ k = 1 ∨ k = 2 ∨ k = 3 ∨ k = 4 by omega) with rfl | rfl | rfl | rfl | rfl
    · have hgl := HR.out.lt
      have d0 : ∀ r : BW wr.heap.size wr, r.world.cell? ⟨g, i, none⟩ = some (.int .u8 x0) := fun r => by
        have := (HR.out.belowAll r.below).cell (i := i) (by rw [GL.out]; omega)
        rwa [G1.out 0 (by decide) (i) (by omega), HX0.out] at this
      have e0 : wr.cell? ⟨g, i, none⟩ = some (.int .u8 x0) := d0 ⟨wr, Below.refl _ _⟩
      have f0 := HR.out.frozen (i)
      have e1 : wr.cell? ⟨g, i + 1, none⟩ = some (.int .u8 x1) := by
        have := HR.out.cell (i := i + 1) (by rw [GL.out]; omega)
        rwa [G1.out 0 (by decide) (i + 1) (by omega), HX1.out] at this
      go_wp2_with fail
      have BD := Lib.hid (Below.drew (Below.refl wr.heap.size wr))
      refine wp_region_mixOB wr.heap.size [([0, 1, 2, 3, 4, 5, 6, 7, 8, 9, 10], 11), ([12, 13, 14], 15)] (by kernel_rfl) (by kernel_rfl) (by kernel_rfl) (by kernel_rfl) (by kernel_rfl) ?_
      try (rw [put_none])
      simp only [pickL, List.map_cons, List.map_nil, List.filterMap_cons, List.filterMap_nil, List.getElem?_cons_succ, List.getElem?_cons_zero]
      refine mixO_cons ?_
      repeat (show wpQuiet _ _ _ _ (_ :: _) _; go_big_quiet_step (fail))
      refine wpQuiet_nil ?_
      show wpList _ _ _ [_] _ _
      go_wp2_with fail
      refine Calls.mono (twice_any _ _ (xb_u _ _)) ?_
      rintro e w4 ⟨rfl, rfl⟩
      go_wp2_with fail
      refine MixO.narrowB BD.out BD.out.size ?_
      refine mixO_cons ?_
      repeat (show wpQuiet _ _ _ _ (_ :: _) _; go_big_quiet_step (fail))
      refine wpQuiet_nil ?_
      show wpList _ _ _ [_] _ _
      go_wp2_with fail
      refine MixO.last ?_
      refine mixO_nil ?_
      refine wpQuiet_nil ?_
      refine NoPanic.normal ?_
      go_wp2_with fail
      go_roundw
      case rel => exact ⟨1, by omega, by go_num, Lib.hid (Arr.cast (Arr.set (w := wr.drew) HR.out (i) _) (by rw [GS.out 0, J0.out, HAL.out]; rfl)), Lib.hid (only_setCell (only_drew HG.out) (.inl rfl) _)⟩
      case measure => simp [intOf]
    · have hgl := HR.out.lt
      have d0 : ∀ r : BW wr.heap.size wr, r.world.cell? ⟨g, i + 1, none⟩ = some (.int .u8 x1) := fun r => by
        have := (HR.out.belowAll r.below).cell (i := i + 1) (by rw [GL.out]; omega)
        rwa [G1.out 1 (by decide) (i + 1) (by omega), HX1.out] at this
      have e0 : wr.cell? ⟨g, i + 1, none⟩ = some (.int .u8 x1) := d0 ⟨wr, Below.refl _ _⟩
      have f0 := HR.out.frozen (i + 1)
      have e1 : wr.cell? ⟨g, i + 2, none⟩ = some (.int .u8 x2) := by
        have := HR.out.cell (i := i + 2) (by rw [GL.out]; omega)
        rwa [G1.out 1 (by decide) (i + 2) (by omega), HX2.out] at this
      go_wp2_with fail
      have BD := Lib.hid (Below.drew (Below.refl wr.heap.size wr))
      refine wp_region_mixOB wr.heap.size [([0, 1, 2, 3, 4, 5, 6, 7, 8, 9, 10], 11), ([12, 13, 14], 15)] (by kernel_rfl) (by kernel_rfl) (by kernel_rfl) (by kernel_rfl) (by kernel_rfl) ?_
      try (rw [put_none])
      simp only [pickL, List.map_cons, List.map_nil, List.filterMap_cons, List.filterMap_nil, List.getElem?_cons_succ, List.getElem?_cons_zero]
      refine mixO_cons ?_
      repeat (show wpQuiet _ _ _ _ (_ :: _) _; go_big_quiet_step (fail))
      refine wpQuiet_nil ?_
      show wpList _ _ _ [_] _ _
      go_wp2_with fail
      refine Calls.mono (twice_any _ _ (xb_u _ _)) ?_
      rintro e w4 ⟨rfl, rfl⟩
      go_wp2_with fail
      refine MixO.narrowB BD.out BD.out.size ?_
      refine mixO_cons ?_
      repeat (show wpQuiet _ _ _ _ (_ :: _) _; go_big_quiet_step (fail))
      refine wpQuiet_nil ?_
      show wpList _ _ _ [_] _ _
      go_wp2_with fail
      refine MixO.last ?_
      refine mixO_nil ?_
      refine wpQuiet_nil ?_
      refine NoPanic.normal ?_
      go_wp2_with fail
      go_roundw
      case rel => exact ⟨2, by omega, by go_num, Lib.hid (Arr.cast (Arr.set (w := wr.drew) HR.out (i + 1) _) (by rw [GS.out 1, J1.out, HAL.out]; rfl)), Lib.hid (only_setCell (only_drew HG.out) (.inl rfl) _)⟩
      case measure => simp [intOf]
    · have hgl := HR.out.lt
      have d0 : ∀ r : BW wr.heap.size wr, r.world.cell? ⟨g, i + 2, none⟩ = some (.int .u8 x2) := fun r => by
        have := (HR.out.belowAll r.below).cell (i := i + 2) (by rw [GL.out]; omega)
        rwa [G1.out 2 (by decide) (i + 2) (by omega), HX2.out] at this
      have e0 : wr.cell? ⟨g, i + 2, none⟩ = some (.int .u8 x2) := d0 ⟨wr, Below.refl _ _⟩
      have f0 := HR.out.frozen (i + 2)
      have e1 : wr.cell? ⟨g, i + 3, none⟩ = some (.int .u8 x3) := by
        have := HR.out.cell (i := i + 3) (by rw [GL.out]; omega)
        rwa [G1.out 2 (by decide) (i + 3) (by omega), HX3.out] at this
      go_wp2_with fail
      have BD := Lib.hid (Below.drew (Below.refl wr.heap.size wr))
      refine wp_region_mixOB wr.heap.size [([0, 1, 2, 3, 4, 5, 6, 7, 8, 9, 10], 11), ([12, 13, 14], 15)] (by kernel_rfl) (by kernel_rfl) (by kernel_rfl) (by kernel_rfl) (by kernel_rfl) ?_
      try (rw [put_none])
      simp only [pickL, List.map_cons, List.map_nil, List.filterMap_cons, List.filterMap_nil, List.getElem?_cons_succ, List.getElem?_cons_zero]
      refine mixO_cons ?_
      repeat (show wpQuiet _ _ _ _ (_ :: _) _; go_big_quiet_step (fail))
      refine wpQuiet_nil ?_
      show wpList _ _ _ [_] _ _
      go_wp2_with fail
      refine Calls.mono (twice_any _ _ (xb_u _ _)) ?_
      rintro e w4 ⟨rfl, rfl⟩
      go_wp2_with fail
      refine MixO.narrowB BD.out BD.out.size ?_
      refine mixO_cons ?_
      repeat (show wpQuiet _ _ _ _ (_ :: _) _; go_big_quiet_step (fail))
      refine wpQuiet_nil ?_
      show wpList _ _ _ [_] _ _
      go_wp2_with fail
      refine MixO.last ?_
      refine mixO_nil ?_
      refine wpQuiet_nil ?_
      refine NoPanic.normal ?_
      go_wp2_with fail
      go_roundw
      case rel => exact ⟨3, by omega, by go_num, Lib.hid (Arr.cast (Arr.set (w := wr.drew) HR.out (i + 2) _) (by rw [GS.out 2, J2.out, HAL.out]; rfl)), Lib.hid (only_setCell (only_drew HG.out) (.inl rfl) _)⟩
      case measure => simp [intOf]
    · have hgl := HR.out.lt
      have d0 : ∀ r : BW wr.heap.size wr, r.world.cell? ⟨g, i + 3, none⟩ = some (.int .u8 x3) := fun r => by
        have := (HR.out.belowAll r.below).cell (i := i + 3) (by rw [GL.out]; omega)
        rwa [G1.out 3 (by decide) (i + 3) (by omega), HX3.out] at this
      have e0 : wr.cell? ⟨g, i + 3, none⟩ = some (.int .u8 x3) := d0 ⟨wr, Below.refl _ _⟩
      have f0 := HR.out.frozen (i + 3)
      go_wp2_with fail
      have BD := Lib.hid (Below.drew (Below.refl wr.heap.size wr))
      refine wp_region_mixOB wr.heap.size [([0, 1, 2, 3, 4, 5, 6, 7, 8, 9, 10], 11), ([12, 13, 14], 15)] (by kernel_rfl) (by kernel_rfl) (by kernel_rfl) (by kernel_rfl) (by kernel_rfl) ?_
      try (rw [put_none])
      simp only [pickL, List.map_cons, List.map_nil, List.filterMap_cons, List.filterMap_nil, List.getElem?_cons_succ, List.getElem?_cons_zero]
      refine mixO_cons ?_
      repeat (show wpQuiet _ _ _ _ (_ :: _) _; go_big_quiet_step (fail))
      refine wpQuiet_nil ?_
      show wpList _ _ _ [_] _ _
      go_wp2_with fail
      refine Calls.mono (twice_any _ _ (xb_u _ _)) ?_
      rintro e w4 ⟨rfl, rfl⟩
      go_wp2_with fail
      refine MixO.narrowB BD.out BD.out.size ?_
      refine mixO_cons ?_
      repeat (show wpQuiet _ _ _ _ (_ :: _) _; go_big_quiet_step (fail))
      refine wpQuiet_nil ?_
      show wpList _ _ _ [_] _ _
      go_wp2_with fail
      refine MixO.last ?_
      refine mixO_nil ?_
      refine wpQuiet_nil ?_
      refine NoPanic.normal ?_
      go_wp2_with fail
      go_roundw
      case rel => exact ⟨4, by omega, by go_num, Lib.hid (Arr.cast (Arr.set (w := wr.drew) HR.out (i + 3) _) (by rw [GS.out 3, J3.out, HAL.out]; rfl)), Lib.hid (only_setCell (only_drew HG.out) (.inl rfl) _)⟩
      case measure => simp [intOf]
    · have HF : Hid (Arr wr g 66 .u8 (mixAt s i)) := Lib.hid (Arr.cast HR.out GA.out)
      go_wp2_with fail
      go_end0
      exact ⟨⟨_, rfl⟩, HF.out, HG.out⟩
end Go.Proofs.Ytieabfifaigjdaa
/- Contract: aes.keys. Conditions: as each theorem states them. -/
namespace Go.Proofs.Ytieabfifaigjdaa
open Go.RowKit
def nul (n : Nat) : List Int := List.replicate n 0
theorem nul_len (n : Nat) : (nul n).length = n := by simp [nul]
theorem z40 : Try.zeroCells88 = cellsL .u8 (nul 176) := by kernel_rfl
theorem z99 : Try.zeroCells107 = cellsL .u8 (nul 176) := by kernel_rfl
theorem size40 : (Try.prog.info? 88).map (·.size) = some 176 := by kernel_rfl
theorem size99 : (Try.prog.info? 107).map (·.size) = some 176 := by kernel_rfl
theorem sizeE16 : (Try.prog.info? 66).map (·.size) = some 16 := by kernel_rfl
theorem sizeE4 : (Try.prog.info? 106).map (·.size) = some 4 := by kernel_rfl
theorem sizeE1 : (Try.prog.info? 5).map (·.size) = some 1 := by kernel_rfl
/-- the box stands at the head of block g -/
def Bx (w : World) (g : Nat) : Prop := g < w.heap.size ∧ ∀ i, i < 256 → w.cell? ⟨g, i, none⟩ = some (.int .u8 (boxL.getD i 0))
theorem Bx.below {w w' : World} {g N : Nat} (h : Bx w g) (hb : Below N w w') (hN : g < N) : Bx w' g := ⟨Nat.lt_of_lt_of_le h.1 hb.size, fun i hi => Below.cell_some hb (h.2 i hi) hN⟩
theorem Bx.all {w w' : World} {g : Nat} (h : Bx w g) (hb : Below w.heap.size w w') : Bx w' g := h.below hb h.1
theorem Bx.of_arr {w : World} {g : Nat} {t : TypeId} (h : Arr w g t .u8 boxL) : Bx w g := ⟨h.lt, fun i hi => h.cell (by rw [boxL_len]; exact hi)⟩
theorem blk_newAt {w : World} {cs : Array Value} {t : TypeId} {g : Nat} (hg : w.heap.size = g) : Blk (w.alloc (.cells cs t)) g t cs := by subst hg; exact Blk.new _ _ _
/-- the frame: the key, the result's place, the columns so far -/
def KF (w0 : World) (b : Nat) (K xs : List Int) (w : World) : Prop := Arr w b 66 .u8 K ∧ Blk w (b + 1) 88 Try.zeroCells88 ∧ Arr w (b + 1 + 1) 107 .u8 (flN 176 xs) ∧ Below b w0 w
theorem KF.below {w0 w w' : World} {b : Nat} {K xs : List Int} (h : KF w0 b K xs w) (hb : Below w.heap.size w w') : KF w0 b K xs w' :=
  ⟨h.1.belowAll hb, h.2.1.below hb h.2.1.lt, h.2.2.1.belowAll hb, h.2.2.2.trans (hb.mono (Nat.le_of_lt h.1.lt))⟩
theorem KF.put {w0 w w' : World} {b : Nat} {K xs ys : List Int} (h : KF w0 b K xs w) (hk : Arr w' (b + 1 + 1) 107 .u8 (flN 176 ys)) (hg : w.grownBy w' (some (b + 1 + 1))) : KF w0 b K ys w' :=
  ⟨h.1.grown hg (by simp; omega), h.2.1.grown hg (by simp), hk, h.2.2.2.trans (below_of_only hg (by omega) (Nat.le_of_lt h.1.lt))⟩
theorem keys_full {K : List Int} (h : Blk16 K) : (wkL K).length = 176 := wkL_len h
theorem kcol_getD (w : List Int) (c : Int) (i : Nat) {j : Nat} (hj : j < 4) : (kcol w c i).getD j 0 = kn w c i j := by
  unfold kcol
  rcases (show j = 0 ∨ j = 1 ∨ j = 2 ∨ j = 3 by omega) with rfl | rfl | rfl | rfl <;> rfl
theorem append_getDl {a : List Int} (b : List Int) {i : Nat} (h : i < a.length) : (a ++ b).getD i 0 = a.getD i 0 := by
  rw [List.getD_eq_getElem?_getD, List.getElem?_append_left h, List.getD_eq_getElem?_getD]
theorem four_of {xs : List Int} {o : Nat} (h : o + 4 ≤ xs.length) : (xs.drop o).take 4 = [xs.getD o 0, xs.getD (o + 1) 0, xs.getD (o + 2) 0, xs.getD (o + 3) 0] := by
  rw [List.drop_eq_getElem_cons (by omega), List.drop_eq_getElem_cons (by omega), List.drop_eq_getElem_cons (by omega), List.drop_eq_getElem_cons (by omega)]
  simp only [List.take_succ_cons, List.take_zero, getD_el (show o < xs.length by omega), getD_el (show o + 1 < xs.length by omega), getD_el (show o + 2 < xs.length by omega), getD_el (show o + 3 < xs.length by omega)]
set_option maxRecDepth 100000 in
set_option maxHeartbeats 8000000 in
theorem keys_any (gb : Nat) (K : List Int) (w : World) (hK : Blk16 K) (hb : Bx w gb) : Calls Try.prog 59 #[.pointer (some ⟨gb, 0, none⟩), .agg (cellsL .u8 K)] w fun e w' => e = .returned (.agg (cellsL .u8 (wkL K))) ∧ Below w.heap.size w w' := by
  have HK := Lib.hid hK
  have HB := Lib.hid hb
  have hgb := hb.1
  clear hK hb
  go_enter Try.func59, Try.ntmps59
  go_wp2_with fail
  have F0 : Hid (KF w w.heap.size K [] (((w.alloc (.cells (cellsL .u8 K) 66)).alloc (.cells Try.zeroCells88 88)).alloc (.cells Try.zeroCells107 107))) := Lib.hid ⟨((Arr.newAt rfl rfl).alloc _).alloc _, (blk_newAt (by simp)).alloc _, by rw [flN_nil]; exact Arr.newAt (by simp) z99, (((Below.refl _ _).alloc (Nat.le_refl _) _).alloc (by simp) _).alloc (by simp <;> omega) _⟩
  go_loopw [14] (fun j wr => ∃ k : Nat, k ≤ 4 ∧ j = .int .i64 k ∧ Hid (KF w w.heap.size K (K.take (4 * k)) wr)) (fun j _ => 4 - (intOf j).toNat)
  case atStart => exact ⟨0, by omega, rfl, F0⟩
  case round =>
    obtain ⟨k, hk, rfl, HF⟩ := hrel
    have HKL := Lib.hid HK.out.1
    by_cases hlt : k < 4
    · have q0 : (0 : Int) ≤ 4 * (k : Int) := by omega
      have q1 : 4 * (k : Int) ≤ 16 := by omega
      have q2 : 4 * (k : Int) < 16 := by omega
      go_wp2_with fail
      refine wp_region_mixOB wr.heap.size [([0, 1, 2, 3, 4, 5], 6)] (by kernel_rfl) (by kernel_rfl) (by kernel_rfl) (by kernel_rfl) (by kernel_rfl) ?_
      try (rw [put_none])
      simp only [pickL, List.map_cons, List.map_nil, List.filterMap_cons, List.filterMap_nil, List.getElem?_cons_succ, List.getElem?_cons_zero]
      refine mixO_cons ?_
      repeat (show wpQuiet _ _ _ _ (_ :: _) _; go_big_quiet_step (fail))
      refine wpQuiet_nil ?_
      show wpList _ _ _ [_] _ _
      have hkl : (K.take (4 * k)).length = k * 4 := by rw [List.length_take, HKL.out]; omega
      have HKT := Lib.hid hkl
      have HKD : Hid ((K.drop (4 * k)).length = 16 - 4 * k) := Lib.hid (by rw [List.length_drop, HKL.out])
      have HOV : Hid (ovi (flN 176 (K.take (4 * k))) (k * 4) ((K.drop (4 * k)).take 4) = flN 176 (K.take (4 * (k + 1)))) := Lib.hid (by
        rw [← hkl, ovi_flN (by rw [hkl, List.length_take, HKD.out]; omega), show 4 * (k + 1) = 4 * k + 4 by omega, List.take_add])
      have HFL : Hid ((flN 176 (K.take (4 * k))).length = 176) := Lib.hid (flN_len (by rw [hkl]; omega))
      clear hkl
      go_wp2_with ((with_reducible (show wpList _ _ _ (⟨some 23, _, _, _, _, _⟩ :: _) _ _)); refine wpList_copyAt (o := ⟨some 23, _, _, _, _, _⟩) (m := 4) rfl _ _ rfl Try.underlying22 sizeE1 rfl rfl (Arr.drew HF.out.2.2.1) (Rd.drew (arr_rdAt HF.out.1 (4 * k))) HKD.out ?_ ?_ ?_; (show 4 = min _ _; omega); (rw [HFL.out]; omega); intro w4 ha4 hg4; rw [HOV.out] at ha4; have HA4 := Lib.hid ha4; have HG4 := Lib.hid hg4; clear ha4 hg4)
      have HF4 := Lib.hid (KF.put (w := wr.drew) ⟨HF.out.1, HF.out.2.1, HF.out.2.2.1, HF.out.2.2.2.drew⟩ HA4.out HG4.out)
      clear HOV HFL HKT HKD HA4 HG4
      refine MixO.last ?_
      refine mixO_nil ?_
      refine wpQuiet_nil ?_
      refine NoPanic.normal ?_
      go_wp2_with fail
      go_roundw
      case rel => exact ⟨k + 1, by omega, by go_num, HF4⟩
      case measure => simp [intOf]; omega
    · have hk4 : k = 4 := by omega
      have HF1 : Hid (KF w w.heap.size K (kexp K (4 - 4)).1 wr) := Lib.hid (by have h := HF.out; rw [hk4, List.take_of_length_le (by rw [HKL.out]; decide)] at h; rw [kexp_zero]; exact h)
      have HC1 : Hid ((1 : Int) = (kexp K (4 - 4)).2) := Lib.hid (by rw [kexp_zero])
      have HBX : Hid (Bx wr gb) := Lib.hid (HB.out.below HF.out.2.2.2 hgb)
      have hb3 : w.heap.size + 1 + 1 < wr.heap.size := HF.out.2.2.1.lt
      obtain ⟨w1, rfl⟩ : ∃ w1 : World, w1 = wr := ⟨_, rfl⟩
      obtain ⟨k1, rfl⟩ : ∃ k1 : Nat, k1 = k := ⟨_, rfl⟩
      clear HF hk4 F0
      go_wp2_with fail
      go_loopw [7, 8] (fun u j wr => ∃ (k : Nat) (c : Int), 4 ≤ k ∧ k ≤ 44 ∧ j = .int .i64 k ∧ u = .int .u8 c ∧ Hid (c = (kexp K (k - 4)).2) ∧ Hid (KF w w.heap.size K (kexp K (k - 4)).1 wr) ∧ Hid (Bx wr gb)) (fun _ j _ => 44 - (intOf j).toNat)
      case atStart => exact ⟨4, 1, by omega, by omega, rfl, rfl, HC1, HF1, HBX⟩
      case round =>
        clear HF1 HC1 HBX hlt hk
        obtain ⟨k, c, hk4, hk, rfl, rfl, HC, HF, HX⟩ := hrel
        by_cases hlt : k < 44
        · have HOK := Lib.hid (kexp_ok HK.out (k - 4))
          have HKX := Lib.hid (kexp_succ K (k - 4))
          have hx8 : B8 c := by rw [HC.out]; exact HOK.out.2.2
          have HC8 := Lib.hid hx8
          obtain ⟨hc0, hc1⟩ := hx8
          rw [← HC.out] at HKX HOK
          generalize (kexp K (k - 4)).1 = xs at *
          have HXL : Hid (xs.length = 4 * k) := Lib.hid (by have := HOK.out.1; omega)
          have HXB := Lib.hid HOK.out.2.1
          have hl32 : (Instr.loadAt 106 (.pointer (some ⟨w.heap.size + 1 + 1, (k - 1) * 4, none⟩))).run Try.prog wr = .ok (.agg (cellsL .u8 [xs.getD ((k - 1) * 4) 0, xs.getD ((k - 1) * 4 + 1) 0, xs.getD ((k - 1) * 4 + 2) 0, xs.getD ((k - 1) * 4 + 3) 0])) wr := by
            have := arr_loadMid (o := (k - 1) * 4) HF.out.2.2.1 Try.underlying106 sizeE4 (by rw [flN_len (by rw [HXL.out]; omega)]; omega)
            rwa [flN_drop xs (by rw [HXL.out]; omega), four_of (by rw [HXL.out]; omega)] at this
          have g0 := HXB.out.getD ((k - 1) * 4)
          have g1 := HXB.out.getD ((k - 1) * 4 + 1)
          have g2 := HXB.out.getD ((k - 1) * 4 + 2)
          have g3 := HXB.out.getD ((k - 1) * 4 + 3)
          obtain ⟨t0, ht0⟩ : ∃ t, xs.getD ((k - 1) * 4) 0 = t := ⟨_, rfl⟩
          obtain ⟨t1, ht1⟩ : ∃ t, xs.getD ((k - 1) * 4 + 1) 0 = t := ⟨_, rfl⟩
          obtain ⟨t2, ht2⟩ : ∃ t, xs.getD ((k - 1) * 4 + 2) 0 = t := ⟨_, rfl⟩
          obtain ⟨t3, ht3⟩ : ∃ t, xs.getD ((k - 1) * 4 + 3) 0 = t := ⟨_, rfl⟩
          rw [ht0, ht1, ht2, ht3] at hl32
          rw [ht0] at g0
          rw [ht1] at g1
          rw [ht2] at g2
          rw [ht3] at g3
          have L32 := Lib.hid hl32
          have HT0 := Lib.hid ht0
          have HT1 := Lib.hid ht1
          have HT2 := Lib.hid ht2
          have HT3 := Lib.hid ht3
          obtain ⟨g00, g01⟩ := g0
          obtain ⟨g10, g11⟩ := g1
          obtain ⟨g20, g21⟩ := g2
          obtain ⟨g30, g31⟩ := g3
          have hgw : w.heap.size + 1 + 1 < wr.heap.size := HF.out.2.2.1.lt
          clear hl32 ht0 ht1 ht2 ht3
          by_cases h4 : k % 4 = 0
          case' pos =>
            have h4i : (k : Int) % 4 = 0 := by omega
            go_wp2_with (first
              | ((with_reducible (show wpList _ _ _ (⟨some 32, .load _ _, _, _, _, _⟩ :: _) _ _)); refine wpList_loadV (o := ⟨some 32, .load _ _, _, _, _, _⟩) rfl _ rfl rfl (L32.out) ?_)
              | (((with_reducible (show wpList _ _ _ (⟨none, .store 106 _ _, _, _, _, _⟩ :: _) _ _)); refine wpList_storeArr (o := ⟨none, .store 106 _ _, _, _, _, _⟩) (g := wr.heap.size) (t := 106) (k := .u8) (xs := [t0, t1, t2, t3]) (n := 4) rfl _ _ rfl rfl rfl (Blk.new _ _ _) sizeE4 (rfl) rfl ?_; intro w5 ha5 hg5; have HA5 := Lib.hid ha5; have HG5 := Lib.hid hg5; clear ha5 hg5); have BW5 := Lib.hid (((Below.refl wr.heap.size wr).alloc (Nat.le_refl _) _).trans (below_of_only HG5.out (Nat.le_refl _) (by simp))); have HF5 := Lib.hid (HF.out.below BW5.out); have HX5 := Lib.hid (HX.out.all BW5.out)))
            have hg5 : wr.heap.size < w5.heap.size := HA5.out.lt
            have e0 : ∀ r : BW w5.heap.size w5, r.world.cell? ⟨wr.heap.size, 0, none⟩ = some (.int .u8 t0) := fun r => (HA5.out.below r.below hg5).cell (i := 0) (by simp)
            have e1 : ∀ r : BW w5.heap.size w5, r.world.cell? ⟨wr.heap.size, 1, none⟩ = some (.int .u8 t1) := fun r => (HA5.out.below r.below hg5).cell (i := 1) (by simp)
            have e2 : ∀ r : BW w5.heap.size w5, r.world.cell? ⟨wr.heap.size, 2, none⟩ = some (.int .u8 t2) := fun r => (HA5.out.below r.below hg5).cell (i := 2) (by simp)
            have e3 : ∀ r : BW w5.heap.size w5, r.world.cell? ⟨wr.heap.size, 3, none⟩ = some (.int .u8 t3) := fun r => (HA5.out.below r.below hg5).cell (i := 3) (by simp)
            have b0 : ∀ r : BW w5.heap.size w5, r.world.cell? ⟨gb, t0.toNat, none⟩ = some (.int .u8 (sub t0)) := fun r => (HX5.out.below r.below HX5.out.1).2 _ (by omega)
            have b1 : ∀ r : BW w5.heap.size w5, r.world.cell? ⟨gb, t1.toNat, none⟩ = some (.int .u8 (sub t1)) := fun r => (HX5.out.below r.below HX5.out.1).2 _ (by omega)
            have b2 : ∀ r : BW w5.heap.size w5, r.world.cell? ⟨gb, t2.toNat, none⟩ = some (.int .u8 (sub t2)) := fun r => (HX5.out.below r.below HX5.out.1).2 _ (by omega)
            have b3 : ∀ r : BW w5.heap.size w5, r.world.cell? ⟨gb, t3.toNat, none⟩ = some (.int .u8 (sub t3)) := fun r => (HX5.out.below r.below HX5.out.1).2 _ (by omega)
            refine wp_region_mixOB w5.heap.size [([0, 1, 2, 3, 4, 5, 6, 7, 8, 9, 10, 11, 12, 13, 14, 15, 16, 17, 18, 19, 20, 21, 22, 23, 24, 25, 26], 27)] (by kernel_rfl) (by kernel_rfl) (by kernel_rfl) (by kernel_rfl) (by kernel_rfl) ?_
            try (rw [put_none])
            simp only [pickL, List.map_cons, List.map_nil, List.filterMap_cons, List.filterMap_nil, List.getElem?_cons_succ, List.getElem?_cons_zero]
            refine mixO_cons ?_
            repeat (show wpQuiet _ _ _ _ (_ :: _) _; go_big_quiet_step (fail))
            obtain ⟨g, hg⟩ : ∃ g, wr.heap.size = g := ⟨_, rfl⟩
            obtain ⟨T, hT⟩ : ∃ T, [bits .xor .u8 (sub t1) c, sub t2, sub t3, sub t0] = T := ⟨_, rfl⟩
            have HTL : Hid (T.length = 4) := Lib.hid (by rw [← hT]; rfl)
            have HTE : Hid (∀ j, j < 4 → T.getD j 0 = kt xs c k j) := Lib.hid (fun j hj => by
              rw [← hT]
              unfold kt
              rw [if_pos h4]
              rcases (show j = 0 ∨ j = 1 ∨ j = 2 ∨ j = 3 by omega) with rfl | rfl | rfl | rfl
              · rw [if_pos rfl, show 4 * k - 3 = (k - 1) * 4 + 1 by omega, HT1.out]; rfl
              · rw [if_neg (by decide), show 4 * k - 4 + (1 + 1) % 4 = (k - 1) * 4 + 2 by omega, HT2.out]; rfl
              · rw [if_neg (by decide), show 4 * k - 4 + (2 + 1) % 4 = (k - 1) * 4 + 3 by omega, HT3.out]; rfl
              · rw [if_neg (by decide), show 4 * k - 4 + (3 + 1) % 4 = (k - 1) * 4 by omega, HT0.out]; rfl)
            obtain ⟨w6, hs6, hz6, hg6⟩ := blk_storeAll (P := Try.prog) (w := w5.drew) (ty := 106) (vs := iv .u8 [bits .xor .u8 (sub t1) c, sub t2, sub t3, sub t0]) HA5.out (by simp [iv]) (iv_one _ _) sizeE4
            have S6 := Lib.hid hs6
            rw [hg] at S6
            have HA6 : Hid (Arr w6 g 106 .u8 T) := Lib.hid (by rw [← hg, ← hT]; exact hz6)
            have HF6 := Lib.hid (HF.out.below (BW5.out.drew.trans (below_of_only hg6 (Nat.le_refl _) (Nat.le_of_lt hg5))))
            have HX6 := Lib.hid (HX.out.all (BW5.out.drew.trans (below_of_only hg6 (Nat.le_refl _) (Nat.le_of_lt hg5))))
            obtain ⟨cc, hcc⟩ : ∃ cc, tw c = cc := ⟨_, rfl⟩
            have HCC : Hid (cc = (kexp K (k - 4 + 1)).2) := Lib.hid (by rw [HKX.out, ← hcc]; show _ = if _ then _ else _; rw [if_pos (by omega)])
            have hgw2 : w.heap.size + 1 + 1 < g := by rw [← hg]; exact hgw
            rw [hg]
            clear hs6 hz6 hg6 e0 e1 e2 e3 b0 b1 b2 b3 hT BW5 HF5 HX5 HA5 HG5 hg5
            refine wpQuiet_nil ?_
            show wpList _ _ _ [_] _ _
            go_wp2_with ((with_reducible (show wpList _ _ _ (⟨none, .store 106 _ _, _, _, _, _⟩ :: _) _ _)); refine wpList_storeV (o := ⟨none, .store 106 _ _, _, _, _, _⟩) rfl _ _ rfl rfl rfl (S6.out) ?_)
            refine MixO.last ?_
            refine mixO_nil ?_
            refine wpQuiet_nil ?_
            refine NoPanic.normal ?_
            go_wp2_with fail
            refine Calls.mono (twice_any c _ HC8.out) ?_
            rintro e w7 ⟨rfl, rfl⟩
            rw [hcc]
            clear S6 hcc h4i h4 hg hgw
          case' neg =>
            have h4i : (k : Int) % 4 ≠ 0 := by omega
            go_wp2_with (first
              | ((with_reducible (show wpList _ _ _ (⟨some 32, .load _ _, _, _, _, _⟩ :: _) _ _)); refine wpList_loadV (o := ⟨some 32, .load _ _, _, _, _, _⟩) rfl _ rfl rfl (L32.out) ?_)
              | (((with_reducible (show wpList _ _ _ (⟨none, .store 106 _ _, _, _, _, _⟩ :: _) _ _)); refine wpList_storeArr (o := ⟨none, .store 106 _ _, _, _, _, _⟩) (g := wr.heap.size) (t := 106) (k := .u8) (xs := [t0, t1, t2, t3]) (n := 4) rfl _ _ rfl rfl rfl (Blk.new _ _ _) sizeE4 (rfl) rfl ?_; intro w5 ha5 hg5; have HA5 := Lib.hid ha5; have HG5 := Lib.hid hg5; clear ha5 hg5); have BW5 := Lib.hid (((Below.refl wr.heap.size wr).alloc (Nat.le_refl _) _).trans (below_of_only HG5.out (Nat.le_refl _) (by simp))); have HF5 := Lib.hid (HF.out.below BW5.out); have HX5 := Lib.hid (HX.out.all BW5.out)))
            obtain ⟨g, hg⟩ : ∃ g, wr.heap.size = g := ⟨_, rfl⟩
            obtain ⟨T, hT⟩ : ∃ T, [t0, t1, t2, t3] = T := ⟨_, rfl⟩
            have HTL : Hid (T.length = 4) := Lib.hid (by rw [← hT]; rfl)
            have HTE : Hid (∀ j, j < 4 → T.getD j 0 = kt xs c k j) := Lib.hid (fun j hj => by
              rw [← hT]
              unfold kt
              rw [if_neg h4]
              rcases (show j = 0 ∨ j = 1 ∨ j = 2 ∨ j = 3 by omega) with rfl | rfl | rfl | rfl
              · rw [show 4 * k - 4 + 0 = (k - 1) * 4 by omega, HT0.out]; rfl
              · rw [show 4 * k - 4 + 1 = (k - 1) * 4 + 1 by omega, HT1.out]; rfl
              · rw [show 4 * k - 4 + 2 = (k - 1) * 4 + 2 by omega, HT2.out]; rfl
              · rw [show 4 * k - 4 + 3 = (k - 1) * 4 + 3 by omega, HT3.out]; rfl)
            obtain ⟨w6, rfl⟩ : ∃ w6 : World, w6 = w5 := ⟨_, rfl⟩
            have HA6 : Hid (Arr w6 g 106 .u8 T) := Lib.hid (by rw [← hg, ← hT]; exact HA5.out)
            have HF6 := HF5
            have HX6 := HX5
            have HCC : Hid (c = (kexp K (k - 4 + 1)).2) := Lib.hid (by rw [HKX.out]; show _ = if _ then _ else _; rw [if_neg (by omega)])
            have hgw2 : w.heap.size + 1 + 1 < g := by rw [← hg]; exact hgw
            rw [hg]
            clear hT BW5 HF5 HX5 HA5 HG5 h4i h4 hg hgw
          all_goals
            have hgW : g < w6.heap.size := HA6.out.lt
            clear L32 HT0 HT1 HT2 HT3 g00 g01 g10 g11 g20 g21 g30 g31
            go_wp2_with fail
            go_loopw [65] (fun jj wi => ∃ j : Nat, j ≤ 4 ∧ jj = .int .i64 j ∧ Hid (KF w w.heap.size K (xs ++ (kcol xs c k).take j) wi) ∧ Hid (Arr wi g 106 .u8 T) ∧ Hid (Bx wi gb)) (fun jj _ => 4 - (intOf jj).toNat)
            case atStart => exact ⟨0, by omega, rfl, Lib.hid (by rw [List.take_zero, List.append_nil]; exact HF6.out), HA6, HX6⟩
            case round =>
              obtain ⟨j, hj, rfl, HFi, HAi, HXi⟩ := hrel
              have HCL : Hid ((kcol xs c k).length = 4) := Lib.hid rfl
              have HTJ : Hid ((xs ++ (kcol xs c k).take j).length = k * 4 + j) := Lib.hid (by rw [List.length_append, List.length_take, HCL.out, HXL.out]; omega)
              by_cases hj4 : j < 4
              · have HN : Hid ((kcol xs c k).getD j 0 = bits .xor .u8 (xs.getD ((k - 4) * 4 + j) 0) (T.getD j 0)) := Lib.hid (by
                  rw [kcol_getD xs c k hj4, HTE.out j hj4]
                  unfold kn
                  rw [show 4 * k - 16 + j = (k - 4) * 4 + j by omega]
                  rfl)
                have HTS := Lib.hid (take_snoc_getD (xs := kcol xs c k) (t := j) (by rw [HCL.out]; exact hj4))
                have p1 : ∀ r : BW wr.heap.size wr, r.world.cell? ⟨w.heap.size + 1 + 1, (k - 4) * 4 + j, none⟩ = some (.int .u8 (xs.getD ((k - 4) * 4 + j) 0)) := fun r => by
                  have h1 := (HFi.out.2.2.1.belowAll r.below).cell (i := (k - 4) * 4 + j) (by rw [flN_len (by rw [HTJ.out]; omega)]; omega)
                  rwa [flN_getD _ (by rw [HTJ.out]; omega), append_getDl _ (by rw [HXL.out]; omega)] at h1
                have p2 : ∀ r : BW wr.heap.size wr, r.world.cell? ⟨g, j, none⟩ = some (.int .u8 (T.getD j 0)) := fun r => (HAi.out.belowAll r.below).cell (by rw [HTL.out]; exact hj4)
                have p3 := HFi.out.2.2.1.cell (i := k * 4 + j) (by rw [flN_len (by rw [HTJ.out]; omega)]; omega)
                have f3 := HFi.out.2.2.1.frozen (k * 4 + j)
                generalize (flN 176 (xs ++ List.take j (kcol xs c k))).getD (k * 4 + j) 0 = old at p3
                have q0 := HXB.out.getD ((k - 4) * 4 + j)
                generalize xs.getD ((k - 4) * 4 + j) 0 = p at *
                generalize T.getD j 0 = q at *
                go_wp2_with fail
                refine wp_region_mixOB wr.heap.size [([0, 1, 2, 3, 4, 5, 6, 7, 8, 9, 10, 11, 12, 13], 14)] (by kernel_rfl) (by kernel_rfl) (by kernel_rfl) (by kernel_rfl) (by kernel_rfl) ?_
                try (rw [put_none])
                simp only [pickL, List.map_cons, List.map_nil, List.filterMap_cons, List.filterMap_nil, List.getElem?_cons_succ, List.getElem?_cons_zero]
                refine mixO_cons ?_
                repeat (show wpQuiet _ _ _ _ (_ :: _) _; go_big_quiet_step (fail))
                refine wpQuiet_nil ?_
                show wpList _ _ _ [_] _ _
                go_wp2_with fail
                refine MixO.last ?_
                refine mixO_nil ?_
                refine wpQuiet_nil ?_
                refine NoPanic.normal ?_
                have HNW : Hid (flN 176 (xs ++ (kcol xs c k).take (j + 1)) = (flN 176 (xs ++ (kcol xs c k).take j)).set (k * 4 + j) (bits .xor .u8 p q)) := Lib.hid (by
                  rw [← HTJ.out, set_flN _ (by rw [HTJ.out]; omega), HTS.out, ← List.append_assoc, HN.out])
                have HA9 : Hid (Arr (wr.drew.setCell ⟨w.heap.size + 1 + 1, k * 4 + j, none⟩ (.int .u8 (bits .xor .u8 p q))) (w.heap.size + 1 + 1) 107 .u8 (flN 176 (xs ++ (kcol xs c k).take (j + 1)))) := Lib.hid (Arr.cast (Arr.set (w := wr.drew) HFi.out.2.2.1 (k * 4 + j) _) HNW.out.symm)
                have HF9 := Lib.hid (KF.put (w := wr.drew) ⟨HFi.out.1, HFi.out.2.1, HFi.out.2.2.1, HFi.out.2.2.2.drew⟩ HA9.out (only_setCell (World.grownBy.refl _ _) (.inl rfl) _))
                have HA10 : Hid (Arr (wr.drew.setCell ⟨w.heap.size + 1 + 1, k * 4 + j, none⟩ (.int .u8 (bits .xor .u8 p q))) g 106 .u8 T) := Lib.hid (Arr.far (w := wr.drew) HAi.out (by simp; omega) _)
                have HX9 : Hid (Bx (wr.drew.setCell ⟨w.heap.size + 1 + 1, k * 4 + j, none⟩ (.int .u8 (bits .xor .u8 p q))) gb) := Lib.hid (HXi.out.below ((Below.refl w.heap.size wr).drew.setCell (by simp; omega) _) hgb)
                clear p1 p2 p3 f3 HNW HA9 HN HTS
                go_wp2_with fail
                go_roundw
                case rel => exact ⟨j + 1, by omega, by go_num, HF9, HA10, HX9⟩
                case measure => simp [intOf]; omega
              · have hj : j = 4 := by omega
                have HFE : Hid (KF w w.heap.size K (kexp K (k + 1 - 4)).1 wr) := Lib.hid (by
                  have h := HFi.out
                  rw [hj, List.take_of_length_le (by rw [HCL.out]; exact Nat.le_refl _)] at h
                  rw [show k + 1 - 4 = k - 4 + 1 by omega, HKX.out]
                  show KF w w.heap.size K (xs ++ kcol xs c (k - 4 + 4)) wr
                  rw [show k - 4 + 4 = k by omega]
                  exact h)
                clear HFi HTJ hj HAi HX HF
                go_wp2_with fail
                go_roundw
                case rel => exact ⟨k + 1, _, by omega, by omega, by go_num, rfl, Lib.hid (by rw [show k + 1 - 4 = k - 4 + 1 by omega]; exact HCC.out), HFE, HXi⟩
                case measure => simp [intOf]; omega
        · have hk44 : k = 44 := by omega
          have HW := Lib.hid (keys_full HK.out)
          have HWE := Lib.hid (wkL_eq K)
          have HF2 : Hid (KF w w.heap.size K (wkL K) wr) := Lib.hid (by have h := HF.out; rw [hk44] at h; rw [HWE.out]; exact h)
          have HA2 : Hid (Arr wr (w.heap.size + 1 + 1) 107 .u8 (wkL K)) := Lib.hid (Arr.cast HF2.out.2.2.1 (flN_full HW.out))
          have HZ2 := Lib.hid HF2.out.2.1
          have HB2 := Lib.hid HF2.out.2.2.2
          obtain ⟨w2, rfl⟩ : ∃ w2 : World, w2 = wr := ⟨_, rfl⟩
          obtain ⟨k2, rfl⟩ : ∃ k2 : Nat, k2 = k := ⟨_, rfl⟩
          have hb2 : w.heap.size + 1 + 1 < w2.heap.size := HA2.out.lt
          clear HF hk44 HF2 HC HX HWE hk4
          generalize hWK : wkL K = W at *
          have HWK := Lib.hid hWK
          clear hWK
          have L83 : Hid ((Instr.loadAt 107 (.pointer (some ⟨w.heap.size + 1 + 1, 0, none⟩))).run Try.prog (w2.alloc (.cells Try.zeroCells88 88)) = .ok (.agg (cellsL .u8 W)) (w2.alloc (.cells Try.zeroCells88 88))) := Lib.hid (blk_load (cs := cellsL .u8 W) (HA2.out.alloc (.cells Try.zeroCells88 88)) Try.underlying107 rfl (by rw [cellsL_size, HW.out]; exact size99))
          have HO0 : Hid (Arr (w2.alloc (.cells Try.zeroCells88 88)) w2.heap.size 88 .u8 (flN 176 (W.take (4 * 0)))) := Lib.hid (by rw [Nat.mul_zero, List.take_zero, flN_nil]; exact Arr.newAt rfl z40)
          go_wp2_with ((with_reducible (show wpList _ _ _ (⟨some 83, .load _ _, _, _, _, _⟩ :: _) _ _)); refine wpList_loadV (o := ⟨some 83, .load _ _, _, _, _, _⟩) rfl _ rfl rfl (L83.out) ?_)
          clear L83
          go_loopw [84] (fun jj wr => ∃ k : Nat, k ≤ 44 ∧ jj = .int .i64 k ∧ Hid (Arr wr w2.heap.size 88 .u8 (flN 176 (W.take (4 * k)))) ∧ Hid (Below w2.heap.size w2 wr)) (fun jj _ => 44 - (intOf jj).toNat)
          case atStart => exact ⟨0, by omega, rfl, HO0, Lib.hid ((Below.refl _ _).alloc (Nat.le_refl _) _)⟩
          case round =>
            obtain ⟨k, hk, rfl, HO, HB9⟩ := hrel
            have hgo := HO.out.lt
            have hwo := HB9.out.size
            by_cases hlt : k < 44
            · have HIX : Hid (∀ X, (Instr.index 107 (.agg (cellsL .u8 W)) (.int .i64 (k : Int))).run Try.prog X = .ok (.agg (cellsL .u8 ((W.drop (k * 4)).take 4))) X) := Lib.hid (fun X => index_arr Try.underlying107 Try.underlying106 sizeE4 hlt .i64 X)
              have HP4 : Hid (((W.drop (k * 4)).take 4).length = 4) := Lib.hid (by rw [List.length_take, List.length_drop, HW.out]; omega)
              have HPT : Hid (ovi (flN 176 (W.take (4 * k))) (k / 4 * 16 + k % 4 * 4) ((W.drop (k * 4)).take 4) = flN 176 (W.take (4 * (k + 1)))) := Lib.hid (by
                have hl : (W.take (4 * k)).length = 4 * k := by rw [List.length_take, HW.out]; omega
                rw [show k / 4 * 16 + k % 4 * 4 = (W.take (4 * k)).length by rw [hl]; omega, ovi_flN (by rw [hl, HP4.out]; omega), show 4 * (k + 1) = 4 * k + 4 by omega, List.take_add, Nat.mul_comm k 4])
              have HFL : Hid ((flN 176 (W.take (4 * k))).length = 176) := Lib.hid (flN_len (by rw [List.length_take, HW.out]; omega))
              generalize (W.drop (k * 4)).take 4 = P at *
              have i1 := HIX.out
              go_wp2_with ((with_reducible (show wpList _ _ _ (⟨none, .store 106 _ _, _, _, _, _⟩ :: _) _ _)); refine wpList_storeArr (o := ⟨none, .store 106 _ _, _, _, _, _⟩) (g := wr.heap.size) (t := 106) (k := .u8) (xs := P) (n := 4) rfl _ _ rfl rfl rfl (Blk.new _ _ _) sizeE4 (HP4.out.symm) rfl ?_; intro w5 ha5 hg5; have HA5 := Lib.hid ha5; have HG5 := Lib.hid hg5; clear ha5 hg5)
              clear i1 HIX
              have HO5 := Lib.hid ((HO.out.alloc (.cells #[.int .u8 0, .int .u8 0, .int .u8 0, .int .u8 0] 106)).grown HG5.out (by simp; omega))
              have BW5 := Lib.hid (HB9.out.trans ((((Below.refl wr.heap.size wr).alloc (Nat.le_refl _) _).trans (below_of_only HG5.out (Nat.le_refl _) (by simp))).mono hwo))
              have r0 : (0 : Int) ≤ (k : Int) % 4 * 4 := by omega
              have r1 : (k : Int) % 4 * 4 ≤ 16 := by omega
              have r2 : (k : Int) % 4 * 4 < 16 := by omega
              have r3 : (0 : Int) ≤ (k : Int) / 4 := by omega
              have r4 : (k : Int) / 4 < 11 := by omega
              refine wp_region_mixOB w5.heap.size [([0, 1, 2, 3, 4, 5, 6, 7], 8)] (by kernel_rfl) (by kernel_rfl) (by kernel_rfl) (by kernel_rfl) (by kernel_rfl) ?_
              try (rw [put_none])
              simp only [pickL, List.map_cons, List.map_nil, List.filterMap_cons, List.filterMap_nil, List.getElem?_cons_succ, List.getElem?_cons_zero]
              refine mixO_cons ?_
              repeat (show wpQuiet _ _ _ _ (_ :: _) _; go_big_quiet_step (fail))
              refine wpQuiet_nil ?_
              show wpList _ _ _ [_] _ _
              go_wp2_with ((with_reducible (show wpList _ _ _ (⟨some 96, _, _, _, _, _⟩ :: _) _ _)); refine wpList_copyAt (o := ⟨some 96, _, _, _, _, _⟩) (off := k / 4 * 16 + k % 4 * 4) (m := 4) rfl _ _ rfl Try.underlying22 sizeE1 rfl rfl (Arr.drew HO5.out) (Rd.drew HA5.out.rd) HP4.out ?_ ?_ ?_; (show 4 = min _ _; omega); (rw [HFL.out]; omega); intro w6 ha6 hg6; rw [List.take_of_length_le (l := P) (by rw [HP4.out]; exact Nat.le_refl _), HPT.out] at ha6; have HA6 := Lib.hid ha6; have HB6 := Lib.hid (BW5.out.drew.trans (below_of_only hg6 (Nat.le_refl _) BW5.out.size)); clear ha6 hg6)
              refine MixO.last ?_
              refine mixO_nil ?_
              refine wpQuiet_nil ?_
              refine NoPanic.normal ?_
              clear HPT HFL HP4 HO5 BW5 HA5 HG5 r0 r1 r2 r3 r4
              go_wp2_with fail
              go_roundw
              case rel => exact ⟨k + 1, by omega, by go_num, HA6, HB6⟩
              case measure => simp [intOf]; omega
            · have hk : k = 44 := by omega
              have HOF : Hid (Arr wr w2.heap.size 88 .u8 W) := Lib.hid (Arr.cast HO.out (by rw [hk, List.take_of_length_le (by rw [HW.out]; decide)]; exact flN_full HW.out))
              have L98 : Hid ((Instr.loadAt 88 (.pointer (some ⟨w2.heap.size, 0, none⟩))).run Try.prog wr = .ok (.agg (cellsL .u8 W)) wr) := Lib.hid (blk_load (cs := cellsL .u8 W) HOF.out Try.underlying88 rfl (by rw [cellsL_size, HW.out]; exact size40))
              obtain ⟨w6, hs6, hz6, hg6⟩ := blk_storeAll (P := Try.prog) (ty := 88) (vs := iv .u8 W) (HZ2.out.below HB9.out (Blk.lt HZ2.out)) (by rw [iv_len, HW.out]; kernel_rfl) (iv_one _ _) (by rw [iv_len, HW.out]; exact size40)
              have S6 := Lib.hid hs6
              have Z6 := Lib.hid hz6
              have B6 := Lib.hid ((HB2.out.trans (HB9.out.mono HB2.out.size)).trans (below_of_only hg6 (by omega) (Nat.le_trans HB2.out.size HB9.out.size)))
              clear hs6 hz6 hg6 hk HO
              go_wp2_with (first
                | ((with_reducible (show wpList _ _ _ (⟨some 98, .load _ _, _, _, _, _⟩ :: _) _ _)); refine wpList_loadV (o := ⟨some 98, .load _ _, _, _, _, _⟩) rfl _ rfl rfl (L98.out) ?_)
                | ((with_reducible (show wpList _ _ _ (⟨none, .store 88 _ _, _, _, _, _⟩ :: _) _ _)); refine wpList_storeV (o := ⟨none, .store 88 _ _, _, _, _, _⟩) rfl _ _ rfl rfl rfl (S6.out) ?_))
              refine ret_row rfl rfl Z6.out Try.underlying88 rfl (by rw [List.size_toArray, iv_len, HW.out]; exact size40) rfl ⟨by rw [HWK.out]; rfl, B6.out⟩
end Go.Proofs.Ytieabfifaigjdaa
/- Contracts: aes.Keys, aes.New, the closure add of Cipher.Seal. Conditions: as each theorem states them. -/
namespace Go.Proofs.Ytieabfifaigjdaa
open Go.RowKit
theorem size78 : (Try.prog.info? 86).map (·.size) = some 256 := by kernel_rfl
theorem size81 : (Try.prog.info? 90).map (·.size) = some 432 := by kernel_rfl
theorem zero78 : Try.zeroCells86.size = 256 := by kernel_rfl
theorem zero40 : Try.zeroCells88.size = 176 := by kernel_rfl
/-- a key's cipher lies in block g: its box, and its columns -/
def Ci (w : World) (g : Nat) (K : List Int) : Prop := Arr w g 90 .u8 (boxL ++ wkL K)
theorem Ci.lt {w : World} {g : Nat} {K : List Int} (h : Ci w g K) : g < w.heap.size := Arr.lt h
theorem Ci.below {w w' : World} {g N : Nat} {K : List Int} (h : Ci w g K) (hb : Below N w w') (hN : g < N) : Ci w' g K := Arr.below h hb hN
theorem Ci.all {w w' : World} {g : Nat} {K : List Int} (h : Ci w g K) (hb : Below w.heap.size w w') : Ci w' g K := Arr.belowAll h hb
theorem Ci.grown {w w' : World} {g : Nat} {K : List Int} {row : Option Nat} (h : Ci w g K) (hb : w.grownBy w' row) (hg : some g ≠ row) : Ci w' g K := Arr.grown h hb hg
theorem Ci.box {w : World} {g : Nat} {K : List Int} (h : Ci w g K) {i : Nat} (hi : i < 256) : w.cell? ⟨g, i, none⟩ = some (.int .u8 (boxL.getD i 0)) := by
  have := Arr.cell h (i := i) (by rw [List.length_append, boxL_len]; omega)
  rwa [append_getDl _ (by rw [boxL_len]; exact hi)] at this
theorem Ci.key {w : World} {g : Nat} {K : List Int} (h : Ci w g K) (hK : Blk16 K) {i : Nat} (hi : i < 176) : w.cell? ⟨g, 256 + i, none⟩ = some (.int .u8 ((wkL K).getD i 0)) := by
  have hW := wkL_len hK
  have := Arr.cell h (i := 256 + i) (by rw [List.length_append, boxL_len, hW]; omega)
  rw [this, List.getD_eq_getElem?_getD, List.getElem?_append_right (by rw [boxL_len]; omega), boxL_len, Nat.add_sub_cancel_left, List.getD_eq_getElem?_getD]
/-- a new cipher -/
def NewC (K : List Int) (w : World) (e : Ending) (w' : World) : Prop := ∃ g, e = .returned (.pointer (some ⟨g, 0, none⟩)) ∧ w.heap.size ≤ g ∧ Ci w' g K ∧ Below w.heap.size w w'
theorem built81 : Try.prog.built 90 [(0, .agg (cellsL .u8 boxL))] = some (cellsL .u8 (boxL ++ nul 176)) := by kernel_rfl
theorem ovi_new {B Z W : List Int} (hB : B.length = 256) (hZ : Z.length = 176) (hW : W.length = 176) : (ovl (iv .u8 (B ++ Z)) 256 (iv .u8 W)) = iv .u8 (B ++ W) := by
  rw [← iv_append, ← iv_append]
  have h := over_at (A := iv .u8 B) (B := iv .u8 Z) (C := []) (vs := iv .u8 W) (o := 256) (by rw [iv_len, hB]) (by rw [iv_len, iv_len, hW, hZ])
  simpa using h
set_option maxRecDepth 100000 in
set_option maxHeartbeats 4000000 in
theorem anew_any (K : List Int) (w : World) (hK : Blk16 K) : Calls Try.prog 40 #[.agg (cellsL .u8 K)] w (NewC K w) := by
  have HK := Lib.hid hK
  have HKL := Lib.hid hK.1
  have HBL := Lib.hid boxL_len
  have HW := Lib.hid (wkL_len hK)
  have HBD := Lib.hid built81
  clear hK
  go_enter Try.func40, Try.ntmps40
  go_wp2_with fail
  refine Calls.mono (boxes_any _) ?_
  rintro e w1 ⟨rfl, hb1⟩
  have A1 := Lib.hid ((Arr.newAt (t := 66) (w := w) (cs := cellsL .u8 K) rfl rfl).belowAll hb1)
  have B1 := Lib.hid (((Below.refl w.heap.size w).alloc (Nat.le_refl _) (.cells (cellsL .u8 K) 66)).trans (hb1.mono (by simp)))
  clear hb1
  go_wp2_with ((with_reducible (show wpList _ _ _ (⟨some 5, _, _, _, _, _⟩ :: _) _ _)); refine wpList_buildV (o := ⟨some 5, _, _, _, _, _⟩) rfl _ rfl HBD.out ?_)
  have C2 : Hid (Arr (w1.alloc (.cells (cellsL .u8 (boxL ++ nul 176)) 90)) w1.heap.size 90 .u8 (boxL ++ nul 176)) := Lib.hid (Arr.newAt rfl rfl)
  have A2 := Lib.hid (A1.out.alloc (.cells (cellsL .u8 (boxL ++ nul 176)) 90))
  have B2 := Lib.hid (B1.out.alloc B1.out.size (.cells (cellsL .u8 (boxL ++ nul 176)) 90))
  have hgw := B1.out.size
  have hgl := C2.out.lt
  generalize w1.alloc (.cells (cellsL .u8 (boxL ++ nul 176)) 90) = w2 at *
  generalize w1.heap.size = g at *
  have HBX : Hid (Bx w2 g) := Lib.hid ⟨hgl, fun i hi => by
    have := C2.out.cell (i := i) (by rw [List.length_append, HBL.out]; omega)
    rwa [append_getDl _ (by rw [HBL.out]; exact hi)] at this⟩
  refine wp_region_mixOB w2.heap.size [([0, 1, 2, 3, 4], 5), ([6, 7], 8)] (by kernel_rfl) (by kernel_rfl) (by kernel_rfl) (by kernel_rfl) (by kernel_rfl) ?_
  try (rw [put_none])
  simp only [pickL, List.map_cons, List.map_nil, List.filterMap_cons, List.filterMap_nil, List.getElem?_cons_succ, List.getElem?_cons_zero]
  refine mixO_cons ?_
  repeat (show wpQuiet _ _ _ _ (_ :: _) _; go_big_quiet_step (fail))
  show wpQuiet _ _ _ _ (_ :: _) _
  refine wpQuiet_loadV (o := ⟨some 11, _, _, _, _, _⟩) rfl _ rfl rfl (fun w' hw' => by obtain ⟨r, rfl⟩ := hw'; exact arr_load (A2.out.below r.below A2.out.lt) Try.underlying66 sizeE16 HKL.out.symm) ?_
  simp only [Act.put, List.setIfInBounds_toArray, List.set_cons_zero, List.set_cons_succ]
  refine wpQuiet_nil ?_
  show wpList _ _ _ [_] _ _
  go_wp2_with fail
  refine Calls.mono (keys_any g K _ HK.out HBX.out) ?_
  rintro e w3 ⟨rfl, hb3⟩
  have B3 := Lib.hid ((Below.refl w2.heap.size w2).drew.trans hb3)
  have C3 := Lib.hid (C2.out.belowAll B3.out)
  clear hb3
  obtain ⟨w4, hs4, hz4, hg4⟩ := blk_storeMid (P := Try.prog) (ty := 88) (o := 256) (vs := iv .u8 (wkL K)) (cs := iv .u8 (boxL ++ nul 176)) C3.out (by rw [iv_len, iv_len, List.length_append, HBL.out, HW.out, nul_len]; decide) (iv_one _ _) (by rw [iv_len, HW.out]; exact size40)
  rw [ovi_new HBL.out (nul_len 176) HW.out] at hz4
  have S4 := Lib.hid hs4
  have C4 : Hid (Ci w4 g K) := Lib.hid hz4
  have B4 := Lib.hid ((B2.out.trans (B3.out.mono B2.out.size)).trans (below_of_only hg4 hgw (Nat.le_trans B2.out.size B3.out.size)))
  clear hs4 hz4 hg4
  go_wp2_with fail
  refine MixO.narrowB B3.out B3.out.size ?_
  refine mixO_cons ?_
  repeat (show wpQuiet _ _ _ _ (_ :: _) _; go_big_quiet_step (fail))
  refine wpQuiet_nil ?_
  show wpList _ _ _ [_] _ _
  go_wp2_with ((with_reducible (show wpList _ _ _ (⟨none, .store 88 _ _, _, _, _, _⟩ :: _) _ _)); refine wpList_storeV (o := ⟨none, .store 88 _ _, _, _, _, _⟩) rfl _ _ rfl rfl rfl (S4.out) ?_)
  refine MixO.last ?_
  refine mixO_nil ?_
  refine wpQuiet_nil ?_
  refine NoPanic.normal ?_
  go_wp2_with fail
  go_ret
  exact ⟨g, rfl, hgw, C4.out, B4.out⟩
/-- what the closure captured: the block, the cipher's place -/
def Cap (w : World) (gs gv gc : Nat) (s K : List Int) : Prop := Arr w gs 66 .u8 s ∧ Blk w gv 72 #[.pointer (some ⟨gc, 0, none⟩)] ∧ Ci w gc K ∧ gs ≠ gv ∧ gs ≠ gc
set_option maxRecDepth 100000 in
set_option maxHeartbeats 4000000 in
theorem aadd_any (n gs gv gc : Nat) (s K : List Int) (w : World) (hK : Blk16 K) (hs : Blk16 s) (hn : n < 11) (h : Cap w gs gv gc s K) :
    Calls Try.prog 73 #[.int .i64 n, .pointer (some ⟨gs, 0, none⟩), .pointer (some ⟨gv, 0, none⟩)] w fun e w' => (∃ v, e = .returned v) ∧ Arr w' gs 66 .u8 (addL s (rkey (wkL K) n)) ∧ w.grownBy w' (some gs) := by
  have HK := Lib.hid hK
  have HSL := Lib.hid hs.1
  have HRK := Lib.hid (rkey_ok (wkL_len hK) (wkL_byt hK) hn)
  have HAL := Lib.hid (addL_len hs.1 HRK.out.1)
  have HN := Lib.hid hn
  have HG : Hid (∀ k, k < 16 → (addL s (rkey (wkL K) n)).getD k 0 = bits .xor .u8 (s.getD k 0) ((wkL K).getD (n * 16 + k) 0)) := Lib.hid (fun k hk => by
    rw [addL_getD hs.1 HRK.out.1 hk, rkey_getD _ _ hk, Nat.mul_comm 16 n]; rfl)
  have HC := Lib.hid h
  have hgs := h.1.lt
  clear hK hs h
  generalize addL s (rkey (wkL K) n) = A at *
  go_enter Try.func73, Try.ntmps73
  go_wp2_with fail
  go_loopw [5] (fun jj wr => ∃ k : Nat, k ≤ 16 ∧ jj = .int .i64 k ∧ Hid (Arr wr gs 66 .u8 (mixL s A k)) ∧ Hid (w.grownBy wr (some gs))) (fun jj _ => 16 - (intOf jj).toNat)
  case atStart => exact ⟨0, by omega, rfl, Lib.hid (by rw [mix_zero]; exact HC.out.1), Lib.hid (World.grownBy.refl _ _)⟩
  case round =>
    obtain ⟨k, hk, rfl, HR, HW⟩ := hrel
    by_cases hlt : k < 16
    · have hml : Hid ((mixL s A k).length = 16) := Lib.hid (by rw [mix_len (by rw [HSL.out, HAL.out]) (by rw [HSL.out]; omega), HSL.out])
      have HBV := Lib.hid (Blk.grown HC.out.2.1 HW.out (fun e => HC.out.2.2.2.1 (by injection e with e; exact e.symm)))
      have HCI := Lib.hid (HC.out.2.2.1.grown HW.out (fun e => HC.out.2.2.2.2 (by injection e with e; exact e.symm)))
      have p1 : ∀ r : BW wr.heap.size wr, r.world.cell? ⟨gs, k, none⟩ = some (.int .u8 (s.getD k 0)) := fun r => by
        have := (HR.out.belowAll r.below).cell (i := k) (by rw [hml.out]; exact hlt)
        rwa [mix_get (by rw [HSL.out, HAL.out]) (Nat.le_refl _)] at this
      have p2 : ∀ r : BW wr.heap.size wr, r.world.cell? ⟨gv, 0, none⟩ = some (.pointer (some ⟨gc, 0, none⟩)) := fun r => (Blk.below HBV.out r.below (Blk.lt HBV.out)).cell 0
      have p3 : ∀ r : BW wr.heap.size wr, r.world.cell? ⟨gc, 256 + n * 16 + k, none⟩ = some (.int .u8 ((wkL K).getD (n * 16 + k) 0)) := fun r => by
        have := (HCI.out.all r.below).key HK.out (i := n * 16 + k) (by omega)
        rwa [← Nat.add_assoc] at this
      have f1 := HR.out.frozen k
      have c1 : wr.cell? ⟨gs, k, none⟩ = some (.int .u8 (s.getD k 0)) := p1 ⟨wr, Below.refl _ _⟩
      have HE := Lib.hid (HG.out k hlt)
      have HMS := Lib.hid (mix_set (xs := s) (ys := A) (k := k) (by rw [HSL.out, HAL.out]) (by rw [HSL.out]; exact hlt))
      rw [HE.out] at HMS
      generalize s.getD k 0 = x at *
      generalize (wkL K).getD (n * 16 + k) 0 = y at *
      go_wp2_with fail
      refine wp_region_mixOB wr.heap.size [([0, 1, 2, 3, 4, 5, 6, 7, 8, 9, 10, 11, 12], 13)] (by kernel_rfl) (by kernel_rfl) (by kernel_rfl) (by kernel_rfl) (by kernel_rfl) ?_
      try (rw [put_none])
      simp only [pickL, List.map_cons, List.map_nil, List.filterMap_cons, List.filterMap_nil, List.getElem?_cons_succ, List.getElem?_cons_zero]
      refine mixO_cons ?_
      repeat (show wpQuiet _ _ _ _ (_ :: _) _; go_big_quiet_step (fail))
      refine wpQuiet_nil ?_
      show wpList _ _ _ [_] _ _
      go_wp2_with fail
      refine MixO.last ?_
      refine mixO_nil ?_
      refine wpQuiet_nil ?_
      refine NoPanic.normal ?_
      have HA9 : Hid (Arr (wr.drew.setCell ⟨gs, k, none⟩ (.int .u8 (bits .xor .u8 x y))) gs 66 .u8 (mixL s A (k + 1))) := Lib.hid (Arr.cast (Arr.set (w := wr.drew) HR.out k _) HMS.out)
      have HG9 := Lib.hid (only_setCell (p := ⟨gs, k, none⟩) (only_drew HW.out) (.inl rfl) (.int .u8 (bits .xor .u8 x y)))
      clear p1 p2 p3 f1 c1 HE HMS hml
      go_wp2_with fail
      go_roundw
      case rel => exact ⟨k + 1, by omega, by go_num, HA9, HG9⟩
      case measure => simp [intOf]; omega
    · have HF : Hid (Arr wr gs 66 .u8 A) := Lib.hid (Arr.cast HR.out (by rw [show k = A.length by rw [HAL.out]; omega]; exact mix_full (by rw [HSL.out, HAL.out])))
      go_wp2_with fail
      go_end0
      exact ⟨⟨_, rfl⟩, HF.out, HW.out⟩
end Go.Proofs.Ytieabfifaigjdaa
/- Contracts: Cipher.Seal. Conditions: as each theorem states them. -/
namespace Go.Proofs.Ytieabfifaigjdaa
open Go.RowKit
def z16E : List Int := List.replicate 16 0
/-- columns mixed, one after the other -/
def mcs (s : List Int) : Nat → List Int
  | 0 => s
  | m + 1 => mixAt (mcs s m) (4 * m)
theorem mcs_ok {s : List Int} (hs : Blk16 s) : ∀ m, m ≤ 4 → Blk16 (mcs s m)
  | 0, _ => hs
  | m + 1, h => mixAt_ok (mcs_ok hs m (by omega)) (by omega)
theorem mcs_all (s : List Int) : mcs s 4 = mcolL s := rfl
theorem mcs_zero (s : List Int) : mcs s 0 = s := rfl
theorem mcs_succ (s : List Int) (m : Nat) : mcs s (m + 1) = mixAt (mcs s m) (4 * m) := rfl
theorem arnd_zero (W s : List Int) : arnd W s 0 = addL s (rkey W 0) := rfl
theorem arnd_succ (W s : List Int) (n : Nat) : arnd W s (n + 1) = addL (if n + 1 < 10 then mcolL (rowsL (arnd W s n)) else rowsL (arnd W s n)) (rkey W (n + 1)) := rfl
attribute [irreducible] mcs
attribute [local irreducible] arnd
/-- the frame: the cipher's place, the result's, the state -/
def SF (w0 : World) (b gc : Nat) (K s : List Int) (w : World) : Prop :=
  Arr w (b + 1 + 1 + 1) 66 .u8 s ∧ Blk w b 72 #[.pointer (some ⟨gc, 0, none⟩)] ∧ Blk w (b + 1 + 1) 66 (cellsL .u8 (nul 16)) ∧ Ci w gc K ∧ gc < b ∧ Below b w0 w
theorem SF.below {w0 w w' : World} {b gc : Nat} {K s : List Int} (h : SF w0 b gc K s w) (hb : Below w.heap.size w w') : SF w0 b gc K s w' :=
  ⟨h.1.belowAll hb, h.2.1.below hb (Blk.lt h.2.1), h.2.2.1.below hb (Blk.lt h.2.2.1), h.2.2.2.1.all hb, h.2.2.2.2.1, h.2.2.2.2.2.trans (hb.mono (by have := h.1.lt; omega))⟩
theorem SF.put {w0 w w' : World} {b gc : Nat} {K s s' : List Int} (h : SF w0 b gc K s w) (hk : Arr w' (b + 1 + 1 + 1) 66 .u8 s') (hg : w.grownBy w' (some (b + 1 + 1 + 1))) : SF w0 b gc K s' w' :=
  ⟨hk, h.2.1.grown hg (by simp; omega), h.2.2.1.grown hg (by simp), h.2.2.2.1.grown hg (by have := h.2.2.2.2.1; simp; omega), h.2.2.2.2.1, h.2.2.2.2.2.trans (below_of_only hg (by omega) (by have := h.1.lt; omega))⟩
theorem SF.cap {w0 w : World} {b gc : Nat} {K s : List Int} (h : SF w0 b gc K s w) : Cap w (b + 1 + 1 + 1) b gc s K := ⟨h.1, h.2.1, h.2.2.2.1, by omega, by have := h.2.2.2.2.1; omega⟩
theorem SF.drew {w0 w : World} {b gc : Nat} {K s : List Int} (h : SF w0 b gc K s w) : SF w0 b gc K s w.drew := ⟨h.1, h.2.1, h.2.2.1, h.2.2.2.1, h.2.2.2.2.1, h.2.2.2.2.2.drew⟩
theorem sf_far {w0 w : World} {b gc g : Nat} {K s : List Int} (h : SF w0 b gc K s w) (hg : b + 1 + 1 + 1 < g) (i : Nat) (v : Value) : SF w0 b gc K s (w.setCell ⟨g, i, none⟩ v) :=
  ⟨h.1.far (by simp; omega) v, h.2.1.far (by simp; omega) v, h.2.2.1.far (by simp; omega) v, Arr.far h.2.2.2.1 (by have := h.2.2.2.2.1; simp; omega) v, h.2.2.2.2.1, h.2.2.2.2.2.setCell (by simp; omega) v⟩
theorem sf_start {w w5 : World} {gc : Nat} {K s : List Int} {z : Array Value} (hz : z = cellsL .u8 (nul 16)) (hC : Ci w gc K) (hA : Arr w5 (w.heap.size + 1 + 1 + 1) 66 .u8 s)
    (hG : ((((w.alloc (.cells #[.pointer (some ⟨gc, 0, none⟩)] 72)).alloc (.cells (cellsL .u8 s) 66)).alloc (.cells z 66)).alloc (.cells z 66)).grownBy w5 (some (w.heap.size + 1 + 1 + 1))) : SF w w.heap.size gc K s w5 := by
  subst hz
  have hb : Below w.heap.size w ((((w.alloc (.cells #[.pointer (some ⟨gc, 0, none⟩)] 72)).alloc (.cells (cellsL .u8 s) 66)).alloc (.cells (cellsL .u8 (nul 16)) 66)).alloc (.cells (cellsL .u8 (nul 16)) 66)) := (((((Below.refl _ _).alloc (Nat.le_refl _) _).alloc (by simp) _).alloc (by simp <;> omega) _).alloc (by simp <;> omega) _)
  exact ⟨hA, ((((Blk.new _ _ _).alloc _).alloc _).alloc _).grown hG (by simp; omega), ((blk_newAt (by simp)).alloc _).grown hG (by simp), (hC.below hb hC.lt).grown hG (by have := hC.lt; simp; omega), hC.lt, hb.trans (below_of_only hG (by omega) hb.size)⟩
set_option maxRecDepth 100000 in
set_option maxHeartbeats 8000000 in
theorem aseal_any (gc : Nat) (K s : List Int) (w : World) (hK : Blk16 K) (hs : Blk16 s) (hC : Ci w gc K) :
    Calls Try.prog 63 #[.pointer (some ⟨gc, 0, none⟩), .agg (cellsL .u8 s)] w (RetV (.agg (cellsL .u8 (aesL K s))) w) := by
  have HK := Lib.hid hK
  have HS := Lib.hid hs
  have HSL := Lib.hid hs.1
  have HC := Lib.hid hC
  have HW := Lib.hid (wkL_len hK)
  have HWB := Lib.hid (wkL_byt hK)
  clear hK hs hC
  go_enter Try.func63, Try.ntmps63
  go_wp2_with (first
    | ((with_reducible (show wpList _ _ _ (⟨some 14, .load _ _, _, _, _, _⟩ :: _) _ _)); refine wpList_loadV (o := ⟨some 14, .load _ _, _, _, _, _⟩) rfl _ rfl rfl (arr_load ((Arr.newAt (by simp) rfl).alloc _) Try.underlying66 sizeE16 HSL.out.symm) ?_)
    | ((with_reducible (show wpList _ _ _ (⟨none, .store 66 _ _, _, _, _, _⟩ :: _) _ _)); refine wpList_storeArr (o := ⟨none, .store 66 _ _, _, _, _, _⟩) (g := w.heap.size + 1 + 1 + 1) (t := 66) (k := .u8) (xs := s) (n := 16) rfl _ _ rfl rfl rfl (blk_newAt (by simp)) sizeE16 HSL.out.symm rfl ?_; intro w5 ha5 hg5; have F5 := Lib.hid (sf_start rfl HC.out ha5 hg5); clear ha5 hg5))
  have ADD : Hid (∀ (n : Nat) (j : Int) (t : List Int) (v : World), j = n → n < 11 → Blk16 t → SF w w.heap.size gc K t v → Calls Try.prog 73 #[.int .i64 j, .pointer (some ⟨w.heap.size + 1 + 1 + 1, 0, none⟩), .pointer (some ⟨w.heap.size, 0, none⟩)] v fun e v' => (∃ u, e = .returned u) ∧ SF w w.heap.size gc K (addL t (rkey (wkL K) n)) v') := Lib.hid (fun n j t v hj hn ht hv => by
    subst hj
    exact (aadd_any n (w.heap.size + 1 + 1 + 1) w.heap.size gc t K v HK.out ht hn hv.cap).mono (fun e v' ⟨h1, h2, h3⟩ => ⟨h1, hv.put h2 h3⟩))
  have HR0 : Hid (∀ n, n < 11 → Blk16 (arnd (wkL K) s n)) := Lib.hid (fun n hn => arnd_ok HW.out HWB.out HS.out n hn)
  refine Calls.mono (ADD.out 0 0 s _ rfl (by decide) HS.out F5.out) ?_
  rintro e w6 ⟨⟨u, rfl⟩, hf6⟩
  have F6 : Hid (SF w w.heap.size gc K (arnd (wkL K) s (1 - 1)) w6) := Lib.hid (by rw [show 1 - 1 = 0 from rfl, arnd_zero]; exact hf6)
  clear hf6 F5
  go_wp2_with fail
  go_loopw [7] (fun jj wr => ∃ n : Nat, 1 ≤ n ∧ n ≤ 11 ∧ jj = .int .i64 n ∧ Hid (SF w w.heap.size gc K (arnd (wkL K) s (n - 1)) wr)) (fun jj _ => 11 - (intOf jj).toNat)
  case atStart => exact ⟨1, by omega, by omega, rfl, F6⟩
  case round =>
    clear F6
    obtain ⟨n, hn1, hn, rfl, HF⟩ := hrel
    by_cases hlt : n ≤ 10
    · have HSO := Lib.hid (HR0.out (n - 1) (by omega))
      have HAS : Hid (arnd (wkL K) s n = addL (if n < 10 then mcolL (rowsL (arnd (wkL K) s (n - 1))) else rowsL (arnd (wkL K) s (n - 1))) (rkey (wkL K) n)) := Lib.hid (by
        have := arnd_succ (wkL K) s (n - 1)
        rwa [show n - 1 + 1 = n by omega] at this)
      generalize arnd (wkL K) s (n - 1) = S at *
      have HRO := Lib.hid (rowsL_ok HSO.out)
      have HRG : Hid (∀ k, k < 16 → (rowsL S).getD k 0 = sub (S.getD ((k + 4 * (k % 4)) % 16) 0)) := Lib.hid (fun k hk => rowsL_getD S hk)
      generalize rowsL S = R at *
      have HF7 := Lib.hid (HF.out.below ((Below.refl wr.heap.size wr).alloc (Nat.le_refl _) (.cells (cellsL .u8 (nul 16)) 66)))
      have HA7 : Hid (Arr (wr.alloc (.cells (cellsL .u8 (nul 16)) 66)) wr.heap.size 66 .u8 (fil R 0)) := Lib.hid (by rw [fil_zero, HRO.out.1]; exact Arr.newAt rfl rfl)
      have hgg : w.heap.size + 1 + 1 + 1 < wr.heap.size := HF.out.1.lt
      obtain ⟨wo, rfl⟩ : ∃ wo : World, wo = wr := ⟨_, rfl⟩
      go_wp2_with fail
      go_loopw [22] (fun jj wr => ∃ k : Nat, k ≤ 16 ∧ jj = .int .i64 k ∧ Hid (Arr wr wo.heap.size 66 .u8 (fil R k)) ∧ Hid (SF w w.heap.size gc K S wr)) (fun jj _ => 16 - (intOf jj).toNat)
      case atStart => exact ⟨0, by omega, rfl, HA7, HF7⟩
      case round =>
        clear HF7 HA7 HF
        obtain ⟨k, hk, rfl, HA, HF⟩ := hrel
        have hfl : Hid ((fil R k).length = 16) := Lib.hid (by rw [fil_len, HRO.out.1])
        by_cases hlt2 : k < 16
        · have hm16 : (k + 4 * (k % 4)) % 16 < 16 := Nat.mod_lt _ (by decide)
          have p1 : ∀ r : BW wr.heap.size wr, r.world.cell? ⟨w.heap.size + 1 + 1 + 1, (k + 4 * (k % 4)) % 16, none⟩ = some (.int .u8 (S.getD ((k + 4 * (k % 4)) % 16) 0)) := fun r => (HF.out.1.belowAll r.below).cell (by rw [HSO.out.1]; exact hm16)
          have p2 : ∀ r : BW wr.heap.size wr, r.world.cell? ⟨w.heap.size, 0, none⟩ = some (.pointer (some ⟨gc, 0, none⟩)) := fun r => (Blk.below HF.out.2.1 r.below (Blk.lt HF.out.2.1)).cell 0
          have hx := HSO.out.2.getD ((k + 4 * (k % 4)) % 16)
          have p3 : ∀ r : BW wr.heap.size wr, r.world.cell? ⟨gc, (S.getD ((k + 4 * (k % 4)) % 16) 0).toNat, none⟩ = some (.int .u8 (sub (S.getD ((k + 4 * (k % 4)) % 16) 0))) := fun r => (HF.out.2.2.2.1.all r.below).box (by omega)
          have c1 := HA.out.cell (i := k) (by rw [hfl.out]; exact hlt2)
          have f1 := HA.out.frozen k
          have HMS := Lib.hid (fil_set (xs := R) (k := k) (by rw [HRO.out.1]; exact hlt2))
          rw [HRG.out k hlt2] at HMS
          generalize S.getD ((k + 4 * (k % 4)) % 16) 0 = x at *
          obtain ⟨hx0, hx1⟩ := hx
          generalize sub x = y at *
          generalize (fil R k).getD k 0 = old at *
          have HA9 : Hid (Arr (wr.drew.setCell ⟨wo.heap.size, k, none⟩ (.int .u8 y)) wo.heap.size 66 .u8 (fil R (k + 1))) := Lib.hid (Arr.cast (Arr.set (w := wr.drew) HA.out k y) HMS.out)
          have HF9 : Hid (SF w w.heap.size gc K S (wr.drew.setCell ⟨wo.heap.size, k, none⟩ (.int .u8 y))) := Lib.hid (sf_far HF.out.drew (by omega) k (.int .u8 y))
          go_wp2_with fail
          refine wp_region_mixOB wr.heap.size [([0, 1, 2, 3, 4, 5, 6, 7, 8, 9, 10, 11, 12, 13, 14], 15)] (by kernel_rfl) (by kernel_rfl) (by kernel_rfl) (by kernel_rfl) (by kernel_rfl) ?_
          try (rw [put_none])
          simp only [pickL, List.map_cons, List.map_nil, List.filterMap_cons, List.filterMap_nil, List.getElem?_cons_succ, List.getElem?_cons_zero]
          refine mixO_cons ?_
          repeat (show wpQuiet _ _ _ _ (_ :: _) _; go_big_quiet_step (fail))
          refine wpQuiet_nil ?_
          show wpList _ _ _ [_] _ _
          go_wp2_with fail
          refine MixO.last ?_
          refine mixO_nil ?_
          refine wpQuiet_nil ?_
          refine NoPanic.normal ?_
          clear p1 p2 p3 c1 f1 HMS hfl
          go_wp2_with fail
          go_roundw
          case rel => exact ⟨k + 1, by omega, by go_num, HA9, HF9⟩
          case measure => simp [intOf]; omega
        · have hk16 : k = 16 := by omega
          have HA2 : Hid (Arr wr wo.heap.size 66 .u8 R) := Lib.hid (Arr.cast HA.out (by rw [hk16]; have := fil_full R; rw [HRO.out.1] at this; exact this))
          have L41 := Lib.hid (arr_load HA2.out Try.underlying66 sizeE16 HRO.out.1.symm)
          obtain ⟨w8, hs8, hz8, hg8⟩ := blk_storeAll (P := Try.prog) (ty := 66) (vs := iv .u8 R) HF.out.1 (by rw [iv_len, HRO.out.1, List.size_toArray, List.length_map, HSO.out.1]) (iv_one _ _) (by rw [iv_len, HRO.out.1]; exact sizeE16)
          have S8 := Lib.hid hs8
          have F8 := Lib.hid (HF.out.put hz8 hg8)
          clear hs8 hz8 hg8 hk16 HA HA2 hfl HF
          have hw8 : w.heap.size ≤ w8.heap.size := F8.out.2.2.2.2.2.size
          by_cases h10 : n < 10
          · rw [if_pos h10] at HAS
            have hd10 : decide ((n : Int) < 10) = true := decide_eq_true (by omega)
            go_wp2_with (first
              | ((with_reducible (show wpList _ _ _ (⟨some 41, .load _ _, _, _, _, _⟩ :: _) _ _)); refine wpList_loadV (o := ⟨some 41, .load _ _, _, _, _, _⟩) rfl _ rfl rfl (L41.out) ?_)
              | ((with_reducible (show wpList _ _ _ (⟨none, .store 66 _ _, _, _, _, _⟩ :: _) _ _)); refine wpList_storeV (o := ⟨none, .store 66 _ _, _, _, _, _⟩) rfl _ _ rfl rfl rfl (S8.out) ?_))
            go_loopw [10] (fun jj wr => ∃ (m : Nat) (jv : Int), m ≤ 4 ∧ jv = 4 * m ∧ jj = .int .i64 jv ∧ Hid (SF w w.heap.size gc K (mcs R m) wr)) (fun jj _ => 16 - (intOf jj).toNat)
            case atStart => exact ⟨0, 0, by omega, rfl, rfl, Lib.hid (by rw [mcs_zero]; exact F8.out)⟩
            case round =>
              clear F8 L41 S8
              obtain ⟨m, jv, hm, hjv, rfl, HFm⟩ := hrel
              rcases (show m = 0 ∨ m = 1 ∨ m = 2 ∨ m = 3 ∨ m = 4 by omega) with rfl | rfl | rfl | rfl | rfl
              · obtain rfl : jv = 0 := by omega
                clear hjv hm
                go_wp2_with fail
                refine Calls.mono (mix_any (w.heap.size + 1 + 1 + 1) 0 _ (mcs R 0) _ (mcs_ok HRO.out 0 (by decide)) (by decide) HFm.out.1) ?_
                rintro e w9 ⟨⟨u9, rfl⟩, ha9, hg9⟩
                have F9 : Hid (SF w w.heap.size gc K (mcs R 1) w9) := Lib.hid (by rw [mcs_succ]; exact HFm.out.put ha9 hg9)
                clear ha9 hg9
                go_wp2_with fail
                go_roundw
                case rel => exact ⟨1, _, by omega, rfl, rfl, F9⟩
                case measure => simp [intOf]
              · obtain rfl : jv = 4 := by omega
                clear hjv hm
                go_wp2_with fail
                refine Calls.mono (mix_any (w.heap.size + 1 + 1 + 1) 4 _ (mcs R 1) _ (mcs_ok HRO.out 1 (by decide)) (by decide) HFm.out.1) ?_
                rintro e w9 ⟨⟨u9, rfl⟩, ha9, hg9⟩
                have F9 : Hid (SF w w.heap.size gc K (mcs R 2) w9) := Lib.hid (by rw [mcs_succ]; exact HFm.out.put ha9 hg9)
                clear ha9 hg9
                go_wp2_with fail
                go_roundw
                case rel => exact ⟨2, _, by omega, rfl, rfl, F9⟩
                case measure => simp [intOf]
              · obtain rfl : jv = 8 := by omega
                clear hjv hm
                go_wp2_with fail
                refine Calls.mono (mix_any (w.heap.size + 1 + 1 + 1) 8 _ (mcs R 2) _ (mcs_ok HRO.out 2 (by decide)) (by decide) HFm.out.1) ?_
                rintro e w9 ⟨⟨u9, rfl⟩, ha9, hg9⟩
                have F9 : Hid (SF w w.heap.size gc K (mcs R 3) w9) := Lib.hid (by rw [mcs_succ]; exact HFm.out.put ha9 hg9)
                clear ha9 hg9
                go_wp2_with fail
                go_roundw
                case rel => exact ⟨3, _, by omega, rfl, rfl, F9⟩
                case measure => simp [intOf]
              · obtain rfl : jv = 12 := by omega
                clear hjv hm
                go_wp2_with fail
                refine Calls.mono (mix_any (w.heap.size + 1 + 1 + 1) 12 _ (mcs R 3) _ (mcs_ok HRO.out 3 (by decide)) (by decide) HFm.out.1) ?_
                rintro e w9 ⟨⟨u9, rfl⟩, ha9, hg9⟩
                have F9 : Hid (SF w w.heap.size gc K (mcs R 4) w9) := Lib.hid (by rw [mcs_succ]; exact HFm.out.put ha9 hg9)
                clear ha9 hg9
                go_wp2_with fail
                go_roundw
                case rel => exact ⟨4, _, by omega, rfl, rfl, F9⟩
                case measure => simp [intOf]
              · obtain rfl : jv = 16 := by omega
                clear hjv hm
                have FM : Hid (SF w w.heap.size gc K (mcolL R) wr) := Lib.hid (by rw [← mcs_all]; exact HFm.out)
                have HMO := Lib.hid (mcolL_ok HRO.out)
                clear HFm
                go_wp2_with fail
                refine Calls.mono (ADD.out n n _ _ rfl (by omega) HMO.out FM.out) ?_
                rintro e w9 ⟨⟨u9, rfl⟩, hf9⟩
                rw [← HAS.out] at hf9
                have F9 : Hid (SF w w.heap.size gc K (arnd (wkL K) s (n + 1 - 1)) w9) := Lib.hid hf9
                clear hf9
                go_wp2_with fail
                go_roundw
                case rel => exact ⟨n + 1, by omega, by omega, by go_num, F9⟩
                case measure => simp [intOf]; omega
          · rw [if_neg h10] at HAS
            go_wp2_with (first
              | ((with_reducible (show wpList _ _ _ (⟨some 41, .load _ _, _, _, _, _⟩ :: _) _ _)); refine wpList_loadV (o := ⟨some 41, .load _ _, _, _, _, _⟩) rfl _ rfl rfl (L41.out) ?_)
              | ((with_reducible (show wpList _ _ _ (⟨none, .store 66 _ _, _, _, _, _⟩ :: _) _ _)); refine wpList_storeV (o := ⟨none, .store 66 _ _, _, _, _, _⟩) rfl _ _ rfl rfl rfl (S8.out) ?_))
            refine Calls.mono (ADD.out n n _ _ rfl (by omega) HRO.out F8.out) ?_
            rintro e w9 ⟨⟨u9, rfl⟩, hf9⟩
            rw [← HAS.out] at hf9
            have F9 : Hid (SF w w.heap.size gc K (arnd (wkL K) s (n + 1 - 1)) w9) := Lib.hid hf9
            clear hf9 F8 S8 L41
            go_wp2_with fail
            go_roundw
            case rel => exact ⟨n + 1, by omega, by omega, by go_num, F9⟩
            case measure => simp [intOf]; omega
    · have hn11 : n = 11 := by omega
      have HE := Lib.hid (aesL_eq K s)
      have HL := Lib.hid (HR0.out 10 (by decide))
      have HF2 : Hid (SF w w.heap.size gc K (arnd (wkL K) s 10) wr) := Lib.hid (by have h := HF.out; rw [hn11] at h; exact h)
      have HSE : Hid (aesL K s = arnd (wkL K) s 10) := Lib.hid (by rw [HE.out]; rfl)
      clear HF HE hn11
      generalize arnd (wkL K) s 10 = S at *
      have L56 := Lib.hid (arr_load HF2.out.1 Try.underlying66 sizeE16 HL.out.1.symm)
      obtain ⟨w8, hs8, hz8, hg8⟩ := blk_storeAll (P := Try.prog) (ty := 66) (vs := iv .u8 S) HF2.out.2.2.1 (by rw [iv_len, HL.out.1, cellsL_size, nul_len]) (iv_one _ _) (by rw [iv_len, HL.out.1]; exact sizeE16)
      have S8 := Lib.hid hs8
      have Z8 := Lib.hid hz8
      have B8 := Lib.hid (HF2.out.2.2.2.2.2.trans (below_of_only hg8 (by omega) HF2.out.2.2.2.2.2.size))
      clear hs8 hz8 hg8
      go_wp2_with (first
        | ((with_reducible (show wpList _ _ _ (⟨some 56, .load _ _, _, _, _, _⟩ :: _) _ _)); refine wpList_loadV (o := ⟨some 56, .load _ _, _, _, _, _⟩) rfl _ rfl rfl (L56.out) ?_)
        | ((with_reducible (show wpList _ _ _ (⟨none, .store 66 _ _, _, _, _, _⟩ :: _) _ _)); refine wpList_storeV (o := ⟨none, .store 66 _ _, _, _, _, _⟩) rfl _ _ rfl rfl rfl (S8.out) ?_))
      refine ret_row rfl rfl Z8.out Try.underlying66 rfl (by rw [List.size_toArray, iv_len, HL.out.1]; exact sizeE16) rfl ⟨by rw [HSE.out]; rfl, B8.out⟩
end Go.Proofs.Ytieabfifaigjdaa
/- Contracts: the cipher that is none; the law's own known of layer 8. Conditions: as each theorem states them. -/
namespace Go.Proofs.Ytieabfifaigjdaa
open Go.RowKit
set_option maxRecDepth 100000 in
theorem aseal_nil (s : List Int) (w : World) (hs : s.length = 16) : Calls Try.prog 63 #[.pointer none, .agg (cellsL .u8 s)] w (RetV (.agg (cellsL .u8 (nul 16))) w) := by
  have HS := Lib.hid hs
  clear hs
  have HB : Hid (Try.prog.built 66 [] = some (cellsL .u8 (nul 16))) := Lib.hid (by kernel_rfl)
  have Z3 : Hid (Blk (((w.alloc (.cells #[.pointer none] 72)).alloc (.cells (cellsL .u8 s) 66)).alloc (.cells (cellsL .u8 (nul 16)) 66)) (w.heap.size + 1 + 1) 66 (cellsL .u8 (nul 16))) := Lib.hid (blk_newAt (by simp))
  have B3 : Hid (Below w.heap.size w (((w.alloc (.cells #[.pointer none] 72)).alloc (.cells (cellsL .u8 s) 66)).alloc (.cells (cellsL .u8 (nul 16)) 66))) := Lib.hid ((((Below.refl _ _).alloc (Nat.le_refl _) _).alloc (by simp) _).alloc (by simp <;> omega) _)
  obtain ⟨w8, hs8, hz8, hg8⟩ := blk_storeAll (P := Try.prog) (ty := 66) (vs := iv .u8 (nul 16)) Z3.out (by rw [iv_len, nul_len, cellsL_size, nul_len]) (iv_one _ _) (by rw [iv_len, nul_len]; exact sizeE16)
  have S8 := Lib.hid hs8
  have K8 := Lib.hid hz8
  have B8 := Lib.hid (B3.out.trans (below_of_only hg8 (by omega) (by simp <;> omega)))
  clear hs8 hz8 hg8
  go_enter Try.func63, Try.ntmps63
  go_wp2_with (first
    | ((with_reducible (show wpList _ _ _ (⟨some 13, _, _, _, _, _⟩ :: _) _ _)); refine wpList_buildV (o := ⟨some 13, _, _, _, _, _⟩) rfl _ rfl HB.out ?_)
    | ((with_reducible (show wpList _ _ _ (⟨none, .store 66 _ _, _, _, _, _⟩ :: _) _ _)); refine wpList_storeV (o := ⟨none, .store 66 _ _, _, _, _, _⟩) rfl _ _ rfl rfl rfl (S8.out) ?_))
  refine ret_row rfl rfl K8.out Try.underlying66 rfl (by rw [List.size_toArray, iv_len, nul_len]; exact sizeE16) rfl ⟨rfl, B8.out⟩
def keyX : List Int := [0, 1, 2, 3, 4, 5, 6, 7, 8, 9, 10, 11, 12, 13, 14, 15]
def blkX : List Int := [0, 17, 34, 51, 68, 85, 102, 119, 136, 153, 170, 187, 204, 221, 238, 255]
def outX : List Int := [105, 196, 224, 216, 106, 123, 4, 48, 216, 205, 183, 128, 112, 180, 197, 90]
theorem keyX_ok : Blk16 keyX := ⟨rfl, by intro x hx; simp [keyX] at hx; omega⟩
theorem blkX_ok : Blk16 blkX := ⟨rfl, by intro x hx; simp [blkX] at hx; omega⟩
theorem outX_eq : aesL keyX blkX = outX := aes_known
theorem outX_str : strOfNums outX = ⟨#[105, 196, 224, 216, 106, 123, 4, 48, 216, 205, 183, 128, 112, 180, 197, 90]⟩ := by kernel_rfl
theorem keyX_at : ∀ k, k < 16 → keyX.getD k 0 = (k : Int) := by decide
theorem blkX_at : ∀ k, k < 16 → blkX.getD k 0 = 17 * (k : Int) := by decide
theorem elB8 : ElT Try.prog 22 5 .u8 1 := ⟨Try.underlying22, Try.underlying5, by kernel_rfl, by decide⟩
theorem al16 (o : Oper) (ho : o.op = .alloc 66) (ρ : Operand → Value) (w : World) : (execOp ρ o).run Try.prog w = .ok (.value (ptr0 w.heap.size)) (w.alloc (.cells (cellsL .u8 (nul 16)) 66)) := by
  obtain ⟨d, op, ty, p, af, g⟩ := o
  simp only at ho
  subst ho
  have h : ∀ w, (zeroValue 66).run Try.prog w = .ok (.agg (cellsL .u8 (nul 16))) w := fun w => by kernel_rfl
  unfold execOp
  simp [Instr.alloc, h, go_sem]
  rfl
theorem subX : sub 0 = 99 ∧ sub 83 = 237 ∧ sub 255 = 22 := boxL_known
theorem eql16E {X Y : List Int} (hX : X.length = 16) (hY : Y.length = 16) (hbX : Byt X) (hbY : Byt Y) (w : World) : (binOp .eql 66 (.agg (cellsL .u8 X)) (.agg (cellsL .u8 Y))).run Try.prog w = .ok (.bool (decide (X = Y))) w :=
  eql_bytes Try.underlying66 Try.underlying5 elB8.size hbX hbY hX.symm hY.symm w
theorem nul_byt (n : Nat) : Byt (nul n) := fun x hx => by have := (List.mem_replicate.1 hx).2; omega
theorem conv_nE {B : Nat} {w : World} {A : Option Addr} {xs : List Int} {n : Nat} (hr : Rd B .u8 w A xs) (hn : xs.length = n) (c : Nat) : (convert 22 9 (.slice A n c)).run Try.prog w = .ok (.string (strOfNums xs)) w := by
  subst hn; exact conv_rd elB8 Try.underlying9 hr c
end Go.Proofs.Ytieabfifaigjdaa
/- Contracts of layer 8's reference: Times, Sub, Box. Conditions: as each theorem states them. -/
namespace Go.Proofs.Ytieabfifaigjdaa
open Go.RowKit
theorem timesN_zero (a b out : Int) : timesN 0 a b out = out := by unfold timesN; rfl
theorem timesN_succ (n : Nat) (a b out : Int) : timesN (n + 1) a b out = timesN n (if 128 ≤ a then xb (2 * a % 256) 27 else 2 * a) (b / 2) (if b % 2 = 1 then xb out a else out) := by rw [timesN]
theorem times_eq (a b : Int) : times a b = timesN 8 a b 0 := rfl
theorem timesN_u : ∀ (n : Nat) (a b out : Int), B8 out → B8 (timesN n a b out)
  | 0, a, b, out, h => by rw [timesN_zero]; exact h
  | n + 1, a, b, out, h => by
    rw [timesN_succ]
    refine timesN_u n _ _ _ ?_
    split
    · exact xb_u _ _
    · exact h
theorem times_u (a b : Int) : B8 (times a b) := timesN_u 8 a b 0 ⟨by decide, by decide⟩
attribute [local irreducible] times
set_option maxRecDepth 100000 in
set_option maxHeartbeats 2000000 in
theorem rtimes_any (a b : Int) (w : World) (ha : B8 a) (hb : B8 b) : Calls Try.prog 44 #[.int .u8 a, .int .u8 b] w fun e w' => e = .returned (.int .u8 (times a b)) ∧ w = w' := by
  obtain ⟨ha0, ha1⟩ := ha
  obtain ⟨hb0, hb1⟩ := hb
  have HE := Lib.hid (times_eq a b)
  have HN := Lib.hid timesN_succ
  go_enter Try.func44, Try.ntmps44
  go_wp2_with fail
  go_loop [0, 1, 5, 6] (fun x y o i => ∃ (k : Nat) (p q r : Int), k ≤ 8 ∧ i = .int .i64 k ∧ x = .int .u8 p ∧ y = .int .u8 q ∧ o = .int .u8 r ∧ 0 ≤ p ∧ p < 256 ∧ 0 ≤ q ∧ q < 256 ∧ 0 ≤ r ∧ r < 256 ∧ Hid (timesN (8 - k) p q r = times a b)) (fun _ _ _ i => 8 - (intOf i).toNat)
  case atStart => exact ⟨0, a, b, 0, by omega, rfl, rfl, rfl, rfl, ha0, ha1, hb0, hb1, by omega, by omega, Lib.hid HE.out.symm⟩
  case round =>
    obtain ⟨k, p, q, r, hk, rfl, rfl, rfl, rfl, hp0, hp1, hq0, hq1, hr0, hr1, HT⟩ := hrel
    by_cases hlt : k < 8
    · have HT2 := HT.out
      rw [show 8 - k = (8 - (k + 1)) + 1 by omega, HN.out] at HT2
      by_cases hq : q % 2 = 1
      · rw [if_pos hq] at HT2
        by_cases hp : 128 ≤ p
        · rw [if_pos hp] at HT2
          have HT3 := Lib.hid HT2
          clear HT2 HT
          go_wp2_with fail
          go_round
          case rel => exact ⟨k + 1, _, _, _, by omega, by go_num, rfl, rfl, rfl, bits_lo_u8 _ _ _, by have := bits_hi_u8 .xor (2 * p % 256) 27; omega, by omega, by omega, bits_lo_u8 _ _ _, by have := bits_hi_u8 .xor r p; omega, Lib.hid (by rw [← HT3.out]; rfl)⟩
          case measure => simp [intOf]; omega
        · rw [if_neg hp] at HT2
          have HT3 := Lib.hid HT2
          clear HT2 HT
          go_wp2_with fail
          go_round
          case rel => exact ⟨k + 1, _, _, _, by omega, by go_num, rfl, rfl, rfl, by omega, by omega, by omega, by omega, bits_lo_u8 _ _ _, by have := bits_hi_u8 .xor r p; omega, Lib.hid (by rw [← HT3.out]; rfl)⟩
          case measure => simp [intOf]; omega
      · rw [if_neg hq] at HT2
        have hq2 : q % 2 = 0 := by omega
        clear hq
        by_cases hp : 128 ≤ p
        · rw [if_pos hp] at HT2
          have HT3 := Lib.hid HT2
          clear HT2 HT
          go_wp2_with fail
          go_round
          case rel => exact ⟨k + 1, _, _, _, by omega, by go_num, rfl, rfl, rfl, bits_lo_u8 _ _ _, by have := bits_hi_u8 .xor (2 * p % 256) 27; omega, by omega, by omega, hr0, hr1, Lib.hid (by rw [← HT3.out]; rfl)⟩
          case measure => simp [intOf]; omega
        · rw [if_neg hp] at HT2
          have HT3 := Lib.hid HT2
          clear HT2 HT
          go_wp2_with fail
          go_round
          case rel => exact ⟨k + 1, _, _, _, by omega, by go_num, rfl, rfl, rfl, by omega, by omega, by omega, by omega, hr0, hr1, Lib.hid (by rw [← HT3.out])⟩
          case measure => simp [intOf]; omega
    · have hk8 : k = 8 := by omega
      have HF : Hid (r = times a b) := Lib.hid (by have h := HT.out; rw [hk8] at h; rw [← h]; exact (timesN_zero _ _ _).symm)
      go_wp2_with fail
      go_ret
      exact ⟨ret_int HF.out, rfl⟩
theorem rpow_zero (n x y : Int) : rpow 0 n x y = y := by unfold rpow; rfl
theorem rpow_succ (f : Nat) (n x y : Int) : rpow (f + 1) n x y = if n ≤ 0 then y else rpow f (n / 2) (times x x) (if n % 2 = 1 then times y x else y) := by rw [rpow]
theorem raff_zero (y out : Int) : raff 0 y out = out := by unfold raff; rfl
theorem raff_succ (f : Nat) (y out : Int) : raff (f + 1) y out = raff f ((2 * y) % 256 + y / 128) (xb out y) := by rw [raff]
theorem rsub_is {b : Int} (hb : B8 b) : raff 5 (rpow 8 254 b 1) 99 = sub b := by
  have h := List.all_eq_true.1 rsub_eq b (allE_mem hb)
  rw [beq_iff_eq] at h
  exact h
set_option maxRecDepth 100000 in
set_option maxHeartbeats 2000000 in
theorem rsub_any (b : Int) (w : World) (hb : B8 b) : Calls Try.prog 43 #[.int .u8 b] w fun e w' => e = .returned (.int .u8 (sub b)) ∧ w = w' := by
  have HB := Lib.hid (rsub_is hb)
  have hb0 := hb.1
  have hb1 := hb.2
  go_enter Try.func43, Try.ntmps43
  go_wp2_with fail
  go_loop [3, 4, 5] (fun y x n => ∃ (f : Nat) (m p q : Int), f ≤ 8 ∧ n = .int .i64 m ∧ x = .int .u8 p ∧ y = .int .u8 q ∧ 0 ≤ m ∧ m < 2 ^ f ∧ B8 p ∧ B8 q ∧ Hid (rpow f m p q = rpow 8 254 b 1)) (fun _ _ n => (intOf n).toNat)
  case atStart => exact ⟨8, 254, b, 1, by omega, rfl, rfl, rfl, by decide, by decide, hb, ⟨by decide, by decide⟩, Lib.hid rfl⟩
  case round =>
    obtain ⟨f, m, p, q, hf, rfl, rfl, rfl, hm0, hm1, hp, hq, HR⟩ := hrel
    by_cases hm : 0 < m
    · obtain ⟨f, rfl⟩ : ∃ f', f = f' + 1 := by
        rcases Nat.eq_zero_or_pos f with h | h
        · subst h; simp at hm1; omega
        · exact ⟨f - 1, by omega⟩
      have HR2 := HR.out
      rw [rpow_succ, if_neg (by omega)] at HR2
      have hm2 : m / 2 < 2 ^ f := by rw [Int.pow_succ] at hm1; omega
      have hm254 : m < 256 := Int.lt_of_lt_of_le hm1 (by
        have : (2 : Nat) ^ (f + 1) ≤ 2 ^ 8 := Nat.pow_le_pow_right (by decide) hf
        exact_mod_cast this)
      have HM2 := Lib.hid hm2
      have HP := Lib.hid hp
      have HQ := Lib.hid hq
      obtain ⟨hp0, hp1⟩ := hp
      obtain ⟨hq0, hq1⟩ := hq
      clear hm1 hm2 HR
      by_cases h1 : m % 2 = 1
      · rw [if_pos h1] at HR2
        have HR3 := Lib.hid HR2
        clear HR2
        go_wp2_with fail
        refine Calls.mono (rtimes_any q p _ HQ.out HP.out) ?_
        rintro e w' ⟨rfl, rfl⟩
        go_wp2_with fail
        refine Calls.mono (rtimes_any p p _ HP.out HP.out) ?_
        rintro e w' ⟨rfl, rfl⟩
        go_wp2_with fail
        go_round
        case rel => exact ⟨f, _, _, _, by omega, rfl, rfl, rfl, by omega, HM2.out, times_u _ _, times_u _ _, HR3⟩
        case measure => simp [intOf]; omega
      · rw [if_neg h1] at HR2
        have HR3 := Lib.hid HR2
        have h2 : (m % 2 == 1) = false := by simpa using h1
        clear HR2 h1
        go_wp2_with fail
        refine Calls.mono (rtimes_any p p _ HP.out HP.out) ?_
        rintro e w' ⟨rfl, rfl⟩
        go_wp2_with fail
        go_round
        case rel => exact ⟨f, _, _, _, by omega, rfl, rfl, rfl, by omega, HM2.out, times_u _ _, HQ.out, HR3⟩
        case measure => simp [intOf]; omega
    · have hm00 : m = 0 := by omega
      have HQR : Hid (raff 5 q 99 = sub b) := Lib.hid (by
        rw [← HB.out, ← HR.out, hm00]
        rcases f with _ | f
        · rw [rpow_zero]
        · rw [rpow_succ, if_pos (by decide)])
      subst hm00
      have HQ := Lib.hid hq
      clear hm hm1 hm0 HR HB hp hq
      go_wp2_with fail
      go_loop [3, 6, 7] (fun y o i => ∃ (k : Nat) (s r : Int), k ≤ 5 ∧ i = .int .i64 k ∧ y = .int .u8 s ∧ o = .int .u8 r ∧ B8 s ∧ B8 r ∧ Hid (raff (5 - k) s r = sub b)) (fun _ _ i => 5 - (intOf i).toNat)
      case atStart => exact ⟨0, q, 99, by omega, rfl, rfl, rfl, HQ.out, ⟨by decide, by decide⟩, HQR⟩
      case round =>
        obtain ⟨k, s, r, hk, rfl, rfl, rfl, hs, hr, HR⟩ := hrel
        by_cases hlt : k < 5
        · have HR2 := HR.out
          rw [show 5 - k = (5 - (k + 1)) + 1 by omega, raff_succ] at HR2
          have HR3 := Lib.hid HR2
          obtain ⟨hs0, hs1⟩ := hs
          obtain ⟨hr0, hr1⟩ := hr
          clear HR HR2
          go_wp2_with fail
          go_round
          case rel => exact ⟨k + 1, _, _, by omega, by go_num, rfl, rfl, ⟨by omega, by omega⟩, xb_u _ _, HR3⟩
          case measure => simp [intOf]; omega
        · have hk5 : k = 5 := by omega
          have HF : Hid (r = sub b) := Lib.hid (by have h := HR.out; rw [hk5] at h; rw [← h]; exact (raff_zero _ _).symm)
          go_wp2_with fail
          go_ret
          exact ⟨ret_int HF.out, rfl⟩
theorem len_snoc' {B : Nat} {e : TypeId} {k : IntKind} {w : World} {A : Option Addr} {n c m : Nat} {Q : List Int} {z : Int} (h : Own B e k w A n c (Q ++ [z])) (hp : Q.length = m) : n = m + 1 := by have := h.len; rw [List.length_append, hp] at this; exact this
theorem sub_at (k : Nat) : sub (k : Int) = boxL.getD k 0 := by unfold sub; rw [Int.toNat_natCast]
set_option maxRecDepth 100000 in
set_option maxHeartbeats 2000000 in
theorem rbox_any (w : World) : Calls Try.prog 33 #[] w (RetOwn 5 .u8 boxL w) := by
  have HBL := Lib.hid boxL_len
  go_enter Try.func33, Try.ntmps33
  go_wp2_with fail
  go_loopw [1, 2] (fun v i wr => ∃ (k : Nat) (A : Option Addr) (c : Nat), k ≤ 256 ∧ i = .int .i64 k ∧ v = .slice A k c ∧ Hid (Own w.heap.size 5 .u8 wr A k c (boxL.take k)) ∧ Hid (Below w.heap.size w wr)) (fun _ i _ => 256 - (intOf i).toNat)
  case atStart => exact ⟨0, none, 0, by omega, rfl, rfl, Lib.hid (by rw [List.take_zero]; exact Own.nil _ _ _ _), Lib.hid (Below.refl _ _)⟩
  case round =>
    obtain ⟨k, A, c, hk, rfl, rfl, HO, HB⟩ := hrel
    by_cases hlt : k < 256
    · have HTK := Lib.hid (take_snoc_getD (xs := boxL) (t := k) (by rw [HBL.out]; omega))
      have HTL : Hid ((boxL.take k).length = k) := Lib.hid (by rw [List.length_take, HBL.out]; omega)
      have HS := Lib.hid (sub_at k)
      go_wp2_with fail
      refine Calls.mono (rsub_any k _ ⟨by omega, by omega⟩) ?_
      rintro e w' ⟨rfl, rfl⟩
      rw [HS.out]
      generalize boxL.getD k 0 = z at *
      go_wp2_with (at_builtin; refine wpList_app (o := ⟨some 12, _, _, _, _, _⟩) elB8 rfl _ _ rfl rfl rfl (HO.out.alloc _) (Rd.newAt (xs := [_]) rfl rfl) rfl ?_ ?_ ?_; (simp only [List.length_take, List.length_cons, List.length_nil]; omega); (have := HB.out.size; simp <;> omega); intro A9 n9 c9 w9 q9; have H9 := Lib.hid q9.1; have B9 := Lib.hid ((HB.out.alloc HB.out.size _).trans q9.2.2.1); have hn9 := len_snoc' q9.1 HTL.out; subst hn9; clear q9)
      go_roundw
      case rel => exact ⟨k + 1, A9, c9, by omega, by go_num, rfl, Lib.hid (by rw [HTK.out]; exact H9.out), B9⟩
      case measure => simp [intOf]; omega
    · have HF : Hid (Own w.heap.size 5 .u8 wr A k c boxL) := Lib.hid (by have h := HO.out; rw [List.take_of_length_le (by rw [HBL.out]; omega)] at h; exact h)
      go_wp2_with fail
      go_ret
      exact ⟨A, k, c, rfl, HF.out, HB.out⟩
end Go.Proofs.Ytieabfifaigjdaa
/- Contract of layer 8's reference: Columns. Conditions: as each theorem states them. -/
namespace Go.Proofs.Ytieabfifaigjdaa
open Go.RowKit
theorem slice_lhN {P : Program} {t e : TypeId} {k : IntKind} {bytes B n c : Nat} {w : World} {A : Option Addr} {xs : List Int} (E : ElT P t e k bytes) (hr : Rd B k w A xs) (hn : xs.length = n) (hc : n ≤ c) (l h : Int) (m : Nat) (h0 : 0 ≤ l) (h1 : l ≤ h) (h2 : h ≤ n) (hm : (m : Int) = h - l) :
    ∃ A' c', m ≤ c' ∧ c' ≤ c ∧ Rd B k w A' ((xs.drop l.toNat).take m) ∧ ((xs.drop l.toNat).take m).length = m ∧
      ∀ (w : World) (kl kh : IntKind), (Instr.sliceAt t (.slice A n c) (some (.int kl l)) (some (.int kh h)) none).run P w = .ok (.slice A' m c') w := by
  subst hn; exact slice_lh E hr hc l h m h0 h1 h2 hm
theorem times_2 {c : Int} (hc : B8 c) : times c 2 = tw c := by
  have h := List.all_eq_true.1 times_two c (allE_mem hc)
  simp only [Bool.and_eq_true, beq_iff_eq] at h
  exact h.1.2
set_option maxRecDepth 100000 in
set_option maxHeartbeats 8000000 in
theorem rcols_any (A0 : Option Addr) (c0 : Nat) (A1 : Option Addr) (c1 : Nat) (K : List Int) (w : World) (hK : Blk16 K) (hb : Rd w.heap.size .u8 w A0 boxL) (hr : Rd w.heap.size .u8 w A1 K) :
    Calls Try.prog 34 #[.slice A0 256 c0, .slice A1 16 c1] w (RetOwn 5 .u8 (wkL K) w) := by
  have HK := Lib.hid hK
  have HKL := Lib.hid hK.1
  have HBL := Lib.hid boxL_len
  obtain ⟨ad0, rfl, had0⟩ := hb.isSome (by rw [HBL.out]; decide)
  have HB := Lib.hid hb
  have HR := Lib.hid hr
  clear hK hb hr
  have O0 : Hid (Own w.heap.size 5 .u8 (w.alloc (.cells #[] 5)) (some ⟨w.heap.size, 0, none⟩) 0 0 []) := Lib.hid (Own.litAt rfl rfl rfl (Nat.le_refl _) (Nat.zero_le _))
  have HR0 := Lib.hid (HR.out.alloc (Nat.le_refl _) (.cells #[] 5))
  go_enter Try.func34, Try.ntmps34
  go_wp2_with (at_builtin; refine wpList_app (o := ⟨some 12, _, _, _, _, _⟩) elB8 rfl _ _ rfl rfl rfl O0.out HR0.out HKL.out.symm ?_ ?_ ?_; (rw [HKL.out]; decide); (simp); intro A2 n2 c2 w2 q2; have H2 : Hid (Own w.heap.size 5 .u8 w2 A2 n2 c2 K) := Lib.hid q2.1; have B2 := Lib.hid (((Below.refl w.heap.size w).alloc (Nat.le_refl _) _).trans q2.2.2.1); clear q2)
  have HZ1 : Hid ((1 : Int) = (kexp K (4 - 4)).2) := Lib.hid (by rw [kexp_zero])
  have HZ2 : Hid (Own w.heap.size 5 .u8 w2 A2 n2 c2 (kexp K (4 - 4)).1) := Lib.hid (by rw [kexp_zero]; exact H2.out)
  have HZ3 : Hid (n2 = 4 * 4) := Lib.hid (by rw [H2.out.len, HKL.out])
  clear H2
  go_loopw [5, 6, 7] (fun v u i wr => ∃ (k : Nat) (c : Int) (A : Option Addr) (n cc : Nat), 4 ≤ k ∧ k ≤ 44 ∧ i = .int .i64 k ∧ u = .int .u8 c ∧ v = .slice A n cc ∧ Hid (n = 4 * k) ∧ Hid (Own w.heap.size 5 .u8 wr A n cc (kexp K (k - 4)).1) ∧ Hid (c = (kexp K (k - 4)).2) ∧ Hid (Below w.heap.size w wr)) (fun _ _ i _ => 44 - (intOf i).toNat)
  case atStart => exact ⟨4, 1, A2, n2, c2, by omega, by omega, rfl, rfl, rfl, HZ3, HZ2, HZ1, B2⟩
  case round =>
    clear HZ1 HZ2 HZ3
    obtain ⟨k, c, A, n, cc, hk4, hk, rfl, rfl, rfl, HN, HO, HC, HW⟩ := hrel
    by_cases hlt : k < 44
    · have HOK := Lib.hid (kexp_ok HK.out (k - 4))
      have HKX := Lib.hid (kexp_succ K (k - 4))
      have hx8 : B8 c := by rw [HC.out]; exact HOK.out.2.2
      have HC8 := Lib.hid hx8
      obtain ⟨hc0, hc1⟩ := hx8
      rw [← HC.out] at HKX HOK
      generalize (kexp K (k - 4)).1 = xs at *
      have HXL : Hid (xs.length = 4 * k) := Lib.hid (by have := HOK.out.1; omega)
      have HXB := Lib.hid HOK.out.2.1
      have hcap := HO.out.cap
      have hHW := HW.out.size
      have hn := HN.out
      subst hn
      obtain ⟨ga, rfl, hga, hga'⟩ := HO.out.addr (by omega)
      obtain ⟨A6, c6, p1, p2, p3, p4, p5⟩ := slice_lhN elB8 (HO.out.rd.alloc (Nat.le_refl _) (.cells #[] 5)) HO.out.len.symm hcap.1 (4 * (k : Int) - 4) (4 * (k : Int)) 4 (by omega) (by omega) (by omega) (by omega)
      have P4 := Lib.hid p4
      have e4 : (4 * (k : Int) - 4).toNat = (k - 1) * 4 := by omega
      rw [e4, four_of (by rw [HXL.out]; omega)] at p3
      have P3 := Lib.hid p3
      have g0 := HXB.out.getD ((k - 1) * 4)
      have g1 := HXB.out.getD ((k - 1) * 4 + 1)
      have g2 := HXB.out.getD ((k - 1) * 4 + 2)
      have g3 := HXB.out.getD ((k - 1) * 4 + 3)
      obtain ⟨t0, ht0⟩ : ∃ t, xs.getD ((k - 1) * 4) 0 = t := ⟨_, rfl⟩
      obtain ⟨t1, ht1⟩ : ∃ t, xs.getD ((k - 1) * 4 + 1) 0 = t := ⟨_, rfl⟩
      obtain ⟨t2, ht2⟩ : ∃ t, xs.getD ((k - 1) * 4 + 2) 0 = t := ⟨_, rfl⟩
      obtain ⟨t3, ht3⟩ : ∃ t, xs.getD ((k - 1) * 4 + 3) 0 = t := ⟨_, rfl⟩
      rw [ht0, ht1, ht2, ht3] at P3
      rw [ht0] at g0
      rw [ht1] at g1
      rw [ht2] at g2
      rw [ht3] at g3
      have HT0 := Lib.hid ht0
      have HT1 := Lib.hid ht1
      have HT2 := Lib.hid ht2
      have HT3 := Lib.hid ht3
      obtain ⟨g00, g01⟩ := g0
      obtain ⟨g10, g11⟩ := g1
      obtain ⟨g20, g21⟩ := g2
      obtain ⟨g30, g31⟩ := g3
      have OE : Hid (Own wr.heap.size 5 .u8 (wr.alloc (.cells #[] 5)) (some ⟨wr.heap.size, 0, none⟩) 0 0 []) := Lib.hid (Own.litAt rfl rfl rfl (Nat.le_refl _) (Nat.zero_le _))
      clear ht0 ht1 ht2 ht3 p3 p4 e4
      by_cases h4 : k % 4 = 0
      case' pos =>
        have h4i : (k : Int) % 4 = 0 := by omega
        go_wp2_with (at_builtin; refine wpList_app (o := ⟨some 25, _, _, _, _, _⟩) elB8 rfl _ _ rfl rfl rfl OE.out P3.out rfl ?_ ?_ ?_; (simp); (simp); intro A8 n8 c8 w8 q8; obtain ⟨g8, rfl, hg8, hg8'⟩ := Own.addr q8.1 (by rw [q8.1.len]; simp); obtain rfl := (show n8 = 4 from q8.1.len); have H8 : Hid (Own wr.heap.size 5 .u8 w8 (some ⟨g8, 0, none⟩) 4 c8 [t0, t1, t2, t3]) := Lib.hid q8.1; have B8' := Lib.hid (((Below.refl wr.heap.size wr).alloc (Nat.le_refl _) _).trans q8.2.2.1); clear q8)
        have HW8 := Lib.hid (HW.out.trans (B8'.out.mono hHW))
        have HB8 := Lib.hid (HB.out.below HW8.out (Nat.le_refl _))
        have e0 : ∀ r : BW w8.heap.size w8, r.world.cell? ⟨g8, 0, none⟩ = some (.int .u8 t0) := fun r => (H8.out.below r.below).cell0 (i := 0) (by simp)
        have e1 : ∀ r : BW w8.heap.size w8, r.world.cell? ⟨g8, 1, none⟩ = some (.int .u8 t1) := fun r => (H8.out.below r.below).cell0 (i := 1) (by simp)
        have e2 : ∀ r : BW w8.heap.size w8, r.world.cell? ⟨g8, 2, none⟩ = some (.int .u8 t2) := fun r => (H8.out.below r.below).cell0 (i := 2) (by simp)
        have e3 : ∀ r : BW w8.heap.size w8, r.world.cell? ⟨g8, 3, none⟩ = some (.int .u8 t3) := fun r => (H8.out.below r.below).cell0 (i := 3) (by simp)
        have b0 : ∀ r : BW w8.heap.size w8, r.world.cell? (ad0.add t0.toNat) = some (.int .u8 (sub t0)) := fun r => (HB8.out.below r.below HW8.out.size).at_ (by rw [HBL.out]; omega)
        have b1 : ∀ r : BW w8.heap.size w8, r.world.cell? (ad0.add t1.toNat) = some (.int .u8 (sub t1)) := fun r => (HB8.out.below r.below HW8.out.size).at_ (by rw [HBL.out]; omega)
        have b2 : ∀ r : BW w8.heap.size w8, r.world.cell? (ad0.add t2.toNat) = some (.int .u8 (sub t2)) := fun r => (HB8.out.below r.below HW8.out.size).at_ (by rw [HBL.out]; omega)
        have b3 : ∀ r : BW w8.heap.size w8, r.world.cell? (ad0.add t3.toNat) = some (.int .u8 (sub t3)) := fun r => (HB8.out.below r.below HW8.out.size).at_ (by rw [HBL.out]; omega)
        refine wp_region_mixN w8.heap.size [([0, 1, 2, 3, 4, 5, 6, 7, 8, 9, 10, 11, 12, 13, 14, 15, 16, 17, 18, 19, 20, 21, 22, 23, 24, 25], 26)] [27] (by kernel_rfl) (by kernel_rfl) (by kernel_rfl) (by kernel_rfl) ?_
        try (rw [put_none])
        simp only [pickL, List.map_cons, List.map_nil, List.filterMap_cons, List.filterMap_nil, List.getElem?_cons_succ, List.getElem?_cons_zero]
        refine mixN_cons ?_
        repeat (show wpQuiet _ _ _ _ (_ :: _) _; go_big_quiet_step (fail))
        refine wpQuiet_nil ?_
        show wpList _ _ _ [_] _ _
        go_wp2_with fail
        obtain ⟨g, hg⟩ : ∃ g, w8.heap.size = g := ⟨_, rfl⟩
        obtain ⟨T, hT⟩ : ∃ T, [bits .xor .u8 (sub t1) c, sub t2, sub t3, sub t0] = T := ⟨_, rfl⟩
        have HTL : Hid (T.length = 4) := Lib.hid (by rw [← hT]; rfl)
        have HTE : Hid (∀ j, j < 4 → T.getD j 0 = kt xs c k j) := Lib.hid (fun j hj => by
          rw [← hT]
          unfold kt
          rw [if_pos h4]
          rcases (show j = 0 ∨ j = 1 ∨ j = 2 ∨ j = 3 by omega) with rfl | rfl | rfl | rfl
          · rw [if_pos rfl, show 4 * k - 3 = (k - 1) * 4 + 1 by omega, HT1.out]; rfl
          · rw [if_neg (by decide), show 4 * k - 4 + (1 + 1) % 4 = (k - 1) * 4 + 2 by omega, HT2.out]; rfl
          · rw [if_neg (by decide), show 4 * k - 4 + (2 + 1) % 4 = (k - 1) * 4 + 3 by omega, HT3.out]; rfl
          · rw [if_neg (by decide), show 4 * k - 4 + (3 + 1) % 4 = (k - 1) * 4 by omega, HT0.out]; rfl)
        have B9 : Hid (Below w8.heap.size w8 (w8.alloc (.cells #[.int .u8 (bits .xor .u8 (sub t1) c), .int .u8 (sub t2), .int .u8 (sub t3), .int .u8 (sub t0)] 5)).drew) := Lib.hid (((Below.refl _ _).alloc (Nat.le_refl _) _).drew)
        have HT9 : Hid (Own w.heap.size 5 .u8 (w8.alloc (.cells #[.int .u8 (bits .xor .u8 (sub t1) c), .int .u8 (sub t2), .int .u8 (sub t3), .int .u8 (sub t0)] 5)).drew (some ⟨g, 0, none⟩) 4 4 T) := Lib.hid (Own.drew (Own.litAt hg (by rw [← hT]; rfl) (by rw [← hT]; rfl) (by rw [← hg]; exact HW8.out.size) (by rw [← hT]; simp [maxLen])))
        have hne : ga ≠ g := by have := B8'.out.size; omega
        have HX9 := Lib.hid (HO.out.below (B8'.out.trans (B9.out.mono B8'.out.size)))
        have HW9 := Lib.hid (HW8.out.trans (B9.out.mono HW8.out.size))
        obtain ⟨cc2, hcc⟩ : ∃ cc2, tw c = cc2 := ⟨_, rfl⟩
        have HCC : Hid (cc2 = (kexp K (k - 4 + 1)).2) := Lib.hid (by rw [HKX.out, ← hcc]; show _ = if _ then _ else _; rw [if_pos (by omega)])
        refine MixN.narrow B9.out B9.out.size ?_
        refine mixN_nil ?_
        repeat (show wpQuiet _ _ _ _ (_ :: _) _; go_big_quiet_step (fail))
        refine wpQuiet_nil ?_
        refine NoPanic.normal ?_
        rw [hg]
        generalize (w8.alloc (.cells #[.int .u8 (bits .xor .u8 (sub t1) c), .int .u8 (sub t2), .int .u8 (sub t3), .int .u8 (sub t0)] 5)).drew = w9 at *
        generalize bits .xor .u8 (sub t1) c = y0 at *
        clear e0 e1 e2 e3 b0 b1 b2 b3 B9 H8 hT hg hg8 hg8' B8' HW8 HB8
        go_wp2_with fail
        refine Calls.mono (rtimes_any c 2 _ HC8.out ⟨by decide, by decide⟩) ?_
        rintro e w7 ⟨rfl, rfl⟩
        rw [times_2 HC8.out, hcc]
        clear hcc h4i h4
        have HTR : Hid (Rd w9.heap.size .u8 w9 (some ⟨g, 0, none⟩) T) := Lib.hid HT9.out.rd
        have hgW : g < w9.heap.size := (HT9.out.block _ rfl).2
        clear HT9
      case' neg =>
        have h4i : (k : Int) % 4 ≠ 0 := by omega
        go_wp2_with (at_builtin; refine wpList_app (o := ⟨some 25, _, _, _, _, _⟩) elB8 rfl _ _ rfl rfl rfl OE.out P3.out rfl ?_ ?_ ?_; (simp); (simp); intro A8 n8 c8 w8 q8; obtain ⟨g8, rfl, hg8, hg8'⟩ := Own.addr q8.1 (by rw [q8.1.len]; simp); obtain rfl := (show n8 = 4 from q8.1.len); have H8 : Hid (Own wr.heap.size 5 .u8 w8 (some ⟨g8, 0, none⟩) 4 c8 [t0, t1, t2, t3]) := Lib.hid q8.1; have B8' := Lib.hid (((Below.refl wr.heap.size wr).alloc (Nat.le_refl _) _).trans q8.2.2.1); clear q8)
        obtain ⟨g, hg⟩ : ∃ g, g8 = g := ⟨_, rfl⟩
        obtain ⟨T, hT⟩ : ∃ T, [t0, t1, t2, t3] = T := ⟨_, rfl⟩
        have HTL : Hid (T.length = 4) := Lib.hid (by rw [← hT]; rfl)
        have HTE : Hid (∀ j, j < 4 → T.getD j 0 = kt xs c k j) := Lib.hid (fun j hj => by
          rw [← hT]
          unfold kt
          rw [if_neg h4]
          rcases (show j = 0 ∨ j = 1 ∨ j = 2 ∨ j = 3 by omega) with rfl | rfl | rfl | rfl
          · rw [show 4 * k - 4 + 0 = (k - 1) * 4 by omega, HT0.out]; rfl
          · rw [show 4 * k - 4 + 1 = (k - 1) * 4 + 1 by omega, HT1.out]; rfl
          · rw [show 4 * k - 4 + 2 = (k - 1) * 4 + 2 by omega, HT2.out]; rfl
          · rw [show 4 * k - 4 + 3 = (k - 1) * 4 + 3 by omega, HT3.out]; rfl)
        obtain ⟨w9, rfl⟩ : ∃ w9 : World, w9 = w8 := ⟨_, rfl⟩
        have HTR : Hid (Rd w9.heap.size .u8 w9 (some ⟨g, 0, none⟩) T) := Lib.hid (by rw [← hT, ← hg]; exact H8.out.rd)
        have hgW : g < w9.heap.size := by rw [← hg]; exact hg8'
        have hne : ga ≠ g := by omega
        have HX9 := Lib.hid (HO.out.below B8'.out)
        have HW9 := Lib.hid (HW.out.trans (B8'.out.mono hHW))
        obtain ⟨cc2, hcc⟩ : ∃ cc2, c = cc2 := ⟨_, rfl⟩
        have HCC : Hid (cc2 = (kexp K (k - 4 + 1)).2) := Lib.hid (by rw [HKX.out, ← hcc]; show _ = if _ then _ else _; rw [if_neg (by omega)])
        have y0 : Int := 0
        rw [hg, hcc]
        clear H8 hT hg hg8 hg8' B8' hcc h4i h4
      all_goals
        clear HO HW p1 p2 p5 P4 P3 HT0 HT1 HT2 HT3 g00 g01 g10 g11 g20 g21 g30 g31 OE hHW hga hga' hcap
        go_wp2_with fail
        go_loopw [5, 9] (fun v jj wi => ∃ (j ga n' c' : Nat), j ≤ 4 ∧ jj = .int .i64 j ∧ v = .slice (some ⟨ga, 0, none⟩) n' c' ∧ n' = 4 * k + j ∧ ga ≠ g ∧ g < wi.heap.size ∧ Hid (Own w.heap.size 5 .u8 wi (some ⟨ga, 0, none⟩) n' c' (xs ++ (kcol xs c k).take j)) ∧ Hid (Rd wi.heap.size .u8 wi (some ⟨g, 0, none⟩) T) ∧ Hid (Below w.heap.size w wi)) (fun _ jj _ => 4 - (intOf jj).toNat)
        case atStart => exact ⟨0, ga, 4 * k, cc, by omega, rfl, rfl, by omega, hne, hgW, Lib.hid (by rw [List.take_zero, List.append_nil]; exact HX9.out), HTR, HW9⟩
        case round =>
          clear HX9 HTR HW9 hne hgW
          obtain ⟨j, ga, n', c', hj, rfl, rfl, rfl, hne, hgW, HOi, HTi, HWi⟩ := hrel
          have HCL : Hid ((kcol xs c k).length = 4) := Lib.hid rfl
          by_cases hj4 : j < 4
          · have HN2 : Hid ((kcol xs c k).getD j 0 = bits .xor .u8 (xs.getD (4 * k - 16 + j) 0) (T.getD j 0)) := Lib.hid (by
              rw [kcol_getD xs c k hj4, HTE.out j hj4]
              rfl)
            have HTS := Lib.hid (take_snoc_getD (xs := kcol xs c k) (t := j) (by rw [HCL.out]; exact hj4))
            have p0 : wr.cell? ⟨ga, 4 * k - 16 + j, none⟩ = some (.int .u8 (xs.getD (4 * k - 16 + j) 0)) := by
              have h1 := HOi.out.cell0 (i := 4 * k - 16 + j) (by rw [List.length_append, HXL.out]; omega)
              rwa [append_getDl _ (by rw [HXL.out]; omega)] at h1
            have q0 : wr.cell? ⟨g, j, none⟩ = some (.int .u8 (T.getD j 0)) := HTi.out.cell0 (by rw [HTL.out]; exact hj4)
            have HXi := Lib.hid (append_getDl (a := xs) (List.take j (kcol xs c k)) (i := 4 * k - 16 + j) (by rw [HXL.out]; omega))
            have e0 : (4 * (k : Int) - 16 + (j : Int)).toNat = 4 * k - 16 + j := by omega
            have P0 := Lib.hid p0
            have Q0 := Lib.hid q0
            have HTJ := Lib.hid (rfl : T.getD j 0 = T.getD j 0)
            generalize hp : xs.getD (4 * k - 16 + j) 0 = p at *
            generalize hq : T.getD j 0 = q at P0 Q0 HN2 q0
            have HP := Lib.hid hp
            have HQ := Lib.hid hq
            have p1 := fun r : CW (fun v : World => v.cell? ⟨ga, 4 * k - 16 + j, none⟩ = some (.int .u8 p) ∧ v.cell? ⟨g, j, none⟩ = some (.int .u8 q)) => r.holds.1
            have p2 := fun r : CW (fun v : World => v.cell? ⟨ga, 4 * k - 16 + j, none⟩ = some (.int .u8 p) ∧ v.cell? ⟨g, j, none⟩ = some (.int .u8 q)) => r.holds.2
            have hne2 : Nonempty (CW (fun v : World => v.cell? ⟨ga, 4 * k - 16 + j, none⟩ = some (.int .u8 p) ∧ v.cell? ⟨g, j, none⟩ = some (.int .u8 q))) := CW.inh ⟨P0.out, Q0.out⟩
            clear hp hq p0 q0 HTJ
            go_wp2_with fail
            refine wp_region_mix_class (fun v : World => v.cell? ⟨ga, 4 * k - 16 + j, none⟩ = some (.int .u8 p) ∧ v.cell? ⟨g, j, none⟩ = some (.int .u8 q)) [([0, 1, 2, 3, 4, 5, 6, 7, 8, 9, 10, 11, 12, 13], 14), ([], 15)] [16] (by kernel_rfl) (by kernel_rfl) (by kernel_rfl) (by kernel_rfl) ⟨P0.out, Q0.out⟩ ?_
            simp only [pickL, List.map_cons, List.map_nil, List.filterMap_cons, List.filterMap_nil, List.getElem?_cons_succ, List.getElem?_cons_zero]
            refine mixS_cons ?_
            repeat (show wpQuiet _ _ _ _ (_ :: _) _; go_big_quiet_step (fail))
            refine wpQuiet_nil ?_
            show wpList _ _ _ [_] _ _
            go_wp2_with fail
            have B1 : Hid (Below wr.heap.size wr (wr.alloc (.cells #[.int .u8 (bits .xor .u8 p q)] 5)).drew) := Lib.hid (((Below.refl _ _).alloc (Nat.le_refl _) _).drew)
            have HT1 := Lib.hid (HTi.out.below B1.out (Nat.le_refl _))
            have hga1 := (HOi.out.block _ rfl).2
            refine MixQ.class ⟨Below.cell_some B1.out P0.out hga1, Below.cell_some B1.out Q0.out hgW⟩ ?_
            refine mixS_cons ?_
            refine wpQuiet_nil ?_
            show wpList _ _ _ [_] _ _
            go_wp2_with (at_builtin; refine wpList_app2 (o := ⟨some 77, _, _, _, _, _⟩) elB8 rfl _ _ rfl rfl rfl ((HOi.out.alloc _).drew) (Rd.drew (Rd.newAt (xs := [_]) rfl rfl)) rfl ?_ ?_ ?_; (simp only [List.length_append, List.length_take, List.length_cons, List.length_nil, HXL.out]; omega); (have := HWi.out.size; simp <;> omega); intro A9 n9 c9 w9' q9; have H9 := Lib.hid q9.1.1; have G9 := Lib.hid q9.1.2.1; have BB9 := Lib.hid ((HWi.out.trans (B1.out.mono HWi.out.size)).trans q9.1.2.2.1); have D9 := Lib.hid q9.1.2.2.2; have R9 := Lib.hid q9.2; clear q9)
            have HT9' : Hid (Rd wr.heap.size .u8 w9' (some ⟨g, 0, none⟩) T) := Lib.hid (HT1.out.far G9.out (by simp) (fun ad h => by cases h; exact fun h => hne h.symm))
            obtain ⟨g9, rfl, hg9, hg9'⟩ := H9.out.addr (by rw [H9.out.len]; simp <;> omega)
            have hn9 := len_snoc' H9.out (m := 4 * k + j) (by rw [List.length_append, List.length_take, HXL.out, HCL.out]; omega)
            subst hn9
            have hszL : wr.heap.size ≤ w9'.heap.size := by
              have h1 := G9.out.size
              have h2 := B1.out.size
              omega
            have hne9 : g9 ≠ g := by
              rcases D9.out with h | ⟨b, h, hb⟩
              · cases h; exact hne
              · cases h; simp at hb; omega
            have k1 : w9'.cell? ⟨ga, 4 * k - 16 + j, none⟩ = some (.int .u8 p) := by
              have := R9.out.cell0 (i := 4 * k - 16 + j) (by rw [List.length_append, HXL.out]; omega)
              rwa [HXi.out] at this
            have k2 : w9'.cell? ⟨g, j, none⟩ = some (.int .u8 q) := by
              have := HT9'.out.cell0 (i := j) (by rw [HTL.out]; exact hj4)
              rwa [HQ.out] at this
            refine MixQ.class ⟨k1, k2⟩ ?_
            refine mixS_nil ?_
            repeat (show wpQuiet _ _ _ _ (_ :: _) _; go_big_quiet_step (fail))
            refine wpQuiet_nil ?_
            refine NoPanic.normal ?_
            have HN9 : Hid (Own w.heap.size 5 .u8 w9' (some ⟨g9, 0, none⟩) (4 * k + j + 1) c9 (xs ++ (kcol xs c k).take (j + 1))) := Lib.hid (by rw [HTS.out, HN2.out, ← List.append_assoc]; exact H9.out)
            have HT9 := Lib.hid (HT9'.out.mono hszL)
            have hgL : g < w9'.heap.size := by omega
            clear p1 p2 k1 k2 hne2 e0 H9 G9 D9 R9 HT9' HT1 B1 P0 Q0
            go_wp2_with fail
            go_roundw
            case rel => exact ⟨j + 1, g9, _, c9, by omega, by go_num, rfl, by omega, hne9, hgL, HN9, HT9, BB9⟩
            case measure => simp [intOf]; omega
          · have hj4' : j = 4 := by omega
            have HFE : Hid (Own w.heap.size 5 .u8 wr (some ⟨ga, 0, none⟩) (4 * k + j) c' (kexp K (k + 1 - 4)).1) := Lib.hid (by
              have h := HOi.out
              rw [hj4', List.take_of_length_le (by rw [HCL.out]; exact Nat.le_refl _)] at h
              rw [show k + 1 - 4 = k - 4 + 1 by omega, HKX.out]
              show Own w.heap.size _ _ wr _ _ _ (xs ++ kcol xs c (k - 4 + 4))
              rw [show k - 4 + 4 = k by omega, hj4']
              exact h)
            have HNE : Hid (4 * k + j = 4 * (k + 1)) := Lib.hid (by omega)
            clear HOi HTi hj hne hgW hj4'
            go_wp2_with fail
            go_roundw
            case rel => exact ⟨k + 1, cc2, _, _, _, by omega, by omega, by go_num, rfl, rfl, HNE, HFE, Lib.hid (by rw [show k + 1 - 4 = k - 4 + 1 by omega]; exact HCC.out), HWi⟩
            case measure => simp [intOf]; omega
    · have hk44 : k = 44 := by omega
      have HWE := Lib.hid (wkL_eq K)
      have HF2 : Hid (Own w.heap.size 5 .u8 wr A n cc (wkL K)) := Lib.hid (by have h := HO.out; rw [hk44] at h; rw [HWE.out]; exact h)
      clear HO hk44 HWE HC
      go_wp2_with fail
      go_ret
      exact ⟨A, n, cc, rfl, HF2.out, HW.out⟩
end Go.Proofs.Ytieabfifaigjdaa
/- Contract of layer 8's reference: Seal. Conditions: as each theorem states them. -/
namespace Go.Proofs.Ytieabfifaigjdaa
open Go.RowKit
theorem times_3 {c : Int} (hc : B8 c) : times 3 c = xb (tw c) c := by
  have h := List.all_eq_true.1 times_two c (allE_mem hc)
  simp only [Bool.and_eq_true, beq_iff_eq] at h
  exact h.2
theorem times_2l {c : Int} (hc : B8 c) : times 2 c = tw c := by
  have h := List.all_eq_true.1 times_two c (allE_mem hc)
  simp only [Bool.and_eq_true, beq_iff_eq] at h
  exact h.1.1
theorem col0 {a b c d : Int} (ha : B8 a) (hb : B8 b) (hc : B8 c) (hd : B8 d) : xb (xb (xb (times 2 a) (times 3 b)) c) d = mcolB a b (allX a b c d) := by
  rw [times_2l ha, times_3 hb]
  unfold mcolB allX
  rw [tw_lin ha hb]
  have hta := tw_u ha
  have htb := tw_u hb
  refine nat_eq (xb_u _ _) (xb_u _ _) ?_
  rw [xb_toNat (xb_u _ _) hd, xb_toNat (xb_u _ _) hc, xb_toNat hta (xb_u _ _), xb_toNat htb hb, xb_toNat ha (xb_u _ _), xb_toNat (xb_u _ _) (xb_u _ _), xb_toNat hta htb, xb_toNat (xb_u _ _) hd, xb_toNat (xb_u _ _) hc, xb_toNat ha hb]
  generalize (tw a).toNat = p, (tw b).toNat = q, a.toNat = x, b.toNat = y, c.toNat = z, d.toNat = u
  apply Nat.eq_of_testBit_eq
  intro i
  simp only [Nat.testBit_xor]
  generalize p.testBit i = p, q.testBit i = q, x.testBit i = x, y.testBit i = y, z.testBit i = z, u.testBit i = u
  revert p q x y z u
  decide
theorem col1 {a b c d : Int} (ha : B8 a) (hb : B8 b) (hc : B8 c) (hd : B8 d) : xb (xb (xb a (times 2 b)) (times 3 c)) d = mcolB b c (allX a b c d) := by
  rw [times_2l hb, times_3 hc]
  unfold mcolB allX
  rw [tw_lin hb hc]
  have hta := tw_u hb
  have htb := tw_u hc
  refine nat_eq (xb_u _ _) (xb_u _ _) ?_
  rw [xb_toNat (xb_u _ _) hd, xb_toNat (xb_u _ _) (xb_u _ _), xb_toNat ha hta, xb_toNat htb hc, xb_toNat hb (xb_u _ _), xb_toNat (xb_u _ _) (xb_u _ _), xb_toNat hta htb, xb_toNat (xb_u _ _) hd, xb_toNat (xb_u _ _) hc, xb_toNat ha hb]
  generalize (tw b).toNat = p, (tw c).toNat = q, a.toNat = x, b.toNat = y, c.toNat = z, d.toNat = u
  apply Nat.eq_of_testBit_eq
  intro i
  simp only [Nat.testBit_xor]
  generalize p.testBit i = p, q.testBit i = q, x.testBit i = x, y.testBit i = y, z.testBit i = z, u.testBit i = u
  revert p q x y z u
  decide
theorem col2 {a b c d : Int} (ha : B8 a) (hb : B8 b) (hc : B8 c) (hd : B8 d) : xb (xb (xb a b) (times 2 c)) (times 3 d) = mcolB c d (allX a b c d) := by
  rw [times_2l hc, times_3 hd]
  unfold mcolB allX
  rw [tw_lin hc hd]
  have hta := tw_u hc
  have htb := tw_u hd
  refine nat_eq (xb_u _ _) (xb_u _ _) ?_
  rw [xb_toNat (xb_u _ _) (xb_u _ _), xb_toNat (xb_u _ _) hta, xb_toNat ha hb, xb_toNat htb hd, xb_toNat hc (xb_u _ _), xb_toNat (xb_u _ _) (xb_u _ _), xb_toNat hta htb, xb_toNat (xb_u _ _) hd, xb_toNat (xb_u _ _) hc, xb_toNat ha hb]
  generalize (tw c).toNat = p, (tw d).toNat = q, a.toNat = x, b.toNat = y, c.toNat = z, d.toNat = u
  apply Nat.eq_of_testBit_eq
  intro i
  simp only [Nat.testBit_xor]
  generalize p.testBit i = p, q.testBit i = q, x.testBit i = x, y.testBit i = y, z.testBit i = z, u.testBit i = u
  revert p q x y z u
  decide
theorem col3 {a b c d : Int} (ha : B8 a) (hb : B8 b) (hc : B8 c) (hd : B8 d) : xb (xb (xb (times 3 a) b) c) (times 2 d) = mcolB d a (allX a b c d) := by
  rw [times_2l hd, times_3 ha]
  unfold mcolB allX
  rw [tw_lin hd ha]
  have hta := tw_u hd
  have htb := tw_u ha
  refine nat_eq (xb_u _ _) (xb_u _ _) ?_
  rw [xb_toNat (xb_u _ _) hta, xb_toNat (xb_u _ _) hc, xb_toNat (xb_u _ _) hb, xb_toNat htb ha, xb_toNat hd (xb_u _ _), xb_toNat (xb_u _ _) (xb_u _ _), xb_toNat hta htb, xb_toNat (xb_u _ _) hd, xb_toNat (xb_u _ _) hc, xb_toNat ha hb]
  generalize (tw d).toNat = p, (tw a).toNat = q, a.toNat = x, b.toNat = y, c.toNat = z, d.toNat = u
  apply Nat.eq_of_testBit_eq
  intro i
  simp only [Nat.testBit_xor]
  generalize p.testBit i = p, q.testBit i = q, x.testBit i = x, y.testBit i = y, z.testBit i = z, u.testBit i = u
  revert p q x y z u
  decide
theorem mixAt_cols {s : List Int} (hs : Byt s) (i : Nat) {a b c d : Int} (h0 : s.getD i 0 = a) (h1 : s.getD (i + 1) 0 = b) (h2 : s.getD (i + 2) 0 = c) (h3 : s.getD (i + 3) 0 = d) :
    (((s.set i (xb (xb (xb (times 2 a) (times 3 b)) c) d)).set (i + 1) (xb (xb (xb a (times 2 b)) (times 3 c)) d)).set (i + 2) (xb (xb (xb a b) (times 2 c)) (times 3 d))).set (i + 3) (xb (xb (xb (times 3 a) b) c) (times 2 d)) = mixAt s i := by
  subst h0; subst h1; subst h2; subst h3
  rw [col0 (byt_getD8 hs _) (byt_getD8 hs _) (byt_getD8 hs _) (byt_getD8 hs _), col1 (byt_getD8 hs _) (byt_getD8 hs _) (byt_getD8 hs _) (byt_getD8 hs _), col2 (byt_getD8 hs _) (byt_getD8 hs _) (byt_getD8 hs _) (byt_getD8 hs _), col3 (byt_getD8 hs _) (byt_getD8 hs _) (byt_getD8 hs _) (byt_getD8 hs _)]
  rfl
def Z16 : List Int := List.replicate 16 0
theorem make16E (w : World) : (Instr.makeSlice 22 (.int .i64 16) (.int .i64 16)).run Try.prog w = .ok (.slice (some ⟨w.heap.size, 0, none⟩) 16 16) (w.alloc (.cells (Z16.map (Value.int .u8)).toArray 5)) := make_any elB8 16 (by omega) w
attribute [irreducible] Z16
/-- the state of the reference's sealing -/
def RSt (w : World) (gs cs : Nat) (S : List Int) (wr : World) : Prop := Own w.heap.size 5 .u8 wr (some ⟨gs, 0, none⟩) 16 cs S ∧ Below w.heap.size w wr
/-- and the next one besides -/
def RSt2 (w : World) (gs cs gt : Nat) (S T : List Int) (wr : World) : Prop := RSt w gs cs S wr ∧ Own w.heap.size 5 .u8 wr (some ⟨gt, 0, none⟩) 16 16 T
theorem RSt.set {w wr : World} {gs cs : Nat} {S S' : List Int} (h : RSt w gs cs S wr) (i : Nat) (z : Int) (e : S.set i z = S') : RSt w gs cs S' (wr.drew.setCell ⟨gs, i, none⟩ (.int .u8 z)) :=
  ⟨((Own.set_ (w := wr.drew) h.1 i z)).cast e, h.2.drew.setCell (p := ⟨gs, i, none⟩) (h.1.block _ rfl).1 _⟩
theorem RSt2.setS {w wr : World} {gs cs gt : Nat} {S S' T : List Int} (h : RSt2 w gs cs gt S T wr) (hne : gs ≠ gt) (i : Nat) (z : Int) (e : S.set i z = S') : RSt2 w gs cs gt S' T (wr.drew.setCell ⟨gs, i, none⟩ (.int .u8 z)) :=
  ⟨h.1.set i z e, Own.far (w := wr.drew) h.2 (Ne.symm hne) _⟩
theorem RSt2.setT {w wr : World} {gs cs gt : Nat} {S T T' : List Int} (h : RSt2 w gs cs gt S T wr) (hne : gs ≠ gt) (i : Nat) (z : Int) (e : T.set i z = T') : RSt2 w gs cs gt S T' (wr.drew.setCell ⟨gt, i, none⟩ (.int .u8 z)) :=
  ⟨⟨Own.far (w := wr.drew) h.1.1 hne _, h.1.2.drew.setCell (p := ⟨gt, i, none⟩) (h.2.block _ rfl).1 _⟩, (Own.set_ (w := wr.drew) h.2 i z).cast e⟩
theorem RSt2.setT0 {w wr : World} {gs cs gt : Nat} {S T T' : List Int} (h : RSt2 w gs cs gt S T wr) (hne : gs ≠ gt) (i : Nat) (z : Int) (e : T.set i z = T') : RSt2 w gs cs gt S T' (wr.setCell ⟨gt, i, none⟩ (.int .u8 z)) :=
  ⟨⟨Own.far h.1.1 hne _, h.1.2.setCell (p := ⟨gt, i, none⟩) (h.2.block _ rfl).1 _⟩, (Own.set_ h.2 i z).cast e⟩
theorem RSt2.drew {w wr : World} {gs cs gt : Nat} {S T : List Int} (h : RSt2 w gs cs gt S T wr) : RSt2 w gs cs gt S T wr.drew := ⟨⟨h.1.1, h.1.2.drew⟩, h.2⟩
attribute [local irreducible] arnd times
theorem ixr2 (m r : Nat) : (4 * (((m : Int) + (r : Int)) % 4) + (r : Int)).toNat = 4 * ((m + r) % 4) + r := by
  have h : (((m + r) % 4 : Nat) : Int) = ((m : Int) + (r : Int)) % 4 := by rw [Int.natCast_emod, Int.natCast_add]; rfl
  rw [← h]
  omega
theorem ixr : ∀ {m r : Nat}, m < 4 → r < 4 → (4 * m + r + 4 * ((4 * m + r) % 4)) % 16 = 4 * ((m + r) % 4) + r := by
  intro m r hm hr
  rcases (show m = 0 ∨ m = 1 ∨ m = 2 ∨ m = 3 by omega) with rfl | rfl | rfl | rfl <;> rcases (show r = 0 ∨ r = 1 ∨ r = 2 ∨ r = 3 by omega) with rfl | rfl | rfl | rfl <;> rfl
set_option maxRecDepth 100000 in
set_option maxHeartbeats 8000000 in
theorem rseal_any (A0 A1 A2 : Option Addr) (c0 c1 c2 : Nat) (W s : List Int) (w : World) (hW : W.length = 176) (hWb : Byt W) (hs : Blk16 s) (hb : Rd w.heap.size .u8 w A0 boxL) (hw : Rd w.heap.size .u8 w A1 W) (hr : Rd w.heap.size .u8 w A2 s) :
    Calls Try.prog 65 #[.slice A0 256 c0, .slice A1 176 c1, .slice A2 16 c2] w (RetOwn 5 .u8 (sealL W s) w) := by
  have HS := Lib.hid hs
  have HSL := Lib.hid hs.1
  have HWL := Lib.hid hW
  have HBL := Lib.hid boxL_len
  obtain ⟨ad0, rfl, had0⟩ := hb.isSome (by rw [HBL.out]; decide)
  obtain ⟨ad1, rfl, had1⟩ := hw.isSome (by rw [HWL.out]; decide)
  have HB := Lib.hid hb
  have HWR := Lib.hid hw
  have HR := Lib.hid hr
  have HR0 : Hid (∀ n, n < 11 → Blk16 (arnd W s n)) := Lib.hid (fun n hn => arnd_ok hW hWb hs n hn)
  have HRK : Hid (∀ n, n < 11 → Blk16 (rkey W n)) := Lib.hid (fun n hn => rkey_ok hW hWb hn)
  have HRG : Hid (∀ n i, i < 16 → (rkey W n).getD i 0 = W.getD (16 * n + i) 0) := Lib.hid (fun n i hi => rkey_getD W n hi)
  have HMK := make16E
  clear hs hW hWb hb hw hr
  have O0 : Hid (Own w.heap.size 5 .u8 (w.alloc (.cells #[] 5)) (some ⟨w.heap.size, 0, none⟩) 0 0 []) := Lib.hid (Own.litAt rfl rfl rfl (Nat.le_refl _) (Nat.zero_le _))
  have HR1 := Lib.hid (HR.out.alloc (Nat.le_refl _) (.cells #[] 5))
  go_enter Try.func65, Try.ntmps65
  go_wp2_with (at_builtin; refine wpList_app (o := ⟨some 21, _, _, _, _, _⟩) elB8 rfl _ _ rfl rfl rfl O0.out HR1.out HSL.out.symm ?_ ?_ ?_; (rw [HSL.out]; decide); (simp); intro A2 n2 c2 w2 q2; obtain ⟨gs, rfl, hgs, hgs'⟩ := Own.addr q2.1 (by rw [q2.1.len, List.nil_append, HSL.out]; decide); obtain rfl := (show n2 = 16 by rw [q2.1.len, List.nil_append, HSL.out]); have H2 : Hid (RSt w gs c2 s w2) := Lib.hid ⟨q2.1, ((Below.refl w.heap.size w).alloc (Nat.le_refl _) _).trans q2.2.2.1⟩; clear q2)
  have HA0 : Hid (Blk16 (addL s (rkey W 0))) := Lib.hid (addL_ok HS.out (HRK.out 0 (by decide)))
  have HAG : Hid (∀ k, k < 16 → (addL s (rkey W 0)).getD k 0 = xb (s.getD k 0) (W.getD k 0)) := Lib.hid (fun k hk => by rw [addL_getD HSL.out (HRK.out 0 (by decide)).1 hk, HRG.out 0 k hk]; rw [Nat.mul_zero, Nat.zero_add])
  have HAZ : Hid (addL s (rkey W 0) = arnd W s 0) := Lib.hid (arnd_zero W s).symm
  generalize addL s (rkey W 0) = A at *
  go_loopw [8] (fun ii wr => ∃ k : Nat, k ≤ 16 ∧ ii = .int .i64 k ∧ Hid (RSt w gs c2 (mixL s A k) wr)) (fun ii _ => 16 - (intOf ii).toNat)
  case atStart => exact ⟨0, by omega, rfl, Lib.hid (by rw [mix_zero]; exact H2.out)⟩
  case round =>
    clear H2
    obtain ⟨k, hk, rfl, HT⟩ := hrel
    by_cases hlt : k < 16
    · have hml : Hid ((mixL s A k).length = 16) := Lib.hid (by rw [mix_len (by rw [HSL.out, HA0.out.1]) (by rw [HSL.out]; omega), HSL.out])
      have p1 : ∀ r : BW wr.heap.size wr, r.world.cell? ⟨gs, k, none⟩ = some (.int .u8 (s.getD k 0)) := fun r => by
        have := (HT.out.1.below r.below).cell0 (i := k) (by rw [hml.out]; exact hlt)
        rwa [mix_get (by rw [HSL.out, HA0.out.1]) (Nat.le_refl _)] at this
      have p2 : ∀ r : BW wr.heap.size wr, r.world.cell? (ad1.add k) = some (.int .u8 (W.getD k 0)) := fun r => ((HWR.out.below HT.out.2 (Nat.le_refl _)).below r.below HT.out.2.size).at_ (by rw [HWL.out]; omega)
      have f1 := HT.out.1.frozen k
      have q1 : wr.cell? ⟨gs, k, none⟩ = some (.int .u8 (s.getD k 0)) := p1 ⟨wr, Below.refl _ _⟩
      have HE := Lib.hid (HAG.out k hlt)
      have HMS := Lib.hid (mix_set (xs := s) (ys := A) (k := k) (by rw [HSL.out, HA0.out.1]) (by rw [HSL.out]; exact hlt))
      rw [HE.out] at HMS
      generalize s.getD k 0 = x at *
      generalize W.getD k 0 = y at *
      go_wp2_with fail
      refine wp_region_mixOB wr.heap.size [([0, 1, 2, 3, 4, 5, 6, 7, 8, 9, 10, 11], 12)] (by kernel_rfl) (by kernel_rfl) (by kernel_rfl) (by kernel_rfl) (by kernel_rfl) ?_
      try (rw [put_none])
      simp only [pickL, List.map_cons, List.map_nil, List.filterMap_cons, List.filterMap_nil, List.getElem?_cons_succ, List.getElem?_cons_zero]
      refine mixO_cons ?_
      repeat (show wpQuiet _ _ _ _ (_ :: _) _; go_big_quiet_step (fail))
      refine wpQuiet_nil ?_
      show wpList _ _ _ [_] _ _
      go_wp2_with fail
      refine MixO.last ?_
      refine mixO_nil ?_
      refine wpQuiet_nil ?_
      refine NoPanic.normal ?_
      have HT9 : Hid (RSt w gs c2 (mixL s A (k + 1)) (wr.drew.setCell ⟨gs, k, none⟩ (.int .u8 (bits .xor .u8 x y)))) := Lib.hid (HT.out.set k _ HMS.out)
      clear p1 p2 f1 q1 HE HMS hml
      go_wp2_with fail
      go_roundw
      case rel => exact ⟨k + 1, by omega, by go_num, HT9⟩
      case measure => simp [intOf]; omega
    · have HF : Hid (RSt w gs c2 (arnd W s (1 - 1)) wr) := Lib.hid (by
        have h := HT.out
        rw [show k = A.length by rw [HA0.out.1]; omega, mix_full (by rw [HSL.out, HA0.out.1]), HAZ.out] at h
        exact h)
      clear HT HA0 HAG HAZ
      obtain ⟨wo, rfl⟩ : ∃ wo : World, wo = wr := ⟨_, rfl⟩
      go_wp2_with fail
      clear hk hlt
      go_loopw [9] (fun ii wr => ∃ n : Nat, 1 ≤ n ∧ n ≤ 11 ∧ ii = .int .i64 n ∧ Hid (RSt w gs c2 (arnd W s (n - 1)) wr)) (fun ii _ => 11 - (intOf ii).toNat)
      case atStart => exact ⟨1, by omega, by omega, rfl, HF⟩
      case round =>
        clear HF
        obtain ⟨n, hn1, hn, rfl, HF⟩ := hrel
        by_cases hlt : n < 11
        · have HSO := Lib.hid (HR0.out (n - 1) (by omega))
          have HAS : Hid (arnd W s n = addL (if n < 10 then mcolL (rowsL (arnd W s (n - 1))) else rowsL (arnd W s (n - 1))) (rkey W n)) := Lib.hid (by
            have := arnd_succ W s (n - 1)
            rwa [show n - 1 + 1 = n by omega] at this)
          generalize arnd W s (n - 1) = S at *
          have HRO := Lib.hid (rowsL_ok HSO.out)
          have HRG2 : Hid (∀ k, k < 16 → (rowsL S).getD k 0 = sub (S.getD ((k + 4 * (k % 4)) % 16) 0)) := Lib.hid (fun k hk => rowsL_getD S hk)
          generalize rowsL S = R at *
          obtain ⟨gt, hgt⟩ : ∃ gt, wr.heap.size = gt := ⟨_, rfl⟩
          have hne : gs ≠ gt := by have := (HF.out.1.block _ rfl).2; simp at this; omega
          have HT0 : Hid (RSt2 w gs c2 gt S (fil R (4 * 0)) (wr.alloc (.cells (Z16.map (Value.int .u8)).toArray 5))) := Lib.hid (by
            refine ⟨⟨HF.out.1.alloc _, HF.out.2.alloc HF.out.2.size _⟩, ?_⟩
            rw [Nat.mul_zero, fil_zero, HRO.out.1]
            exact Own.litAt hgt (by unfold Z16; rfl) (by simp) (by rw [← hgt]; exact HF.out.2.size) (by simp [maxLen]))
          clear HF
          go_wp2_with fail
          generalize wr.alloc (.cells (Z16.map (Value.int .u8)).toArray 5) = wt at *
          clear hgt
          go_loopw [11] (fun ii wr => ∃ m : Nat, m ≤ 4 ∧ ii = .int .i64 m ∧ Hid (RSt2 w gs c2 gt S (fil R (4 * m)) wr)) (fun ii _ => 4 - (intOf ii).toNat)
          case atStart => exact ⟨0, by omega, rfl, HT0⟩
          case round =>
            clear HT0
            obtain ⟨m, hm, rfl, HM⟩ := hrel
            by_cases hlt2 : m < 4
            · have HM0 : Hid (RSt2 w gs c2 gt S (fil R (4 * m + 0)) wr) := Lib.hid HM.out
              clear HM
              go_wp2_with fail
              go_loopw [12] (fun ii wr => ∃ r : Nat, r ≤ 4 ∧ ii = .int .i64 r ∧ Hid (RSt2 w gs c2 gt S (fil R (4 * m + r)) wr)) (fun ii _ => 4 - (intOf ii).toNat)
              case atStart => exact ⟨0, by omega, rfl, HM0⟩
              case round =>
                clear HM0
                obtain ⟨r, hr, rfl, HI⟩ := hrel
                have hfl : Hid ((fil R (4 * m + r)).length = 16) := Lib.hid (by rw [fil_len, HRO.out.1])
                by_cases hlt3 : r < 4
                · have hmm : (m + r) % 4 < 4 := Nat.mod_lt _ (by decide)
                  have hix : (4 * m + r + 4 * ((4 * m + r) % 4)) % 16 = 4 * ((m + r) % 4) + r := ixr hlt2 hlt3
                  have p1 : wr.cell? ⟨gs, 4 * ((m + r) % 4) + r, none⟩ = some (.int .u8 (S.getD (4 * ((m + r) % 4) + r) 0)) := HI.out.1.1.cell0 (by rw [HSO.out.1]; omega)
                  have hx := HSO.out.2.getD (4 * ((m + r) % 4) + r)
                  have p2 : wr.cell? (ad0.add (S.getD (4 * ((m + r) % 4) + r) 0).toNat) = some (.int .u8 (sub (S.getD (4 * ((m + r) % 4) + r) 0))) := (HB.out.below HI.out.1.2 (Nat.le_refl _)).at_ (by rw [HBL.out]; omega)
                  have f1 := HI.out.2.frozen (4 * m + r)
                  have q1 := HI.out.2.cell0 (i := 4 * m + r) (by rw [hfl.out]; omega)
                  have HMS := Lib.hid (fil_set (xs := R) (k := 4 * m + r) (by rw [HRO.out.1]; omega))
                  rw [HRG2.out (4 * m + r) (by omega), hix] at HMS
                  have e0 := ixr2 m r
                  have e1 : (4 * (m : Int) + (r : Int)).toNat = 4 * m + r := by omega
                  generalize S.getD (4 * ((m + r) % 4) + r) 0 = x at *
                  obtain ⟨hx0, hx1⟩ := hx
                  generalize sub x = y at *
                  generalize (fil R (4 * m + r)).getD (4 * m + r) 0 = old at *
                  have HI9 : Hid (RSt2 w gs c2 gt S (fil R (4 * m + (r + 1))) (wr.setCell ⟨gt, 4 * m + r, none⟩ (.int .u8 y))) := Lib.hid (HI.out.setT0 hne _ y HMS.out)
                  clear hix HMS hfl HI
                  go_wp2_with fail
                  clear p1 p2 f1 q1
                  go_roundw
                  case rel => exact ⟨r + 1, by omega, by go_num, HI9⟩
                  case measure => simp [intOf]; omega
                · have HI9 : Hid (RSt2 w gs c2 gt S (fil R (4 * (m + 1))) wr) := Lib.hid (by have h := HI.out; rw [show 4 * m + r = 4 * (m + 1) by omega] at h; exact h)
                  clear HI
                  go_wp2_with fail
                  go_roundw
                  case rel => exact ⟨m + 1, by omega, by go_num, HI9⟩
                  case measure => simp [intOf]; omega
            · have HM9 : Hid (RSt2 w gs c2 gt S (mcs R 0) wr) := Lib.hid (by have h := HM.out; rw [show 4 * m = R.length by rw [HRO.out.1]; omega, fil_full] at h; rw [mcs_zero]; exact h)
              have HMC : Hid (∀ q, q ≤ 4 → Blk16 (mcs R q)) := Lib.hid (fun q hq => mcs_ok HRO.out q hq)
              have HMC2 := Lib.hid (mcs_succ R)
              clear HM HRG2
              go_wp2_with fail
              clear hm hlt2
              generalize hbn : decide ((n : Int) < 11) = bn
              clear hbn
              go_loopw [13] (fun ii wr => ∃ m : Nat, m ≤ 4 ∧ (m = 0 ∨ n < 10) ∧ ii = .int .i64 m ∧ Hid (RSt2 w gs c2 gt S (mcs R m) wr)) (fun ii _ => 4 - (intOf ii).toNat)
              case atStart => exact ⟨0, by omega, .inl rfl, rfl, HM9⟩
              case round =>
                clear HM9
                obtain ⟨m, hm, hm0, rfl, HM⟩ := hrel
                by_cases hgo : m < 4 ∧ n < 10
                · obtain ⟨hlt2, hn10⟩ := hgo
                  have HT8 := Lib.hid (HMC.out m (by omega))
                  have HSU := Lib.hid (HMC2.out m)
                  clear hm0
                  generalize mcs R m = T at *
                  have p0 : wr.cell? ⟨gt, 4 * m, none⟩ = some (.int .u8 (T.getD (4 * m) 0)) := HM.out.2.cell0 (by rw [HT8.out.1]; omega)
                  have e0 : (4 * (m : Int) : Int).toNat = 4 * m := by omega
                  have p1 : wr.cell? ⟨gt, 4 * m + 1, none⟩ = some (.int .u8 (T.getD (4 * m + 1) 0)) := HM.out.2.cell0 (by rw [HT8.out.1]; omega)
                  have e1 : (4 * (m : Int) + 1 : Int).toNat = 4 * m + 1 := by omega
                  have p2 : wr.cell? ⟨gt, 4 * m + 2, none⟩ = some (.int .u8 (T.getD (4 * m + 2) 0)) := HM.out.2.cell0 (by rw [HT8.out.1]; omega)
                  have e2 : (4 * (m : Int) + 2 : Int).toNat = 4 * m + 2 := by omega
                  have p3 : wr.cell? ⟨gt, 4 * m + 3, none⟩ = some (.int .u8 (T.getD (4 * m + 3) 0)) := HM.out.2.cell0 (by rw [HT8.out.1]; omega)
                  have e3 : (4 * (m : Int) + 3 : Int).toNat = 4 * m + 3 := by omega
                  have HX0 := Lib.hid (byt_getD8 HT8.out.2 (4 * m))
                  have HX1 := Lib.hid (byt_getD8 HT8.out.2 (4 * m + 1))
                  have HX2 := Lib.hid (byt_getD8 HT8.out.2 (4 * m + 2))
                  have HX3 := Lib.hid (byt_getD8 HT8.out.2 (4 * m + 3))
                  have HMX := Lib.hid (fun a b c d => mixAt_cols HT8.out.2 (4 * m) (a := a) (b := b) (c := c) (d := d))
                  obtain ⟨x0, hx0⟩ : ∃ x, T.getD (4 * m) 0 = x := ⟨_, rfl⟩
                  obtain ⟨x1, hx1⟩ : ∃ x, T.getD (4 * m + 1) 0 = x := ⟨_, rfl⟩
                  obtain ⟨x2, hx2⟩ : ∃ x, T.getD (4 * m + 2) 0 = x := ⟨_, rfl⟩
                  obtain ⟨x3, hx3⟩ : ∃ x, T.getD (4 * m + 3) 0 = x := ⟨_, rfl⟩
                  have HMY := Lib.hid (HMX.out x0 x1 x2 x3 hx0 hx1 hx2 hx3)
                  simp only [hx0, hx1, hx2, hx3] at p0 p1 p2 p3 HX0 HX1 HX2 HX3
                  clear hx0 hx1 hx2 hx3 HMX
                  go_wp2_with fail
                  go_quiet (fail)
                  go_wp2_with fail
                  clear p0 p1 p2 p3
                  have HMD : Hid (RSt2 w gs c2 gt S T (wr.drewN nq)) := Lib.hid ⟨⟨HM.out.1.1.drewN nq, below_drewN HM.out.1.2 nq⟩, HM.out.2.drewN nq⟩
                  generalize wr.drewN nq = wq0 at *
                  clear HM
                  have HMX : ∀ a b c d, xb (xb (xb (times 2 x0) (times 3 x1)) x2) x3 = a → xb (xb (xb x0 (times 2 x1)) (times 3 x2)) x3 = b → xb (xb (xb x0 x1) (times 2 x2)) (times 3 x3) = c → xb (xb (xb (times 3 x0) x1) x2) (times 2 x3) = d → (((T.set (4 * m) a).set (4 * m + 1) b).set (4 * m + 2) c).set (4 * m + 3) d = mixAt T (4 * m) := fun a b c d ha hb hc hd => by subst ha; subst hb; subst hc; subst hd; exact HMY.out
                  have HMZ := Lib.hid HMX
                  have HTL : Hid (T.length = 16) := Lib.hid HT8.out.1
                  clear HMX HMY
                  refine Calls.mono (rtimes_any 2 x0 _ ⟨by decide, by decide⟩ HX0.out) ?_
                  rintro e w4 ⟨rfl, rfl⟩
                  go_wp2_with fail
                  refine Calls.mono (rtimes_any 3 x1 _ ⟨by decide, by decide⟩ HX1.out) ?_
                  rintro e w4 ⟨rfl, rfl⟩
                  have f0 := HMD.out.2.frozen (4 * m)
                  have q0 := HMD.out.2.cell0 (i := 4 * m) (by rw [HTL.out]; omega)
                  go_wp2_with fail
                  obtain ⟨y0, hy0⟩ : ∃ y, bits .xor .u8 (bits .xor .u8 (bits .xor .u8 (times 2 x0) (times 3 x1)) x2) x3 = y := ⟨_, rfl⟩
                  rw [hy0]
                  have HY0 := Lib.hid hy0
                  have HMD1 := Lib.hid (HMD.out.setT0 hne (4 * m) y0 rfl)
                  have HTL1 : Hid ((T.set (4 * m) y0).length = 16) := Lib.hid (by rw [List.length_set, HTL.out])
                  clear f0 q0 HMD HTL hy0
                  have HMD := HMD1
                  have HTL := HTL1
                  clear HMD1 HTL1
                  generalize wq0.setCell ⟨gt, 4 * m, none⟩ (.int .u8 y0) = wq1 at *
                  refine Calls.mono (rtimes_any 2 x1 _ ⟨by decide, by decide⟩ HX1.out) ?_
                  rintro e w4 ⟨rfl, rfl⟩
                  go_wp2_with fail
                  refine Calls.mono (rtimes_any 3 x2 _ ⟨by decide, by decide⟩ HX2.out) ?_
                  rintro e w4 ⟨rfl, rfl⟩
                  have f0 := HMD.out.2.frozen (4 * m + 1)
                  have q0 := HMD.out.2.cell0 (i := 4 * m + 1) (by rw [HTL.out]; omega)
                  go_wp2_with fail
                  obtain ⟨y1, hy1⟩ : ∃ y, bits .xor .u8 (bits .xor .u8 (bits .xor .u8 x0 (times 2 x1)) (times 3 x2)) x3 = y := ⟨_, rfl⟩
                  rw [hy1]
                  have HY1 := Lib.hid hy1
                  have HMD1 := Lib.hid (HMD.out.setT0 hne (4 * m + 1) y1 rfl)
                  have HTL1 : Hid (((T.set (4 * m) y0).set (4 * m + 1) y1).length = 16) := Lib.hid (by rw [List.length_set, HTL.out])
                  clear f0 q0 HMD HTL hy1
                  have HMD := HMD1
                  have HTL := HTL1
                  clear HMD1 HTL1
                  generalize wq1.setCell ⟨gt, 4 * m + 1, none⟩ (.int .u8 y1) = wq2 at *
                  refine Calls.mono (rtimes_any 2 x2 _ ⟨by decide, by decide⟩ HX2.out) ?_
                  rintro e w4 ⟨rfl, rfl⟩
                  go_wp2_with fail
                  refine Calls.mono (rtimes_any 3 x3 _ ⟨by decide, by decide⟩ HX3.out) ?_
                  rintro e w4 ⟨rfl, rfl⟩
                  have f0 := HMD.out.2.frozen (4 * m + 2)
                  have q0 := HMD.out.2.cell0 (i := 4 * m + 2) (by rw [HTL.out]; omega)
                  go_wp2_with fail
                  obtain ⟨y2, hy2⟩ : ∃ y, bits .xor .u8 (bits .xor .u8 (bits .xor .u8 x0 x1) (times 2 x2)) (times 3 x3) = y := ⟨_, rfl⟩
                  rw [hy2]
                  have HY2 := Lib.hid hy2
                  have HMD1 := Lib.hid (HMD.out.setT0 hne (4 * m + 2) y2 rfl)
                  have HTL1 : Hid ((((T.set (4 * m) y0).set (4 * m + 1) y1).set (4 * m + 2) y2).length = 16) := Lib.hid (by rw [List.length_set, HTL.out])
                  clear f0 q0 HMD HTL hy2
                  have HMD := HMD1
                  have HTL := HTL1
                  clear HMD1 HTL1
                  generalize wq2.setCell ⟨gt, 4 * m + 2, none⟩ (.int .u8 y2) = wq3 at *
                  refine Calls.mono (rtimes_any 3 x0 _ ⟨by decide, by decide⟩ HX0.out) ?_
                  rintro e w4 ⟨rfl, rfl⟩
                  go_wp2_with fail
                  refine Calls.mono (rtimes_any 2 x3 _ ⟨by decide, by decide⟩ HX3.out) ?_
                  rintro e w4 ⟨rfl, rfl⟩
                  have f0 := HMD.out.2.frozen (4 * m + 3)
                  have q0 := HMD.out.2.cell0 (i := 4 * m + 3) (by rw [HTL.out]; omega)
                  go_wp2_with fail
                  obtain ⟨y3, hy3⟩ : ∃ y, bits .xor .u8 (bits .xor .u8 (bits .xor .u8 (times 3 x0) x1) x2) (times 2 x3) = y := ⟨_, rfl⟩
                  rw [hy3]
                  have HY3 := Lib.hid hy3
                  have HMD1 := Lib.hid (HMD.out.setT0 hne (4 * m + 3) y3 rfl)
                  have HTL1 : Hid (((((T.set (4 * m) y0).set (4 * m + 1) y1).set (4 * m + 2) y2).set (4 * m + 3) y3).length = 16) := Lib.hid (by rw [List.length_set, HTL.out])
                  clear f0 q0 HMD HTL hy3
                  have HMD := HMD1
                  have HTL := HTL1
                  clear HMD1 HTL1
                  generalize wq3.setCell ⟨gt, 4 * m + 3, none⟩ (.int .u8 y3) = wq4 at *
                  have HM9 : Hid (RSt2 w gs c2 gt S (mcs R (m + 1)) wq4) := Lib.hid (by rw [HSU.out, ← HMZ.out y0 y1 y2 y3 HY0.out HY1.out HY2.out HY3.out]; exact HMD.out)
                  clear HMD HTL HMZ HSU
                  go_wp2_with fail
                  go_roundw
                  case rel => exact ⟨m + 1, by omega, .inr hn10, by go_num, HM9⟩
                  case measure => simp [intOf]; omega
                · by_cases hm4 : m = 4
                  case' pos =>
                    have hn10 : n < 10 := by omega
                    have HMF : Hid (RSt2 w gs c2 gt S (mcolL R) wr) := Lib.hid (by have h := HM.out; rw [hm4, mcs_all] at h; exact h)
                    have HTF := Lib.hid (mcolL_ok HRO.out)
                    rw [if_pos hn10] at HAS
                    clear HM HMC HMC2
                    go_wp2_with fail
                    generalize mcolL R = TF at *
                  case' neg =>
                    have hn10 : ¬ n < 10 := by omega
                    have hm00 : m = 0 := by omega
                    have HMF : Hid (RSt2 w gs c2 gt S R wr) := Lib.hid (by have h := HM.out; rw [hm00, mcs_zero] at h; exact h)
                    have HTF := Lib.hid HRO.out
                    rw [if_neg hn10] at HAS
                    have hm44 : m < 4 := by omega
                    clear HM HMC HMC2 hm00
                    go_wp2_with fail
                    generalize R = TF at *
                  all_goals
                    have HA1 : Hid (Blk16 (addL TF (rkey W n))) := Lib.hid (addL_ok HTF.out (HRK.out n hlt))
                    have HAG : Hid (∀ k, k < 16 → (addL TF (rkey W n)).getD k 0 = xb (TF.getD k 0) (W.getD (16 * n + k) 0)) := Lib.hid (fun k hk => by rw [addL_getD HTF.out.1 (HRK.out n hlt).1 hk, HRG.out n k hk])
                    generalize addL TF (rkey W n) = A1 at *
                    go_loopw [18] (fun ii wr => ∃ k : Nat, k ≤ 16 ∧ ii = .int .i64 k ∧ Hid (RSt2 w gs c2 gt (mixL S A1 k) TF wr)) (fun ii _ => 16 - (intOf ii).toNat)
                    case atStart => exact ⟨0, by omega, rfl, Lib.hid (by rw [mix_zero]; exact HMF.out)⟩
                    case round =>
                      clear HMF hgo hm0 hm4 hn10
                      obtain ⟨k, hk, rfl, HT⟩ := hrel
                      by_cases hlt3 : k < 16
                      · have hml : Hid ((mixL S A1 k).length = 16) := Lib.hid (by rw [mix_len (by rw [HSO.out.1, HA1.out.1]) (by rw [HSO.out.1]; omega), HSO.out.1])
                        have p1 : ∀ r : BW wr.heap.size wr, r.world.cell? ⟨gt, k, none⟩ = some (.int .u8 (TF.getD k 0)) := fun r => (HT.out.2.below r.below).cell0 (by rw [HTF.out.1]; exact hlt3)
                        have p2 : ∀ r : BW wr.heap.size wr, r.world.cell? ⟨ad1.block, ad1.off + (16 * n + k), none⟩ = some (.int .u8 (W.getD (16 * n + k) 0)) := fun r => ((HWR.out.below HT.out.1.2 (Nat.le_refl _)).below r.below HT.out.1.2.size).atN _ (by rw [HWL.out]; omega) (by omega)
                        have p3 : ∀ r : BW wr.heap.size wr, r.world.cell? (ad1.add (16 * n + k)) = some (.int .u8 (W.getD (16 * n + k) 0)) := fun r => ((HWR.out.below HT.out.1.2 (Nat.le_refl _)).below r.below HT.out.1.2.size).at_ (by rw [HWL.out]; omega)
                        have f1 := HT.out.1.1.frozen k
                        have q1 := HT.out.1.1.cell0 (i := k) (by rw [hml.out]; exact hlt3)
                        have HMS := Lib.hid (mix_set (xs := S) (ys := A1) (k := k) (by rw [HSO.out.1, HA1.out.1]) (by rw [HSO.out.1]; exact hlt3))
                        rw [HAG.out k hlt3] at HMS
                        have e1 : (16 * (n : Int) + (k : Int)).toNat = 16 * n + k := by omega
                        generalize (mixL S A1 k).getD k 0 = old at *
                        generalize TF.getD k 0 = x at *
                        generalize W.getD (16 * n + k) 0 = y at *
                        go_wp2_with fail
                        refine wp_region_mixOB wr.heap.size [([0, 1, 2, 3, 4, 5, 6, 7, 8, 9, 10, 11, 12, 13, 14], 15)] (by kernel_rfl) (by kernel_rfl) (by kernel_rfl) (by kernel_rfl) (by kernel_rfl) ?_
                        try (rw [put_none])
                        simp only [pickL, List.map_cons, List.map_nil, List.filterMap_cons, List.filterMap_nil, List.getElem?_cons_succ, List.getElem?_cons_zero]
                        refine mixO_cons ?_
                        repeat (show wpQuiet _ _ _ _ (_ :: _) _; go_big_quiet_step (fail))
                        refine wpQuiet_nil ?_
                        show wpList _ _ _ [_] _ _
                        go_wp2_with fail
                        refine MixO.last ?_
                        refine mixO_nil ?_
                        refine wpQuiet_nil ?_
                        refine NoPanic.normal ?_
                        have HT9 : Hid (RSt2 w gs c2 gt (mixL S A1 (k + 1)) TF (wr.drew.setCell ⟨gs, k, none⟩ (.int .u8 (bits .xor .u8 x y)))) := Lib.hid (HT.out.setS hne k _ HMS.out)
                        clear p1 p2 p3 f1 q1 HMS hml HT e1
                        go_wp2_with fail
                        go_roundw
                        case rel => exact ⟨k + 1, by omega, by go_num, HT9⟩
                        case measure => simp [intOf]; omega
                      · have HF9 : Hid (RSt w gs c2 (arnd W s (n + 1 - 1)) wr) := Lib.hid (by
                          have h := HT.out.1
                          rw [show k = A1.length by rw [HA1.out.1]; omega, mix_full (by rw [HSO.out.1, HA1.out.1]), ← HAS.out] at h
                          exact h)
                        clear HT HAG HA1 HAS
                        go_wp2_with fail
                        go_roundw
                        case rel => exact ⟨n + 1, by omega, by omega, by go_num, HF9⟩
                        case measure => simp [intOf]; omega
        · have hn11 : n = 11 := by omega
          have HF2 : Hid (RSt w gs c2 (sealL W s) wr) := Lib.hid (by have h := HF.out; rw [hn11] at h; exact h)
          clear HF hn11
          go_wp2_with fail
          go_ret
          exact ⟨_, _, _, rfl, HF2.out.1, HF2.out.2⟩
end Go.Proofs.Ytieabfifaigjdaa
/- The law AesSeals, walked. Conditions: as each theorem states them. -/
namespace Go.Proofs.Ytieabfifaigjdaa
open Go.RowKit
theorem ext_cells (W : List Int) (k : Nat) : (cellsL .u8 W).extract (k * 16) (k * 16 + 16) = cellsL .u8 (rkey W k) := by
  unfold cellsL rkey
  rw [List.extract_toArray]
  congr 1
  rw [List.extract_eq_take_drop, Nat.add_sub_cancel_left, List.map_take, List.map_drop, Nat.mul_comm]
theorem agg32 (w : World) : (isAgg 66).run Try.prog w = .ok true w := by kernel_rfl
theorem sz32 (w : World) : (sizeOf 66).run Try.prog w = .ok 16 w := by kernel_rfl
theorem idx16 (W : List Int) {k : Nat} (hk : k < 11) (w : World) : (Instr.index 88 (.agg (cellsL .u8 W)) (.int .i64 (k : Int))).run Try.prog w = .ok (.agg (cellsL .u8 (rkey W k))) w := by
  have h1 : (0 : Int) ≤ k ∧ (k : Int) < (11 : Nat) := ⟨by omega, by omega⟩
  unfold Instr.index
  simp only [asIntOf, Sem.run_bind, Sem.run_pure, Result.andThen_ok, run_underlying Try.underlying88]
  rw [if_pos h1]
  simp only [part, Sem.run_bind, sz32, agg32, Result.andThen_ok, Int.toNat_natCast, if_true, Sem.run_pure, ext_cells]
theorem str_app (X Y : List Int) : strOfNums X ++ strOfNums Y = strOfNums (X ++ Y) := by
  apply ByteArray.ext
  rw [ByteArray.data_append]
  apply Array.toList_inj.1
  rw [Array.toList_append, strOfNums_data, strOfNums_data, strOfNums_data, List.map_append]
theorem str_add (X Y : List Int) (hX : X.length ≤ 10000) (hY : Y.length ≤ 10000) (w : World) : (binOp .add 9 (.string (strOfNums X)) (.string (strOfNums Y))).run Try.prog w = .ok (.string (strOfNums (X ++ Y))) w := by
  have e1 := strOfNums_size X
  have e2 := strOfNums_size Y
  rw [binOp_string_add, run_string_add _ _ _ (by rw [e1]; omega) (by rw [e2]; omega), str_app]
theorem rkey_snoc (W : List Int) (k : Nat) : W.take (16 * k) ++ rkey W k = W.take (16 * (k + 1)) := by
  unfold rkey
  rw [show 16 * (k + 1) = 16 * k + 16 by omega, List.take_add]
theorem sealL_aes (K S : List Int) : sealL (wkL K) S = aesL K S := (aesL_eq K S).symm
end Go.Proofs.Ytieabfifaigjdaa
