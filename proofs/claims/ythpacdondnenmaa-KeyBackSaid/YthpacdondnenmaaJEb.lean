/- Layer 8: contracts. Conditions: as each theorem states them. -/
import Derived.Test.YthpacdondnenmaaJEa
import Derived.Test.YthpacdondnenmaaQO
import Derived.Test.YthpacdondnenmaaLV
import Derived.Test.YthpacdondnenmaaCP
import Derived.Test.YthpacdondnenmaaQP
/- Contract: aes.mix. Conditions: as each theorem states them. -/
namespace Go.Proofs.Ythpacdondnenmaa
open Go.RowKit
/-- behind k bytes of the column that begins at i -/
def mixSt (s : List Int) (i : Nat) : Nat → List Int
  | 0 => s
  | k + 1 => (mixSt s i k).set (i + k) (mixJ s i k)
theorem mixSt_len (s : List Int) (i : Nat) : ∀ k, (mixSt s i k).length = s.length
  | 0 => rfl
  | k + 1 => by rw [mixSt, List.length_set, mixSt_len s i k]
theorem mixSt_getD (s : List Int) (i : Nat) : ∀ k j, i + k ≤ j → (mixSt s i k).getD j 0 = s.getD j 0
  | 0, _, _ => rfl
  | k + 1, j, h => by rw [mixSt, getD_set', if_neg (by omega), mixSt_getD s i k j (by omega)]
theorem mixSt_all (s : List Int) (i : Nat) : mixSt s i 4 = mixAt s i := rfl
theorem mixSt_succ (s : List Int) (i k : Nat) : mixSt s i (k + 1) = (mixSt s i k).set (i + k) (mixJ s i k) := rfl
attribute [irreducible] mixSt
set_option maxRecDepth 100000 in
set_option maxHeartbeats 4000000 in
theorem mix_any (g i c : Nat) (s : List Int) (w : World) (hs : Blk16 s) (hi : i + 3 < 16) (h : Arr w g 23 .u8 s) : Calls Try.prog 83 #[.slice (some ⟨g, i, none⟩) 4 c] w fun e w' => (∃ v, e = .returned v) ∧ Arr w' g 23 .u8 (mixAt s i) ∧ w.grownBy w' (some g) := by
  have c0 := h.cell (i := i) (by rw [hs.1]; omega)
  have c1 := h.cell (i := i + 1) (by rw [hs.1]; omega)
  have c2 := h.cell (i := i + 2) (by rw [hs.1]; omega)
  have c3 := h.cell (i := i + 3) (by rw [hs.1]; omega)
  have HS := Lib.hid hs
  have HA := Lib.hid h
  have J0 : Hid (mixJ s i 0 = mcolB (s.getD i 0) (s.getD (i + 1) 0) (allX (s.getD i 0) (s.getD (i + 1) 0) (s.getD (i + 2) 0) (s.getD (i + 3) 0))) := Lib.hid rfl
  have J1 : Hid (mixJ s i 1 = mcolB (s.getD (i + 1) 0) (s.getD (i + 2) 0) (allX (s.getD i 0) (s.getD (i + 1) 0) (s.getD (i + 2) 0) (s.getD (i + 3) 0))) := Lib.hid rfl
  have J2 : Hid (mixJ s i 2 = mcolB (s.getD (i + 2) 0) (s.getD (i + 3) 0) (allX (s.getD i 0) (s.getD (i + 1) 0) (s.getD (i + 2) 0) (s.getD (i + 3) 0))) := Lib.hid rfl
  have J3 : Hid (mixJ s i 3 = mcolB (s.getD (i + 3) 0) (s.getD i 0) (allX (s.getD i 0) (s.getD (i + 1) 0) (s.getD (i + 2) 0) (s.getD (i + 3) 0))) := Lib.hid rfl
  have G1 : Hid (∀ k, k < 4 → ∀ j, i + k ≤ j → (mixSt s i k).getD j 0 = s.getD j 0) := Lib.hid (fun k _ j hj => mixSt_getD s i k j hj)
  have GL : Hid (∀ k, (mixSt s i k).length = 16) := Lib.hid (fun k => by rw [mixSt_len, hs.1])
  have GS := Lib.hid (mixSt_succ s i)
  have GA := Lib.hid (mixSt_all s i)
  have G0 : Hid (mixSt s i 0 = s) := Lib.hid (by unfold mixSt; rfl)
  clear hs h
  obtain ⟨x0, hx0⟩ : ∃ x, s.getD i 0 = x := ⟨_, rfl⟩
  obtain ⟨x1, hx1⟩ : ∃ x, s.getD (i + 1) 0 = x := ⟨_, rfl⟩
  obtain ⟨x2, hx2⟩ : ∃ x, s.getD (i + 2) 0 = x := ⟨_, rfl⟩
  obtain ⟨x3, hx3⟩ : ∃ x, s.getD (i + 3) 0 = x := ⟨_, rfl⟩
  rw [hx0] at c0 J0 J1 J2 J3
  rw [hx1] at c1 J0 J1 J2 J3
  rw [hx2] at c2 J0 J1 J2 J3
  rw [hx3] at c3 J0 J1 J2 J3
  have HX0 := Lib.hid hx0
  have HX1 := Lib.hid hx1
  have HX2 := Lib.hid hx2
  have HX3 := Lib.hid hx3
  clear hx0 hx1 hx2 hx3
  go_enter Try.func83, Try.ntmps83
  go_wp2_with fail
  go_quiet (fail)
  go_wp2_with fail
  obtain ⟨al, hal⟩ : ∃ al, bits .xor .u8 (bits .xor .u8 (bits .xor .u8 x0 x1) x2) x3 = al := ⟨_, rfl⟩
  have HAL : Hid (allX x0 x1 x2 x3 = al) := Lib.hid hal
  rw [hal]
  clear hal c0 c1 c2 c3
  go_loopw [26] (fun j wr => ∃ k : Nat, k ≤ 4 ∧ j = .int .i64 k ∧ Hid (Arr wr g 23 .u8 (mixSt s i k)) ∧ Hid (w.grownBy wr (some g))) (fun j _ => 4 - (intOf j).toNat)
  case atStart => exact ⟨0, by omega, rfl, Lib.hid (by rw [G0.out]; exact HA.out), Lib.hid (only_drewN (World.grownBy.refl _ _) _)⟩
  case round =>
    obtain ⟨k, hk, rfl, HR, HG⟩ := hrel
    rcases (show k = 0 ∨ k = 1 ∨ k = 2 ∨ k = 3 ∨ k = 4 by omega) with rfl | rfl | rfl | rfl | rfl
    · have hgl := HR.out.lt
      have d0 : ∀ r : BW wr.heap.size wr, r.world.cell? ⟨g, i, none⟩ = some (.int .u8 x0) := fun r => by
        have := (HR.out.belowAll r.below).cell (i := i) (by rw [GL.out]; omega)
        rwa [G1.out 0 (by decide) (i) (by omega), HX0.out] at this
      have e0 : wr.cell? ⟨g, i, none⟩ = some (.int .u8 x0) := d0 ⟨wr, Below.refl _ _⟩
      have f0 := HR.out.frozen (i)
      have e1 : wr.cell? ⟨g, i + 1, none⟩ = some (.int .u8 x1) := by
        have := HR.out.cell (i := i + 1) (by rw [GL.out]; omega)
        rwa [G1.out 0 (by decide) (i + 1) (by omega), HX1.out] at this
      go_wp2_with fail
      have BD := Lib.hid (Below.drew (Below.refl wr.heap.size wr))
      refine wp_region_mixOB wr.heap.size [([0, 1, 2, 3, 4, 5, 6, 7, 8, 9, 10], 11), ([12, 13, 14], 15)] (by kernel_rfl) (by kernel_rfl) (by kernel_rfl) (by kernel_rfl) (by kernel_rfl) ?_
      try (rw [put_none])
      simp only [pickL, List.map_cons, List.map_nil, List.filterMap_cons, List.filterMap_nil, List.getElem?_cons_succ, List.getElem?_cons_zero]
      refine mixO_cons ?_
      repeat (show wpQuiet _ _ _ _ (_ :: _) _; go_big_quiet_step (fail))
      refine wpQuiet_nil ?_
      show wpList _ _ _ [_] _ _
      go_wp2_with fail
      refine Calls.mono (twice_any _ _ (xb_u _ _)) ?_
      rintro e w4 ⟨rfl, rfl⟩
      go_wp2_with fail
      refine MixO.narrowB BD.out BD.out.size ?_
      refine mixO_cons ?_
      repeat (show wpQuiet _ _ _ _ (_ :: _) _; go_big_quiet_step (fail))
      refine wpQuiet_nil ?_
      show wpList _ _ _ [_] _ _
      go_wp2_with fail
      refine MixO.last ?_
      refine mixO_nil ?_
      refine wpQuiet_nil ?_
      refine NoPanic.normal ?_
      go_wp2_with fail
      go_roundw
      case rel => exact ⟨1, by omega, by go_num, Lib.hid (Arr.cast (Arr.set (w := wr.drew) HR.out (i) _) (by rw [GS.out 0, J0.out, HAL.out]; rfl)), Lib.hid (only_setCell (only_drew HG.out) (.inl rfl) _)⟩
      case measure => simp [intOf]
    · have hgl := HR.out.lt
      have d0 : ∀ r : BW wr.heap.size wr, r.world.cell? ⟨g, i + 1, none⟩ = some (.int .u8 x1) := fun r => by
        have := (HR.out.belowAll r.below).cell (i := i + 1) (by rw [GL.out]; omega)
        rwa [G1.out 1 (by decide) (i + 1) (by omega), HX1.out] at this
      have e0 : wr.cell? ⟨g, i + 1, none⟩ = some (.int .u8 x1) := d0 ⟨wr, Below.refl _ _⟩
      have f0 := HR.out.frozen (i + 1)
      have e1 : wr.cell? ⟨g, i + 2, none⟩ = some (.int .u8 x2) := by
        have := HR.out.cell (i := i + 2) (by rw [GL.out]; omega)
        rwa [G1.out 1 (by decide) (i + 2) (by omega), HX2.out] at this
      go_wp2_with fail
      have BD := Lib.hid (Below.drew (Below.refl wr.heap.size wr))
      refine wp_region_mixOB wr.heap.size [([0, 1, 2, 3, 4, 5, 6, 7, 8, 9, 10], 11), ([12, 13, 14], 15)] (by kernel_rfl) (by kernel_rfl) (by kernel_rfl) (by kernel_rfl) (by kernel_rfl) ?_
      try (rw [put_none])
      simp only [pickL, List.map_cons, List.map_nil, List.filterMap_cons, List.filterMap_nil, List.getElem?_cons_succ, List.getElem?_cons_zero]
      refine mixO_cons ?_
      repeat (show wpQuiet _ _ _ _ (_ :: _) _; go_big_quiet_step (fail))
      refine wpQuiet_nil ?_
      show wpList _ _ _ [_] _ _
      go_wp2_with fail
      refine Calls.mono (twice_any _ _ (xb_u _ _)) ?_
      rintro e w4 ⟨rfl, rfl⟩
      go_wp2_with fail
      refine MixO.narrowB BD.out BD.out.size ?_
      refine mixO_cons ?_
      repeat (show wpQuiet _ _ _ _ (_ :: _) _; go_big_quiet_step (fail))
      refine wpQuiet_nil ?_
      show wpList _ _ _ [_] _ _
      go_wp2_with fail
      refine MixO.last ?_
      refine mixO_nil ?_
      refine wpQuiet_nil ?_
      refine NoPanic.normal ?_
      go_wp2_with fail
      go_roundw
      case rel => exact ⟨2, by omega, by go_num, Lib.hid (Arr.cast (Arr.set (w := wr.drew) HR.out (i + 1) _) (by rw [GS.out 1, J1.out, HAL.out]; rfl)), Lib.hid (only_setCell (only_drew HG.out) (.inl rfl) _)⟩
      case measure => simp [intOf]
    · have hgl := HR.out.lt
      have d0 : ∀ r : BW wr.heap.size wr, r.world.cell? ⟨g, i + 2, none⟩ = some (.int .u8 x2) := fun r => by
        have := (HR.out.belowAll r.below).cell (i := i + 2) (by rw [GL.out]; omega)
        rwa [G1.out 2 (by decide) (i + 2) (by omega), HX2.out] at this
      have e0 : wr.cell? ⟨g, i + 2, none⟩ = some (.int .u8 x2) := d0 ⟨wr, Below.refl _ _⟩
      have f0 := HR.out.frozen (i + 2)
      have e1 : wr.cell? ⟨g, i + 3, none⟩ = some (.int .u8 x3) := by
        have := HR.out.cell (i := i + 3) (by rw [GL.out]; omega)
        rwa [G1.out 2 (by decide) (i + 3) (by omega), HX3.out] at this
      go_wp2_with fail
      have BD := Lib.hid (Below.drew (Below.refl wr.heap.size wr))
      refine wp_region_mixOB wr.heap.size [([0, 1, 2, 3, 4, 5, 6, 7, 8, 9, 10], 11), ([12, 13, 14], 15)] (by kernel_rfl) (by kernel_rfl) (by kernel_rfl) (by kernel_rfl) (by kernel_rfl) ?_
      try (rw [put_none])
      simp only [pickL, List.map_cons, List.map_nil, List.filterMap_cons, List.filterMap_nil, List.getElem?_cons_succ, List.getElem?_cons_zero]
      refine mixO_cons ?_
      repeat (show wpQuiet _ _ _ _ (_ :: _) _; go_big_quiet_step (fail))
      refine wpQuiet_nil ?_
      show wpList _ _ _ [_] _ _
      go_wp2_with fail
      refine Calls.mono (twice_any _ _ (xb_u _ _)) ?_
      rintro e w4 ⟨rfl, rfl⟩
      go_wp2_with fail
      refine MixO.narrowB BD.out BD.out.size ?_
      refine mixO_cons ?_
      repeat (show wpQuiet _ _ _ _ (_ :: _) _; go_big_quiet_step (fail))
      refine wpQuiet_nil ?_
      show wpList _ _ _ [_] _ _
      go_wp2_with fail
      refine MixO.last ?_
      refine mixO_nil ?_
      refine wpQuiet_nil ?_
      refine NoPanic.normal ?_
      go_wp2_with fail
      go_roundw
      case rel => exact ⟨3, by omega, by go_num, Lib.hid (Arr.cast (Arr.set (w := wr.drew) HR.out (i + 2) _) (by rw [GS.out 2, J2.out, HAL.out]; rfl)), Lib.hid (only_setCell (only_drew HG.out) (.inl rfl) _)⟩
      case measure => simp [intOf]
    · have hgl := HR.out.lt
      have d0 : ∀ r : BW wr.heap.size wr, r.world.cell? ⟨g, i + 3, none⟩ = some (.int .u8 x3) := fun r => by
        have := (HR.out.belowAll r.below).cell (i := i + 3) (by rw [GL.out]; omega)
        rwa [G1.out 3 (by decide) (i + 3) (by omega), HX3.out] at this
      have e0 : wr.cell? ⟨g, i + 3, none⟩ = some (.int .u8 x3) := d0 ⟨wr, Below.refl _ _⟩
      have f0 := HR.out.frozen (i + 3)
      go_wp2_with fail
      have BD := Lib.hid (Below.drew (Below.refl wr.heap.size wr))
      refine wp_region_mixOB wr.heap.size [([0, 1, 2, 3, 4, 5, 6, 7, 8, 9, 10], 11), ([12, 13, 14], 15)] (by kernel_rfl) (by kernel_rfl) (by kernel_rfl) (by kernel_rfl) (by kernel_rfl) ?_
      try (rw [put_none])
      simp only [pickL, List.map_cons, List.map_nil, List.filterMap_cons, List.filterMap_nil, List.getElem?_cons_succ, List.getElem?_cons_zero]
      refine mixO_cons ?_
      repeat (show wpQuiet _ _ _ _ (_ :: _) _; go_big_quiet_step (fail))
      refine wpQuiet_nil ?_
      show wpList _ _ _ [_] _ _
      go_wp2_with fail
      refine Calls.mono (twice_any _ _ (xb_u _ _)) ?_
      rintro e w4 ⟨rfl, rfl⟩
      go_wp2_with fail
      refine MixO.narrowB BD.out BD.out.size ?_
      refine mixO_cons ?_
      repeat (show wpQuiet _ _ _ _ (_ :: _) _; go_big_quiet_step (fail))
      refine wpQuiet_nil ?_
      show wpList _ _ _ [_] _ _
      go_wp2_with fail
      refine MixO.last ?_
      refine mixO_nil ?_
      refine wpQuiet_nil ?_
      refine NoPanic.normal ?_
      go_wp2_with fail
      go_roundw
      case rel => exact ⟨4, by omega, by go_num, Lib.hid (Arr.cast (Arr.set (w := wr.drew) HR.out (i + 3) _) (by rw [GS.out 3, J3.out, HAL.out]; rfl)), Lib.hid (only_setCell (only_drew HG.out) (.inl rfl) _)⟩
      case measure => simp [intOf]
    · have HF : Hid (Arr wr g 23 .u8 (mixAt s i)) := Lib.hid (Arr.cast HR.out GA.out)
      go_wp2_with fail
      go_end0
      exact ⟨⟨_, rfl⟩, HF.out, HG.out⟩
end Go.Proofs.Ythpacdondnenmaa
/- Contract: aes.keys. Conditions: as each theorem states them. -/
namespace Go.Proofs.Ythpacdondnenmaa
open Go.RowKit
def nul (n : Nat) : List Int := List.replicate n 0
theorem nul_len (n : Nat) : (nul n).length = n := by simp [nul]
theorem z40 : Try.zeroCells115 = cellsL .u8 (nul 176) := by kernel_rfl
theorem z99 : Try.zeroCells144 = cellsL .u8 (nul 176) := by kernel_rfl
theorem size40 : (Try.prog.info? 115).map (·.size) = some 176 := by kernel_rfl
theorem size99 : (Try.prog.info? 144).map (·.size) = some 176 := by kernel_rfl
theorem sizeE16 : (Try.prog.info? 23).map (·.size) = some 16 := by kernel_rfl
theorem sizeE4 : (Try.prog.info? 79).map (·.size) = some 4 := by kernel_rfl
theorem sizeE1 : (Try.prog.info? 5).map (·.size) = some 1 := by kernel_rfl
/-- the box stands at the head of block g -/
def Bx (w : World) (g : Nat) : Prop := g < w.heap.size ∧ ∀ i, i < 256 → w.cell? ⟨g, i, none⟩ = some (.int .u8 (boxL.getD i 0))
theorem Bx.below {w w' : World} {g N : Nat} (h : Bx w g) (hb : Below N w w') (hN : g < N) : Bx w' g := ⟨Nat.lt_of_lt_of_le h.1 hb.size, fun i hi => Below.cell_some hb (h.2 i hi) hN⟩
theorem Bx.all {w w' : World} {g : Nat} (h : Bx w g) (hb : Below w.heap.size w w') : Bx w' g := h.below hb h.1
theorem Bx.of_arr {w : World} {g : Nat} {t : TypeId} (h : Arr w g t .u8 boxL) : Bx w g := ⟨h.lt, fun i hi => h.cell (by rw [boxL_len]; exact hi)⟩
theorem blk_newAt {w : World} {cs : Array Value} {t : TypeId} {g : Nat} (hg : w.heap.size = g) : Blk (w.alloc (.cells cs t)) g t cs := by subst hg; exact Blk.new _ _ _
/-- the frame: the key, the result's place, the columns so far -/
def KF (w0 : World) (b : Nat) (K xs : List Int) (w : World) : Prop := Arr w b 23 .u8 K ∧ Blk w (b + 1) 115 Try.zeroCells115 ∧ Arr w (b + 1 + 1) 144 .u8 (flN 176 xs) ∧ Below b w0 w
theorem KF.below {w0 w w' : World} {b : Nat} {K xs : List Int} (h : KF w0 b K xs w) (hb : Below w.heap.size w w') : KF w0 b K xs w' :=
  ⟨h.1.belowAll hb, h.2.1.below hb h.2.1.lt, h.2.2.1.belowAll hb, h.2.2.2.trans (hb.mono (Nat.le_of_lt h.1.lt))⟩
theorem KF.put {w0 w w' : World} {b : Nat} {K xs ys : List Int} (h : KF w0 b K xs w) (hk : Arr w' (b + 1 + 1) 144 .u8 (flN 176 ys)) (hg : w.grownBy w' (some (b + 1 + 1))) : KF w0 b K ys w' :=
  ⟨h.1.grown hg (by simp; omega), h.2.1.grown hg (by simp), hk, h.2.2.2.trans (below_of_only hg (by omega) (Nat.le_of_lt h.1.lt))⟩
theorem keys_full {K : List Int} (h : Blk16 K) : (wkL K).length = 176 := wkL_len h
theorem kcol_getD (w : List Int) (c : Int) (i : Nat) {j : Nat} (hj : j < 4) : (kcol w c i).getD j 0 = kn w c i j := by
  unfold kcol
  rcases (show j = 0 ∨ j = 1 ∨ j = 2 ∨ j = 3 by omega) with rfl | rfl | rfl | rfl <;> rfl
theorem append_getDl {a : List Int} (b : List Int) {i : Nat} (h : i < a.length) : (a ++ b).getD i 0 = a.getD i 0 := by
  rw [List.getD_eq_getElem?_getD, List.getElem?_append_left h, List.getD_eq_getElem?_getD]
theorem four_of {xs : List Int} {o : Nat} (h : o + 4 ≤ xs.length) : (xs.drop o).take 4 = [xs.getD o 0, xs.getD (o + 1) 0, xs.getD (o + 2) 0, xs.getD (o + 3) 0] := by
  rw [List.drop_eq_getElem_cons (by omega), List.drop_eq_getElem_cons (by omega), List.drop_eq_getElem_cons (by omega), List.drop_eq_getElem_cons (by omega)]
  simp only [List.take_succ_cons, List.take_zero, getD_el (show o < xs.length by omega), getD_el (show o + 1 < xs.length by omega), getD_el (show o + 2 < xs.length by omega), getD_el (show o + 3 < xs.length by omega)]
set_option maxRecDepth 100000 in
set_option maxHeartbeats 8000000 in
theorem keys_any (gb : Nat) (K : List Int) (w : World) (hK : Blk16 K) (hb : Bx w gb) : Calls Try.prog 78 #[.pointer (some ⟨gb, 0, none⟩), .agg (cellsL .u8 K)] w fun e w' => e = .returned (.agg (cellsL .u8 (wkL K))) ∧ Below w.heap.size w w' := by
  have HK := Lib.hid hK
  have HB := Lib.hid hb
  have hgb := hb.1
  clear hK hb
  go_enter Try.func78, Try.ntmps78
  go_wp2_with fail
  have F0 : Hid (KF w w.heap.size K [] (((w.alloc (.cells (cellsL .u8 K) 23)).alloc (.cells Try.zeroCells115 115)).alloc (.cells Try.zeroCells144 144))) := Lib.hid ⟨((Arr.newAt rfl rfl).alloc _).alloc _, (blk_newAt (by simp)).alloc _, by rw [flN_nil]; exact Arr.newAt (by simp) z99, (((Below.refl _ _).alloc (Nat.le_refl _) _).alloc (by simp) _).alloc (by simp <;> omega) _⟩
  go_loopw [14] (fun j wr => ∃ k : Nat, k ≤ 4 ∧ j = .int .i64 k ∧ Hid (KF w w.heap.size K (K.take (4 * k)) wr)) (fun j _ => 4 - (intOf j).toNat)
  case atStart => exact ⟨0, by omega, rfl, F0⟩
  case round =>
    obtain ⟨k, hk, rfl, HF⟩ := hrel
    have HKL := Lib.hid HK.out.1
    by_cases hlt : k < 4
    · have q0 : (0 : Int) ≤ 4 * (k : Int) := by omega
      have q1 : 4 * (k : Int) ≤ 16 := by omega
      have q2 : 4 * (k : Int) < 16 := by omega
      go_wp2_with fail
      refine wp_region_mixOB wr.heap.size [([0, 1, 2, 3, 4, 5], 6)] (by kernel_rfl) (by kernel_rfl) (by kernel_rfl) (by kernel_rfl) (by kernel_rfl) ?_
      try (rw [put_none])
      simp only [pickL, List.map_cons, List.map_nil, List.filterMap_cons, List.filterMap_nil, List.getElem?_cons_succ, List.getElem?_cons_zero]
      refine mixO_cons ?_
      repeat (show wpQuiet _ _ _ _ (_ :: _) _; go_big_quiet_step (fail))
      refine wpQuiet_nil ?_
      show wpList _ _ _ [_] _ _
      have hkl : (K.take (4 * k)).length = k * 4 := by rw [List.length_take, HKL.out]; omega
      have HKT := Lib.hid hkl
      have HKD : Hid ((K.drop (4 * k)).length = 16 - 4 * k) := Lib.hid (by rw [List.length_drop, HKL.out])
      have HOV : Hid (ovi (flN 176 (K.take (4 * k))) (k * 4) ((K.drop (4 * k)).take 4) = flN 176 (K.take (4 * (k + 1)))) := Lib.hid (by
        rw [← hkl, ovi_flN (by rw [hkl, List.length_take, HKD.out]; omega), show 4 * (k + 1) = 4 * k + 4 by omega, List.take_add])
      have HFL : Hid ((flN 176 (K.take (4 * k))).length = 176) := Lib.hid (flN_len (by rw [hkl]; omega))
      clear hkl
      go_wp2_with ((with_reducible (show wpList _ _ _ (⟨some 23, _, _, _, _, _⟩ :: _) _ _)); refine wpList_copyAt (o := ⟨some 23, _, _, _, _, _⟩) (m := 4) rfl _ _ rfl Try.underlying28 sizeE1 rfl rfl (Arr.drew HF.out.2.2.1) (Rd.drew (arr_rdAt HF.out.1 (4 * k))) HKD.out ?_ ?_ ?_; (show 4 = min _ _; omega); (rw [HFL.out]; omega); intro w4 ha4 hg4; rw [HOV.out] at ha4; have HA4 := Lib.hid ha4; have HG4 := Lib.hid hg4; clear ha4 hg4)
      have HF4 := Lib.hid (KF.put (w := wr.drew) ⟨HF.out.1, HF.out.2.1, HF.out.2.2.1, HF.out.2.2.2.drew⟩ HA4.out HG4.out)
      clear HOV HFL HKT HKD HA4 HG4
      refine MixO.last ?_
      refine mixO_nil ?_
      refine wpQuiet_nil ?_
      refine NoPanic.normal ?_
      go_wp2_with fail
      go_roundw
      case rel => exact ⟨k + 1, by omega, by go_num, HF4⟩
      case measure => simp [intOf]; omega
    · have hk4 : k = 4 := by omega
      have HF1 : Hid (KF w w.heap.size K (kexp K (4 - 4)).1 wr) := Lib.hid (by have h := HF.out; rw [hk4, List.take_of_length_le (by rw [HKL.out]; decide)] at h; rw [kexp_zero]; exact h)
      have HC1 : Hid ((1 : Int) = (kexp K (4 - 4)).2) := Lib.hid (by rw [kexp_zero])
      have HBX : Hid (Bx wr gb) := Lib.hid (HB.out.below HF.out.2.2.2 hgb)
      have hb3 : w.heap.size + 1 + 1 < wr.heap.size := HF.out.2.2.1.lt
      obtain ⟨w1, rfl⟩ : ∃ w1 : World, w1 = wr := ⟨_, rfl⟩
      obtain ⟨k1, rfl⟩ : ∃ k1 : Nat, k1 = k := ⟨_, rfl⟩
      clear HF hk4 F0
      go_wp2_with fail
      go_loopw [7, 8] (fun u j wr => ∃ (k : Nat) (c : Int), 4 ≤ k ∧ k ≤ 44 ∧ j = .int .i64 k ∧ u = .int .u8 c ∧ Hid (c = (kexp K (k - 4)).2) ∧ Hid (KF w w.heap.size K (kexp K (k - 4)).1 wr) ∧ Hid (Bx wr gb)) (fun _ j _ => 44 - (intOf j).toNat)
      case atStart => exact ⟨4, 1, by omega, by omega, rfl, rfl, HC1, HF1, HBX⟩
      case round =>
        clear HF1 HC1 HBX hlt hk
        obtain ⟨k, c, hk4, hk, rfl, rfl, HC, HF, HX⟩ := hrel
        by_cases hlt : k < 44
        · have HOK := Lib.hid (kexp_ok HK.out (k - 4))
          have HKX := Lib.hid (kexp_succ K (k - 4))
          have hx8 : B8 c := by rw [HC.out]; exact HOK.out.2.2
          have HC8 := Lib.hid hx8
          obtain ⟨hc0, hc1⟩ := hx8
          rw [← HC.out] at HKX HOK
          generalize (kexp K (k - 4)).1 = xs at *
          have HXL : Hid (xs.length = 4 * k) := Lib.hid (by have := HOK.out.1; omega)
          have HXB := Lib.hid HOK.out.2.1
          have hl32 : (Instr.loadAt 79 (.pointer (some ⟨w.heap.size + 1 + 1, (k - 1) * 4, none⟩))).run Try.prog wr = .ok (.agg (cellsL .u8 [xs.getD ((k - 1) * 4) 0, xs.getD ((k - 1) * 4 + 1) 0, xs.getD ((k - 1) * 4 + 2) 0, xs.getD ((k - 1) * 4 + 3) 0])) wr := by
            have := arr_loadMid (o := (k - 1) * 4) HF.out.2.2.1 Try.underlying79 sizeE4 (by rw [flN_len (by rw [HXL.out]; omega)]; omega)
            rwa [flN_drop xs (by rw [HXL.out]; omega), four_of (by rw [HXL.out]; omega)] at this
          have g0 := HXB.out.getD ((k - 1) * 4)
          have g1 := HXB.out.getD ((k - 1) * 4 + 1)
          have g2 := HXB.out.getD ((k - 1) * 4 + 2)
          have g3 := HXB.out.getD ((k - 1) * 4 + 3)
          obtain ⟨t0, ht0⟩ : ∃ t, xs.getD ((k - 1) * 4) 0 = t := ⟨_, rfl⟩
          obtain ⟨t1, ht1⟩ : ∃ t, xs.getD ((k - 1) * 4 + 1) 0 = t := ⟨_, rfl⟩
          obtain ⟨t2, ht2⟩ : ∃ t, xs.getD ((k - 1) * 4 + 2) 0 = t := ⟨_, rfl⟩
          obtain ⟨t3, ht3⟩ : ∃ t, xs.getD ((k - 1) * 4 + 3) 0 = t := ⟨_, rfl⟩
          rw [ht0, ht1, ht2, ht3] at hl32
          rw [ht0] at g0
          rw [ht1] at g1
          rw [ht2] at g2
          rw [ht3] at g3
          have L32 := Lib.hid hl32
          have HT0 := Lib.hid ht0
          have HT1 := Lib.hid ht1
          have HT2 := Lib.hid ht2
          have HT3 := Lib.hid ht3
          obtain ⟨g00, g01⟩ := g0
          obtain ⟨g10, g11⟩ := g1
          obtain ⟨g20, g21⟩ := g2
          obtain ⟨g30, g31⟩ := g3
          have hgw : w.heap.size + 1 + 1 < wr.heap.size := HF.out.2.2.1.lt
          clear hl32 ht0 ht1 ht2 ht3
          by_cases h4 : k % 4 = 0
          case' pos =>
            have h4i : (k : Int) % 4 = 0 := by omega
            go_wp2_with (first
              | ((with_reducible (show wpList _ _ _ (⟨some 32, .load _ _, _, _, _, _⟩ :: _) _ _)); refine wpList_loadV (o := ⟨some 32, .load _ _, _, _, _, _⟩) rfl _ rfl rfl (L32.out) ?_)
              | (((with_reducible (show wpList _ _ _ (⟨none, .store 79 _ _, _, _, _, _⟩ :: _) _ _)); refine wpList_storeArr (o := ⟨none, .store 79 _ _, _, _, _, _⟩) (g := wr.heap.size) (t := 79) (k := .u8) (xs := [t0, t1, t2, t3]) (n := 4) rfl _ _ rfl rfl rfl (Blk.new _ _ _) sizeE4 (rfl) rfl ?_; intro w5 ha5 hg5; have HA5 := Lib.hid ha5; have HG5 := Lib.hid hg5; clear ha5 hg5); have BW5 := Lib.hid (((Below.refl wr.heap.size wr).alloc (Nat.le_refl _) _).trans (below_of_only HG5.out (Nat.le_refl _) (by simp))); have HF5 := Lib.hid (HF.out.below BW5.out); have HX5 := Lib.hid (HX.out.all BW5.out)))
            have hg5 : wr.heap.size < w5.heap.size := HA5.out.lt
            have e0 : ∀ r : BW w5.heap.size w5, r.world.cell? ⟨wr.heap.size, 0, none⟩ = some (.int .u8 t0) := fun r => (HA5.out.below r.below hg5).cell (i := 0) (by simp)
            have e1 : ∀ r : BW w5.heap.size w5, r.world.cell? ⟨wr.heap.size, 1, none⟩ = some (.int .u8 t1) := fun r => (HA5.out.below r.below hg5).cell (i := 1) (by simp)
            have e2 : ∀ r : BW w5.heap.size w5, r.world.cell? ⟨wr.heap.size, 2, none⟩ = some (.int .u8 t2) := fun r => (HA5.out.below r.below hg5).cell (i := 2) (by simp)
            have e3 : ∀ r : BW w5.heap.size w5, r.world.cell? ⟨wr.heap.size, 3, none⟩ = some (.int .u8 t3) := fun r => (HA5.out.below r.below hg5).cell (i := 3) (by simp)
            have b0 : ∀ r : BW w5.heap.size w5, r.world.cell? ⟨gb, t0.toNat, none⟩ = some (.int .u8 (sub t0)) := fun r => (HX5.out.below r.below HX5.out.1).2 _ (by omega)
            have b1 : ∀ r : BW w5.heap.size w5, r.world.cell? ⟨gb, t1.toNat, none⟩ = some (.int .u8 (sub t1)) := fun r => (HX5.out.below r.below HX5.out.1).2 _ (by omega)
            have b2 : ∀ r : BW w5.heap.size w5, r.world.cell? ⟨gb, t2.toNat, none⟩ = some (.int .u8 (sub t2)) := fun r => (HX5.out.below r.below HX5.out.1).2 _ (by omega)
            have b3 : ∀ r : BW w5.heap.size w5, r.world.cell? ⟨gb, t3.toNat, none⟩ = some (.int .u8 (sub t3)) := fun r => (HX5.out.below r.below HX5.out.1).2 _ (by omega)
            refine wp_region_mixOB w5.heap.size [([0, 1, 2, 3, 4, 5, 6, 7, 8, 9, 10, 11, 12, 13, 14, 15, 16, 17, 18, 19, 20, 21, 22, 23, 24, 25, 26], 27)] (by kernel_rfl) (by kernel_rfl) (by kernel_rfl) (by kernel_rfl) (by kernel_rfl) ?_
            try (rw [put_none])
            simp only [pickL, List.map_cons, List.map_nil, List.filterMap_cons, List.filterMap_nil, List.getElem?_cons_succ, List.getElem?_cons_zero]
            refine mixO_cons ?_
            repeat (show wpQuiet _ _ _ _ (_ :: _) _; go_big_quiet_step (fail))
            obtain ⟨g, hg⟩ : ∃ g, wr.heap.size = g := ⟨_, rfl⟩
            obtain ⟨T, hT⟩ : ∃ T, [bits .xor .u8 (sub t1) c, sub t2, sub t3, sub t0] = T := ⟨_, rfl⟩
            have HTL : Hid (T.length = 4) := Lib.hid (by rw [← hT]; rfl)
            have HTE : Hid (∀ j, j < 4 → T.getD j 0 = kt xs c k j) := Lib.hid (fun j hj => by
              rw [← hT]
              unfold kt
              rw [if_pos h4]
              rcases (show j = 0 ∨ j = 1 ∨ j = 2 ∨ j = 3 by omega) with rfl | rfl | rfl | rfl
              · rw [if_pos rfl, show 4 * k - 3 = (k - 1) * 4 + 1 by omega, HT1.out]; rfl
              · rw [if_neg (by decide), show 4 * k - 4 + (1 + 1) % 4 = (k - 1) * 4 + 2 by omega, HT2.out]; rfl
              · rw [if_neg (by decide), show 4 * k - 4 + (2 + 1) % 4 = (k - 1) * 4 + 3 by omega, HT3.out]; rfl
              · rw [if_neg (by decide), show 4 * k - 4 + (3 + 1) % 4 = (k - 1) * 4 by omega, HT0.out]; rfl)
            obtain ⟨w6, hs6, hz6, hg6⟩ := blk_storeAll (P := Try.prog) (w := w5.drew) (ty := 79) (vs := iv .u8 [bits .xor .u8 (sub t1) c, sub t2, sub t3, sub t0]) HA5.out (by simp [iv]) (iv_one _ _) sizeE4
            have S6 := Lib.hid hs6
            rw [hg] at S6
            have HA6 : Hid (Arr w6 g 79 .u8 T) := Lib.hid (by rw [← hg, ← hT]; exact hz6)
            have HF6 := Lib.hid (HF.out.below (BW5.out.drew.trans (below_of_only hg6 (Nat.le_refl _) (Nat.le_of_lt hg5))))
            have HX6 := Lib.hid (HX.out.all (BW5.out.drew.trans (below_of_only hg6 (Nat.le_refl _) (Nat.le_of_lt hg5))))
            obtain ⟨cc, hcc⟩ : ∃ cc, tw c = cc := ⟨_, rfl⟩
            have HCC : Hid (cc = (kexp K (k - 4 + 1)).2) := Lib.hid (by rw [HKX.out, ← hcc]; show _ = if _ then _ else _; rw [if_pos (by omega)])
            have hgw2 : w.heap.size + 1 + 1 < g := by rw [← hg]; exact hgw
            rw [hg]
            clear hs6 hz6 hg6 e0 e1 e2 e3 b0 b1 b2 b3 hT BW5 HF5 HX5 HA5 HG5 hg5
            refine wpQuiet_nil ?_
            show wpList _ _ _ [_] _ _
            go_wp2_with ((with_reducible (show wpList _ _ _ (⟨none, .store 79 _ _, _, _, _, _⟩ :: _) _ _)); refine wpList_storeV (o := ⟨none, .store 79 _ _, _, _, _, _⟩) rfl _ _ rfl rfl rfl (S6.out) ?_)
            refine MixO.last ?_
            refine mixO_nil ?_
            refine wpQuiet_nil ?_
            refine NoPanic.normal ?_
            go_wp2_with fail
            refine Calls.mono (twice_any c _ HC8.out) ?_
            rintro e w7 ⟨rfl, rfl⟩
            rw [hcc]
            clear S6 hcc h4i h4 hg hgw
          case' neg =>
            have h4i : (k : Int) % 4 ≠ 0 := by omega
            go_wp2_with (first
              | ((with_reducible (show wpList _ _ _ (⟨some 32, .load _ _, _, _, _, _⟩ :: _) _ _)); refine wpList_loadV (o := ⟨some 32, .load _ _, _, _, _, _⟩) rfl _ rfl rfl (L32.out) ?_)
              | (((with_reducible (show wpList _ _ _ (⟨none, .store 79 _ _, _, _, _, _⟩ :: _) _ _)); refine wpList_storeArr (o := ⟨none, .store 79 _ _, _, _, _, _⟩) (g := wr.heap.size) (t := 79) (k := .u8) (xs := [t0, t1, t2, t3]) (n := 4) rfl _ _ rfl rfl rfl (Blk.new _ _ _) sizeE4 (rfl) rfl ?_; intro w5 ha5 hg5; have HA5 := Lib.hid ha5; have HG5 := Lib.hid hg5; clear ha5 hg5); have BW5 := Lib.hid (((Below.refl wr.heap.size wr).alloc (Nat.le_refl _) _).trans (below_of_only HG5.out (Nat.le_refl _) (by simp))); have HF5 := Lib.hid (HF.out.below BW5.out); have HX5 := Lib.hid (HX.out.all BW5.out)))
            obtain ⟨g, hg⟩ : ∃ g, wr.heap.size = g := ⟨_, rfl⟩
            obtain ⟨T, hT⟩ : ∃ T, [t0, t1, t2, t3] = T := ⟨_, rfl⟩
            have HTL : Hid (T.length = 4) := Lib.hid (by rw [← hT]; rfl)
            have HTE : Hid (∀ j, j < 4 → T.getD j 0 = kt xs c k j) := Lib.hid (fun j hj => by
              rw [← hT]
              unfold kt
              rw [if_neg h4]
              rcases (show j = 0 ∨ j = 1 ∨ j = 2 ∨ j = 3 by omega) with rfl | rfl | rfl | rfl
              · rw [show 4 * k - 4 + 0 = (k - 1) * 4 by omega, HT0.out]; rfl
              · rw [show 4 * k - 4 + 1 = (k - 1) * 4 + 1 by omega, HT1.out]; rfl
              · rw [show 4 * k - 4 + 2 = (k - 1) * 4 + 2 by omega, HT2.out]; rfl
              · rw [show 4 * k - 4 + 3 = (k - 1) * 4 + 3 by omega, HT3.out]; rfl)
            obtain ⟨w6, rfl⟩ : ∃ w6 : World, w6 = w5 := ⟨_, rfl⟩
            have HA6 : Hid (Arr w6 g 79 .u8 T) := Lib.hid (by rw [← hg, ← hT]; exact HA5.out)
            have HF6 := HF5
            have HX6 := HX5
            have HCC : Hid (c = (kexp K (k - 4 + 1)).2) := Lib.hid (by rw [HKX.out]; show _ = if _ then _ else _; rw [if_neg (by omega)])
            have hgw2 : w.heap.size + 1 + 1 < g := by rw [← hg]; exact hgw
            rw [hg]
            clear hT BW5 HF5 HX5 HA5 HG5 h4i h4 hg hgw
          all_goals
            have hgW : g < w6.heap.size := HA6.out.lt
            clear L32 HT0 HT1 HT2 HT3 g00 g01 g10 g11 g20 g21 g30 g31
            go_wp2_with fail
            go_loopw [65] (fun jj wi => ∃ j : Nat, j ≤ 4 ∧ jj = .int .i64 j ∧ Hid (KF w w.heap.size K (xs ++ (kcol xs c k).take j) wi) ∧ Hid (Arr wi g 79 .u8 T) ∧ Hid (Bx wi gb)) (fun jj _ => 4 - (intOf jj).toNat)
            case atStart => exact ⟨0, by omega, rfl, Lib.hid (by rw [List.take_zero, List.append_nil]; exact HF6.out), HA6, HX6⟩
            case round =>
              obtain ⟨j, hj, rfl, HFi, HAi, HXi⟩ := hrel
              have HCL : Hid ((kcol xs c k).length = 4) := Lib.hid rfl
              have HTJ : Hid ((xs ++ (kcol xs c k).take j).length = k * 4 + j) := Lib.hid (by rw [List.length_append, List.length_take, HCL.out, HXL.out]; omega)
              by_cases hj4 : j < 4
              · have HN : Hid ((kcol xs c k).getD j 0 = bits .xor .u8 (xs.getD ((k - 4) * 4 + j) 0) (T.getD j 0)) := Lib.hid (by
                  rw [kcol_getD xs c k hj4, HTE.out j hj4]
                  unfold kn
                  rw [show 4 * k - 16 + j = (k - 4) * 4 + j by omega]
                  rfl)
                have HTS := Lib.hid (take_snoc_getD (xs := kcol xs c k) (t := j) (by rw [HCL.out]; exact hj4))
                have p1 : ∀ r : BW wr.heap.size wr, r.world.cell? ⟨w.heap.size + 1 + 1, (k - 4) * 4 + j, none⟩ = some (.int .u8 (xs.getD ((k - 4) * 4 + j) 0)) := fun r => by
                  have h1 := (HFi.out.2.2.1.belowAll r.below).cell (i := (k - 4) * 4 + j) (by rw [flN_len (by rw [HTJ.out]; omega)]; omega)
                  rwa [flN_getD _ (by rw [HTJ.out]; omega), append_getDl _ (by rw [HXL.out]; omega)] at h1
                have p2 : ∀ r : BW wr.heap.size wr, r.world.cell? ⟨g, j, none⟩ = some (.int .u8 (T.getD j 0)) := fun r => (HAi.out.belowAll r.below).cell (by rw [HTL.out]; exact hj4)
                have p3 := HFi.out.2.2.1.cell (i := k * 4 + j) (by rw [flN_len (by rw [HTJ.out]; omega)]; omega)
                have f3 := HFi.out.2.2.1.frozen (k * 4 + j)
                generalize (flN 176 (xs ++ List.take j (kcol xs c k))).getD (k * 4 + j) 0 = old at p3
                have q0 := HXB.out.getD ((k - 4) * 4 + j)
                generalize xs.getD ((k - 4) * 4 + j) 0 = p at *
                generalize T.getD j 0 = q at *
                go_wp2_with fail
                refine wp_region_mixOB wr.heap.size [([0, 1, 2, 3, 4, 5, 6, 7, 8, 9, 10, 11, 12, 13], 14)] (by kernel_rfl) (by kernel_rfl) (by kernel_rfl) (by kernel_rfl) (by kernel_rfl) ?_
                try (rw [put_none])
                simp only [pickL, List.map_cons, List.map_nil, List.filterMap_cons, List.filterMap_nil, List.getElem?_cons_succ, List.getElem?_cons_zero]
                refine mixO_cons ?_
                repeat (show wpQuiet _ _ _ _ (_ :: _) _; go_big_quiet_step (fail))
                refine wpQuiet_nil ?_
                show wpList _ _ _ [_] _ _
                go_wp2_with fail
                refine MixO.last ?_
                refine mixO_nil ?_
                refine wpQuiet_nil ?_
                refine NoPanic.normal ?_
                have HNW : Hid (flN 176 (xs ++ (kcol xs c k).take (j + 1)) = (flN 176 (xs ++ (kcol xs c k).take j)).set (k * 4 + j) (bits .xor .u8 p q)) := Lib.hid (by
                  rw [← HTJ.out, set_flN _ (by rw [HTJ.out]; omega), HTS.out, ← List.append_assoc, HN.out])
                have HA9 : Hid (Arr (wr.drew.setCell ⟨w.heap.size + 1 + 1, k * 4 + j, none⟩ (.int .u8 (bits .xor .u8 p q))) (w.heap.size + 1 + 1) 144 .u8 (flN 176 (xs ++ (kcol xs c k).take (j + 1)))) := Lib.hid (Arr.cast (Arr.set (w := wr.drew) HFi.out.2.2.1 (k * 4 + j) _) HNW.out.symm)
                have HF9 := Lib.hid (KF.put (w := wr.drew) ⟨HFi.out.1, HFi.out.2.1, HFi.out.2.2.1, HFi.out.2.2.2.drew⟩ HA9.out (only_setCell (World.grownBy.refl _ _) (.inl rfl) _))
                have HA10 : Hid (Arr (wr.drew.setCell ⟨w.heap.size + 1 + 1, k * 4 + j, none⟩ (.int .u8 (bits .xor .u8 p q))) g 79 .u8 T) := Lib.hid (Arr.far (w := wr.drew) HAi.out (by simp; omega) _)
                have HX9 : Hid (Bx (wr.drew.setCell ⟨w.heap.size + 1 + 1, k * 4 + j, none⟩ (.int .u8 (bits .xor .u8 p q))) gb) := Lib.hid (HXi.out.below ((Below.refl w.heap.size wr).drew.setCell (by simp; omega) _) hgb)
                clear p1 p2 p3 f3 HNW HA9 HN HTS
                go_wp2_with fail
                go_roundw
                case rel => exact ⟨j + 1, by omega, by go_num, HF9, HA10, HX9⟩
                case measure => simp [intOf]; omega
              · have hj : j = 4 := by omega
                have HFE : Hid (KF w w.heap.size K (kexp K (k + 1 - 4)).1 wr) := Lib.hid (by
                  have h := HFi.out
                  rw [hj, List.take_of_length_le (by rw [HCL.out]; exact Nat.le_refl _)] at h
                  rw [show k + 1 - 4 = k - 4 + 1 by omega, HKX.out]
                  show KF w w.heap.size K (xs ++ kcol xs c (k - 4 + 4)) wr
                  rw [show k - 4 + 4 = k by omega]
                  exact h)
                clear HFi HTJ hj HAi HX HF
                go_wp2_with fail
                go_roundw
                case rel => exact ⟨k + 1, _, by omega, by omega, by go_num, rfl, Lib.hid (by rw [show k + 1 - 4 = k - 4 + 1 by omega]; exact HCC.out), HFE, HXi⟩
                case measure => simp [intOf]; omega
        · have hk44 : k = 44 := by omega
          have HW := Lib.hid (keys_full HK.out)
          have HWE := Lib.hid (wkL_eq K)
          have HF2 : Hid (KF w w.heap.size K (wkL K) wr) := Lib.hid (by have h := HF.out; rw [hk44] at h; rw [HWE.out]; exact h)
          have HA2 : Hid (Arr wr (w.heap.size + 1 + 1) 144 .u8 (wkL K)) := Lib.hid (Arr.cast HF2.out.2.2.1 (flN_full HW.out))
          have HZ2 := Lib.hid HF2.out.2.1
          have HB2 := Lib.hid HF2.out.2.2.2
          obtain ⟨w2, rfl⟩ : ∃ w2 : World, w2 = wr := ⟨_, rfl⟩
          obtain ⟨k2, rfl⟩ : ∃ k2 : Nat, k2 = k := ⟨_, rfl⟩
          have hb2 : w.heap.size + 1 + 1 < w2.heap.size := HA2.out.lt
          clear HF hk44 HF2 HC HX HWE hk4
          generalize hWK : wkL K = W at *
          have HWK := Lib.hid hWK
          clear hWK
          have L83 : Hid ((Instr.loadAt 144 (.pointer (some ⟨w.heap.size + 1 + 1, 0, none⟩))).run Try.prog (w2.alloc (.cells Try.zeroCells115 115)) = .ok (.agg (cellsL .u8 W)) (w2.alloc (.cells Try.zeroCells115 115))) := Lib.hid (blk_load (cs := cellsL .u8 W) (HA2.out.alloc (.cells Try.zeroCells115 115)) Try.underlying144 rfl (by rw [cellsL_size, HW.out]; exact size99))
          have HO0 : Hid (Arr (w2.alloc (.cells Try.zeroCells115 115)) w2.heap.size 115 .u8 (flN 176 (W.take (4 * 0)))) := Lib.hid (by rw [Nat.mul_zero, List.take_zero, flN_nil]; exact Arr.newAt rfl z40)
          go_wp2_with ((with_reducible (show wpList _ _ _ (⟨some 83, .load _ _, _, _, _, _⟩ :: _) _ _)); refine wpList_loadV (o := ⟨some 83, .load _ _, _, _, _, _⟩) rfl _ rfl rfl (L83.out) ?_)
          clear L83
          go_loopw [84] (fun jj wr => ∃ k : Nat, k ≤ 44 ∧ jj = .int .i64 k ∧ Hid (Arr wr w2.heap.size 115 .u8 (flN 176 (W.take (4 * k)))) ∧ Hid (Below w2.heap.size w2 wr)) (fun jj _ => 44 - (intOf jj).toNat)
          case atStart => exact ⟨0, by omega, rfl, HO0, Lib.hid ((Below.refl _ _).alloc (Nat.le_refl _) _)⟩
          case round =>
            obtain ⟨k, hk, rfl, HO, HB9⟩ := hrel
            have hgo := HO.out.lt
            have hwo := HB9.out.size
            by_cases hlt : k < 44
            · have HIX : Hid (∀ X, (Instr.index 144 (.agg (cellsL .u8 W)) (.int .i64 (k : Int))).run Try.prog X = .ok (.agg (cellsL .u8 ((W.drop (k * 4)).take 4))) X) := Lib.hid (fun X => index_arr Try.underlying144 Try.underlying79 sizeE4 hlt .i64 X)
              have HP4 : Hid (((W.drop (k * 4)).take 4).length = 4) := Lib.hid (by rw [List.length_take, List.length_drop, HW.out]; omega)
              have HPT : Hid (ovi (flN 176 (W.take (4 * k))) (k / 4 * 16 + k % 4 * 4) ((W.drop (k * 4)).take 4) = flN 176 (W.take (4 * (k + 1)))) := Lib.hid (by
                have hl : (W.take (4 * k)).length = 4 * k := by rw [List.length_take, HW.out]; omega
                rw [show k / 4 * 16 + k % 4 * 4 = (W.take (4 * k)).length by rw [hl]; omega, ovi_flN (by rw [hl, HP4.out]; omega), show 4 * (k + 1) = 4 * k + 4 by omega, List.take_add, Nat.mul_comm k 4])
              have HFL : Hid ((flN 176 (W.take (4 * k))).length = 176) := Lib.hid (flN_len (by rw [List.length_take, HW.out]; omega))
              generalize (W.drop (k * 4)).take 4 = P at *
              have i1 := HIX.out
              go_wp2_with ((with_reducible (show wpList _ _ _ (⟨none, .store 79 _ _, _, _, _, _⟩ :: _) _ _)); refine wpList_storeArr (o := ⟨none, .store 79 _ _, _, _, _, _⟩) (g := wr.heap.size) (t := 79) (k := .u8) (xs := P) (n := 4) rfl _ _ rfl rfl rfl (Blk.new _ _ _) sizeE4 (HP4.out.symm) rfl ?_; intro w5 ha5 hg5; have HA5 := Lib.hid ha5; have HG5 := Lib.hid hg5; clear ha5 hg5)
              clear i1 HIX
              have HO5 := Lib.hid ((HO.out.alloc (.cells #[.int .u8 0, .int .u8 0, .int .u8 0, .int .u8 0] 79)).grown HG5.out (by simp; omega))
              have BW5 := Lib.hid (HB9.out.trans ((((Below.refl wr.heap.size wr).alloc (Nat.le_refl _) _).trans (below_of_only HG5.out (Nat.le_refl _) (by simp))).mono hwo))
              have r0 : (0 : Int) ≤ (k : Int) % 4 * 4 := by omega
              have r1 : (k : Int) % 4 * 4 ≤ 16 := by omega
              have r2 : (k : Int) % 4 * 4 < 16 := by omega
              have r3 : (0 : Int) ≤ (k : Int) / 4 := by omega
              have r4 : (k : Int) / 4 < 11 := by omega
              refine wp_region_mixOB w5.heap.size [([0, 1, 2, 3, 4, 5, 6, 7], 8)] (by kernel_rfl) (by kernel_rfl) (by kernel_rfl) (by kernel_rfl) (by kernel_rfl) ?_
              try (rw [put_none])
              simp only [pickL, List.map_cons, List.map_nil, List.filterMap_cons, List.filterMap_nil, List.getElem?_cons_succ, List.getElem?_cons_zero]
              refine mixO_cons ?_
              repeat (show wpQuiet _ _ _ _ (_ :: _) _; go_big_quiet_step (fail))
              refine wpQuiet_nil ?_
              show wpList _ _ _ [_] _ _
              go_wp2_with ((with_reducible (show wpList _ _ _ (⟨some 96, _, _, _, _, _⟩ :: _) _ _)); refine wpList_copyAt (o := ⟨some 96, _, _, _, _, _⟩) (off := k / 4 * 16 + k % 4 * 4) (m := 4) rfl _ _ rfl Try.underlying28 sizeE1 rfl rfl (Arr.drew HO5.out) (Rd.drew HA5.out.rd) HP4.out ?_ ?_ ?_; (show 4 = min _ _; omega); (rw [HFL.out]; omega); intro w6 ha6 hg6; rw [List.take_of_length_le (l := P) (by rw [HP4.out]; exact Nat.le_refl _), HPT.out] at ha6; have HA6 := Lib.hid ha6; have HB6 := Lib.hid (BW5.out.drew.trans (below_of_only hg6 (Nat.le_refl _) BW5.out.size)); clear ha6 hg6)
              refine MixO.last ?_
              refine mixO_nil ?_
              refine wpQuiet_nil ?_
              refine NoPanic.normal ?_
              clear HPT HFL HP4 HO5 BW5 HA5 HG5 r0 r1 r2 r3 r4
              go_wp2_with fail
              go_roundw
              case rel => exact ⟨k + 1, by omega, by go_num, HA6, HB6⟩
              case measure => simp [intOf]; omega
            · have hk : k = 44 := by omega
              have HOF : Hid (Arr wr w2.heap.size 115 .u8 W) := Lib.hid (Arr.cast HO.out (by rw [hk, List.take_of_length_le (by rw [HW.out]; decide)]; exact flN_full HW.out))
              have L98 : Hid ((Instr.loadAt 115 (.pointer (some ⟨w2.heap.size, 0, none⟩))).run Try.prog wr = .ok (.agg (cellsL .u8 W)) wr) := Lib.hid (blk_load (cs := cellsL .u8 W) HOF.out Try.underlying115 rfl (by rw [cellsL_size, HW.out]; exact size40))
              obtain ⟨w6, hs6, hz6, hg6⟩ := blk_storeAll (P := Try.prog) (ty := 115) (vs := iv .u8 W) (HZ2.out.below HB9.out (Blk.lt HZ2.out)) (by rw [iv_len, HW.out]; kernel_rfl) (iv_one _ _) (by rw [iv_len, HW.out]; exact size40)
              have S6 := Lib.hid hs6
              have Z6 := Lib.hid hz6
              have B6 := Lib.hid ((HB2.out.trans (HB9.out.mono HB2.out.size)).trans (below_of_only hg6 (by omega) (Nat.le_trans HB2.out.size HB9.out.size)))
              clear hs6 hz6 hg6 hk HO
              go_wp2_with (first
                | ((with_reducible (show wpList _ _ _ (⟨some 98, .load _ _, _, _, _, _⟩ :: _) _ _)); refine wpList_loadV (o := ⟨some 98, .load _ _, _, _, _, _⟩) rfl _ rfl rfl (L98.out) ?_)
                | ((with_reducible (show wpList _ _ _ (⟨none, .store 115 _ _, _, _, _, _⟩ :: _) _ _)); refine wpList_storeV (o := ⟨none, .store 115 _ _, _, _, _, _⟩) rfl _ _ rfl rfl rfl (S6.out) ?_))
              refine ret_row rfl rfl Z6.out Try.underlying115 rfl (by rw [List.size_toArray, iv_len, HW.out]; exact size40) rfl ⟨by rw [HWK.out]; rfl, B6.out⟩
end Go.Proofs.Ythpacdondnenmaa
/- Contracts: aes.Keys, aes.New, the closure add of Cipher.Seal. Conditions: as each theorem states them. -/
namespace Go.Proofs.Ythpacdondnenmaa
open Go.RowKit
theorem size78 : (Try.prog.info? 113).map (·.size) = some 256 := by kernel_rfl
theorem size81 : (Try.prog.info? 117).map (·.size) = some 432 := by kernel_rfl
theorem zero78 : Try.zeroCells113.size = 256 := by kernel_rfl
theorem zero40 : Try.zeroCells115.size = 176 := by kernel_rfl
/-- a key's cipher lies in block g: its box, and its columns -/
def Ci (w : World) (g : Nat) (K : List Int) : Prop := Arr w g 117 .u8 (boxL ++ wkL K)
theorem Ci.lt {w : World} {g : Nat} {K : List Int} (h : Ci w g K) : g < w.heap.size := Arr.lt h
theorem Ci.below {w w' : World} {g N : Nat} {K : List Int} (h : Ci w g K) (hb : Below N w w') (hN : g < N) : Ci w' g K := Arr.below h hb hN
theorem Ci.all {w w' : World} {g : Nat} {K : List Int} (h : Ci w g K) (hb : Below w.heap.size w w') : Ci w' g K := Arr.belowAll h hb
theorem Ci.grown {w w' : World} {g : Nat} {K : List Int} {row : Option Nat} (h : Ci w g K) (hb : w.grownBy w' row) (hg : some g ≠ row) : Ci w' g K := Arr.grown h hb hg
theorem Ci.box {w : World} {g : Nat} {K : List Int} (h : Ci w g K) {i : Nat} (hi : i < 256) : w.cell? ⟨g, i, none⟩ = some (.int .u8 (boxL.getD i 0)) := by
  have := Arr.cell h (i := i) (by rw [List.length_append, boxL_len]; omega)
  rwa [append_getDl _ (by rw [boxL_len]; exact hi)] at this
theorem Ci.key {w : World} {g : Nat} {K : List Int} (h : Ci w g K) (hK : Blk16 K) {i : Nat} (hi : i < 176) : w.cell? ⟨g, 256 + i, none⟩ = some (.int .u8 ((wkL K).getD i 0)) := by
  have hW := wkL_len hK
  have := Arr.cell h (i := 256 + i) (by rw [List.length_append, boxL_len, hW]; omega)
  rw [this, List.getD_eq_getElem?_getD, List.getElem?_append_right (by rw [boxL_len]; omega), boxL_len, Nat.add_sub_cancel_left, List.getD_eq_getElem?_getD]
/-- a new cipher -/
def NewC (K : List Int) (w : World) (e : Ending) (w' : World) : Prop := ∃ g, e = .returned (.pointer (some ⟨g, 0, none⟩)) ∧ w.heap.size ≤ g ∧ Ci w' g K ∧ Below w.heap.size w w'
theorem built81 : Try.prog.built 117 [(0, .agg (cellsL .u8 boxL))] = some (cellsL .u8 (boxL ++ nul 176)) := by kernel_rfl
theorem ovi_new {B Z W : List Int} (hB : B.length = 256) (hZ : Z.length = 176) (hW : W.length = 176) : (ovl (iv .u8 (B ++ Z)) 256 (iv .u8 W)) = iv .u8 (B ++ W) := by
  rw [← iv_append, ← iv_append]
  have h := over_at (A := iv .u8 B) (B := iv .u8 Z) (C := []) (vs := iv .u8 W) (o := 256) (by rw [iv_len, hB]) (by rw [iv_len, iv_len, hW, hZ])
  simpa using h
set_option maxRecDepth 100000 in
set_option maxHeartbeats 4000000 in
theorem anew_any (K : List Int) (w : World) (hK : Blk16 K) : Calls Try.prog 55 #[.agg (cellsL .u8 K)] w (NewC K w) := by
  have HK := Lib.hid hK
  have HKL := Lib.hid hK.1
  have HBL := Lib.hid boxL_len
  have HW := Lib.hid (wkL_len hK)
  have HBD := Lib.hid built81
  clear hK
  go_enter Try.func55, Try.ntmps55
  go_wp2_with fail
  refine Calls.mono (boxes_any _) ?_
  rintro e w1 ⟨rfl, hb1⟩
  have A1 := Lib.hid ((Arr.newAt (t := 23) (w := w) (cs := cellsL .u8 K) rfl rfl).belowAll hb1)
  have B1 := Lib.hid (((Below.refl w.heap.size w).alloc (Nat.le_refl _) (.cells (cellsL .u8 K) 23)).trans (hb1.mono (by simp)))
  clear hb1
  go_wp2_with ((with_reducible (show wpList _ _ _ (⟨some 5, _, _, _, _, _⟩ :: _) _ _)); refine wpList_buildV (o := ⟨some 5, _, _, _, _, _⟩) rfl _ rfl HBD.out ?_)
  have C2 : Hid (Arr (w1.alloc (.cells (cellsL .u8 (boxL ++ nul 176)) 117)) w1.heap.size 117 .u8 (boxL ++ nul 176)) := Lib.hid (Arr.newAt rfl rfl)
  have A2 := Lib.hid (A1.out.alloc (.cells (cellsL .u8 (boxL ++ nul 176)) 117))
  have B2 := Lib.hid (B1.out.alloc B1.out.size (.cells (cellsL .u8 (boxL ++ nul 176)) 117))
  have hgw := B1.out.size
  have hgl := C2.out.lt
  generalize w1.alloc (.cells (cellsL .u8 (boxL ++ nul 176)) 117) = w2 at *
  generalize w1.heap.size = g at *
  have HBX : Hid (Bx w2 g) := Lib.hid ⟨hgl, fun i hi => by
    have := C2.out.cell (i := i) (by rw [List.length_append, HBL.out]; omega)
    rwa [append_getDl _ (by rw [HBL.out]; exact hi)] at this⟩
  refine wp_region_mixOB w2.heap.size [([0, 1, 2, 3, 4], 5), ([6, 7], 8)] (by kernel_rfl) (by kernel_rfl) (by kernel_rfl) (by kernel_rfl) (by kernel_rfl) ?_
  try (rw [put_none])
  simp only [pickL, List.map_cons, List.map_nil, List.filterMap_cons, List.filterMap_nil, List.getElem?_cons_succ, List.getElem?_cons_zero]
  refine mixO_cons ?_
  repeat (show wpQuiet _ _ _ _ (_ :: _) _; go_big_quiet_step (fail))
  show wpQuiet _ _ _ _ (_ :: _) _
  refine wpQuiet_loadV (o := ⟨some 11, _, _, _, _, _⟩) rfl _ rfl rfl (fun w' hw' => by obtain ⟨r, rfl⟩ := hw'; exact arr_load (A2.out.below r.below A2.out.lt) Try.underlying23 sizeE16 HKL.out.symm) ?_
  simp only [Act.put, List.setIfInBounds_toArray, List.set_cons_zero, List.set_cons_succ]
  refine wpQuiet_nil ?_
  show wpList _ _ _ [_] _ _
  go_wp2_with fail
  refine Calls.mono (keys_any g K _ HK.out HBX.out) ?_
  rintro e w3 ⟨rfl, hb3⟩
  have B3 := Lib.hid ((Below.refl w2.heap.size w2).drew.trans hb3)
  have C3 := Lib.hid (C2.out.belowAll B3.out)
  clear hb3
  obtain ⟨w4, hs4, hz4, hg4⟩ := blk_storeMid (P := Try.prog) (ty := 115) (o := 256) (vs := iv .u8 (wkL K)) (cs := iv .u8 (boxL ++ nul 176)) C3.out (by rw [iv_len, iv_len, List.length_append, HBL.out, HW.out, nul_len]; decide) (iv_one _ _) (by rw [iv_len, HW.out]; exact size40)
  rw [ovi_new HBL.out (nul_len 176) HW.out] at hz4
  have S4 := Lib.hid hs4
  have C4 : Hid (Ci w4 g K) := Lib.hid hz4
  have B4 := Lib.hid ((B2.out.trans (B3.out.mono B2.out.size)).trans (below_of_only hg4 hgw (Nat.le_trans B2.out.size B3.out.size)))
  clear hs4 hz4 hg4
  go_wp2_with fail
  refine MixO.narrowB B3.out B3.out.size ?_
  refine mixO_cons ?_
  repeat (show wpQuiet _ _ _ _ (_ :: _) _; go_big_quiet_step (fail))
  refine wpQuiet_nil ?_
  show wpList _ _ _ [_] _ _
  go_wp2_with ((with_reducible (show wpList _ _ _ (⟨none, .store 115 _ _, _, _, _, _⟩ :: _) _ _)); refine wpList_storeV (o := ⟨none, .store 115 _ _, _, _, _, _⟩) rfl _ _ rfl rfl rfl (S4.out) ?_)
  refine MixO.last ?_
  refine mixO_nil ?_
  refine wpQuiet_nil ?_
  refine NoPanic.normal ?_
  go_wp2_with fail
  go_ret
  exact ⟨g, rfl, hgw, C4.out, B4.out⟩
/-- what the closure captured: the block, the cipher's place -/
def Cap (w : World) (gs gv gc : Nat) (s K : List Int) : Prop := Arr w gs 23 .u8 s ∧ Blk w gv 96 #[.pointer (some ⟨gc, 0, none⟩)] ∧ Ci w gc K ∧ gs ≠ gv ∧ gs ≠ gc
set_option maxRecDepth 100000 in
set_option maxHeartbeats 4000000 in
theorem aadd_any (n gs gv gc : Nat) (s K : List Int) (w : World) (hK : Blk16 K) (hs : Blk16 s) (hn : n < 11) (h : Cap w gs gv gc s K) :
    Calls Try.prog 82 #[.int .i64 n, .pointer (some ⟨gs, 0, none⟩), .pointer (some ⟨gv, 0, none⟩)] w fun e w' => (∃ v, e = .returned v) ∧ Arr w' gs 23 .u8 (addL s (rkey (wkL K) n)) ∧ w.grownBy w' (some gs) := by
  have HK := Lib.hid hK
  have HSL := Lib.hid hs.1
  have HRK := Lib.hid (rkey_ok (wkL_len hK) (wkL_byt hK) hn)
  have HAL := Lib.hid (addL_len hs.1 HRK.out.1)
  have HN := Lib.hid hn
  have HG : Hid (∀ k, k < 16 → (addL s (rkey (wkL K) n)).getD k 0 = bits .xor .u8 (s.getD k 0) ((wkL K).getD (n * 16 + k) 0)) := Lib.hid (fun k hk => by
    rw [addL_getD hs.1 HRK.out.1 hk, rkey_getD _ _ hk, Nat.mul_comm 16 n]; rfl)
  have HC := Lib.hid h
  have hgs := h.1.lt
  clear hK hs h
  generalize addL s (rkey (wkL K) n) = A at *
  go_enter Try.func82, Try.ntmps82
  go_wp2_with fail
  go_loopw [5] (fun jj wr => ∃ k : Nat, k ≤ 16 ∧ jj = .int .i64 k ∧ Hid (Arr wr gs 23 .u8 (mixL s A k)) ∧ Hid (w.grownBy wr (some gs))) (fun jj _ => 16 - (intOf jj).toNat)
  case atStart => exact ⟨0, by omega, rfl, Lib.hid (by rw [mix_zero]; exact HC.out.1), Lib.hid (World.grownBy.refl _ _)⟩
  case round =>
    obtain ⟨k, hk, rfl, HR, HW⟩ := hrel
    by_cases hlt : k < 16
    · have hml : Hid ((mixL s A k).length = 16) := Lib.hid (by rw [mix_len (by rw [HSL.out, HAL.out]) (by rw [HSL.out]; omega), HSL.out])
      have HBV := Lib.hid (Blk.grown HC.out.2.1 HW.out (fun e => HC.out.2.2.2.1 (by injection e with e; exact e.symm)))
      have HCI := Lib.hid (HC.out.2.2.1.grown HW.out (fun e => HC.out.2.2.2.2 (by injection e with e; exact e.symm)))
      have p1 : ∀ r : BW wr.heap.size wr, r.world.cell? ⟨gs, k, none⟩ = some (.int .u8 (s.getD k 0)) := fun r => by
        have := (HR.out.belowAll r.below).cell (i := k) (by rw [hml.out]; exact hlt)
        rwa [mix_get (by rw [HSL.out, HAL.out]) (Nat.le_refl _)] at this
      have p2 : ∀ r : BW wr.heap.size wr, r.world.cell? ⟨gv, 0, none⟩ = some (.pointer (some ⟨gc, 0, none⟩)) := fun r => (Blk.below HBV.out r.below (Blk.lt HBV.out)).cell 0
      have p3 : ∀ r : BW wr.heap.size wr, r.world.cell? ⟨gc, 256 + n * 16 + k, none⟩ = some (.int .u8 ((wkL K).getD (n * 16 + k) 0)) := fun r => by
        have := (HCI.out.all r.below).key HK.out (i := n * 16 + k) (by omega)
        rwa [← Nat.add_assoc] at this
      have f1 := HR.out.frozen k
      have c1 : wr.cell? ⟨gs, k, none⟩ = some (.int .u8 (s.getD k 0)) := p1 ⟨wr, Below.refl _ _⟩
      have HE := Lib.hid (HG.out k hlt)
      have HMS := Lib.hid (mix_set (xs := s) (ys := A) (k := k) (by rw [HSL.out, HAL.out]) (by rw [HSL.out]; exact hlt))
      rw [HE.out] at HMS
      generalize s.getD k 0 = x at *
      generalize (wkL K).getD (n * 16 + k) 0 = y at *
      go_wp2_with fail
      refine wp_region_mixOB wr.heap.size [([0, 1, 2, 3, 4, 5, 6, 7, 8, 9, 10, 11, 12], 13)] (by kernel_rfl) (by kernel_rfl) (by kernel_rfl) (by kernel_rfl) (by kernel_rfl) ?_
      try (rw [put_none])
      simp only [pickL, List.map_cons, List.map_nil, List.filterMap_cons, List.filterMap_nil, List.getElem?_cons_succ, List.getElem?_cons_zero]
      refine mixO_cons ?_
      repeat (show wpQuiet _ _ _ _ (_ :: _) _; go_big_quiet_step (fail))
      refine wpQuiet_nil ?_
      show wpList _ _ _ [_] _ _
      go_wp2_with fail
      refine MixO.last ?_
      refine mixO_nil ?_
      refine wpQuiet_nil ?_
      refine NoPanic.normal ?_
      have HA9 : Hid (Arr (wr.drew.setCell ⟨gs, k, none⟩ (.int .u8 (bits .xor .u8 x y))) gs 23 .u8 (mixL s A (k + 1))) := Lib.hid (Arr.cast (Arr.set (w := wr.drew) HR.out k _) HMS.out)
      have HG9 := Lib.hid (only_setCell (p := ⟨gs, k, none⟩) (only_drew HW.out) (.inl rfl) (.int .u8 (bits .xor .u8 x y)))
      clear p1 p2 p3 f1 c1 HE HMS hml
      go_wp2_with fail
      go_roundw
      case rel => exact ⟨k + 1, by omega, by go_num, HA9, HG9⟩
      case measure => simp [intOf]; omega
    · have HF : Hid (Arr wr gs 23 .u8 A) := Lib.hid (Arr.cast HR.out (by rw [show k = A.length by rw [HAL.out]; omega]; exact mix_full (by rw [HSL.out, HAL.out])))
      go_wp2_with fail
      go_end0
      exact ⟨⟨_, rfl⟩, HF.out, HW.out⟩
end Go.Proofs.Ythpacdondnenmaa
/- Contracts: Cipher.Seal. Conditions: as each theorem states them. -/
namespace Go.Proofs.Ythpacdondnenmaa
open Go.RowKit
def z16E : List Int := List.replicate 16 0
/-- columns mixed, one after the other -/
def mcs (s : List Int) : Nat → List Int
  | 0 => s
  | m + 1 => mixAt (mcs s m) (4 * m)
theorem mcs_ok {s : List Int} (hs : Blk16 s) : ∀ m, m ≤ 4 → Blk16 (mcs s m)
  | 0, _ => hs
  | m + 1, h => mixAt_ok (mcs_ok hs m (by omega)) (by omega)
theorem mcs_all (s : List Int) : mcs s 4 = mcolL s := rfl
theorem mcs_zero (s : List Int) : mcs s 0 = s := rfl
theorem mcs_succ (s : List Int) (m : Nat) : mcs s (m + 1) = mixAt (mcs s m) (4 * m) := rfl
theorem arnd_zero (W s : List Int) : arnd W s 0 = addL s (rkey W 0) := rfl
theorem arnd_succ (W s : List Int) (n : Nat) : arnd W s (n + 1) = addL (if n + 1 < 10 then mcolL (rowsL (arnd W s n)) else rowsL (arnd W s n)) (rkey W (n + 1)) := rfl
attribute [irreducible] mcs
attribute [local irreducible] arnd
/-- the frame: the cipher's place, the result's, the state -/
def SF (w0 : World) (b gc : Nat) (K s : List Int) (w : World) : Prop :=
  Arr w (b + 1 + 1 + 1) 23 .u8 s ∧ Blk w b 96 #[.pointer (some ⟨gc, 0, none⟩)] ∧ Blk w (b + 1 + 1) 23 (cellsL .u8 (nul 16)) ∧ Ci w gc K ∧ gc < b ∧ Below b w0 w
theorem SF.below {w0 w w' : World} {b gc : Nat} {K s : List Int} (h : SF w0 b gc K s w) (hb : Below w.heap.size w w') : SF w0 b gc K s w' :=
  ⟨h.1.belowAll hb, h.2.1.below hb (Blk.lt h.2.1), h.2.2.1.below hb (Blk.lt h.2.2.1), h.2.2.2.1.all hb, h.2.2.2.2.1, h.2.2.2.2.2.trans (hb.mono (by have := h.1.lt; omega))⟩
theorem SF.put {w0 w w' : World} {b gc : Nat} {K s s' : List Int} (h : SF w0 b gc K s w) (hk : Arr w' (b + 1 + 1 + 1) 23 .u8 s') (hg : w.grownBy w' (some (b + 1 + 1 + 1))) : SF w0 b gc K s' w' :=
  ⟨hk, h.2.1.grown hg (by simp; omega), h.2.2.1.grown hg (by simp), h.2.2.2.1.grown hg (by have := h.2.2.2.2.1; simp; omega), h.2.2.2.2.1, h.2.2.2.2.2.trans (below_of_only hg (by omega) (by have := h.1.lt; omega))⟩
theorem SF.cap {w0 w : World} {b gc : Nat} {K s : List Int} (h : SF w0 b gc K s w) : Cap w (b + 1 + 1 + 1) b gc s K := ⟨h.1, h.2.1, h.2.2.2.1, by omega, by have := h.2.2.2.2.1; omega⟩
theorem SF.drew {w0 w : World} {b gc : Nat} {K s : List Int} (h : SF w0 b gc K s w) : SF w0 b gc K s w.drew := ⟨h.1, h.2.1, h.2.2.1, h.2.2.2.1, h.2.2.2.2.1, h.2.2.2.2.2.drew⟩
theorem sf_far {w0 w : World} {b gc g : Nat} {K s : List Int} (h : SF w0 b gc K s w) (hg : b + 1 + 1 + 1 < g) (i : Nat) (v : Value) : SF w0 b gc K s (w.setCell ⟨g, i, none⟩ v) :=
  ⟨h.1.far (by simp; omega) v, h.2.1.far (by simp; omega) v, h.2.2.1.far (by simp; omega) v, Arr.far h.2.2.2.1 (by have := h.2.2.2.2.1; simp; omega) v, h.2.2.2.2.1, h.2.2.2.2.2.setCell (by simp; omega) v⟩
theorem sf_start {w w5 : World} {gc : Nat} {K s : List Int} {z : Array Value} (hz : z = cellsL .u8 (nul 16)) (hC : Ci w gc K) (hA : Arr w5 (w.heap.size + 1 + 1 + 1) 23 .u8 s)
    (hG : ((((w.alloc (.cells #[.pointer (some ⟨gc, 0, none⟩)] 96)).alloc (.cells (cellsL .u8 s) 23)).alloc (.cells z 23)).alloc (.cells z 23)).grownBy w5 (some (w.heap.size + 1 + 1 + 1))) : SF w w.heap.size gc K s w5 := by
  subst hz
  have hb : Below w.heap.size w ((((w.alloc (.cells #[.pointer (some ⟨gc, 0, none⟩)] 96)).alloc (.cells (cellsL .u8 s) 23)).alloc (.cells (cellsL .u8 (nul 16)) 23)).alloc (.cells (cellsL .u8 (nul 16)) 23)) := (((((Below.refl _ _).alloc (Nat.le_refl _) _).alloc (by simp) _).alloc (by simp <;> omega) _).alloc (by simp <;> omega) _)
  exact ⟨hA, ((((Blk.new _ _ _).alloc _).alloc _).alloc _).grown hG (by simp; omega), ((blk_newAt (by simp)).alloc _).grown hG (by simp), (hC.below hb hC.lt).grown hG (by have := hC.lt; simp; omega), hC.lt, hb.trans (below_of_only hG (by omega) hb.size)⟩
set_option maxRecDepth 100000 in
set_option maxHeartbeats 8000000 in
theorem aseal_any (gc : Nat) (K s : List Int) (w : World) (hK : Blk16 K) (hs : Blk16 s) (hC : Ci w gc K) :
    Calls Try.prog 58 #[.pointer (some ⟨gc, 0, none⟩), .agg (cellsL .u8 s)] w (RetV (.agg (cellsL .u8 (aesL K s))) w) := by
  have HK := Lib.hid hK
  have HS := Lib.hid hs
  have HSL := Lib.hid hs.1
  have HC := Lib.hid hC
  have HW := Lib.hid (wkL_len hK)
  have HWB := Lib.hid (wkL_byt hK)
  clear hK hs hC
  go_enter Try.func58, Try.ntmps58
  go_wp2_with (first
    | ((with_reducible (show wpList _ _ _ (⟨some 14, .load _ _, _, _, _, _⟩ :: _) _ _)); refine wpList_loadV (o := ⟨some 14, .load _ _, _, _, _, _⟩) rfl _ rfl rfl (arr_load ((Arr.newAt (by simp) rfl).alloc _) Try.underlying23 sizeE16 HSL.out.symm) ?_)
    | ((with_reducible (show wpList _ _ _ (⟨none, .store 23 _ _, _, _, _, _⟩ :: _) _ _)); refine wpList_storeArr (o := ⟨none, .store 23 _ _, _, _, _, _⟩) (g := w.heap.size + 1 + 1 + 1) (t := 23) (k := .u8) (xs := s) (n := 16) rfl _ _ rfl rfl rfl (blk_newAt (by simp)) sizeE16 HSL.out.symm rfl ?_; intro w5 ha5 hg5; have F5 := Lib.hid (sf_start rfl HC.out ha5 hg5); clear ha5 hg5))
  have ADD : Hid (∀ (n : Nat) (j : Int) (t : List Int) (v : World), j = n → n < 11 → Blk16 t → SF w w.heap.size gc K t v → Calls Try.prog 82 #[.int .i64 j, .pointer (some ⟨w.heap.size + 1 + 1 + 1, 0, none⟩), .pointer (some ⟨w.heap.size, 0, none⟩)] v fun e v' => (∃ u, e = .returned u) ∧ SF w w.heap.size gc K (addL t (rkey (wkL K) n)) v') := Lib.hid (fun n j t v hj hn ht hv => by
    subst hj
    exact (aadd_any n (w.heap.size + 1 + 1 + 1) w.heap.size gc t K v HK.out ht hn hv.cap).mono (fun e v' ⟨h1, h2, h3⟩ => ⟨h1, hv.put h2 h3⟩))
  have HR0 : Hid (∀ n, n < 11 → Blk16 (arnd (wkL K) s n)) := Lib.hid (fun n hn => arnd_ok HW.out HWB.out HS.out n hn)
  refine Calls.mono (ADD.out 0 0 s _ rfl (by decide) HS.out F5.out) ?_
  rintro e w6 ⟨⟨u, rfl⟩, hf6⟩
  have F6 : Hid (SF w w.heap.size gc K (arnd (wkL K) s (1 - 1)) w6) := Lib.hid (by rw [show 1 - 1 = 0 from rfl, arnd_zero]; exact hf6)
  clear hf6 F5
  go_wp2_with fail
  go_loopw [7] (fun jj wr => ∃ n : Nat, 1 ≤ n ∧ n ≤ 11 ∧ jj = .int .i64 n ∧ Hid (SF w w.heap.size gc K (arnd (wkL K) s (n - 1)) wr)) (fun jj _ => 11 - (intOf jj).toNat)
  case atStart => exact ⟨1, by omega, by omega, rfl, F6⟩
  case round =>
    clear F6
    obtain ⟨n, hn1, hn, rfl, HF⟩ := hrel
    by_cases hlt : n ≤ 10
    · have HSO := Lib.hid (HR0.out (n - 1) (by omega))
      have HAS : Hid (arnd (wkL K) s n = addL (if n < 10 then mcolL (rowsL (arnd (wkL K) s (n - 1))) else rowsL (arnd (wkL K) s (n - 1))) (rkey (wkL K) n)) := Lib.hid (by
        have := arnd_succ (wkL K) s (n - 1)
        rwa [show n - 1 + 1 = n by omega] at this)
      generalize arnd (wkL K) s (n - 1) = S at *
      have HRO := Lib.hid (rowsL_ok HSO.out)
      have HRG : Hid (∀ k, k < 16 → (rowsL S).getD k 0 = sub (S.getD ((k + 4 * (k % 4)) % 16) 0)) := Lib.hid (fun k hk => rowsL_getD S hk)
      generalize rowsL S = R at *
      have HF7 := Lib.hid (HF.out.below ((Below.refl wr.heap.size wr).alloc (Nat.le_refl _) (.cells (cellsL .u8 (nul 16)) 23)))
      have HA7 : Hid (Arr (wr.alloc (.cells (cellsL .u8 (nul 16)) 23)) wr.heap.size 23 .u8 (fil R 0)) := Lib.hid (by rw [fil_zero, HRO.out.1]; exact Arr.newAt rfl rfl)
      have hgg : w.heap.size + 1 + 1 + 1 < wr.heap.size := HF.out.1.lt
      obtain ⟨wo, rfl⟩ : ∃ wo : World, wo = wr := ⟨_, rfl⟩
      go_wp2_with fail
      go_loopw [22] (fun jj wr => ∃ k : Nat, k ≤ 16 ∧ jj = .int .i64 k ∧ Hid (Arr wr wo.heap.size 23 .u8 (fil R k)) ∧ Hid (SF w w.heap.size gc K S wr)) (fun jj _ => 16 - (intOf jj).toNat)
      case atStart => exact ⟨0, by omega, rfl, HA7, HF7⟩
      case round =>
        clear HF7 HA7 HF
        obtain ⟨k, hk, rfl, HA, HF⟩ := hrel
        have hfl : Hid ((fil R k).length = 16) := Lib.hid (by rw [fil_len, HRO.out.1])
        by_cases hlt2 : k < 16
        · have hm16 : (k + 4 * (k % 4)) % 16 < 16 := Nat.mod_lt _ (by decide)
          have p1 : ∀ r : BW wr.heap.size wr, r.world.cell? ⟨w.heap.size + 1 + 1 + 1, (k + 4 * (k % 4)) % 16, none⟩ = some (.int .u8 (S.getD ((k + 4 * (k % 4)) % 16) 0)) := fun r => (HF.out.1.belowAll r.below).cell (by rw [HSO.out.1]; exact hm16)
          have p2 : ∀ r : BW wr.heap.size wr, r.world.cell? ⟨w.heap.size, 0, none⟩ = some (.pointer (some ⟨gc, 0, none⟩)) := fun r => (Blk.below HF.out.2.1 r.below (Blk.lt HF.out.2.1)).cell 0
          have hx := HSO.out.2.getD ((k + 4 * (k % 4)) % 16)
          have p3 : ∀ r : BW wr.heap.size wr, r.world.cell? ⟨gc, (S.getD ((k + 4 * (k % 4)) % 16) 0).toNat, none⟩ = some (.int .u8 (sub (S.getD ((k + 4 * (k % 4)) % 16) 0))) := fun r => (HF.out.2.2.2.1.all r.below).box (by omega)
          have c1 := HA.out.cell (i := k) (by rw [hfl.out]; exact hlt2)
          have f1 := HA.out.frozen k
          have HMS := Lib.hid (fil_set (xs := R) (k := k) (by rw [HRO.out.1]; exact hlt2))
          rw [HRG.out k hlt2] at HMS
          generalize S.getD ((k + 4 * (k % 4)) % 16) 0 = x at *
          obtain ⟨hx0, hx1⟩ := hx
          generalize sub x = y at *
          generalize (fil R k).getD k 0 = old at *
          have HA9 : Hid (Arr (wr.drew.setCell ⟨wo.heap.size, k, none⟩ (.int .u8 y)) wo.heap.size 23 .u8 (fil R (k + 1))) := Lib.hid (Arr.cast (Arr.set (w := wr.drew) HA.out k y) HMS.out)
          have HF9 : Hid (SF w w.heap.size gc K S (wr.drew.setCell ⟨wo.heap.size, k, none⟩ (.int .u8 y))) := Lib.hid (sf_far HF.out.drew (by omega) k (.int .u8 y))
          go_wp2_with fail
          refine wp_region_mixOB wr.heap.size [([0, 1, 2, 3, 4, 5, 6, 7, 8, 9, 10, 11, 12, 13, 14], 15)] (by kernel_rfl) (by kernel_rfl) (by kernel_rfl) (by kernel_rfl) (by kernel_rfl) ?_
          try (rw [put_none])
          simp only [pickL, List.map_cons, List.map_nil, List.filterMap_cons, List.filterMap_nil, List.getElem?_cons_succ, List.getElem?_cons_zero]
          refine mixO_cons ?_
          repeat (show wpQuiet _ _ _ _ (_ :: _) _; go_big_quiet_step (fail))
          refine wpQuiet_nil ?_
          show wpList _ _ _ [_] _ _
          go_wp2_with fail
          refine MixO.last ?_
          refine mixO_nil ?_
          refine wpQuiet_nil ?_
          refine NoPanic.normal ?_
          clear p1 p2 p3 c1 f1 HMS hfl
          go_wp2_with fail
          go_roundw
          case rel => exact ⟨k + 1, by omega, by go_num, HA9, HF9⟩
          case measure => simp [intOf]; omega
        · have hk16 : k = 16 := by omega
          have HA2 : Hid (Arr wr wo.heap.size 23 .u8 R) := Lib.hid (Arr.cast HA.out (by rw [hk16]; have := fil_full R; rw [HRO.out.1] at this; exact this))
          have L41 := Lib.hid (arr_load HA2.out Try.underlying23 sizeE16 HRO.out.1.symm)
          obtain ⟨w8, hs8, hz8, hg8⟩ := blk_storeAll (P := Try.prog) (ty := 23) (vs := iv .u8 R) HF.out.1 (by rw [iv_len, HRO.out.1, List.size_toArray, List.length_map, HSO.out.1]) (iv_one _ _) (by rw [iv_len, HRO.out.1]; exact sizeE16)
          have S8 := Lib.hid hs8
          have F8 := Lib.hid (HF.out.put hz8 hg8)
          clear hs8 hz8 hg8 hk16 HA HA2 hfl HF
          have hw8 : w.heap.size ≤ w8.heap.size := F8.out.2.2.2.2.2.size
          by_cases h10 : n < 10
          · rw [if_pos h10] at HAS
            have hd10 : decide ((n : Int) < 10) = true := decide_eq_true (by omega)
            go_wp2_with (first
              | ((with_reducible (show wpList _ _ _ (⟨some 41, .load _ _, _, _, _, _⟩ :: _) _ _)); refine wpList_loadV (o := ⟨some 41, .load _ _, _, _, _, _⟩) rfl _ rfl rfl (L41.out) ?_)
              | ((with_reducible (show wpList _ _ _ (⟨none, .store 23 _ _, _, _, _, _⟩ :: _) _ _)); refine wpList_storeV (o := ⟨none, .store 23 _ _, _, _, _, _⟩) rfl _ _ rfl rfl rfl (S8.out) ?_))
            go_loopw [10] (fun jj wr => ∃ (m : Nat) (jv : Int), m ≤ 4 ∧ jv = 4 * m ∧ jj = .int .i64 jv ∧ Hid (SF w w.heap.size gc K (mcs R m) wr)) (fun jj _ => 16 - (intOf jj).toNat)
            case atStart => exact ⟨0, 0, by omega, rfl, rfl, Lib.hid (by rw [mcs_zero]; exact F8.out)⟩
            case round =>
              clear F8 L41 S8
              obtain ⟨m, jv, hm, hjv, rfl, HFm⟩ := hrel
              rcases (show m = 0 ∨ m = 1 ∨ m = 2 ∨ m = 3 ∨ m = 4 by omega) with rfl | rfl | rfl | rfl | rfl
              · obtain rfl : jv = 0 := by omega
                clear hjv hm
                go_wp2_with fail
                refine Calls.mono (mix_any (w.heap.size + 1 + 1 + 1) 0 _ (mcs R 0) _ (mcs_ok HRO.out 0 (by decide)) (by decide) HFm.out.1) ?_
                rintro e w9 ⟨⟨u9, rfl⟩, ha9, hg9⟩
                have F9 : Hid (SF w w.heap.size gc K (mcs R 1) w9) := Lib.hid (by rw [mcs_succ]; exact HFm.out.put ha9 hg9)
                clear ha9 hg9
                go_wp2_with fail
                go_roundw
                case rel => exact ⟨1, _, by omega, rfl, rfl, F9⟩
                case measure => simp [intOf]
              · obtain rfl : jv = 4 := by omega
                clear hjv hm
                go_wp2_with fail
                refine Calls.mono (mix_any (w.heap.size + 1 + 1 + 1) 4 _ (mcs R 1) _ (mcs_ok HRO.out 1 (by decide)) (by decide) HFm.out.1) ?_
                rintro e w9 ⟨⟨u9, rfl⟩, ha9, hg9⟩
                have F9 : Hid (SF w w.heap.size gc K (mcs R 2) w9) := Lib.hid (by rw [mcs_succ]; exact HFm.out.put ha9 hg9)
                clear ha9 hg9
                go_wp2_with fail
                go_roundw
                case rel => exact ⟨2, _, by omega, rfl, rfl, F9⟩
                case measure => simp [intOf]
              · obtain rfl : jv = 8 := by omega
                clear hjv hm
                go_wp2_with fail
                refine Calls.mono (mix_any (w.heap.size + 1 + 1 + 1) 8 _ (mcs R 2) _ (mcs_ok HRO.out 2 (by decide)) (by decide) HFm.out.1) ?_
                rintro e w9 ⟨⟨u9, rfl⟩, ha9, hg9⟩
                have F9 : Hid (SF w w.heap.size gc K (mcs R 3) w9) := Lib.hid (by rw [mcs_succ]; exact HFm.out.put ha9 hg9)
                clear ha9 hg9
                go_wp2_with fail
                go_roundw
                case rel => exact ⟨3, _, by omega, rfl, rfl, F9⟩
                case measure => simp [intOf]
              · obtain rfl : jv = 12 := by omega
                clear hjv hm
                go_wp2_with fail
                refine Calls.mono (mix_any (w.heap.size + 1 + 1 + 1) 12 _ (mcs R 3) _ (mcs_ok HRO.out 3 (by decide)) (by decide) HFm.out.1) ?_
                rintro e w9 ⟨⟨u9, rfl⟩, ha9, hg9⟩
                have F9 : Hid (SF w w.heap.size gc K (mcs R 4) w9) := Lib.hid (by rw [mcs_succ]; exact HFm.out.put ha9 hg9)
                clear ha9 hg9
                go_wp2_with fail
                go_roundw
                case rel => exact ⟨4, _, by omega, rfl, rfl, F9⟩
                case measure => simp [intOf]
              · obtain rfl : jv = 16 := by omega
                clear hjv hm
                have FM : Hid (SF w w.heap.size gc K (mcolL R) wr) := Lib.hid (by rw [← mcs_all]; exact HFm.out)
                have HMO := Lib.hid (mcolL_ok HRO.out)
                clear HFm
                go_wp2_with fail
                refine Calls.mono (ADD.out n n _ _ rfl (by omega) HMO.out FM.out) ?_
                rintro e w9 ⟨⟨u9, rfl⟩, hf9⟩
                rw [← HAS.out] at hf9
                have F9 : Hid (SF w w.heap.size gc K (arnd (wkL K) s (n + 1 - 1)) w9) := Lib.hid hf9
                clear hf9
                go_wp2_with fail
                go_roundw
                case rel => exact ⟨n + 1, by omega, by omega, by go_num, F9⟩
                case measure => simp [intOf]; omega
          · rw [if_neg h10] at HAS
            go_wp2_with (first
              | ((with_reducible (show wpList _ _ _ (⟨some 41, .load _ _, _, _, _, _⟩ :: _) _ _)); refine wpList_loadV (o := ⟨some 41, .load _ _, _, _, _, _⟩) rfl _ rfl rfl (L41.out) ?_)
              | ((with_reducible (show wpList _ _ _ (⟨none, .store 23 _ _, _, _, _, _⟩ :: _) _ _)); refine wpList_storeV (o := ⟨none, .store 23 _ _, _, _, _, _⟩) rfl _ _ rfl rfl rfl (S8.out) ?_))
            refine Calls.mono (ADD.out n n _ _ rfl (by omega) HRO.out F8.out) ?_
            rintro e w9 ⟨⟨u9, rfl⟩, hf9⟩
            rw [← HAS.out] at hf9
            have F9 : Hid (SF w w.heap.size gc K (arnd (wkL K) s (n + 1 - 1)) w9) := Lib.hid hf9
            clear hf9 F8 S8 L41
            go_wp2_with fail
            go_roundw
            case rel => exact ⟨n + 1, by omega, by omega, by go_num, F9⟩
            case measure => simp [intOf]; omega
    · have hn11 : n = 11 := by omega
      have HE := Lib.hid (aesL_eq K s)
      have HL := Lib.hid (HR0.out 10 (by decide))
      have HF2 : Hid (SF w w.heap.size gc K (arnd (wkL K) s 10) wr) := Lib.hid (by have h := HF.out; rw [hn11] at h; exact h)
      have HSE : Hid (aesL K s = arnd (wkL K) s 10) := Lib.hid (by rw [HE.out]; rfl)
      clear HF HE hn11
      generalize arnd (wkL K) s 10 = S at *
      have L56 := Lib.hid (arr_load HF2.out.1 Try.underlying23 sizeE16 HL.out.1.symm)
      obtain ⟨w8, hs8, hz8, hg8⟩ := blk_storeAll (P := Try.prog) (ty := 23) (vs := iv .u8 S) HF2.out.2.2.1 (by rw [iv_len, HL.out.1, cellsL_size, nul_len]) (iv_one _ _) (by rw [iv_len, HL.out.1]; exact sizeE16)
      have S8 := Lib.hid hs8
      have Z8 := Lib.hid hz8
      have B8 := Lib.hid (HF2.out.2.2.2.2.2.trans (below_of_only hg8 (by omega) HF2.out.2.2.2.2.2.size))
      clear hs8 hz8 hg8
      go_wp2_with (first
        | ((with_reducible (show wpList _ _ _ (⟨some 56, .load _ _, _, _, _, _⟩ :: _) _ _)); refine wpList_loadV (o := ⟨some 56, .load _ _, _, _, _, _⟩) rfl _ rfl rfl (L56.out) ?_)
        | ((with_reducible (show wpList _ _ _ (⟨none, .store 23 _ _, _, _, _, _⟩ :: _) _ _)); refine wpList_storeV (o := ⟨none, .store 23 _ _, _, _, _, _⟩) rfl _ _ rfl rfl rfl (S8.out) ?_))
      refine ret_row rfl rfl Z8.out Try.underlying23 rfl (by rw [List.size_toArray, iv_len, HL.out.1]; exact sizeE16) rfl ⟨by rw [HSE.out]; rfl, B8.out⟩
end Go.Proofs.Ythpacdondnenmaa
/- Contracts: the cipher that is none; the law's own known of layer 8. Conditions: as each theorem states them. -/
namespace Go.Proofs.Ythpacdondnenmaa
open Go.RowKit
set_option maxRecDepth 100000 in
theorem aseal_nil (s : List Int) (w : World) (hs : s.length = 16) : Calls Try.prog 58 #[.pointer none, .agg (cellsL .u8 s)] w (RetV (.agg (cellsL .u8 (nul 16))) w) := by
  have HS := Lib.hid hs
  clear hs
  have HB : Hid (Try.prog.built 23 [] = some (cellsL .u8 (nul 16))) := Lib.hid (by kernel_rfl)
  have Z3 : Hid (Blk (((w.alloc (.cells #[.pointer none] 96)).alloc (.cells (cellsL .u8 s) 23)).alloc (.cells (cellsL .u8 (nul 16)) 23)) (w.heap.size + 1 + 1) 23 (cellsL .u8 (nul 16))) := Lib.hid (blk_newAt (by simp))
  have B3 : Hid (Below w.heap.size w (((w.alloc (.cells #[.pointer none] 96)).alloc (.cells (cellsL .u8 s) 23)).alloc (.cells (cellsL .u8 (nul 16)) 23))) := Lib.hid ((((Below.refl _ _).alloc (Nat.le_refl _) _).alloc (by simp) _).alloc (by simp <;> omega) _)
  obtain ⟨w8, hs8, hz8, hg8⟩ := blk_storeAll (P := Try.prog) (ty := 23) (vs := iv .u8 (nul 16)) Z3.out (by rw [iv_len, nul_len, cellsL_size, nul_len]) (iv_one _ _) (by rw [iv_len, nul_len]; exact sizeE16)
  have S8 := Lib.hid hs8
  have K8 := Lib.hid hz8
  have B8 := Lib.hid (B3.out.trans (below_of_only hg8 (by omega) (by simp <;> omega)))
  clear hs8 hz8 hg8
  go_enter Try.func58, Try.ntmps58
  go_wp2_with (first
    | ((with_reducible (show wpList _ _ _ (⟨some 13, _, _, _, _, _⟩ :: _) _ _)); refine wpList_buildV (o := ⟨some 13, _, _, _, _, _⟩) rfl _ rfl HB.out ?_)
    | ((with_reducible (show wpList _ _ _ (⟨none, .store 23 _ _, _, _, _, _⟩ :: _) _ _)); refine wpList_storeV (o := ⟨none, .store 23 _ _, _, _, _, _⟩) rfl _ _ rfl rfl rfl (S8.out) ?_))
  refine ret_row rfl rfl K8.out Try.underlying23 rfl (by rw [List.size_toArray, iv_len, nul_len]; exact sizeE16) rfl ⟨rfl, B8.out⟩
def keyX : List Int := [0, 1, 2, 3, 4, 5, 6, 7, 8, 9, 10, 11, 12, 13, 14, 15]
def blkX : List Int := [0, 17, 34, 51, 68, 85, 102, 119, 136, 153, 170, 187, 204, 221, 238, 255]
def outX : List Int := [105, 196, 224, 216, 106, 123, 4, 48, 216, 205, 183, 128, 112, 180, 197, 90]
theorem keyX_ok : Blk16 keyX := ⟨rfl, by intro x hx; simp [keyX] at hx; omega⟩
theorem blkX_ok : Blk16 blkX := ⟨rfl, by intro x hx; simp [blkX] at hx; omega⟩
theorem outX_eq : aesL keyX blkX = outX := aes_known
theorem outX_str : strOfNums outX = ⟨#[105, 196, 224, 216, 106, 123, 4, 48, 216, 205, 183, 128, 112, 180, 197, 90]⟩ := by kernel_rfl
theorem keyX_at : ∀ k, k < 16 → keyX.getD k 0 = (k : Int) := by decide
theorem blkX_at : ∀ k, k < 16 → blkX.getD k 0 = 17 * (k : Int) := by decide
theorem elB8 : ElT Try.prog 28 5 .u8 1 := ⟨Try.underlying28, Try.underlying5, by kernel_rfl, by decide⟩
theorem al16 (o : Oper) (ho : o.op = .alloc 23) (ρ : Operand → Value) (w : World) : (execOp ρ o).run Try.prog w = .ok (.value (ptr0 w.heap.size)) (w.alloc (.cells (cellsL .u8 (nul 16)) 23)) := by
  obtain ⟨d, op, ty, p, af, g⟩ := o
  simp only at ho
  subst ho
  have h : ∀ w, (zeroValue 23).run Try.prog w = .ok (.agg (cellsL .u8 (nul 16))) w := fun w => by kernel_rfl
  unfold execOp
  simp [Instr.alloc, h, go_sem]
  rfl
theorem subX : sub 0 = 99 ∧ sub 83 = 237 ∧ sub 255 = 22 := boxL_known
theorem eql16E {X Y : List Int} (hX : X.length = 16) (hY : Y.length = 16) (hbX : Byt X) (hbY : Byt Y) (w : World) : (binOp .eql 23 (.agg (cellsL .u8 X)) (.agg (cellsL .u8 Y))).run Try.prog w = .ok (.bool (decide (X = Y))) w :=
  eql_bytes Try.underlying23 Try.underlying5 elB8.size hbX hbY hX.symm hY.symm w
theorem nul_byt (n : Nat) : Byt (nul n) := fun x hx => by have := (List.mem_replicate.1 hx).2; omega
theorem conv_nE {B : Nat} {w : World} {A : Option Addr} {xs : List Int} {n : Nat} (hr : Rd B .u8 w A xs) (hn : xs.length = n) (c : Nat) : (convert 28 9 (.slice A n c)).run Try.prog w = .ok (.string (strOfNums xs)) w := by
  subst hn; exact conv_rd elB8 Try.underlying9 hr c
end Go.Proofs.Ythpacdondnenmaa
