/- Contract: aes.keys. Conditions: as each theorem states them. -/
import Derived.Test.YtepkbllcaeceeaaE8
import Derived.Test.YtepkbllcaeceeaaE9
import Derived.Test.YtepkbllcaeceeaaCP
namespace Go.Proofs.Ytepkbllcaeceeaa
open Go.RowKit
def nul (n : Nat) : List Int := List.replicate n 0
theorem nul_len (n : Nat) : (nul n).length = n := by simp [nul]
theorem z40 : Try.zeroCells40 = cellsL .u8 (nul 176) := by kernel_rfl
theorem z99 : Try.zeroCells99 = cellsL .u8 (nul 176) := by kernel_rfl
theorem size40 : (Try.prog.info? 40).map (·.size) = some 176 := by kernel_rfl
theorem size99 : (Try.prog.info? 99).map (·.size) = some 176 := by kernel_rfl
theorem sizeE16 : (Try.prog.info? 32).map (·.size) = some 16 := by kernel_rfl
theorem sizeE4 : (Try.prog.info? 98).map (·.size) = some 4 := by kernel_rfl
theorem sizeE1 : (Try.prog.info? 5).map (·.size) = some 1 := by kernel_rfl
/-- the box stands at the head of block g -/
def Bx (w : World) (g : Nat) : Prop := g < w.heap.size ∧ ∀ i, i < 256 → w.cell? ⟨g, i, none⟩ = some (.int .u8 (boxL.getD i 0))
theorem Bx.below {w w' : World} {g N : Nat} (h : Bx w g) (hb : Below N w w') (hN : g < N) : Bx w' g := ⟨Nat.lt_of_lt_of_le h.1 hb.size, fun i hi => Below.cell_some hb (h.2 i hi) hN⟩
theorem Bx.all {w w' : World} {g : Nat} (h : Bx w g) (hb : Below w.heap.size w w') : Bx w' g := h.below hb h.1
theorem Bx.of_arr {w : World} {g : Nat} {t : TypeId} (h : Arr w g t .u8 boxL) : Bx w g := ⟨h.lt, fun i hi => h.cell (by rw [boxL_len]; exact hi)⟩
theorem blk_newAt {w : World} {cs : Array Value} {t : TypeId} {g : Nat} (hg : w.heap.size = g) : Blk (w.alloc (.cells cs t)) g t cs := by subst hg; exact Blk.new _ _ _
/-- the frame: the key, the result's place, the columns so far -/
def KF (w0 : World) (b : Nat) (K xs : List Int) (w : World) : Prop := Arr w b 32 .u8 K ∧ Blk w (b + 1) 40 Try.zeroCells40 ∧ Arr w (b + 1 + 1) 99 .u8 (flN 176 xs) ∧ Below b w0 w
theorem KF.below {w0 w w' : World} {b : Nat} {K xs : List Int} (h : KF w0 b K xs w) (hb : Below w.heap.size w w') : KF w0 b K xs w' :=
  ⟨h.1.belowAll hb, h.2.1.below hb h.2.1.lt, h.2.2.1.belowAll hb, h.2.2.2.trans (hb.mono (Nat.le_of_lt h.1.lt))⟩
theorem KF.put {w0 w w' : World} {b : Nat} {K xs ys : List Int} (h : KF w0 b K xs w) (hk : Arr w' (b + 1 + 1) 99 .u8 (flN 176 ys)) (hg : w.grownBy w' (some (b + 1 + 1))) : KF w0 b K ys w' :=
  ⟨h.1.grown hg (by simp; omega), h.2.1.grown hg (by simp), hk, h.2.2.2.trans (below_of_only hg (by omega) (Nat.le_of_lt h.1.lt))⟩
theorem keys_full {K : List Int} (h : Blk16 K) : (wkL K).length = 176 := wkL_len h
theorem kcol_getD (w : List Int) (c : Int) (i : Nat) {j : Nat} (hj : j < 4) : (kcol w c i).getD j 0 = kn w c i j := by
  unfold kcol
  rcases (show j = 0 ∨ j = 1 ∨ j = 2 ∨ j = 3 by omega) with rfl | rfl | rfl | rfl <;> rfl
theorem append_getDl {a : List Int} (b : List Int) {i : Nat} (h : i < a.length) : (a ++ b).getD i 0 = a.getD i 0 := by
  rw [List.getD_eq_getElem?_getD, List.getElem?_append_left h, List.getD_eq_getElem?_getD]
theorem four_of {xs : List Int} {o : Nat} (h : o + 4 ≤ xs.length) : (xs.drop o).take 4 = [xs.getD o 0, xs.getD (o + 1) 0, xs.getD (o + 2) 0, xs.getD (o + 3) 0] := by
  rw [List.drop_eq_getElem_cons (by omega), List.drop_eq_getElem_cons (by omega), List.drop_eq_getElem_cons (by omega), List.drop_eq_getElem_cons (by omega)]
  simp only [List.take_succ_cons, List.take_zero, getD_el (show o < xs.length by omega), getD_el (show o + 1 < xs.length by omega), getD_el (show o + 2 < xs.length by omega), getD_el (show o + 3 < xs.length by omega)]
set_option maxRecDepth 100000 in
set_option maxHeartbeats 8000000 in
theorem keys_any (gb : Nat) (K : List Int) (w : World) (hK : Blk16 K) (hb : Bx w gb) : Calls Try.prog 53 #[.pointer (some ⟨gb, 0, none⟩), .agg (cellsL .u8 K)] w fun e w' => e = .returned (.agg (cellsL .u8 (wkL K))) ∧ Below w.heap.size w w' := by
  have HK := Lib.hid hK
  have HB := Lib.hid hb
  have hgb := hb.1
  clear hK hb
  go_enter Try.func53, Try.ntmps53
  go_wp2_with fail
  have F0 : Hid (KF w w.heap.size K [] (((w.alloc (.cells (cellsL .u8 K) 32)).alloc (.cells Try.zeroCells40 40)).alloc (.cells Try.zeroCells99 99))) := Lib.hid ⟨((Arr.newAt rfl rfl).alloc _).alloc _, (blk_newAt (by simp)).alloc _, by rw [flN_nil]; exact Arr.newAt (by simp) z99, (((Below.refl _ _).alloc (Nat.le_refl _) _).alloc (by simp) _).alloc (by simp <;> omega) _⟩
  go_loopw [14] (fun j wr => ∃ k : Nat, k ≤ 4 ∧ j = .int .i64 k ∧ Hid (KF w w.heap.size K (K.take (4 * k)) wr)) (fun j _ => 4 - (intOf j).toNat)
  case atStart => exact ⟨0, by omega, rfl, F0⟩
  case round =>
    obtain ⟨k, hk, rfl, HF⟩ := hrel
    have HKL := Lib.hid HK.out.1
    by_cases hlt : k < 4
    · have q0 : (0 : Int) ≤ 4 * (k : Int) := by omega
      have q1 : 4 * (k : Int) ≤ 16 := by omega
      have q2 : 4 * (k : Int) < 16 := by omega
      go_wp2_with fail
      refine wp_region_mixOB wr.heap.size [([0, 1, 2, 3, 4, 5], 6)] (by kernel_rfl) (by kernel_rfl) (by kernel_rfl) (by kernel_rfl) (by kernel_rfl) ?_
      try (rw [put_none])
      simp only [pickL, List.map_cons, List.map_nil, List.filterMap_cons, List.filterMap_nil, List.getElem?_cons_succ, List.getElem?_cons_zero]
      refine mixO_cons ?_
      repeat (show wpQuiet _ _ _ _ (_ :: _) _; go_big_quiet_step (fail))
      refine wpQuiet_nil ?_
      show wpList _ _ _ [_] _ _
      have hkl : (K.take (4 * k)).length = k * 4 := by rw [List.length_take, HKL.out]; omega
      have HKT := Lib.hid hkl
      have HKD : Hid ((K.drop (4 * k)).length = 16 - 4 * k) := Lib.hid (by rw [List.length_drop, HKL.out])
      have HOV : Hid (ovi (flN 176 (K.take (4 * k))) (k * 4) ((K.drop (4 * k)).take 4) = flN 176 (K.take (4 * (k + 1)))) := Lib.hid (by
        rw [← hkl, ovi_flN (by rw [hkl, List.length_take, HKD.out]; omega), show 4 * (k + 1) = 4 * k + 4 by omega, List.take_add])
      have HFL : Hid ((flN 176 (K.take (4 * k))).length = 176) := Lib.hid (flN_len (by rw [hkl]; omega))
      clear hkl
      go_wp2_with ((with_reducible (show wpList _ _ _ (⟨some 23, _, _, _, _, _⟩ :: _) _ _)); refine wpList_copyAt (o := ⟨some 23, _, _, _, _, _⟩) (m := 4) rfl _ _ rfl Try.underlying28 sizeE1 rfl rfl (Arr.drew HF.out.2.2.1) (Rd.drew (arr_rdAt HF.out.1 (4 * k))) HKD.out ?_ ?_ ?_; (show 4 = min _ _; omega); (rw [HFL.out]; omega); intro w4 ha4 hg4; rw [HOV.out] at ha4; have HA4 := Lib.hid ha4; have HG4 := Lib.hid hg4; clear ha4 hg4)
      have HF4 := Lib.hid (KF.put (w := wr.drew) ⟨HF.out.1, HF.out.2.1, HF.out.2.2.1, HF.out.2.2.2.drew⟩ HA4.out HG4.out)
      clear HOV HFL HKT HKD HA4 HG4
      refine MixO.last ?_
      refine mixO_nil ?_
      refine wpQuiet_nil ?_
      refine NoPanic.normal ?_
      go_wp2_with fail
      go_roundw
      case rel => exact ⟨k + 1, by omega, by go_num, HF4⟩
      case measure => simp [intOf]; omega
    · have hk4 : k = 4 := by omega
      have HF1 : Hid (KF w w.heap.size K (kexp K (4 - 4)).1 wr) := Lib.hid (by have h := HF.out; rw [hk4, List.take_of_length_le (by rw [HKL.out]; decide)] at h; rw [kexp_zero]; exact h)
      have HC1 : Hid ((1 : Int) = (kexp K (4 - 4)).2) := Lib.hid (by rw [kexp_zero])
      have HBX : Hid (Bx wr gb) := Lib.hid (HB.out.below HF.out.2.2.2 hgb)
      have hb3 : w.heap.size + 1 + 1 < wr.heap.size := HF.out.2.2.1.lt
      obtain ⟨w1, rfl⟩ : ∃ w1 : World, w1 = wr := ⟨_, rfl⟩
      obtain ⟨k1, rfl⟩ : ∃ k1 : Nat, k1 = k := ⟨_, rfl⟩
      clear HF hk4 F0
      go_wp2_with fail
      go_loopw [7, 8] (fun u j wr => ∃ (k : Nat) (c : Int), 4 ≤ k ∧ k ≤ 44 ∧ j = .int .i64 k ∧ u = .int .u8 c ∧ Hid (c = (kexp K (k - 4)).2) ∧ Hid (KF w w.heap.size K (kexp K (k - 4)).1 wr) ∧ Hid (Bx wr gb)) (fun _ j _ => 44 - (intOf j).toNat)
      case atStart => exact ⟨4, 1, by omega, by omega, rfl, rfl, HC1, HF1, HBX⟩
      case round =>
        clear HF1 HC1 HBX hlt hk
        obtain ⟨k, c, hk4, hk, rfl, rfl, HC, HF, HX⟩ := hrel
        by_cases hlt : k < 44
        · have HOK := Lib.hid (kexp_ok HK.out (k - 4))
          have HKX := Lib.hid (kexp_succ K (k - 4))
          have hx8 : B8 c := by rw [HC.out]; exact HOK.out.2.2
          have HC8 := Lib.hid hx8
          obtain ⟨hc0, hc1⟩ := hx8
          rw [← HC.out] at HKX HOK
          generalize (kexp K (k - 4)).1 = xs at *
          have HXL : Hid (xs.length = 4 * k) := Lib.hid (by have := HOK.out.1; omega)
          have HXB := Lib.hid HOK.out.2.1
          have hl32 : (Instr.loadAt 98 (.pointer (some ⟨w.heap.size + 1 + 1, (k - 1) * 4, none⟩))).run Try.prog wr = .ok (.agg (cellsL .u8 [xs.getD ((k - 1) * 4) 0, xs.getD ((k - 1) * 4 + 1) 0, xs.getD ((k - 1) * 4 + 2) 0, xs.getD ((k - 1) * 4 + 3) 0])) wr := by
            have := arr_loadMid (o := (k - 1) * 4) HF.out.2.2.1 Try.underlying98 sizeE4 (by rw [flN_len (by rw [HXL.out]; omega)]; omega)
            rwa [flN_drop xs (by rw [HXL.out]; omega), four_of (by rw [HXL.out]; omega)] at this
          have g0 := HXB.out.getD ((k - 1) * 4)
          have g1 := HXB.out.getD ((k - 1) * 4 + 1)
          have g2 := HXB.out.getD ((k - 1) * 4 + 2)
          have g3 := HXB.out.getD ((k - 1) * 4 + 3)
          obtain ⟨t0, ht0⟩ : ∃ t, xs.getD ((k - 1) * 4) 0 = t := ⟨_, rfl⟩
          obtain ⟨t1, ht1⟩ : ∃ t, xs.getD ((k - 1) * 4 + 1) 0 = t := ⟨_, rfl⟩
          obtain ⟨t2, ht2⟩ : ∃ t, xs.getD ((k - 1) * 4 + 2) 0 = t := ⟨_, rfl⟩
          obtain ⟨t3, ht3⟩ : ∃ t, xs.getD ((k - 1) * 4 + 3) 0 = t := ⟨_, rfl⟩
          rw [ht0, ht1, ht2, ht3] at hl32
          rw [ht0] at g0
          rw [ht1] at g1
          rw [ht2] at g2
          rw [ht3] at g3
          have L32 := Lib.hid hl32
          have HT0 := Lib.hid ht0
          have HT1 := Lib.hid ht1
          have HT2 := Lib.hid ht2
          have HT3 := Lib.hid ht3
          obtain ⟨g00, g01⟩ := g0
          obtain ⟨g10, g11⟩ := g1
          obtain ⟨g20, g21⟩ := g2
          obtain ⟨g30, g31⟩ := g3
          have hgw : w.heap.size + 1 + 1 < wr.heap.size := HF.out.2.2.1.lt
          clear hl32 ht0 ht1 ht2 ht3
          by_cases h4 : k % 4 = 0
          case' pos =>
            have h4i : (k : Int) % 4 = 0 := by omega
            go_wp2_with (first
              | ((with_reducible (show wpList _ _ _ (⟨some 32, .load _ _, _, _, _, _⟩ :: _) _ _)); refine wpList_loadV (o := ⟨some 32, .load _ _, _, _, _, _⟩) rfl _ rfl rfl (L32.out) ?_)
              | (((with_reducible (show wpList _ _ _ (⟨none, .store 98 _ _, _, _, _, _⟩ :: _) _ _)); refine wpList_storeArr (o := ⟨none, .store 98 _ _, _, _, _, _⟩) (g := wr.heap.size) (t := 98) (k := .u8) (xs := [t0, t1, t2, t3]) (n := 4) rfl _ _ rfl rfl rfl (Blk.new _ _ _) sizeE4 (rfl) rfl ?_; intro w5 ha5 hg5; have HA5 := Lib.hid ha5; have HG5 := Lib.hid hg5; clear ha5 hg5); have BW5 := Lib.hid (((Below.refl wr.heap.size wr).alloc (Nat.le_refl _) _).trans (below_of_only HG5.out (Nat.le_refl _) (by simp))); have HF5 := Lib.hid (HF.out.below BW5.out); have HX5 := Lib.hid (HX.out.all BW5.out)))
            have hg5 : wr.heap.size < w5.heap.size := HA5.out.lt
            have e0 : ∀ r : BW w5.heap.size w5, r.world.cell? ⟨wr.heap.size, 0, none⟩ = some (.int .u8 t0) := fun r => (HA5.out.below r.below hg5).cell (i := 0) (by simp)
            have e1 : ∀ r : BW w5.heap.size w5, r.world.cell? ⟨wr.heap.size, 1, none⟩ = some (.int .u8 t1) := fun r => (HA5.out.below r.below hg5).cell (i := 1) (by simp)
            have e2 : ∀ r : BW w5.heap.size w5, r.world.cell? ⟨wr.heap.size, 2, none⟩ = some (.int .u8 t2) := fun r => (HA5.out.below r.below hg5).cell (i := 2) (by simp)
            have e3 : ∀ r : BW w5.heap.size w5, r.world.cell? ⟨wr.heap.size, 3, none⟩ = some (.int .u8 t3) := fun r => (HA5.out.below r.below hg5).cell (i := 3) (by simp)
            have b0 : ∀ r : BW w5.heap.size w5, r.world.cell? ⟨gb, t0.toNat, none⟩ = some (.int .u8 (sub t0)) := fun r => (HX5.out.below r.below HX5.out.1).2 _ (by omega)
            have b1 : ∀ r : BW w5.heap.size w5, r.world.cell? ⟨gb, t1.toNat, none⟩ = some (.int .u8 (sub t1)) := fun r => (HX5.out.below r.below HX5.out.1).2 _ (by omega)
            have b2 : ∀ r : BW w5.heap.size w5, r.world.cell? ⟨gb, t2.toNat, none⟩ = some (.int .u8 (sub t2)) := fun r => (HX5.out.below r.below HX5.out.1).2 _ (by omega)
            have b3 : ∀ r : BW w5.heap.size w5, r.world.cell? ⟨gb, t3.toNat, none⟩ = some (.int .u8 (sub t3)) := fun r => (HX5.out.below r.below HX5.out.1).2 _ (by omega)
            refine wp_region_mixOB w5.heap.size [([0, 1, 2, 3, 4, 5, 6, 7, 8, 9, 10, 11, 12, 13, 14, 15, 16, 17, 18, 19, 20, 21, 22, 23, 24, 25, 26], 27)] (by kernel_rfl) (by kernel_rfl) (by kernel_rfl) (by kernel_rfl) (by kernel_rfl) ?_
            try (rw [put_none])
            simp only [pickL, List.map_cons, List.map_nil, List.filterMap_cons, List.filterMap_nil, List.getElem?_cons_succ, List.getElem?_cons_zero]
            refine mixO_cons ?_
            repeat (show wpQuiet _ _ _ _ (_ :: _) _; go_big_quiet_step (fail))
            obtain ⟨g, hg⟩ : ∃ g, wr.heap.size = g := ⟨_, rfl⟩
            obtain ⟨T, hT⟩ : ∃ T, [bits .xor .u8 (sub t1) c, sub t2, sub t3, sub t0] = T := ⟨_, rfl⟩
            have HTL : Hid (T.length = 4) := Lib.hid (by rw [← hT]; rfl)
            have HTE : Hid (∀ j, j < 4 → T.getD j 0 = kt xs c k j) := Lib.hid (fun j hj => by
              rw [← hT]
              unfold kt
              rw [if_pos h4]
              rcases (show j = 0 ∨ j = 1 ∨ j = 2 ∨ j = 3 by omega) with rfl | rfl | rfl | rfl
              · rw [if_pos rfl, show 4 * k - 3 = (k - 1) * 4 + 1 by omega, HT1.out]; rfl
              · rw [if_neg (by decide), show 4 * k - 4 + (1 + 1) % 4 = (k - 1) * 4 + 2 by omega, HT2.out]; rfl
              · rw [if_neg (by decide), show 4 * k - 4 + (2 + 1) % 4 = (k - 1) * 4 + 3 by omega, HT3.out]; rfl
              · rw [if_neg (by decide), show 4 * k - 4 + (3 + 1) % 4 = (k - 1) * 4 by omega, HT0.out]; rfl)
            obtain ⟨w6, hs6, hz6, hg6⟩ := blk_storeAll (P := Try.prog) (w := w5.drew) (ty := 98) (vs := iv .u8 [bits .xor .u8 (sub t1) c, sub t2, sub t3, sub t0]) HA5.out (by simp [iv]) (iv_one _ _) sizeE4
            have S6 := Lib.hid hs6
            rw [hg] at S6
            have HA6 : Hid (Arr w6 g 98 .u8 T) := Lib.hid (by rw [← hg, ← hT]; exact hz6)
            have HF6 := Lib.hid (HF.out.below (BW5.out.drew.trans (below_of_only hg6 (Nat.le_refl _) (Nat.le_of_lt hg5))))
            have HX6 := Lib.hid (HX.out.all (BW5.out.drew.trans (below_of_only hg6 (Nat.le_refl _) (Nat.le_of_lt hg5))))
            obtain ⟨cc, hcc⟩ : ∃ cc, tw c = cc := ⟨_, rfl⟩
            have HCC : Hid (cc = (kexp K (k - 4 + 1)).2) := Lib.hid (by rw [HKX.out, ← hcc]; show _ = if _ then _ else _; rw [if_pos (by omega)])
            have hgw2 : w.heap.size + 1 + 1 < g := by rw [← hg]; exact hgw
            rw [hg]
            clear hs6 hz6 hg6 e0 e1 e2 e3 b0 b1 b2 b3 hT BW5 HF5 HX5 HA5 HG5 hg5
            refine wpQuiet_nil ?_
            show wpList _ _ _ [_] _ _
            go_wp2_with ((with_reducible (show wpList _ _ _ (⟨none, .store 98 _ _, _, _, _, _⟩ :: _) _ _)); refine wpList_storeV (o := ⟨none, .store 98 _ _, _, _, _, _⟩) rfl _ _ rfl rfl rfl (S6.out) ?_)
            refine MixO.last ?_
            refine mixO_nil ?_
            refine wpQuiet_nil ?_
            refine NoPanic.normal ?_
            go_wp2_with fail
            refine Calls.mono (twice_any c _ HC8.out) ?_
            rintro e w7 ⟨rfl, rfl⟩
            rw [hcc]
            clear S6 hcc h4i h4 hg hgw
          case' neg =>
            have h4i : (k : Int) % 4 ≠ 0 := by omega
            go_wp2_with (first
              | ((with_reducible (show wpList _ _ _ (⟨some 32, .load _ _, _, _, _, _⟩ :: _) _ _)); refine wpList_loadV (o := ⟨some 32, .load _ _, _, _, _, _⟩) rfl _ rfl rfl (L32.out) ?_)
              | (((with_reducible (show wpList _ _ _ (⟨none, .store 98 _ _, _, _, _, _⟩ :: _) _ _)); refine wpList_storeArr (o := ⟨none, .store 98 _ _, _, _, _, _⟩) (g := wr.heap.size) (t := 98) (k := .u8) (xs := [t0, t1, t2, t3]) (n := 4) rfl _ _ rfl rfl rfl (Blk.new _ _ _) sizeE4 (rfl) rfl ?_; intro w5 ha5 hg5; have HA5 := Lib.hid ha5; have HG5 := Lib.hid hg5; clear ha5 hg5); have BW5 := Lib.hid (((Below.refl wr.heap.size wr).alloc (Nat.le_refl _) _).trans (below_of_only HG5.out (Nat.le_refl _) (by simp))); have HF5 := Lib.hid (HF.out.below BW5.out); have HX5 := Lib.hid (HX.out.all BW5.out)))
            obtain ⟨g, hg⟩ : ∃ g, wr.heap.size = g := ⟨_, rfl⟩
            obtain ⟨T, hT⟩ : ∃ T, [t0, t1, t2, t3] = T := ⟨_, rfl⟩
            have HTL : Hid (T.length = 4) := Lib.hid (by rw [← hT]; rfl)
            have HTE : Hid (∀ j, j < 4 → T.getD j 0 = kt xs c k j) := Lib.hid (fun j hj => by
              rw [← hT]
              unfold kt
              rw [if_neg h4]
              rcases (show j = 0 ∨ j = 1 ∨ j = 2 ∨ j = 3 by omega) with rfl | rfl | rfl | rfl
              · rw [show 4 * k - 4 + 0 = (k - 1) * 4 by omega, HT0.out]; rfl
              · rw [show 4 * k - 4 + 1 = (k - 1) * 4 + 1 by omega, HT1.out]; rfl
              · rw [show 4 * k - 4 + 2 = (k - 1) * 4 + 2 by omega, HT2.out]; rfl
              · rw [show 4 * k - 4 + 3 = (k - 1) * 4 + 3 by omega, HT3.out]; rfl)
            obtain ⟨w6, rfl⟩ : ∃ w6 : World, w6 = w5 := ⟨_, rfl⟩
            have HA6 : Hid (Arr w6 g 98 .u8 T) := Lib.hid (by rw [← hg, ← hT]; exact HA5.out)
            have HF6 := HF5
            have HX6 := HX5
            have HCC : Hid (c = (kexp K (k - 4 + 1)).2) := Lib.hid (by rw [HKX.out]; show _ = if _ then _ else _; rw [if_neg (by omega)])
            have hgw2 : w.heap.size + 1 + 1 < g := by rw [← hg]; exact hgw
            rw [hg]
            clear hT BW5 HF5 HX5 HA5 HG5 h4i h4 hg hgw
          all_goals
            have hgW : g < w6.heap.size := HA6.out.lt
            clear L32 HT0 HT1 HT2 HT3 g00 g01 g10 g11 g20 g21 g30 g31
            go_wp2_with fail
            go_loopw [65] (fun jj wi => ∃ j : Nat, j ≤ 4 ∧ jj = .int .i64 j ∧ Hid (KF w w.heap.size K (xs ++ (kcol xs c k).take j) wi) ∧ Hid (Arr wi g 98 .u8 T) ∧ Hid (Bx wi gb)) (fun jj _ => 4 - (intOf jj).toNat)
            case atStart => exact ⟨0, by omega, rfl, Lib.hid (by rw [List.take_zero, List.append_nil]; exact HF6.out), HA6, HX6⟩
            case round =>
              obtain ⟨j, hj, rfl, HFi, HAi, HXi⟩ := hrel
              have HCL : Hid ((kcol xs c k).length = 4) := Lib.hid rfl
              have HTJ : Hid ((xs ++ (kcol xs c k).take j).length = k * 4 + j) := Lib.hid (by rw [List.length_append, List.length_take, HCL.out, HXL.out]; omega)
              by_cases hj4 : j < 4
              · have HN : Hid ((kcol xs c k).getD j 0 = bits .xor .u8 (xs.getD ((k - 4) * 4 + j) 0) (T.getD j 0)) := Lib.hid (by
                  rw [kcol_getD xs c k hj4, HTE.out j hj4]
                  unfold kn
                  rw [show 4 * k - 16 + j = (k - 4) * 4 + j by omega]
                  rfl)
                have HTS := Lib.hid (take_snoc_getD (xs := kcol xs c k) (t := j) (by rw [HCL.out]; exact hj4))
                have p1 : ∀ r : BW wr.heap.size wr, r.world.cell? ⟨w.heap.size + 1 + 1, (k - 4) * 4 + j, none⟩ = some (.int .u8 (xs.getD ((k - 4) * 4 + j) 0)) := fun r => by
                  have h1 := (HFi.out.2.2.1.belowAll r.below).cell (i := (k - 4) * 4 + j) (by rw [flN_len (by rw [HTJ.out]; omega)]; omega)
                  rwa [flN_getD _ (by rw [HTJ.out]; omega), append_getDl _ (by rw [HXL.out]; omega)] at h1
                have p2 : ∀ r : BW wr.heap.size wr, r.world.cell? ⟨g, j, none⟩ = some (.int .u8 (T.getD j 0)) := fun r => (HAi.out.belowAll r.below).cell (by rw [HTL.out]; exact hj4)
                have p3 := HFi.out.2.2.1.cell (i := k * 4 + j) (by rw [flN_len (by rw [HTJ.out]; omega)]; omega)
                have f3 := HFi.out.2.2.1.frozen (k * 4 + j)
                generalize (flN 176 (xs ++ List.take j (kcol xs c k))).getD (k * 4 + j) 0 = old at p3
                have q0 := HXB.out.getD ((k - 4) * 4 + j)
                generalize xs.getD ((k - 4) * 4 + j) 0 = p at *
                generalize T.getD j 0 = q at *
                go_wp2_with fail
                refine wp_region_mixOB wr.heap.size [([0, 1, 2, 3, 4, 5, 6, 7, 8, 9, 10, 11, 12, 13], 14)] (by kernel_rfl) (by kernel_rfl) (by kernel_rfl) (by kernel_rfl) (by kernel_rfl) ?_
                try (rw [put_none])
                simp only [pickL, List.map_cons, List.map_nil, List.filterMap_cons, List.filterMap_nil, List.getElem?_cons_succ, List.getElem?_cons_zero]
                refine mixO_cons ?_
                repeat (show wpQuiet _ _ _ _ (_ :: _) _; go_big_quiet_step (fail))
                refine wpQuiet_nil ?_
                show wpList _ _ _ [_] _ _
                go_wp2_with fail
                refine MixO.last ?_
                refine mixO_nil ?_
                refine wpQuiet_nil ?_
                refine NoPanic.normal ?_
                have HNW : Hid (flN 176 (xs ++ (kcol xs c k).take (j + 1)) = (flN 176 (xs ++ (kcol xs c k).take j)).set (k * 4 + j) (bits .xor .u8 p q)) := Lib.hid (by
                  rw [← HTJ.out, set_flN _ (by rw [HTJ.out]; omega), HTS.out, ← List.append_assoc, HN.out])
                have HA9 : Hid (Arr (wr.drew.setCell ⟨w.heap.size + 1 + 1, k * 4 + j, none⟩ (.int .u8 (bits .xor .u8 p q))) (w.heap.size + 1 + 1) 99 .u8 (flN 176 (xs ++ (kcol xs c k).take (j + 1)))) := Lib.hid (Arr.cast (Arr.set (w := wr.drew) HFi.out.2.2.1 (k * 4 + j) _) HNW.out.symm)
                have HF9 := Lib.hid (KF.put (w := wr.drew) ⟨HFi.out.1, HFi.out.2.1, HFi.out.2.2.1, HFi.out.2.2.2.drew⟩ HA9.out (only_setCell (World.grownBy.refl _ _) (.inl rfl) _))
                have HA10 : Hid (Arr (wr.drew.setCell ⟨w.heap.size + 1 + 1, k * 4 + j, none⟩ (.int .u8 (bits .xor .u8 p q))) g 98 .u8 T) := Lib.hid (Arr.far (w := wr.drew) HAi.out (by simp; omega) _)
                have HX9 : Hid (Bx (wr.drew.setCell ⟨w.heap.size + 1 + 1, k * 4 + j, none⟩ (.int .u8 (bits .xor .u8 p q))) gb) := Lib.hid (HXi.out.below ((Below.refl w.heap.size wr).drew.setCell (by simp; omega) _) hgb)
                clear p1 p2 p3 f3 HNW HA9 HN HTS
                go_wp2_with fail
                go_roundw
                case rel => exact ⟨j + 1, by omega, by go_num, HF9, HA10, HX9⟩
                case measure => simp [intOf]; omega
              · have hj : j = 4 := by omega
                have HFE : Hid (KF w w.heap.size K (kexp K (k + 1 - 4)).1 wr) := Lib.hid (by
                  have h := HFi.out
                  rw [hj, List.take_of_length_le (by rw [HCL.out]; exact Nat.le_refl _)] at h
                  rw [show k + 1 - 4 = k - 4 + 1 by omega, HKX.out]
                  show KF w w.heap.size K (xs ++ kcol xs c (k - 4 + 4)) wr
                  rw [show k - 4 + 4 = k by omega]
                  exact h)
                clear HFi HTJ hj HAi HX HF
                go_wp2_with fail
                go_roundw
                case rel => exact ⟨k + 1, _, by omega, by omega, by go_num, rfl, Lib.hid (by rw [show k + 1 - 4 = k - 4 + 1 by omega]; exact HCC.out), HFE, HXi⟩
                case measure => simp [intOf]; omega
        · have hk44 : k = 44 := by omega
          have HW := Lib.hid (keys_full HK.out)
          have HWE := Lib.hid (wkL_eq K)
          have HF2 : Hid (KF w w.heap.size K (wkL K) wr) := Lib.hid (by have h := HF.out; rw [hk44] at h; rw [HWE.out]; exact h)
          have HA2 : Hid (Arr wr (w.heap.size + 1 + 1) 99 .u8 (wkL K)) := Lib.hid (Arr.cast HF2.out.2.2.1 (flN_full HW.out))
          have HZ2 := Lib.hid HF2.out.2.1
          have HB2 := Lib.hid HF2.out.2.2.2
          obtain ⟨w2, rfl⟩ : ∃ w2 : World, w2 = wr := ⟨_, rfl⟩
          obtain ⟨k2, rfl⟩ : ∃ k2 : Nat, k2 = k := ⟨_, rfl⟩
          have hb2 : w.heap.size + 1 + 1 < w2.heap.size := HA2.out.lt
          clear HF hk44 HF2 HC HX HWE hk4
          generalize hWK : wkL K = W at *
          have HWK := Lib.hid hWK
          clear hWK
          have L83 : Hid ((Instr.loadAt 99 (.pointer (some ⟨w.heap.size + 1 + 1, 0, none⟩))).run Try.prog (w2.alloc (.cells Try.zeroCells40 40)) = .ok (.agg (cellsL .u8 W)) (w2.alloc (.cells Try.zeroCells40 40))) := Lib.hid (blk_load (cs := cellsL .u8 W) (HA2.out.alloc (.cells Try.zeroCells40 40)) Try.underlying99 rfl (by rw [cellsL_size, HW.out]; exact size99))
          have HO0 : Hid (Arr (w2.alloc (.cells Try.zeroCells40 40)) w2.heap.size 40 .u8 (flN 176 (W.take (4 * 0)))) := Lib.hid (by rw [Nat.mul_zero, List.take_zero, flN_nil]; exact Arr.newAt rfl z40)
          go_wp2_with ((with_reducible (show wpList _ _ _ (⟨some 83, .load _ _, _, _, _, _⟩ :: _) _ _)); refine wpList_loadV (o := ⟨some 83, .load _ _, _, _, _, _⟩) rfl _ rfl rfl (L83.out) ?_)
          clear L83
          go_loopw [84] (fun jj wr => ∃ k : Nat, k ≤ 44 ∧ jj = .int .i64 k ∧ Hid (Arr wr w2.heap.size 40 .u8 (flN 176 (W.take (4 * k)))) ∧ Hid (Below w2.heap.size w2 wr)) (fun jj _ => 44 - (intOf jj).toNat)
          case atStart => exact ⟨0, by omega, rfl, HO0, Lib.hid ((Below.refl _ _).alloc (Nat.le_refl _) _)⟩
          case round =>
            obtain ⟨k, hk, rfl, HO, HB9⟩ := hrel
            have hgo := HO.out.lt
            have hwo := HB9.out.size
            by_cases hlt : k < 44
            · have HIX : Hid (∀ X, (Instr.index 99 (.agg (cellsL .u8 W)) (.int .i64 (k : Int))).run Try.prog X = .ok (.agg (cellsL .u8 ((W.drop (k * 4)).take 4))) X) := Lib.hid (fun X => index_arr Try.underlying99 Try.underlying98 sizeE4 hlt .i64 X)
              have HP4 : Hid (((W.drop (k * 4)).take 4).length = 4) := Lib.hid (by rw [List.length_take, List.length_drop, HW.out]; omega)
              have HPT : Hid (ovi (flN 176 (W.take (4 * k))) (k / 4 * 16 + k % 4 * 4) ((W.drop (k * 4)).take 4) = flN 176 (W.take (4 * (k + 1)))) := Lib.hid (by
                have hl : (W.take (4 * k)).length = 4 * k := by rw [List.length_take, HW.out]; omega
                rw [show k / 4 * 16 + k % 4 * 4 = (W.take (4 * k)).length by rw [hl]; omega, ovi_flN (by rw [hl, HP4.out]; omega), show 4 * (k + 1) = 4 * k + 4 by omega, List.take_add, Nat.mul_comm k 4])
              have HFL : Hid ((flN 176 (W.take (4 * k))).length = 176) := Lib.hid (flN_len (by rw [List.length_take, HW.out]; omega))
              generalize (W.drop (k * 4)).take 4 = P at *
              have i1 := HIX.out
              go_wp2_with ((with_reducible (show wpList _ _ _ (⟨none, .store 98 _ _, _, _, _, _⟩ :: _) _ _)); refine wpList_storeArr (o := ⟨none, .store 98 _ _, _, _, _, _⟩) (g := wr.heap.size) (t := 98) (k := .u8) (xs := P) (n := 4) rfl _ _ rfl rfl rfl (Blk.new _ _ _) sizeE4 (HP4.out.symm) rfl ?_; intro w5 ha5 hg5; have HA5 := Lib.hid ha5; have HG5 := Lib.hid hg5; clear ha5 hg5)
              clear i1 HIX
              have HO5 := Lib.hid ((HO.out.alloc (.cells #[.int .u8 0, .int .u8 0, .int .u8 0, .int .u8 0] 98)).grown HG5.out (by simp; omega))
              have BW5 := Lib.hid (HB9.out.trans ((((Below.refl wr.heap.size wr).alloc (Nat.le_refl _) _).trans (below_of_only HG5.out (Nat.le_refl _) (by simp))).mono hwo))
              have r0 : (0 : Int) ≤ (k : Int) % 4 * 4 := by omega
              have r1 : (k : Int) % 4 * 4 ≤ 16 := by omega
              have r2 : (k : Int) % 4 * 4 < 16 := by omega
              have r3 : (0 : Int) ≤ (k : Int) / 4 := by omega
              have r4 : (k : Int) / 4 < 11 := by omega
              refine wp_region_mixOB w5.heap.size [([0, 1, 2, 3, 4, 5, 6, 7], 8)] (by kernel_rfl) (by kernel_rfl) (by kernel_rfl) (by kernel_rfl) (by kernel_rfl) ?_
              try (rw [put_none])
              simp only [pickL, List.map_cons, List.map_nil, List.filterMap_cons, List.filterMap_nil, List.getElem?_cons_succ, List.getElem?_cons_zero]
              refine mixO_cons ?_
              repeat (show wpQuiet _ _ _ _ (_ :: _) _; go_big_quiet_step (fail))
              refine wpQuiet_nil ?_
              show wpList _ _ _ [_] _ _
              go_wp2_with ((with_reducible (show wpList _ _ _ (⟨some 96, _, _, _, _, _⟩ :: _) _ _)); refine wpList_copyAt (o := ⟨some 96, _, _, _, _, _⟩) (off := k / 4 * 16 + k % 4 * 4) (m := 4) rfl _ _ rfl Try.underlying28 sizeE1 rfl rfl (Arr.drew HO5.out) (Rd.drew HA5.out.rd) HP4.out ?_ ?_ ?_; (show 4 = min _ _; omega); (rw [HFL.out]; omega); intro w6 ha6 hg6; rw [List.take_of_length_le (l := P) (by rw [HP4.out]; exact Nat.le_refl _), HPT.out] at ha6; have HA6 := Lib.hid ha6; have HB6 := Lib.hid (BW5.out.drew.trans (below_of_only hg6 (Nat.le_refl _) BW5.out.size)); clear ha6 hg6)
              refine MixO.last ?_
              refine mixO_nil ?_
              refine wpQuiet_nil ?_
              refine NoPanic.normal ?_
              clear HPT HFL HP4 HO5 BW5 HA5 HG5 r0 r1 r2 r3 r4
              go_wp2_with fail
              go_roundw
              case rel => exact ⟨k + 1, by omega, by go_num, HA6, HB6⟩
              case measure => simp [intOf]; omega
            · have hk : k = 44 := by omega
              have HOF : Hid (Arr wr w2.heap.size 40 .u8 W) := Lib.hid (Arr.cast HO.out (by rw [hk, List.take_of_length_le (by rw [HW.out]; decide)]; exact flN_full HW.out))
              have L98 : Hid ((Instr.loadAt 40 (.pointer (some ⟨w2.heap.size, 0, none⟩))).run Try.prog wr = .ok (.agg (cellsL .u8 W)) wr) := Lib.hid (blk_load (cs := cellsL .u8 W) HOF.out Try.underlying40 rfl (by rw [cellsL_size, HW.out]; exact size40))
              obtain ⟨w6, hs6, hz6, hg6⟩ := blk_storeAll (P := Try.prog) (ty := 40) (vs := iv .u8 W) (HZ2.out.below HB9.out (Blk.lt HZ2.out)) (by rw [iv_len, HW.out]; kernel_rfl) (iv_one _ _) (by rw [iv_len, HW.out]; exact size40)
              have S6 := Lib.hid hs6
              have Z6 := Lib.hid hz6
              have B6 := Lib.hid ((HB2.out.trans (HB9.out.mono HB2.out.size)).trans (below_of_only hg6 (by omega) (Nat.le_trans HB2.out.size HB9.out.size)))
              clear hs6 hz6 hg6 hk HO
              go_wp2_with (first
                | ((with_reducible (show wpList _ _ _ (⟨some 98, .load _ _, _, _, _, _⟩ :: _) _ _)); refine wpList_loadV (o := ⟨some 98, .load _ _, _, _, _, _⟩) rfl _ rfl rfl (L98.out) ?_)
                | ((with_reducible (show wpList _ _ _ (⟨none, .store 40 _ _, _, _, _, _⟩ :: _) _ _)); refine wpList_storeV (o := ⟨none, .store 40 _ _, _, _, _, _⟩) rfl _ _ rfl rfl rfl (S6.out) ?_))
              refine ret_row rfl rfl Z6.out Try.underlying40 rfl (by rw [List.size_toArray, iv_len, HW.out]; exact size40) rfl ⟨by rw [HWK.out]; rfl, B6.out⟩
end Go.Proofs.Ytepkbllcaeceeaa
