/- Contracts of gcm: of. Conditions: as each theorem states them. -/
import Derived.Test.YtepkbllcaeceeaaE12
import Derived.Test.YtepkbllcaeceeaaMK
import Derived.Test.YtepkbllcaeceeaaG3
namespace Go.Proofs.Ytepkbllcaeceeaa
open Go.RowKit
/-- a block of layer 9 as its two halves -/
def hl (n : Nat) : List Int := [((n / 18446744073709551616 : Nat) : Int), ((n % 18446744073709551616 : Nat) : Int)]
theorem two64 : (2 : Nat) ^ 64 = 18446744073709551616 := by decide
theorem beN_take (xs : List Int) {i : Nat} (h : i < xs.length) : beN (xs.take (i + 1)) = 256 * beN (xs.take i) + (xs.getD i 0).toNat := by
  rw [take_snoc_getD h, beN_snoc]
theorem shl_or {a : Nat} {x : Int} (ha : a < 72057594037927936) (h0 : 0 ≤ x) (h1 : x < 256) : bits .or .u64 (IntKind.u64.wrap ((a : Int) * 256)) x = ((256 * a + x.toNat : Nat) : Int) := by
  rw [wrapu64, Int.emod_eq_of_lt (by omega) (by omega), bits_or_u64' _ _ (by omega) (by omega) h0 (by omega)]
  have e : ((a : Int) * 256).toNat = 256 * a := by omega
  have hb : x.toNat < 2 ^ 8 := by omega
  rw [e]
  have := Nat.two_pow_add_eq_or_of_lt hb a
  rw [show (2 : Nat) ^ 8 = 256 by decide] at this
  rw [this]
theorem sizeBl : (Try.prog.info? 93).map (·.size) = some 2 := by kernel_rfl
set_option maxRecDepth 100000 in
set_option maxHeartbeats 4000000 in
theorem of_any (A : Option Addr) (c : Nat) (xs : List Int) (w : World) (hx : Blk16 xs) (hr : Rd w.heap.size .u8 w A xs) :
    Calls Try.prog 66 #[.slice A 16 c] w (RetV (.agg (cellsL .u64 (hl (beN xs)))) w) := by
  have HX := Lib.hid hx
  have HXL := Lib.hid hx.1
  obtain ⟨ad, rfl, had⟩ := hr.isSome (by rw [HXL.out]; decide)
  have HR := Lib.hid hr
  clear hx hr
  have hz : Hid (beN [] = 0) := Lib.hid beN_nil
  have HT := Lib.hid (fun i h => beN_take xs (i := i) h)
  have HT8 := Lib.hid (fun i h => beN_take (xs.drop 8) (i := i) h)
  go_enter Try.func66, Try.ntmps66
  have A0 : Hid (Arr ((w.alloc (.cells #[.int .u64 0, .int .u64 0] 93)).alloc (.cells #[.int .u64 0, .int .u64 0] 93)) w.heap.size 93 .u64 [0, 0]) := Lib.hid ((Arr.newAt (xs := [0, 0]) rfl rfl).alloc _)
  have A1 : Hid (Arr ((w.alloc (.cells #[.int .u64 0, .int .u64 0] 93)).alloc (.cells #[.int .u64 0, .int .u64 0] 93)) (w.heap.size + 1) 93 .u64 [((beN (xs.take 0) : Nat) : Int), ((beN ((xs.drop 8).take 0) : Nat) : Int)]) := Lib.hid (by rw [List.take_zero, List.take_zero, hz.out]; exact Arr.newAt (xs := [0, 0]) (by simp) rfl)
  have BB : Hid (Below w.heap.size w ((w.alloc (.cells #[.int .u64 0, .int .u64 0] 93)).alloc (.cells #[.int .u64 0, .int .u64 0] 93))) := Lib.hid (((Below.refl _ _).alloc (Nat.le_refl _) _).alloc (by simp) _)
  go_wp2_with fail
  go_loopw [5] (fun ii wr => ∃ k : Nat, k ≤ 8 ∧ ii = .int .i64 k ∧ Hid (Arr wr w.heap.size 93 .u64 [0, 0]) ∧ Hid (Arr wr (w.heap.size + 1) 93 .u64 [((beN (xs.take k) : Nat) : Int), ((beN ((xs.drop 8).take k) : Nat) : Int)]) ∧ Hid (Below w.heap.size w wr)) (fun ii _ => 8 - (intOf ii).toNat)
  case atStart => exact ⟨0, by omega, rfl, A0, A1, BB⟩
  case round =>
    clear A0 A1 BB
    obtain ⟨k, hk, rfl, HA0, HA1, HB⟩ := hrel
    by_cases hlt : k < 8
    · have hx0 := HX.out.2.getD k
      have hx8 := HX.out.2.getD (8 + k)
      have HK := Lib.hid (HT.out k (by rw [HXL.out]; omega))
      have HK8 := HT8.out k (by rw [List.length_drop, HXL.out]; omega)
      rw [show (xs.drop 8).getD k 0 = xs.getD (8 + k) 0 by simp [List.getD_eq_getElem?_getD, List.getElem?_drop]] at HK8
      have HK9 := Lib.hid HK8
      have ha := beN_lt k (xs.take k) (by rw [List.length_take, HXL.out]; omega) (HX.out.2.take _)
      have hb := beN_lt k ((xs.drop 8).take k) (by rw [List.length_take, List.length_drop, HXL.out]; omega) ((HX.out.2.drop _).take _)
      have h7 : 256 ^ k ≤ 256 ^ 7 := Nat.pow_le_pow_right (by decide) (by omega)
      have h77 : 256 ^ 7 = 72057594037927936 := by decide
      have ha7 : beN (xs.take k) < 72057594037927936 := by omega
      have hb7 : beN ((xs.drop 8).take k) < 72057594037927936 := by omega
      have HA7 := Lib.hid ha7
      have HB7 := Lib.hid hb7
      clear ha hb h7 h77 HK8 ha7 hb7
      generalize beN (xs.take k) = a at *
      generalize beN ((xs.drop 8).take k) = b at *
      have p1 : ∀ r : BW wr.heap.size wr, r.world.cell? ⟨w.heap.size + 1, 0, none⟩ = some (.int .u64 (a : Int)) := fun r => (HA1.out.belowAll r.below).cell (i := 0) (by simp)
      have p2 : ∀ r : BW wr.heap.size wr, r.world.cell? (ad.add k) = some (.int .u8 (xs.getD k 0)) := fun r => ((HR.out.below HB.out (Nat.le_refl _)).below r.below HB.out.size).at_ (by rw [HXL.out]; omega)
      have f1 := HA1.out.frozen 0
      have q1 : wr.cell? ⟨w.heap.size + 1, 0, none⟩ = some (.int .u64 (a : Int)) := p1 ⟨wr, Below.refl _ _⟩
      obtain ⟨x, hxx⟩ : ∃ x, xs.getD k 0 = x := ⟨_, rfl⟩
      obtain ⟨y, hyy⟩ : ∃ y, xs.getD (8 + k) 0 = y := ⟨_, rfl⟩
      rw [hxx] at hx0 HK p2
      rw [hyy] at hx8 HK9
      have HYY := Lib.hid hyy
      obtain ⟨hx00, hx01⟩ := hx0
      obtain ⟨hx80, hx81⟩ := hx8
      clear hxx hyy
      go_wp2_with fail
      refine wp_region_mixOB wr.heap.size [([0, 1, 2, 3, 4, 5, 6, 7, 8, 9], 10)] (by kernel_rfl) (by kernel_rfl) (by kernel_rfl) (by kernel_rfl) (by kernel_rfl) ?_
      try (rw [put_none])
      simp only [pickL, List.map_cons, List.map_nil, List.filterMap_cons, List.filterMap_nil, List.getElem?_cons_succ, List.getElem?_cons_zero]
      refine mixO_cons ?_
      repeat (show wpQuiet _ _ _ _ (_ :: _) _; go_big_quiet_step (fail))
      refine wpQuiet_nil ?_
      show wpList _ _ _ [_] _ _
      go_wp2_with fail
      refine MixO.last ?_
      refine mixO_nil ?_
      refine wpQuiet_nil ?_
      refine NoPanic.normal ?_
      rw [shl_or HA7.out hx00 hx01, ← HK.out]
      have HA3 := Lib.hid (Arr.drew (Arr.set HA1.out 0 ((beN (xs.take (k + 1)) : Nat) : Int)))
      have HB3 := Lib.hid ((HB.out.setCell (p := ⟨w.heap.size + 1, 0, none⟩) (by simp) (.int .u64 ((beN (xs.take (k + 1)) : Nat) : Int))).drew)
      have HA03 := Lib.hid (Arr.drew (HA0.out.far (p := ⟨w.heap.size + 1, 0, none⟩) (by simp) (.int .u64 ((beN (xs.take (k + 1)) : Nat) : Int))))
      generalize (wr.setCell ⟨w.heap.size + 1, 0, none⟩ (.int .u64 ((beN (xs.take (k + 1)) : Nat) : Int))).drew = w3 at *
      clear p1 p2 f1 q1 HK HA1 HA0
      have p1 : ∀ r : BW w3.heap.size w3, r.world.cell? ⟨w.heap.size + 1, 1, none⟩ = some (.int .u64 (b : Int)) := fun r => (HA3.out.belowAll r.below).cell (i := 1) (by simp)
      have p2 : ∀ r : BW w3.heap.size w3, r.world.cell? (ad.add (8 + k)) = some (.int .u8 y) := fun r => by
        have := ((HR.out.below HB3.out (Nat.le_refl _)).below r.below HB3.out.size).at_ (i := 8 + k) (by rw [HXL.out]; omega)
        rwa [HYY.out] at this
      have f1 := HA3.out.frozen 1
      have q1 : w3.cell? ⟨w.heap.size + 1, 1, none⟩ = some (.int .u64 (b : Int)) := p1 ⟨w3, Below.refl _ _⟩
      have e1 : (8 + (k : Int)).toNat = 8 + k := by omega
      go_wp2_with fail
      refine wp_region_mixOB w3.heap.size [([0, 1, 2, 3, 4, 5, 6, 7, 8, 9, 10], 11)] (by kernel_rfl) (by kernel_rfl) (by kernel_rfl) (by kernel_rfl) (by kernel_rfl) ?_
      try (rw [put_none])
      simp only [pickL, List.map_cons, List.map_nil, List.filterMap_cons, List.filterMap_nil, List.getElem?_cons_succ, List.getElem?_cons_zero]
      refine mixO_cons ?_
      repeat (show wpQuiet _ _ _ _ (_ :: _) _; go_big_quiet_step (fail))
      refine wpQuiet_nil ?_
      show wpList _ _ _ [_] _ _
      go_wp2_with fail
      refine MixO.last ?_
      refine mixO_nil ?_
      refine wpQuiet_nil ?_
      refine NoPanic.normal ?_
      rw [shl_or HB7.out hx80 hx81, ← HK9.out]
      have HA4 := Lib.hid (Arr.drew (Arr.set HA3.out 1 ((beN ((xs.drop 8).take (k + 1)) : Nat) : Int)))
      have HB4 := Lib.hid ((HB3.out.setCell (p := ⟨w.heap.size + 1, 1, none⟩) (by simp) (.int .u64 ((beN ((xs.drop 8).take (k + 1)) : Nat) : Int))).drew)
      have HA04 := Lib.hid (Arr.drew (HA03.out.far (p := ⟨w.heap.size + 1, 1, none⟩) (by simp) (.int .u64 ((beN ((xs.drop 8).take (k + 1)) : Nat) : Int))))
      clear p1 p2 f1 q1 e1 HK9 HA3 HB3 HA03
      go_wp2_with fail
      go_roundw
      case rel => exact ⟨k + 1, by omega, by go_num, HA04, HA4, HB4⟩
      case measure => simp [intOf]; omega
    · have HF : Hid ([((beN (xs.take k) : Nat) : Int), ((beN ((xs.drop 8).take k) : Nat) : Int)] = hl (beN xs)) := Lib.hid (by
        have hk8 : k = 8 := by omega
        have h1 : (xs.drop 8).take k = xs.drop 8 := List.take_of_length_le (by rw [List.length_drop, HXL.out]; omega)
        have h2 := beN_append (xs.take 8) (xs.drop 8)
        rw [List.take_append_drop] at h2
        have h3 : (xs.drop 8).length = 8 := by rw [List.length_drop, HXL.out]
        have h4 := beN_lt 8 (xs.drop 8) h3 (HX.out.2.drop _)
        rw [h3] at h2
        rw [show (256 : Nat) ^ 8 = 18446744073709551616 by decide] at h2 h4
        rw [h1, hk8]
        unfold hl
        rw [h2]
        rw [show (beN (xs.take 8) * 18446744073709551616 + beN (xs.drop 8)) / 18446744073709551616 = beN (xs.take 8) by omega, show (beN (xs.take 8) * 18446744073709551616 + beN (xs.drop 8)) % 18446744073709551616 = beN (xs.drop 8) by omega])
      have HA5 : Hid (Arr wr (w.heap.size + 1) 93 .u64 (hl (beN xs))) := Lib.hid (by rw [← HF.out]; exact HA1.out)
      have L1 := Lib.hid (blk_load (P := Try.prog) HA5.out Try.underlying93 rfl sizeBl)
      obtain ⟨w8, hs8, hz8, hg8⟩ := blk_storeAll (P := Try.prog) (ty := 93) (vs := iv .u64 (hl (beN xs))) HA0.out rfl (iv_one _ _) sizeBl
      have S8 := Lib.hid hs8
      have Z8 := Lib.hid hz8
      have B8 := Lib.hid (HB.out.trans (below_of_only hg8 (by omega) HB.out.size))
      clear hs8 hz8 hg8
      go_wp2_with (first
        | ((with_reducible (show wpList _ _ _ (⟨some 30, .load _ _, _, _, _, _⟩ :: _) _ _)); refine wpList_loadV (o := ⟨some 30, .load _ _, _, _, _, _⟩) rfl _ rfl rfl (L1.out) ?_)
        | ((with_reducible (show wpList _ _ _ (⟨none, .store 93 _ _, _, _, _, _⟩ :: _) _ _)); refine wpList_storeV (o := ⟨none, .store 93 _ _, _, _, _, _⟩) rfl _ _ rfl rfl rfl (S8.out) ?_))
      refine ret_row rfl rfl Z8.out Try.underlying93 rfl sizeBl rfl ⟨rfl, B8.out⟩
end Go.Proofs.Ytepkbllcaeceeaa
