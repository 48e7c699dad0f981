/- Contracts: Cipher.Seal. Conditions: as each theorem states them. -/
import Derived.Test.YtepkbllcaeceeaaE11
namespace Go.Proofs.Ytepkbllcaeceeaa
open Go.RowKit
def z16E : List Int := List.replicate 16 0
/-- columns mixed, one after the other -/
def mcs (s : List Int) : Nat → List Int
  | 0 => s
  | m + 1 => mixAt (mcs s m) (4 * m)
theorem mcs_ok {s : List Int} (hs : Blk16 s) : ∀ m, m ≤ 4 → Blk16 (mcs s m)
  | 0, _ => hs
  | m + 1, h => mixAt_ok (mcs_ok hs m (by omega)) (by omega)
theorem mcs_all (s : List Int) : mcs s 4 = mcolL s := rfl
theorem mcs_zero (s : List Int) : mcs s 0 = s := rfl
theorem mcs_succ (s : List Int) (m : Nat) : mcs s (m + 1) = mixAt (mcs s m) (4 * m) := rfl
theorem arnd_zero (W s : List Int) : arnd W s 0 = addL s (rkey W 0) := rfl
theorem arnd_succ (W s : List Int) (n : Nat) : arnd W s (n + 1) = addL (if n + 1 < 10 then mcolL (rowsL (arnd W s n)) else rowsL (arnd W s n)) (rkey W (n + 1)) := rfl
attribute [irreducible] mcs
attribute [local irreducible] arnd
/-- the frame: the cipher's place, the result's, the state -/
def SF (w0 : World) (b gc : Nat) (K s : List Int) (w : World) : Prop :=
  Arr w (b + 1 + 1 + 1) 32 .u8 s ∧ Blk w b 33 #[.pointer (some ⟨gc, 0, none⟩)] ∧ Blk w (b + 1 + 1) 32 (cellsL .u8 (nul 16)) ∧ Ci w gc K ∧ gc < b ∧ Below b w0 w
theorem SF.below {w0 w w' : World} {b gc : Nat} {K s : List Int} (h : SF w0 b gc K s w) (hb : Below w.heap.size w w') : SF w0 b gc K s w' :=
  ⟨h.1.belowAll hb, h.2.1.below hb (Blk.lt h.2.1), h.2.2.1.below hb (Blk.lt h.2.2.1), h.2.2.2.1.all hb, h.2.2.2.2.1, h.2.2.2.2.2.trans (hb.mono (by have := h.1.lt; omega))⟩
theorem SF.put {w0 w w' : World} {b gc : Nat} {K s s' : List Int} (h : SF w0 b gc K s w) (hk : Arr w' (b + 1 + 1 + 1) 32 .u8 s') (hg : w.grownBy w' (some (b + 1 + 1 + 1))) : SF w0 b gc K s' w' :=
  ⟨hk, h.2.1.grown hg (by simp; omega), h.2.2.1.grown hg (by simp), h.2.2.2.1.grown hg (by have := h.2.2.2.2.1; simp; omega), h.2.2.2.2.1, h.2.2.2.2.2.trans (below_of_only hg (by omega) (by have := h.1.lt; omega))⟩
theorem SF.cap {w0 w : World} {b gc : Nat} {K s : List Int} (h : SF w0 b gc K s w) : Cap w (b + 1 + 1 + 1) b gc s K := ⟨h.1, h.2.1, h.2.2.2.1, by omega, by have := h.2.2.2.2.1; omega⟩
theorem SF.drew {w0 w : World} {b gc : Nat} {K s : List Int} (h : SF w0 b gc K s w) : SF w0 b gc K s w.drew := ⟨h.1, h.2.1, h.2.2.1, h.2.2.2.1, h.2.2.2.2.1, h.2.2.2.2.2.drew⟩
theorem sf_far {w0 w : World} {b gc g : Nat} {K s : List Int} (h : SF w0 b gc K s w) (hg : b + 1 + 1 + 1 < g) (i : Nat) (v : Value) : SF w0 b gc K s (w.setCell ⟨g, i, none⟩ v) :=
  ⟨h.1.far (by simp; omega) v, h.2.1.far (by simp; omega) v, h.2.2.1.far (by simp; omega) v, Arr.far h.2.2.2.1 (by have := h.2.2.2.2.1; simp; omega) v, h.2.2.2.2.1, h.2.2.2.2.2.setCell (by simp; omega) v⟩
theorem sf_start {w w5 : World} {gc : Nat} {K s : List Int} {z : Array Value} (hz : z = cellsL .u8 (nul 16)) (hC : Ci w gc K) (hA : Arr w5 (w.heap.size + 1 + 1 + 1) 32 .u8 s)
    (hG : ((((w.alloc (.cells #[.pointer (some ⟨gc, 0, none⟩)] 33)).alloc (.cells (cellsL .u8 s) 32)).alloc (.cells z 32)).alloc (.cells z 32)).grownBy w5 (some (w.heap.size + 1 + 1 + 1))) : SF w w.heap.size gc K s w5 := by
  subst hz
  have hb : Below w.heap.size w ((((w.alloc (.cells #[.pointer (some ⟨gc, 0, none⟩)] 33)).alloc (.cells (cellsL .u8 s) 32)).alloc (.cells (cellsL .u8 (nul 16)) 32)).alloc (.cells (cellsL .u8 (nul 16)) 32)) := (((((Below.refl _ _).alloc (Nat.le_refl _) _).alloc (by simp) _).alloc (by simp <;> omega) _).alloc (by simp <;> omega) _)
  exact ⟨hA, ((((Blk.new _ _ _).alloc _).alloc _).alloc _).grown hG (by simp; omega), ((blk_newAt (by simp)).alloc _).grown hG (by simp), (hC.below hb hC.lt).grown hG (by have := hC.lt; simp; omega), hC.lt, hb.trans (below_of_only hG (by omega) hb.size)⟩
set_option maxRecDepth 100000 in
set_option maxHeartbeats 8000000 in
theorem aseal_any (gc : Nat) (K s : List Int) (w : World) (hK : Blk16 K) (hs : Blk16 s) (hC : Ci w gc K) :
    Calls Try.prog 20 #[.pointer (some ⟨gc, 0, none⟩), .agg (cellsL .u8 s)] w (RetV (.agg (cellsL .u8 (aesL K s))) w) := by
  have HK := Lib.hid hK
  have HS := Lib.hid hs
  have HSL := Lib.hid hs.1
  have HC := Lib.hid hC
  have HW := Lib.hid (wkL_len hK)
  have HWB := Lib.hid (wkL_byt hK)
  clear hK hs hC
  go_enter Try.func20, Try.ntmps20
  go_wp2_with (first
    | ((with_reducible (show wpList _ _ _ (⟨some 14, .load _ _, _, _, _, _⟩ :: _) _ _)); refine wpList_loadV (o := ⟨some 14, .load _ _, _, _, _, _⟩) rfl _ rfl rfl (arr_load ((Arr.newAt (by simp) rfl).alloc _) Try.underlying32 sizeE16 HSL.out.symm) ?_)
    | ((with_reducible (show wpList _ _ _ (⟨none, .store 32 _ _, _, _, _, _⟩ :: _) _ _)); refine wpList_storeArr (o := ⟨none, .store 32 _ _, _, _, _, _⟩) (g := w.heap.size + 1 + 1 + 1) (t := 32) (k := .u8) (xs := s) (n := 16) rfl _ _ rfl rfl rfl (blk_newAt (by simp)) sizeE16 HSL.out.symm rfl ?_; intro w5 ha5 hg5; have F5 := Lib.hid (sf_start rfl HC.out ha5 hg5); clear ha5 hg5))
  have ADD : Hid (∀ (n : Nat) (j : Int) (t : List Int) (v : World), j = n → n < 11 → Blk16 t → SF w w.heap.size gc K t v → Calls Try.prog 54 #[.int .i64 j, .pointer (some ⟨w.heap.size + 1 + 1 + 1, 0, none⟩), .pointer (some ⟨w.heap.size, 0, none⟩)] v fun e v' => (∃ u, e = .returned u) ∧ SF w w.heap.size gc K (addL t (rkey (wkL K) n)) v') := Lib.hid (fun n j t v hj hn ht hv => by
    subst hj
    exact (aadd_any n (w.heap.size + 1 + 1 + 1) w.heap.size gc t K v HK.out ht hn hv.cap).mono (fun e v' ⟨h1, h2, h3⟩ => ⟨h1, hv.put h2 h3⟩))
  have HR0 : Hid (∀ n, n < 11 → Blk16 (arnd (wkL K) s n)) := Lib.hid (fun n hn => arnd_ok HW.out HWB.out HS.out n hn)
  refine Calls.mono (ADD.out 0 0 s _ rfl (by decide) HS.out F5.out) ?_
  rintro e w6 ⟨⟨u, rfl⟩, hf6⟩
  have F6 : Hid (SF w w.heap.size gc K (arnd (wkL K) s (1 - 1)) w6) := Lib.hid (by rw [show 1 - 1 = 0 from rfl, arnd_zero]; exact hf6)
  clear hf6 F5
  go_wp2_with fail
  go_loopw [7] (fun jj wr => ∃ n : Nat, 1 ≤ n ∧ n ≤ 11 ∧ jj = .int .i64 n ∧ Hid (SF w w.heap.size gc K (arnd (wkL K) s (n - 1)) wr)) (fun jj _ => 11 - (intOf jj).toNat)
  case atStart => exact ⟨1, by omega, by omega, rfl, F6⟩
  case round =>
    clear F6
    obtain ⟨n, hn1, hn, rfl, HF⟩ := hrel
    by_cases hlt : n ≤ 10
    · have HSO := Lib.hid (HR0.out (n - 1) (by omega))
      have HAS : Hid (arnd (wkL K) s n = addL (if n < 10 then mcolL (rowsL (arnd (wkL K) s (n - 1))) else rowsL (arnd (wkL K) s (n - 1))) (rkey (wkL K) n)) := Lib.hid (by
        have := arnd_succ (wkL K) s (n - 1)
        rwa [show n - 1 + 1 = n by omega] at this)
      generalize arnd (wkL K) s (n - 1) = S at *
      have HRO := Lib.hid (rowsL_ok HSO.out)
      have HRG : Hid (∀ k, k < 16 → (rowsL S).getD k 0 = sub (S.getD ((k + 4 * (k % 4)) % 16) 0)) := Lib.hid (fun k hk => rowsL_getD S hk)
      generalize rowsL S = R at *
      have HF7 := Lib.hid (HF.out.below ((Below.refl wr.heap.size wr).alloc (Nat.le_refl _) (.cells (cellsL .u8 (nul 16)) 32)))
      have HA7 : Hid (Arr (wr.alloc (.cells (cellsL .u8 (nul 16)) 32)) wr.heap.size 32 .u8 (fil R 0)) := Lib.hid (by rw [fil_zero, HRO.out.1]; exact Arr.newAt rfl rfl)
      have hgg : w.heap.size + 1 + 1 + 1 < wr.heap.size := HF.out.1.lt
      obtain ⟨wo, rfl⟩ : ∃ wo : World, wo = wr := ⟨_, rfl⟩
      go_wp2_with fail
      go_loopw [22] (fun jj wr => ∃ k : Nat, k ≤ 16 ∧ jj = .int .i64 k ∧ Hid (Arr wr wo.heap.size 32 .u8 (fil R k)) ∧ Hid (SF w w.heap.size gc K S wr)) (fun jj _ => 16 - (intOf jj).toNat)
      case atStart => exact ⟨0, by omega, rfl, HA7, HF7⟩
      case round =>
        clear HF7 HA7 HF
        obtain ⟨k, hk, rfl, HA, HF⟩ := hrel
        have hfl : Hid ((fil R k).length = 16) := Lib.hid (by rw [fil_len, HRO.out.1])
        by_cases hlt2 : k < 16
        · have hm16 : (k + 4 * (k % 4)) % 16 < 16 := Nat.mod_lt _ (by decide)
          have p1 : ∀ r : BW wr.heap.size wr, r.world.cell? ⟨w.heap.size + 1 + 1 + 1, (k + 4 * (k % 4)) % 16, none⟩ = some (.int .u8 (S.getD ((k + 4 * (k % 4)) % 16) 0)) := fun r => (HF.out.1.belowAll r.below).cell (by rw [HSO.out.1]; exact hm16)
          have p2 : ∀ r : BW wr.heap.size wr, r.world.cell? ⟨w.heap.size, 0, none⟩ = some (.pointer (some ⟨gc, 0, none⟩)) := fun r => (Blk.below HF.out.2.1 r.below (Blk.lt HF.out.2.1)).cell 0
          have hx := HSO.out.2.getD ((k + 4 * (k % 4)) % 16)
          have p3 : ∀ r : BW wr.heap.size wr, r.world.cell? ⟨gc, (S.getD ((k + 4 * (k % 4)) % 16) 0).toNat, none⟩ = some (.int .u8 (sub (S.getD ((k + 4 * (k % 4)) % 16) 0))) := fun r => (HF.out.2.2.2.1.all r.below).box (by omega)
          have c1 := HA.out.cell (i := k) (by rw [hfl.out]; exact hlt2)
          have f1 := HA.out.frozen k
          have HMS := Lib.hid (fil_set (xs := R) (k := k) (by rw [HRO.out.1]; exact hlt2))
          rw [HRG.out k hlt2] at HMS
          generalize S.getD ((k + 4 * (k % 4)) % 16) 0 = x at *
          obtain ⟨hx0, hx1⟩ := hx
          generalize sub x = y at *
          generalize (fil R k).getD k 0 = old at *
          have HA9 : Hid (Arr (wr.drew.setCell ⟨wo.heap.size, k, none⟩ (.int .u8 y)) wo.heap.size 32 .u8 (fil R (k + 1))) := Lib.hid (Arr.cast (Arr.set (w := wr.drew) HA.out k y) HMS.out)
          have HF9 : Hid (SF w w.heap.size gc K S (wr.drew.setCell ⟨wo.heap.size, k, none⟩ (.int .u8 y))) := Lib.hid (sf_far HF.out.drew (by omega) k (.int .u8 y))
          go_wp2_with fail
          refine wp_region_mixOB wr.heap.size [([0, 1, 2, 3, 4, 5, 6, 7, 8, 9, 10, 11, 12, 13, 14], 15)] (by kernel_rfl) (by kernel_rfl) (by kernel_rfl) (by kernel_rfl) (by kernel_rfl) ?_
          try (rw [put_none])
          simp only [pickL, List.map_cons, List.map_nil, List.filterMap_cons, List.filterMap_nil, List.getElem?_cons_succ, List.getElem?_cons_zero]
          refine mixO_cons ?_
          repeat (show wpQuiet _ _ _ _ (_ :: _) _; go_big_quiet_step (fail))
          refine wpQuiet_nil ?_
          show wpList _ _ _ [_] _ _
          go_wp2_with fail
          refine MixO.last ?_
          refine mixO_nil ?_
          refine wpQuiet_nil ?_
          refine NoPanic.normal ?_
          clear p1 p2 p3 c1 f1 HMS hfl
          go_wp2_with fail
          go_roundw
          case rel => exact ⟨k + 1, by omega, by go_num, HA9, HF9⟩
          case measure => simp [intOf]; omega
        · have hk16 : k = 16 := by omega
          have HA2 : Hid (Arr wr wo.heap.size 32 .u8 R) := Lib.hid (Arr.cast HA.out (by rw [hk16]; have := fil_full R; rw [HRO.out.1] at this; exact this))
          have L41 := Lib.hid (arr_load HA2.out Try.underlying32 sizeE16 HRO.out.1.symm)
          obtain ⟨w8, hs8, hz8, hg8⟩ := blk_storeAll (P := Try.prog) (ty := 32) (vs := iv .u8 R) HF.out.1 (by rw [iv_len, HRO.out.1, List.size_toArray, List.length_map, HSO.out.1]) (iv_one _ _) (by rw [iv_len, HRO.out.1]; exact sizeE16)
          have S8 := Lib.hid hs8
          have F8 := Lib.hid (HF.out.put hz8 hg8)
          clear hs8 hz8 hg8 hk16 HA HA2 hfl HF
          have hw8 : w.heap.size ≤ w8.heap.size := F8.out.2.2.2.2.2.size
          by_cases h10 : n < 10
          · rw [if_pos h10] at HAS
            have hd10 : decide ((n : Int) < 10) = true := decide_eq_true (by omega)
            go_wp2_with (first
              | ((with_reducible (show wpList _ _ _ (⟨some 41, .load _ _, _, _, _, _⟩ :: _) _ _)); refine wpList_loadV (o := ⟨some 41, .load _ _, _, _, _, _⟩) rfl _ rfl rfl (L41.out) ?_)
              | ((with_reducible (show wpList _ _ _ (⟨none, .store 32 _ _, _, _, _, _⟩ :: _) _ _)); refine wpList_storeV (o := ⟨none, .store 32 _ _, _, _, _, _⟩) rfl _ _ rfl rfl rfl (S8.out) ?_))
            go_loopw [10] (fun jj wr => ∃ (m : Nat) (jv : Int), m ≤ 4 ∧ jv = 4 * m ∧ jj = .int .i64 jv ∧ Hid (SF w w.heap.size gc K (mcs R m) wr)) (fun jj _ => 16 - (intOf jj).toNat)
            case atStart => exact ⟨0, 0, by omega, rfl, rfl, Lib.hid (by rw [mcs_zero]; exact F8.out)⟩
            case round =>
              clear F8 L41 S8
              obtain ⟨m, jv, hm, hjv, rfl, HFm⟩ := hrel
              rcases (show m = 0 ∨ m = 1 ∨ m = 2 ∨ m = 3 ∨ m = 4 by omega) with rfl | rfl | rfl | rfl | rfl
              · obtain rfl : jv = 0 := by omega
                clear hjv hm
                go_wp2_with fail
                refine Calls.mono (mix_any (w.heap.size + 1 + 1 + 1) 0 _ (mcs R 0) _ (mcs_ok HRO.out 0 (by decide)) (by decide) HFm.out.1) ?_
                rintro e w9 ⟨⟨u9, rfl⟩, ha9, hg9⟩
                have F9 : Hid (SF w w.heap.size gc K (mcs R 1) w9) := Lib.hid (by rw [mcs_succ]; exact HFm.out.put ha9 hg9)
                clear ha9 hg9
                go_wp2_with fail
                go_roundw
                case rel => exact ⟨1, _, by omega, rfl, rfl, F9⟩
                case measure => simp [intOf]
              · obtain rfl : jv = 4 := by omega
                clear hjv hm
                go_wp2_with fail
                refine Calls.mono (mix_any (w.heap.size + 1 + 1 + 1) 4 _ (mcs R 1) _ (mcs_ok HRO.out 1 (by decide)) (by decide) HFm.out.1) ?_
                rintro e w9 ⟨⟨u9, rfl⟩, ha9, hg9⟩
                have F9 : Hid (SF w w.heap.size gc K (mcs R 2) w9) := Lib.hid (by rw [mcs_succ]; exact HFm.out.put ha9 hg9)
                clear ha9 hg9
                go_wp2_with fail
                go_roundw
                case rel => exact ⟨2, _, by omega, rfl, rfl, F9⟩
                case measure => simp [intOf]
              · obtain rfl : jv = 8 := by omega
                clear hjv hm
                go_wp2_with fail
                refine Calls.mono (mix_any (w.heap.size + 1 + 1 + 1) 8 _ (mcs R 2) _ (mcs_ok HRO.out 2 (by decide)) (by decide) HFm.out.1) ?_
                rintro e w9 ⟨⟨u9, rfl⟩, ha9, hg9⟩
                have F9 : Hid (SF w w.heap.size gc K (mcs R 3) w9) := Lib.hid (by rw [mcs_succ]; exact HFm.out.put ha9 hg9)
                clear ha9 hg9
                go_wp2_with fail
                go_roundw
                case rel => exact ⟨3, _, by omega, rfl, rfl, F9⟩
                case measure => simp [intOf]
              · obtain rfl : jv = 12 := by omega
                clear hjv hm
                go_wp2_with fail
                refine Calls.mono (mix_any (w.heap.size + 1 + 1 + 1) 12 _ (mcs R 3) _ (mcs_ok HRO.out 3 (by decide)) (by decide) HFm.out.1) ?_
                rintro e w9 ⟨⟨u9, rfl⟩, ha9, hg9⟩
                have F9 : Hid (SF w w.heap.size gc K (mcs R 4) w9) := Lib.hid (by rw [mcs_succ]; exact HFm.out.put ha9 hg9)
                clear ha9 hg9
                go_wp2_with fail
                go_roundw
                case rel => exact ⟨4, _, by omega, rfl, rfl, F9⟩
                case measure => simp [intOf]
              · obtain rfl : jv = 16 := by omega
                clear hjv hm
                have FM : Hid (SF w w.heap.size gc K (mcolL R) wr) := Lib.hid (by rw [← mcs_all]; exact HFm.out)
                have HMO := Lib.hid (mcolL_ok HRO.out)
                clear HFm
                go_wp2_with fail
                refine Calls.mono (ADD.out n n _ _ rfl (by omega) HMO.out FM.out) ?_
                rintro e w9 ⟨⟨u9, rfl⟩, hf9⟩
                rw [← HAS.out] at hf9
                have F9 : Hid (SF w w.heap.size gc K (arnd (wkL K) s (n + 1 - 1)) w9) := Lib.hid hf9
                clear hf9
                go_wp2_with fail
                go_roundw
                case rel => exact ⟨n + 1, by omega, by omega, by go_num, F9⟩
                case measure => simp [intOf]; omega
          · rw [if_neg h10] at HAS
            go_wp2_with (first
              | ((with_reducible (show wpList _ _ _ (⟨some 41, .load _ _, _, _, _, _⟩ :: _) _ _)); refine wpList_loadV (o := ⟨some 41, .load _ _, _, _, _, _⟩) rfl _ rfl rfl (L41.out) ?_)
              | ((with_reducible (show wpList _ _ _ (⟨none, .store 32 _ _, _, _, _, _⟩ :: _) _ _)); refine wpList_storeV (o := ⟨none, .store 32 _ _, _, _, _, _⟩) rfl _ _ rfl rfl rfl (S8.out) ?_))
            refine Calls.mono (ADD.out n n _ _ rfl (by omega) HRO.out F8.out) ?_
            rintro e w9 ⟨⟨u9, rfl⟩, hf9⟩
            rw [← HAS.out] at hf9
            have F9 : Hid (SF w w.heap.size gc K (arnd (wkL K) s (n + 1 - 1)) w9) := Lib.hid hf9
            clear hf9 F8 S8 L41
            go_wp2_with fail
            go_roundw
            case rel => exact ⟨n + 1, by omega, by omega, by go_num, F9⟩
            case measure => simp [intOf]; omega
    · have hn11 : n = 11 := by omega
      have HE := Lib.hid (aesL_eq K s)
      have HL := Lib.hid (HR0.out 10 (by decide))
      have HF2 : Hid (SF w w.heap.size gc K (arnd (wkL K) s 10) wr) := Lib.hid (by have h := HF.out; rw [hn11] at h; exact h)
      have HSE : Hid (aesL K s = arnd (wkL K) s 10) := Lib.hid (by rw [HE.out]; rfl)
      clear HF HE hn11
      generalize arnd (wkL K) s 10 = S at *
      have L56 := Lib.hid (arr_load HF2.out.1 Try.underlying32 sizeE16 HL.out.1.symm)
      obtain ⟨w8, hs8, hz8, hg8⟩ := blk_storeAll (P := Try.prog) (ty := 32) (vs := iv .u8 S) HF2.out.2.2.1 (by rw [iv_len, HL.out.1, cellsL_size, nul_len]) (iv_one _ _) (by rw [iv_len, HL.out.1]; exact sizeE16)
      have S8 := Lib.hid hs8
      have Z8 := Lib.hid hz8
      have B8 := Lib.hid (HF2.out.2.2.2.2.2.trans (below_of_only hg8 (by omega) HF2.out.2.2.2.2.2.size))
      clear hs8 hz8 hg8
      go_wp2_with (first
        | ((with_reducible (show wpList _ _ _ (⟨some 56, .load _ _, _, _, _, _⟩ :: _) _ _)); refine wpList_loadV (o := ⟨some 56, .load _ _, _, _, _, _⟩) rfl _ rfl rfl (L56.out) ?_)
        | ((with_reducible (show wpList _ _ _ (⟨none, .store 32 _ _, _, _, _, _⟩ :: _) _ _)); refine wpList_storeV (o := ⟨none, .store 32 _ _, _, _, _, _⟩) rfl _ _ rfl rfl rfl (S8.out) ?_))
      refine ret_row rfl rfl Z8.out Try.underlying32 rfl (by rw [List.size_toArray, iv_len, HL.out.1]; exact sizeE16) rfl ⟨by rw [HSE.out]; rfl, B8.out⟩
end Go.Proofs.Ytepkbllcaeceeaa
