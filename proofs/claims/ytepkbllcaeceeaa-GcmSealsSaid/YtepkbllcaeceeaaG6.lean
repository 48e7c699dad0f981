/- Contract of gcm: Hash. Conditions: as each theorem states them. -/
import Derived.Test.YtepkbllcaeceeaaG5
import Derived.Test.YtepkbllcaeceeaaE13
namespace Go.Proofs.Ytepkbllcaeceeaa
open Go.RowKit
def lenS : Value → Nat
  | .slice _ n _ => n
  | _ => 0
theorem slice_lN {P : Program} {t e : TypeId} {k : IntKind} {bytes B n c : Nat} {w : World} {A : Option Addr} {xs : List Int} (E : ElT P t e k bytes) (hr : Rd B k w A xs) (hn : xs.length = n) (hc : n ≤ c) (l : Int) (m : Nat) (h0 : 0 ≤ l) (h2 : l ≤ n) (hm : (m : Int) = n - l) :
    ∃ A' c', m ≤ c' ∧ c' ≤ c ∧ Rd B k w A' (xs.drop l.toNat) ∧ (xs.drop l.toNat).length = m ∧
      ∀ (w : World) (kl : IntKind), (Instr.sliceAt t (.slice A n c) (some (.int kl l)) none none).run P w = .ok (.slice A' m c') w := by
  subst hn; exact slice_l E hr hc l m h0 h2 hm
/-- the frame of Hash: its result, its sum, its key -/
def HFr (w : World) (g6 H Y : Nat) (wr : World) : Prop :=
  Arr wr (w.heap.size + 1) 32 .u8 (nul 16) ∧ Arr wr (w.heap.size + 1 + 1) 93 .u64 (hl Y) ∧ Arr wr g6 93 .u64 (hl H) ∧ Below w.heap.size w wr ∧ w.heap.size + 1 + 1 < g6
theorem HFr.below {w w' wr : World} {g6 H Y : Nat} (h : HFr w g6 H Y wr) (hb : Below wr.heap.size wr w') : HFr w g6 H Y w' :=
  ⟨h.1.belowAll hb, h.2.1.belowAll hb, h.2.2.1.belowAll hb, h.2.2.2.1.trans (hb.mono h.2.2.2.1.size), h.2.2.2.2⟩
theorem HFr.put {w w' wr : World} {g6 H Y Y' : Nat} (h : HFr w g6 H Y wr) (hk : Arr w' (w.heap.size + 1 + 1) 93 .u64 (hl Y')) (hg : wr.grownBy w' (some (w.heap.size + 1 + 1))) : HFr w g6 H Y' w' :=
  ⟨h.1.grown hg (by simp), hk, h.2.2.1.grown hg (by have := h.2.2.2.2; simp; omega), h.2.2.2.1.trans (below_of_only hg (by omega) h.2.2.2.1.size), h.2.2.2.2⟩
theorem pc_ovi (X : List Int) (k m : Nat) (hm : m = Nat.min (X.drop (16 * k)).length 16) : ovi (nul 16) 0 ((X.drop (16 * k)).take m) = pc X k := by
  unfold ovi pc pad16 nul
  rw [List.take_zero, List.nil_append, Nat.zero_add, List.drop_replicate]
  have e : (X.drop (16 * k)).take m = (X.drop (16 * k)).take 16 := by
    rw [hm]
    rcases Nat.le_total (X.drop (16 * k)).length 16 with h | h
    · rw [show Nat.min (X.drop (16 * k)).length 16 = (X.drop (16 * k)).length from Nat.min_eq_left h, List.take_length, List.take_of_length_le h]
    · rw [show Nat.min (X.drop (16 * k)).length 16 = 16 from Nat.min_eq_right h]
  rw [e]
theorem drop_pc (X : List Int) (k m : Nat) (hm : m = Nat.min (X.drop (16 * k)).length 16) : (X.drop (16 * k)).drop m = X.drop (16 * (k + 1)) := by
  rw [hm]
  rcases Nat.le_total (X.drop (16 * k)).length 16 with h | h
  · rw [show Nat.min (X.drop (16 * k)).length 16 = (X.drop (16 * k)).length from Nat.min_eq_left h, List.drop_length]
    rw [List.length_drop] at h
    exact (List.drop_eq_nil_of_le (by omega)).symm
  · rw [show Nat.min (X.drop (16 * k)).length 16 = 16 from Nat.min_eq_right h, List.drop_drop, show 16 * k + 16 = 16 * (k + 1) by omega]
theorem ghK_z (h : Nat) (b : List Int) : ghK h b 0 = 0 := by unfold ghK; rfl
theorem ghK_s (h : Nat) (b : List Int) (k : Nat) : ghK h b (k + 1) = tm (ghK h b k ^^^ beN (pc b k)) h := by rw [ghK]
def zk (N k : Nat) : List Int := (List.range 16).map fun j => if j % 8 < k then ((N / 256 ^ (15 - j) % 256 : Nat) : Int) else 0
theorem zk_len (N k : Nat) : (zk N k).length = 16 := by unfold zk; simp
theorem zk_getD (N k : Nat) {j : Nat} (hj : j < 16) : (zk N k).getD j 0 = if j % 8 < k then ((N / 256 ^ (15 - j) % 256 : Nat) : Int) else 0 := by
  unfold zk
  rw [getD_el (by simpa using hj), List.getElem_map, List.getElem_range]
theorem zk_zero (N : Nat) : zk N 0 = nul 16 := rfl
theorem zk_full (N : Nat) : zk N 8 = b16 N := by
  refine ext16' (zk_len _ _) (b16_len _) fun j hj => ?_
  rw [zk_getD _ _ hj, if_pos (Nat.mod_lt _ (by decide))]
  unfold b16
  rw [byk_getD _ _ _ hj]
theorem zk_set (N : Nat) {k : Nat} (hk : k < 8) {a b : Int} (ha : a = ((N / 256 ^ (15 - k) % 256 : Nat) : Int)) (hb : b = ((N / 256 ^ (15 - (8 + k)) % 256 : Nat) : Int)) : ((zk N k).set k a).set (8 + k) b = zk N (k + 1) := by
  refine ext16' (by simp [zk_len]) (zk_len _ _) fun j hj => ?_
  rw [getD_set', getD_set', zk_getD _ _ hj, zk_getD _ _ hj, List.length_set, zk_len]
  by_cases h1 : 8 + k = j
  · subst h1
    rw [if_pos ⟨rfl, hj⟩, if_pos (by omega), hb]
  · rw [if_neg (fun h => h1 h.1)]
    by_cases h2 : k = j
    · subst h2
      rw [if_pos ⟨rfl, hj⟩, if_pos (by omega), ha]
    · rw [if_neg (fun h => h2 h.1)]
      by_cases h3 : j % 8 < k
      · rw [if_pos h3, if_pos (by omega)]
      · rw [if_neg h3, if_neg (by omega)]
theorem pow256_2 (k : Nat) : 256 ^ k = 2 ^ (8 * k) := by rw [Nat.pow_mul]
theorem hi_byte (N : Nat) {k : Nat} (hk : k < 8) : N / 18446744073709551616 / 2 ^ (56 - 8 * k) % 256 = N / 256 ^ (15 - k) % 256 := by
  rw [← two64, Nat.div_div_eq_div_mul, ← Nat.pow_add, pow256_2, show 64 + (56 - 8 * k) = 8 * (15 - k) by omega]
theorem lo_byte (N : Nat) {k : Nat} (hk : k < 8) : N % 18446744073709551616 / 2 ^ (56 - 8 * k) % 256 = N / 256 ^ (15 - (8 + k)) % 256 := by
  rw [← two64, pow256_2, show 8 * (15 - (8 + k)) = 56 - 8 * k by omega]
  apply Nat.eq_of_testBit_eq
  intro i
  rw [show (256 : Nat) = 2 ^ 8 by decide, Nat.testBit_mod_two_pow, Nat.testBit_mod_two_pow, Nat.testBit_div_two_pow, Nat.testBit_div_two_pow, Nat.testBit_mod_two_pow]
  by_cases hi : i < 8
  · rw [decide_eq_true hi, Bool.true_and, Bool.true_and, show decide (i + (56 - 8 * k) < 64) = true from decide_eq_true (by omega), Bool.true_and]
  · rw [decide_eq_false hi, Bool.false_and, Bool.false_and]
attribute [irreducible] zk
attribute [local irreducible] pc
set_option maxRecDepth 100000 in
set_option maxHeartbeats 8000000 in
theorem hash_any (A : Option Addr) (n c : Nat) (h X : List Int) (w : World) (hh : Blk16 h) (hX : Byt X) (hn : X.length = n) (hc : n ≤ c) (hr : Rd w.heap.size .u8 w A X) :
    Calls Try.prog 38 #[.agg (cellsL .u8 h), .slice A n c] w (RetV (.agg (cellsL .u8 (hashL h X))) w) := by
  have HH := Lib.hid hh
  have HX := Lib.hid hX
  have HN := Lib.hid hn
  have HR := Lib.hid hr
  have HGH := Lib.hid (beN_ok hh.1 hh.2)
  clear hh hX hn hr
  have A0 : Hid (Arr (((w.alloc (.cells (cellsL .u8 h) 32)).alloc (.cells (cellsL .u8 (nul 16)) 32)).alloc (.cells #[.int .u64 0, .int .u64 0] 93)) w.heap.size 32 .u8 h) := Lib.hid (((Arr.newAt rfl rfl).alloc _).alloc _)
  have A1 : Hid (Arr (((w.alloc (.cells (cellsL .u8 h) 32)).alloc (.cells (cellsL .u8 (nul 16)) 32)).alloc (.cells #[.int .u64 0, .int .u64 0] 93)) (w.heap.size + 1) 32 .u8 (nul 16)) := Lib.hid ((Arr.newAt (by simp) rfl).alloc _)
  have A2 : Hid (Arr (((w.alloc (.cells (cellsL .u8 h) 32)).alloc (.cells (cellsL .u8 (nul 16)) 32)).alloc (.cells #[.int .u64 0, .int .u64 0] 93)) (w.heap.size + 1 + 1) 93 .u64 (hl 0)) := Lib.hid (Arr.cast (Arr.newAt (xs := [0, 0]) (by simp) rfl) (by simp [hl]))
  have BB : Hid (Below w.heap.size w (((w.alloc (.cells (cellsL .u8 h) 32)).alloc (.cells (cellsL .u8 (nul 16)) 32)).alloc (.cells #[.int .u64 0, .int .u64 0] 93))) := Lib.hid ((((Below.refl _ _).alloc (Nat.le_refl _) _).alloc (by simp) _).alloc (by simp <;> omega) _)
  go_enter Try.func38, Try.ntmps38
  go_wp2_with fail
  refine Calls.mono (of_any (some ⟨w.heap.size, 0, none⟩) _ h _ HH.out A0.out.rd) ?_
  rintro e w2 ⟨rfl, hb2⟩
  obtain ⟨H, hH⟩ : ∃ H, beN h = H := ⟨_, rfl⟩
  rw [hH]
  have HHH := Lib.hid hH
  rw [hH] at HGH
  have hsz : w.heap.size + 1 + 1 < w2.heap.size := by have := hb2.size; simp at this; omega
  have B2 := Lib.hid (A1.out.belowAll hb2)
  have C2 := Lib.hid (A2.out.belowAll hb2)
  have W2 := Lib.hid (BB.out.trans (hb2.mono BB.out.size))
  clear hb2 A0 A1 A2 BB hH
  go_wp2_with ((with_reducible (show wpList _ _ _ (⟨none, .store 93 _ _, _, _, _, _⟩ :: _) _ _)); refine wpList_storeArr (o := ⟨none, .store 93 _ _, _, _, _, _⟩) (g := w2.heap.size) (t := 93) (k := .u64) (xs := hl H) (n := 2) rfl _ _ rfl rfl rfl (Blk.new _ _ _) sizeBl rfl rfl ?_; intro w5 ha5 hg5; have A5 := Lib.hid ha5; have B5 := Lib.hid (((Below.refl w2.heap.size w2).alloc (Nat.le_refl _) _).trans (below_of_only hg5 (Nat.le_refl _) (by simp))); clear ha5 hg5)
  have F5 : Hid (HFr w w2.heap.size H (ghK H X 0) w5) := Lib.hid (by
    rw [ghK_z]
    exact ⟨B2.out.belowAll B5.out, C2.out.belowAll B5.out, A5.out, W2.out.trans (B5.out.mono W2.out.size), hsz⟩)
  have R5 : Hid (Rd w.heap.size .u8 w5 A (X.drop (16 * 0))) := Lib.hid (by rw [Nat.mul_zero, List.drop_zero]; exact HR.out.below F5.out.2.2.2.1 (Nat.le_refl _))
  have N5 : Hid (n = (X.drop (16 * 0)).length) := Lib.hid (by rw [Nat.mul_zero, List.drop_zero, HN.out])
  clear A5 B5 B2 C2 W2
  generalize w2.heap.size = g6 at *
  rw [put_none]
  go_loopw [1] (fun v wr => ∃ (k : Nat) (A : Option Addr) (n c : Nat), v = .slice A n c ∧ n ≤ c ∧ k ≤ nBlk X.length ∧ Hid (n = (X.drop (16 * k)).length) ∧ Hid (Rd w.heap.size .u8 wr A (X.drop (16 * k))) ∧ Hid (HFr w g6 H (ghK H X k) wr)) (fun v _ => lenS v)
  case atStart => exact ⟨0, A, n, c, rfl, hc, by omega, N5, R5, F5⟩
  case round =>
    clear F5 R5 N5 hc HR
    obtain ⟨k, A, n, c, rfl, hc, hk, HNN, HR, HF⟩ := hrel
    by_cases hlt : 0 < n
    · have hkb : k + 1 ≤ nBlk X.length := by
        have h1 := HNN.out
        rw [List.length_drop] at h1
        unfold nBlk
        omega
      obtain ⟨m, hm⟩ : ∃ m, m = Nat.min n 16 := ⟨_, rfl⟩
      have hmn : m ≤ n := by rw [hm]; exact Nat.min_le_left _ _
      have hm16 : m ≤ 16 := by rw [hm]; exact Nat.min_le_right _ _
      have hm0 : 0 < m := by rw [hm]; exact Nat.lt_min.2 ⟨hlt, by decide⟩
      have HM := Lib.hid hm
      have HPC := Lib.hid (pc_ovi X k m (by rw [← HNN.out]; exact hm))
      have HDP := Lib.hid (drop_pc X k m (by rw [← HNN.out]; exact hm))
      have HPK : Hid (Blk16 (pc X k)) := Lib.hid ⟨pc_len X k, pc_byt HX.out k⟩
      have HGS := Lib.hid (ghK_s H X k)
      have HGO := Lib.hid (ghK_ok HGH.out X k)
      generalize X.drop (16 * k) = L at *
      generalize pc X k = Q at *
      generalize ghK H X k = Y at *
      clear hm
      obtain ⟨A', c', p1, p2, p3, p4, p5⟩ := slice_lN elB8 HR.out HNN.out.symm hc (m : Int) (n - m) (by omega) (by omega) (by omega)
      have hmt : ((m : Int)).toNat = m := by omega
      rw [hmt] at p3 p4
      have P3 := Lib.hid p3
      have P4 := Lib.hid p4
      have HF7 := Lib.hid (HF.out.below ((Below.refl wr.heap.size wr).alloc (Nat.le_refl _) (.cells (cellsL .u8 (nul 16)) 32)))
      have B0 := Lib.hid ((Below.refl wr.heap.size wr).alloc (Nat.le_refl _) (.cells (cellsL .u8 (nul 16)) 32))
      have HSZ := HF.out.2.2.2.1.size
      clear p3 p4 hmt
      go_wp2_with ((with_reducible (show wpList _ _ _ (⟨some 19, _, _, _, _, _⟩ :: _) _ _)); refine wpList_copyAt (o := ⟨some 19, _, _, _, _, _⟩) (g := wr.heap.size) (off := 0) (m := m) (k := .u8) (xs := nul 16) rfl _ _ rfl Try.underlying28 sizeE1 rfl rfl (Arr.newAt rfl rfl) (HR.out.alloc HSZ _) HNN.out.symm ?_ ?_ ?_; (exact HM.out); (rw [nul_len]; omega); intro w6 ha6 hg6; rw [HPC.out] at ha6; have HA6 := Lib.hid ha6; have HB6 := Lib.hid (B0.out.trans (below_of_only hg6 (Nat.le_refl _) B0.out.size)); clear ha6 hg6)
      refine Calls.mono (of_any (some ⟨wr.heap.size, 0, none⟩) _ Q _ HPK.out HA6.out.rd) ?_
      rintro e w7 ⟨rfl, hb7⟩
      have HB7 := Lib.hid (HB6.out.trans (hb7.mono HB6.out.size))
      have HQO := Lib.hid (beN_ok HPK.out.1 HPK.out.2)
      obtain ⟨q, hq⟩ : ∃ q, beN Q = q := ⟨_, rfl⟩
      rw [hq] at HGS HQO ⊢
      clear hb7 hq HA6 HB6 HF7 B0 hmn hm16 hm0
      obtain ⟨yh, hyh⟩ : ∃ t : Nat, Y / 18446744073709551616 = t := ⟨_, rfl⟩
      obtain ⟨yl, hyl⟩ : ∃ t : Nat, Y % 18446744073709551616 = t := ⟨_, rfl⟩
      obtain ⟨qh, hqh⟩ : ∃ t : Nat, q / 18446744073709551616 = t := ⟨_, rfl⟩
      obtain ⟨ql, hql⟩ : ∃ t : Nat, q % 18446744073709551616 = t := ⟨_, rfl⟩
      have HYL : Hid (hl Y = [(yh : Int), (yl : Int)]) := Lib.hid (by unfold hl; rw [hyh, hyl])
      have HQL : Hid (hl q = [(qh : Int), (ql : Int)]) := Lib.hid (by unfold hl; rw [hqh, hql])
      have HXR : Hid (#[Value.int .u64 (bits .xor .u64 (yh : Int) (qh : Int)), Value.int .u64 (bits .xor .u64 (yl : Int) (ql : Int))] = cellsL .u64 (hl (Y ^^^ q))) := Lib.hid (by rw [hl_xor HGO.out HQO.out, hyh, hyl, hqh, hql]; rfl)
      clear hyh hyl hqh hql
      go_wp2_with (first
        | ((with_reducible (show wpList _ _ _ (⟨none, .store 93 (.tmp 8) _, _, _, _, _⟩ :: _) _ _)); refine wpList_storeArr (o := ⟨none, .store 93 (.tmp 8) _, _, _, _, _⟩) (g := w7.heap.size) (t := 93) (k := .u64) (xs := hl q) (n := 2) rfl _ _ rfl rfl rfl (Blk.new _ _ _) sizeBl rfl rfl ?_; intro w8 ha8 hg8; have B8 := Lib.hid (HB7.out.trans ((((Below.refl w7.heap.size w7).alloc (Nat.le_refl _) _).trans (below_of_only hg8 (Nat.le_refl _) (by simp))).mono HB7.out.size)); have F8 := Lib.hid (HF.out.below B8.out); have c1 : w8.cell? ⟨w.heap.size + 1 + 1, 0, none⟩ = some (.int .u64 (yh : Int)) := (by have h := F8.out.2.1; rw [HYL.out] at h; exact h.cell (i := 0) (by simp)); have c2 : w8.cell? ⟨w.heap.size + 1 + 1, 1, none⟩ = some (.int .u64 (yl : Int)) := (by have h := F8.out.2.1; rw [HYL.out] at h; exact h.cell (i := 1) (by simp)); have c3 : w8.cell? ⟨w7.heap.size, 0, none⟩ = some (.int .u64 (qh : Int)) := (by have h := ha8; rw [HQL.out] at h; exact h.cell (i := 0) (by simp)); have c4 : w8.cell? ⟨w7.heap.size, 1, none⟩ = some (.int .u64 (ql : Int)) := (by have h := ha8; rw [HQL.out] at h; exact h.cell (i := 1) (by simp)); have L6 := Lib.hid (blk_load (P := Try.prog) F8.out.2.2.1 Try.underlying93 rfl sizeBl); clear ha8 hg8)
        | ((with_reducible (show wpList _ _ _ (⟨some 34, .load _ _, _, _, _, _⟩ :: _) _ _)); refine wpList_loadV (o := ⟨some 34, .load _ _, _, _, _, _⟩) rfl _ rfl rfl (L6.out) ?_))
      rw [HXR.out]
      refine Calls.mono (times_any (Y ^^^ q) H _ (HGO.out.xor HQO.out) HGH.out) ?_
      rintro e w10 ⟨rfl, hb10⟩
      rw [← HGS.out]
      have F10 := Lib.hid (F8.out.below hb10)
      have B10 := Lib.hid (B8.out.trans (hb10.mono B8.out.size))
      obtain ⟨w11, hs11, hz11, hg11⟩ := blk_storeAll (P := Try.prog) (ty := 93) (vs := iv .u64 (hl (ghK H X (k + 1)))) F10.out.2.1 rfl (iv_one _ _) sizeBl
      have S11 := Lib.hid hs11
      have F11 := Lib.hid (F10.out.put hz11 hg11)
      have R11 : Hid (Rd w.heap.size .u8 w11 A' (X.drop (16 * (k + 1)))) := Lib.hid (by
        rw [← HDP.out]
        exact P3.out.below ((B10.out.mono HSZ).trans (below_of_only hg11 (by omega) (Nat.le_trans HSZ B10.out.size))) (Nat.le_refl _))
      have N11 : Hid (n - m = (X.drop (16 * (k + 1))).length) := Lib.hid (by rw [← HDP.out, P4.out])
      have hmlt : n - m < n := by have := HM.out; have h0 : 0 < m := by rw [this]; exact Nat.lt_min.2 ⟨hlt, by decide⟩
                                  omega
      clear hs11 hz11 hg11 hb10 c1 c2 c3 c4 L6 HXR HYL HQL F8 B8 HB7 F10 B10 HGS HDP P3 P4
      go_wp2_with ((with_reducible (show wpList _ _ _ (⟨none, .store 93 _ _, _, _, _, _⟩ :: _) _ _)); refine wpList_storeV (o := ⟨none, .store 93 _ _, _, _, _, _⟩) rfl _ _ rfl rfl rfl (S11.out) ?_)
      rw [put_none]
      go_roundw
      case rel => exact ⟨k + 1, A', n - m, c', rfl, p1, hkb, N11, R11, F11⟩
      case measure => exact hmlt
    · have hkn : k = nBlk X.length := by
        have h1 := HNN.out
        rw [List.length_drop] at h1
        unfold nBlk at *
        omega
      have HHF : Hid (hashL h X = b16 (ghK H X (nBlk X.length))) := Lib.hid (by unfold hashL; rw [HHH.out])
      have HFF : Hid (HFr w g6 H (ghK H X (nBlk X.length)) wr) := Lib.hid (by rw [← hkn]; exact HF.out)
      have HNO := Lib.hid (ghK_ok HGH.out X (nBlk X.length))
      clear HF HR HNN hkn hk
      generalize ghK H X (nBlk X.length) = N at *
      go_wp2_with fail
      clear hlt
      obtain ⟨yh, hyh⟩ : ∃ t : Nat, N / 18446744073709551616 = t := ⟨_, rfl⟩
      obtain ⟨yl, hyl⟩ : ∃ t : Nat, N % 18446744073709551616 = t := ⟨_, rfl⟩
      have HYL : Hid (hl N = [(yh : Int), (yl : Int)]) := Lib.hid (by unfold hl; rw [hyh, hyl])
      have HHI : Hid (∀ k, k < 8 → yh / 2 ^ (56 - 8 * k) % 256 = N / 256 ^ (15 - k) % 256) := Lib.hid (fun k hk => by rw [← hyh]; exact hi_byte N hk)
      have HLO : Hid (∀ k, k < 8 → yl / 2 ^ (56 - 8 * k) % 256 = N / 256 ^ (15 - (8 + k)) % 256) := Lib.hid (fun k hk => by rw [← hyl]; exact lo_byte N hk)
      have hyl2 : yl < 18446744073709551616 := by rw [← hyl]; exact Nat.mod_lt _ (by decide)
      have hyh2 : yh < 18446744073709551616 := by have := HNO.out; unfold G128 at this; omega
      clear hyh hyl
      obtain ⟨wo, rfl⟩ : ∃ wo : World, wo = wr := ⟨_, rfl⟩
      have F0 := Lib.hid (HFF.out.below ((Below.refl wo.heap.size wo).alloc (Nat.le_refl _) (.cells (cellsL .u8 (nul 16)) 32)))
      have Z0 : Hid (Arr (wo.alloc (.cells (cellsL .u8 (nul 16)) 32)) wo.heap.size 32 .u8 (zk N 0)) := Lib.hid (by rw [zk_zero]; exact Arr.newAt rfl rfl)
      have HGG : w.heap.size + 1 + 1 < wo.heap.size := by have := HFF.out.2.2.1.lt; have := HFF.out.2.2.2.2; omega
      have HG6 : g6 < wo.heap.size := HFF.out.2.2.1.lt
      clear HFF
      go_loopw [36] (fun ii wr => ∃ k : Nat, k ≤ 8 ∧ ii = .int .i64 k ∧ Hid (Arr wr wo.heap.size 32 .u8 (zk N k)) ∧ Hid (HFr w g6 H N wr)) (fun ii _ => 8 - (intOf ii).toNat)
      case atStart => exact ⟨0, by omega, rfl, Z0, F0⟩
      case round =>
        clear F0 Z0
        obtain ⟨k, hk, rfl, HZ, HF⟩ := hrel
        by_cases hlt : k < 8
        · have HF1 := HF.out.2.1
          rw [HYL.out] at HF1
          have hC : ∀ v : World, Arr v (w.heap.size + 1 + 1) 93 .u64 [(yh : Int), (yl : Int)] → (v.cell? ⟨w.heap.size + 1 + 1, 0, none⟩ = some (.int .u64 (yh : Int)) ∧ v.cell? ⟨w.heap.size + 1 + 1, 1, none⟩ = some (.int .u64 (yl : Int))) := fun v h => ⟨h.cell (i := 0) (by simp), h.cell (i := 1) (by simp)⟩
          have hCC := Lib.hid (hC wr HF1)
          have HFQ := Lib.hid HF1
          clear hC HF1
          have p1 := fun r : CW (fun v : World => v.cell? ⟨w.heap.size + 1 + 1, 0, none⟩ = some (.int .u64 (yh : Int)) ∧ v.cell? ⟨w.heap.size + 1 + 1, 1, none⟩ = some (.int .u64 (yl : Int))) => r.holds.1
          have p2 := fun r : CW (fun v : World => v.cell? ⟨w.heap.size + 1 + 1, 0, none⟩ = some (.int .u64 (yh : Int)) ∧ v.cell? ⟨w.heap.size + 1 + 1, 1, none⟩ = some (.int .u64 (yl : Int))) => r.holds.2
          have hne : Nonempty (CW (fun v : World => v.cell? ⟨w.heap.size + 1 + 1, 0, none⟩ = some (.int .u64 (yh : Int)) ∧ v.cell? ⟨w.heap.size + 1 + 1, 1, none⟩ = some (.int .u64 (yl : Int)))) := CW.inh hCC.out
          have f1 := HZ.out.frozen k
          have f2 : ∀ v, (wr.setCell ⟨wo.heap.size, k, none⟩ v).frozen? ⟨wo.heap.size, 8 + k, none⟩ = false := fun v => Blk.frozen (Blk.set_ HZ.out k v) (8 + k)
          have q1 := HZ.out.cell (i := k) (by rw [zk_len]; omega)
          have e1 : (8 + (k : Int)).toNat = 8 + k := by omega
          go_wp2_with fail
          refine wp_region_mixO (fun v' : World => ∃ r : CW (fun v : World => v.cell? ⟨w.heap.size + 1 + 1, 0, none⟩ = some (.int .u64 (yh : Int)) ∧ v.cell? ⟨w.heap.size + 1 + 1, 1, none⟩ = some (.int .u64 (yl : Int))), v' = r.world) [([0, 1, 2, 3, 4, 5, 6, 7, 8, 9, 10, 11, 12, 13, 14, 15, 16, 17], 18), ([19], 20)] (by kernel_rfl) (by kernel_rfl) (by kernel_rfl) (by kernel_rfl) (by kernel_rfl) ⟨CW.mk' (w := wr.drew) hCC.out, rfl⟩ ?_
          simp only [pickL, List.map_cons, List.map_nil, List.filterMap_cons, List.filterMap_nil, List.getElem?_cons_succ, List.getElem?_cons_zero]
          refine mixO_cons ?_
          repeat (show wpQuiet _ _ _ _ (_ :: _) _; go_big_quiet_step (fail))
          refine wpQuiet_nil ?_
          show wpList _ _ _ [_] _ _
          go_wp2_with fail
          obtain ⟨a, ha⟩ : ∃ a : Int, (yh : Int) / 2 ^ (56 - 8 * k) % 256 = a := ⟨_, rfl⟩
          obtain ⟨b, hb⟩ : ∃ b : Int, (yl : Int) / 2 ^ (56 - 8 * k) % 256 = b := ⟨_, rfl⟩
          have HZS := Lib.hid (zk_set N hlt (a := a) (b := b) (by rw [← ha, castdiv, ← HHI.out k hlt]; rfl) (by rw [← hb, castdiv, ← HLO.out k hlt]; rfl))
          rw [ha]
          have HZ3 := Lib.hid (Arr.drew (HZ.out.set k a))
          have HF3 : Hid (HFr w g6 H N (wr.setCell ⟨wo.heap.size, k, none⟩ (.int .u8 a)).drew) := Lib.hid ⟨HF.out.1.far (by simp; omega) _, HF.out.2.1.far (by simp; omega) _, HF.out.2.2.1.far (by simp; omega) _, (HF.out.2.2.2.1.setCell (by simp; omega) _).drew, HF.out.2.2.2.2⟩
          have hS3 : (wr.setCell ⟨wo.heap.size, k, none⟩ (.int .u8 a)).drew.cell? ⟨w.heap.size + 1 + 1, 0, none⟩ = some (.int .u64 (yh : Int)) ∧ (wr.setCell ⟨wo.heap.size, k, none⟩ (.int .u8 a)).drew.cell? ⟨w.heap.size + 1 + 1, 1, none⟩ = some (.int .u64 (yl : Int)) := by
            have h := HF3.out.2.1
            rw [HYL.out] at h
            exact ⟨h.cell (i := 0) (by simp), h.cell (i := 1) (by simp)⟩
          generalize (wr.setCell ⟨wo.heap.size, k, none⟩ (.int .u8 a)).drew = w3 at *
          clear f1 f2 q1 ha HZ HF HFQ hCC
          have f2 := HZ3.out.frozen (8 + k)
          have q2 := HZ3.out.cell (i := 8 + k) (by rw [List.length_set, zk_len]; omega)
          generalize ((zk N k).set k a).getD (8 + k) 0 = old at q2
          refine MixO.narrow (fun _ h => h) (⟨CW.mk' (w := w3) hS3, rfl⟩) ?_
          refine mixO_cons ?_
          repeat (show wpQuiet _ _ _ _ (_ :: _) _; go_big_quiet_step (fail))
          refine wpQuiet_nil ?_
          show wpList _ _ _ [_] _ _
          go_wp2_with fail
          rw [hb]
          refine MixO.last ?_
          refine mixO_nil ?_
          refine wpQuiet_nil ?_
          refine NoPanic.normal ?_
          have HZ4 : Hid (Arr (w3.setCell ⟨wo.heap.size, 8 + k, none⟩ (.int .u8 b)) wo.heap.size 32 .u8 (zk N (k + 1))) := Lib.hid (Arr.cast (HZ3.out.set (8 + k) b) HZS.out)
          have HF4 : Hid (HFr w g6 H N (w3.setCell ⟨wo.heap.size, 8 + k, none⟩ (.int .u8 b))) := Lib.hid ⟨HF3.out.1.far (by simp; omega) _, HF3.out.2.1.far (by simp; omega) _, HF3.out.2.2.1.far (by simp; omega) _, HF3.out.2.2.2.1.setCell (by simp; omega) _, HF3.out.2.2.2.2⟩
          clear f2 q2 HZ3 HF3 HZS e1 hS3 p1 p2 hne hb
          go_wp2_with fail
          go_roundw
          case rel => exact ⟨k + 1, by omega, by go_num, HZ4, HF4⟩
          case measure => simp [intOf]; omega
        · have HZ2 : Hid (Arr wr wo.heap.size 32 .u8 (b16 N)) := Lib.hid (Arr.cast HZ.out (by rw [show k = 8 by omega, zk_full]))
          have L59 := Lib.hid (arr_load HZ2.out Try.underlying32 sizeE16 (b16_len N).symm)
          obtain ⟨w8, hs8, hz8, hg8⟩ := blk_storeAll (P := Try.prog) (ty := 32) (vs := iv .u8 (b16 N)) HF.out.1 (by rw [iv_len, b16_len, List.size_toArray, List.length_map, nul_len]) (iv_one _ _) (by rw [iv_len, b16_len]; exact sizeE16)
          have S8 := Lib.hid hs8
          have Z8 := Lib.hid hz8
          have B8 := Lib.hid (HF.out.2.2.2.1.trans (below_of_only hg8 (by omega) HF.out.2.2.2.1.size))
          clear hs8 hz8 hg8 HZ HZ2 HF
          go_wp2_with (first
            | ((with_reducible (show wpList _ _ _ (⟨some 59, .load _ _, _, _, _, _⟩ :: _) _ _)); refine wpList_loadV (o := ⟨some 59, .load _ _, _, _, _, _⟩) rfl _ rfl rfl (L59.out) ?_)
            | ((with_reducible (show wpList _ _ _ (⟨none, .store 32 _ _, _, _, _, _⟩ :: _) _ _)); refine wpList_storeV (o := ⟨none, .store 32 _ _, _, _, _, _⟩) rfl _ _ rfl rfl rfl (S8.out) ?_))
          refine ret_row rfl rfl Z8.out Try.underlying32 rfl (by rw [List.size_toArray, iv_len, b16_len]; exact sizeE16) rfl ⟨by rw [HHF.out]; rfl, B8.out⟩
end Go.Proofs.Ytepkbllcaeceeaa
