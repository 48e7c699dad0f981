/- Contracts: the reference's first and all; key.Token and the reference's. Conditions: as each theorem states them. -/
import Derived.Test.YthpacdondnenmaaY4
namespace Go.Proofs.Ythpacdondnenmaa
open Go.RowKit

set_option maxRecDepth 100000 in
set_option maxHeartbeats 4000000 in
theorem kfirst_any (A : Option Addr) (c : Nat) (L : List Int) (w : World) (hL : L.length = 16) (hr : Rd w.heap.size .u8 w A L) :
    Calls Try.prog 47 #[.slice A 16 c, .int .i64 16] w (RetV (.agg (cellsL .u8 L)) w) := by
  have HL := Lib.hid hL
  have HR := Lib.hid hr
  clear hL hr
  obtain ⟨ad, rfl, hadb⟩ := HR.out.isSome (by rw [HL.out]; decide)
  go_enter Try.func47, Try.ntmps47
  go_wp2_with fail
  go_loopw [6] (fun i wr => ∃ k : Nat, k ≤ 16 ∧ i = .int .i64 k ∧ Hid (Arr wr (w.heap.size + 1) 23 .u8 (fil L k)) ∧ Hid (Blk wr w.heap.size 23 (cellsL .u8 (zer 16))) ∧ Hid (Below w.heap.size w wr)) (fun i _ => 16 - (intOf i).toNat)
  case atStart => exact ⟨0, by omega, rfl, Lib.hid (Arr.cast (Arr.newAt (xs := zer 16) (by simp) rfl) (by rw [fil_zero, HL.out]; rfl)), Lib.hid ((Blk.new _ _ _).alloc _), Lib.hid (((Below.refl _ _).alloc (Nat.le_refl _) _).alloc (by simp) _)⟩
  case round =>
    obtain ⟨k, hk, rfl, HA, HZ, HB⟩ := hrel
    have hfl : Hid ((fil L k).length = 16) := Lib.hid (by rw [fil_len, HL.out])
    by_cases hlt : k < 16
    · have c1 := (HR.out.below HB.out (Nat.le_refl _)).at_ (i := k) (by rw [HL.out]; exact hlt)
      have c0 := HA.out.cell (i := k) (by rw [hfl.out]; exact hlt)
      have c0' := HA.out.cellAdd (i := k) (by rw [hfl.out]; exact hlt)
      have f0 := HA.out.frozen k
      have f0' := HA.out.frozenAdd k
      have HMS := Lib.hid (fil_set (xs := L) (k := k) (by rw [HL.out]; exact hlt))
      generalize L.getD k 0 = x at *
      generalize (fil L k).getD k 0 = old at *
      go_wp2_with fail
      go_roundw
      case rel => exact ⟨k + 1, by omega, by go_num, Lib.hid (Arr.cast (HA.out.set k x) HMS.out), Lib.hid (Blk.far HZ.out (by simp) _), Lib.hid (HB.out.setCell (by simp) _)⟩
      case measure => simp [intOf]; omega
    · have hkn : k = 16 := by omega
      have HA2 : Hid (Arr wr (w.heap.size + 1) 23 .u8 L) := Lib.hid (Arr.cast HA.out (by rw [hkn]; have := fil_full L; rw [HL.out] at this; exact this))
      clear HA hkn hfl
      have L1 := Lib.hid (arr_load HA2.out Try.underlying23 size16 HL.out.symm)
      obtain ⟨w6, hs6, hz6, hg6⟩ := blk_storeAll (P := Try.prog) (ty := 23) (vs := iv .u8 L) HZ.out (by rw [iv_len, HL.out, cellsL_size, zer_len]) (iv_one _ _) (by rw [iv_len, HL.out]; exact size16)
      have S6 := Lib.hid hs6
      have Z6 := Lib.hid hz6
      have G6 := Lib.hid hg6
      clear hs6 hz6 hg6
      go_wp2_with (first
        | ((with_reducible (show wpList _ _ _ (⟨some 24, .load _ _, _, _, _, _⟩ :: _) _ _)); refine wpList_loadV (o := ⟨some 24, .load _ _, _, _, _, _⟩) rfl _ rfl rfl (L1.out) ?_)
        | ((with_reducible (show wpList _ _ _ (⟨none, .store 23 _ _, _, _, _, _⟩ :: _) _ _)); refine wpList_storeV (o := ⟨none, .store 23 _ _, _, _, _, _⟩) rfl _ _ rfl rfl rfl (S6.out) ?_))
      refine ret_row rfl rfl Z6.out Try.underlying23 rfl (by rw [List.size_toArray, iv_len, HL.out]; exact size16) rfl ⟨rfl, ?_⟩
      exact HB.out.trans (below_of_only G6.out (Nat.le_refl _) HB.out.size)

set_option maxRecDepth 100000 in
set_option maxHeartbeats 4000000 in
theorem kall_any (A : Option Addr) (c : Nat) (L : List Int) (w : World) (hL : L.length = 32) (hr : Rd w.heap.size .u8 w A L) :
    Calls Try.prog 49 #[.slice A 32 c] w (RetV (.agg (cellsL .u8 L)) w) := by
  have HL := Lib.hid hL
  have HR := Lib.hid hr
  clear hL hr
  obtain ⟨ad, rfl, hadb⟩ := HR.out.isSome (by rw [HL.out]; decide)
  go_enter Try.func49, Try.ntmps49
  go_wp2_with fail
  go_loopw [4] (fun i wr => ∃ k : Nat, k ≤ 32 ∧ i = .int .i64 k ∧ Hid (Arr wr (w.heap.size + 1) 22 .u8 (fil L k)) ∧ Hid (Blk wr w.heap.size 22 (cellsL .u8 (zer 32))) ∧ Hid (Below w.heap.size w wr)) (fun i _ => 32 - (intOf i).toNat)
  case atStart => exact ⟨0, by omega, rfl, Lib.hid (Arr.cast (Arr.newAt (xs := zer 32) (by simp) rfl) (by rw [fil_zero, HL.out]; rfl)), Lib.hid ((Blk.new _ _ _).alloc _), Lib.hid (((Below.refl _ _).alloc (Nat.le_refl _) _).alloc (by simp) _)⟩
  case round =>
    obtain ⟨k, hk, rfl, HA, HZ, HB⟩ := hrel
    have hfl : Hid ((fil L k).length = 32) := Lib.hid (by rw [fil_len, HL.out])
    by_cases hlt : k < 32
    · have c1 := (HR.out.below HB.out (Nat.le_refl _)).at_ (i := k) (by rw [HL.out]; exact hlt)
      have c0 := HA.out.cell (i := k) (by rw [hfl.out]; exact hlt)
      have c0' := HA.out.cellAdd (i := k) (by rw [hfl.out]; exact hlt)
      have f0 := HA.out.frozen k
      have f0' := HA.out.frozenAdd k
      have HMS := Lib.hid (fil_set (xs := L) (k := k) (by rw [HL.out]; exact hlt))
      generalize L.getD k 0 = x at *
      generalize (fil L k).getD k 0 = old at *
      go_wp2_with fail
      go_roundw
      case rel => exact ⟨k + 1, by omega, by go_num, Lib.hid (Arr.cast (HA.out.set k x) HMS.out), Lib.hid (Blk.far HZ.out (by simp) _), Lib.hid (HB.out.setCell (by simp) _)⟩
      case measure => simp [intOf]; omega
    · have hkn : k = 32 := by omega
      have HA2 : Hid (Arr wr (w.heap.size + 1) 22 .u8 L) := Lib.hid (Arr.cast HA.out (by rw [hkn]; have := fil_full L; rw [HL.out] at this; exact this))
      clear HA hkn hfl
      have L1 := Lib.hid (arr_load HA2.out Try.underlying22 size32 HL.out.symm)
      obtain ⟨w6, hs6, hz6, hg6⟩ := blk_storeAll (P := Try.prog) (ty := 22) (vs := iv .u8 L) HZ.out (by rw [iv_len, HL.out, cellsL_size, zer_len]) (iv_one _ _) (by rw [iv_len, HL.out]; exact size32)
      have S6 := Lib.hid hs6
      have Z6 := Lib.hid hz6
      have G6 := Lib.hid hg6
      clear hs6 hz6 hg6
      go_wp2_with (first
        | ((with_reducible (show wpList _ _ _ (⟨some 21, .load _ _, _, _, _, _⟩ :: _) _ _)); refine wpList_loadV (o := ⟨some 21, .load _ _, _, _, _, _⟩) rfl _ rfl rfl (L1.out) ?_)
        | ((with_reducible (show wpList _ _ _ (⟨none, .store 22 _ _, _, _, _, _⟩ :: _) _ _)); refine wpList_storeV (o := ⟨none, .store 22 _ _, _, _, _, _⟩) rfl _ _ rfl rfl rfl (S6.out) ?_))
      refine ret_row rfl rfl Z6.out Try.underlying22 rfl (by rw [List.size_toArray, iv_len, HL.out]; exact size32) rfl ⟨rfl, ?_⟩
      exact HB.out.trans (below_of_only G6.out (Nat.le_refl _) HB.out.size)

theorem blk_new_at {w : World} {cs : Array Value} {t : TypeId} {g : Nat} (hg : w.heap.size = g) : Blk (w.alloc (.cells cs t)) g t cs := by subst hg; exact Blk.new _ _ _
def tkkL (S C : List Int) : List Int := (macL S C).take 16
theorem tkkL_eq (S C : List Int) : tkkL S C = (macL S C).take 16 := rfl
theorem tkkL_len (S C : List Int) : (tkkL S C).length = 16 := by unfold tkkL; rw [List.length_take, macL_len]; rfl
theorem tkkL_byt (S C : List Int) : Byt (tkkL S C) := (macL_byt S C).take 16
attribute [irreducible] tkkL
theorem arrTok (A : Option Addr) (c : Nat) (w : World) : (Instr.arrayAt 55 (.slice A 16 c)).run Try.prog w = .ok (.pointer A) w := arrayAt_run Try.underlying55 A c (Nat.le_refl _) w
attribute [local go_sem] arrTok
theorem tok_load {w : World} {B g : Nat} {X T : List Int} (hX : X.length = 32) (hT : T = X.take 16) (h : Rd B .u8 w (some ⟨g, 0, none⟩) X) : Hid ((Instr.loadAt 55 (.pointer (some ⟨g, 0, none⟩))).run Try.prog w = .ok (.agg (cellsL .u8 T)) w) := Lib.hid (by
  have := rd_loadArr h Try.underlying55 sizeTok (by rw [hX]; decide) (by decide)
  rwa [← hT] at this)
theorem tok_store {w : World} {g : Nat} {T : List Int} (hT : T.length = 16) (h : Blk w g 55 (cellsL .u8 (zer 16))) : ∃ w', Hid ((Instr.storeAt 55 (.pointer (some ⟨g, 0, none⟩)) (.agg (cellsL .u8 T))).run Try.prog w = .ok () w') ∧ Hid (Blk w' g 55 (cellsL .u8 T)) ∧ Hid (w.grownBy w' (some g)) := by
  obtain ⟨w6, h1, h2, h3⟩ := blk_storeAll (P := Try.prog) (ty := 55) (vs := iv .u8 T) h (by rw [iv_len, hT, cellsL_size, zer_len]) (iv_one _ _) (by rw [iv_len, hT]; exact sizeTok)
  exact ⟨w6, Lib.hid h1, Lib.hid h2, Lib.hid h3⟩
set_option maxRecDepth 100000 in
set_option maxHeartbeats 8000000 in
theorem token_any (S : List Int) (A : Option Addr) (c : Nat) (C : List Int) (w : World) (hS : S.length = 32) (hSb : Byt S) (hr : Rd w.heap.size .u8 w A C) (hb : Byt C) (hcap : C.length ≤ c) (hl : C.length ≤ 1000000000) :
    Calls Try.prog 22 #[.agg (cellsL .u8 S), .slice A C.length c] w (RetV (.agg (cellsL .u8 (tkkL S C))) w) := by
  have HR := Lib.hid hr
  have HBY := Lib.hid hb
  have HS := Lib.hid hS
  have HSB := Lib.hid hSb
  clear hr hb hS hSb
  go_enter Try.func22, Try.ntmps22
  go_wp2_with fail
  refine Calls.mono (mac_at (some ⟨w.heap.size, 0, none⟩) 32 S _ _ [⟨A, c, C⟩] _ HS.out rfl ?_ HSB.out (by rw [HS.out]; exact Nat.le_refl _) (by rw [HS.out]; decide) ?_ ?_ ?_ (by simp)) ?_
  · exact ((((Arr.newAt (t := 22) rfl rfl).alloc _).alloc _).rd).mono (by simp <;> omega)
  · refine Txs.newAt (by simp) rfl ?_
    intro t ht
    rw [List.mem_singleton] at ht
    subst ht
    refine ⟨Rd.mono (B := w.heap.size) ?_ (by omega), hcap⟩
    exact (HR.out.alloc (Nat.le_refl _) _).alloc (by simp) _
  · intro t ht
    rw [List.mem_singleton] at ht
    subst ht
    exact HBY.out
  · rw [join_one]; exact hl
  rintro e w3 ⟨rfl, hb3⟩
  rw [join_one]
  have B3 : Hid (Below w.heap.size w w3) := Lib.hid (((((Below.refl _ _).alloc (Nat.le_refl _) _).alloc (by simp) _).alloc (by simp <;> omega) _).trans (hb3.mono (by simp <;> omega)))
  have Z3 : Hid (Blk w3 (w.heap.size + 1) 55 (cellsL .u8 (zer 16))) := Lib.hid (((blk_new_at (w := w.alloc (.cells (cellsL .u8 S) 22)) (by simp)).alloc _).below hb3 (by simp))
  have HX := Lib.hid (macL_len S C)
  have HT := Lib.hid (tkkL_eq S C)
  have HTL := Lib.hid (tkkL_len S C)
  clear hb3
  generalize macL S C = X at *
  generalize tkkL S C = T at *
  go_wp2_with (first
    | (((with_reducible (show wpList _ _ _ (⟨none, .store 22 _ _, _, _, _, _⟩ :: _) _ _)); refine wpList_storeArr (o := ⟨none, .store 22 _ _, _, _, _, _⟩) (g := w3.heap.size) (t := 22) (k := .u8) (xs := X) (n := 32) rfl _ _ rfl rfl rfl (Blk.new _ _ _) size32 (HX.out.symm) rfl ?_; intro w5 ha5 hg5; have HA5 := Lib.hid ha5; have HG5 := Lib.hid hg5; clear ha5 hg5); have Z5 : Hid (Blk w5 (w.heap.size + 1) 55 (cellsL .u8 (zer 16))) := Lib.hid ((Z3.out.alloc _).grown HG5.out (by have := Z3.out.lt; simp; omega)); have R5 := Lib.hid HA5.out.rd; have B5 := Lib.hid (((Below.refl w3.heap.size w3).alloc (Nat.le_refl _) _).trans (below_of_only HG5.out (Nat.le_refl _) (by simp))); have L12 := tok_load HX.out HT.out R5.out; obtain ⟨w6, hs6, hz6, hg6⟩ := tok_store HTL.out Z5.out; have B6 := Lib.hid (below_of_only hg6.out (B := w.heap.size) (by omega) (Nat.le_of_lt (Nat.lt_of_succ_lt (Blk.lt Z5.out)))))
    | ((with_reducible (show wpList _ _ _ (⟨some 12, .load _ _, _, _, _, _⟩ :: _) _ _)); refine wpList_loadV (o := ⟨some 12, .load _ _, _, _, _, _⟩) rfl _ rfl rfl (L12.out) ?_)
    | ((with_reducible (show wpList _ _ _ (⟨none, .store 55 _ _, _, _, _, _⟩ :: _) _ _)); refine wpList_storeV (o := ⟨none, .store 55 _ _, _, _, _, _⟩) rfl _ _ rfl rfl rfl (hs6.out) ?_))
  refine ret_row rfl rfl hz6.out Try.underlying55 rfl (by rw [cellsL_size, HTL.out]; exact sizeTok) rfl ⟨rfl, ?_⟩
  exact (B3.out.trans (B5.out.mono B3.out.size)).trans B6.out
set_option maxRecDepth 100000 in
set_option maxHeartbeats 8000000 in
theorem rtoken_any {m : Nat} (S : List Int) (A : Option Addr) (c : Nat) (C : List Int) (w : World) (hm : C.length = m) (hS : S.length = 32) (hSb : Byt S) (hr : Rd w.heap.size .u8 w A C) (hb : Byt C) (hl : C.length ≤ 1000000000) :
    Calls Try.prog 23 #[.agg (cellsL .u8 S), .slice A m c] w (RetV (.agg (cellsL .u8 (tkkL S C))) w) := by
  have HR := Lib.hid hr
  have HBY := Lib.hid hb
  have HS := Lib.hid hS
  have HSB := Lib.hid hSb
  have HM := Lib.hid hm
  clear hr hb hS hSb hm
  go_enter Try.func23, Try.ntmps23
  go_wp2_with fail
  go_loopw [5, 6] (fun v i wr => ∃ (k : Nat) (A5 : Option Addr) (c5 : Nat), k ≤ 32 ∧ i = .int .i64 k ∧ v = .slice A5 k c5 ∧ Hid (Own (w.heap.size + 2) 5 .u8 wr A5 k c5 (S.take k)) ∧ Hid (Arr wr w.heap.size 22 .u8 S) ∧ Hid (Blk wr (w.heap.size + 1) 55 (cellsL .u8 (zer 16))) ∧ Hid (Below w.heap.size w wr) ∧ w.heap.size + 2 ≤ wr.heap.size) (fun _ i _ => 32 - (intOf i).toNat)
  case atStart => exact ⟨0, none, 0, by omega, rfl, rfl, Lib.hid (by rw [List.take_zero]; exact Own.nil _ _ _ _), Lib.hid ((Arr.newAt rfl rfl).alloc _), Lib.hid (blk_new_at (by simp)), Lib.hid (((Below.refl _ _).alloc (Nat.le_refl _) _).alloc (by simp) _), by simp⟩
  case round =>
    obtain ⟨k, A5, c5, hk, rfl, rfl, HO, HA, HZ, HB, hsz⟩ := hrel
    by_cases hlt : k < 32
    · have c0 := HA.out.cell (i := k) (by rw [HS.out]; omega)
      have c0' := HA.out.cellAdd (i := k) (by rw [HS.out]; omega)
      have HTK := Lib.hid (take_snoc_getD (xs := S) (t := k) (by rw [HS.out]; omega))
      have HTL : Hid ((S.take k).length = k) := Lib.hid (by rw [List.length_take, HS.out]; omega)
      generalize S.getD k 0 = z at *
      go_wp2_with (at_builtin; refine wpList_app (o := ⟨some 19, _, _, _, _, _⟩) elU8 rfl _ _ rfl rfl rfl (HO.out.alloc _) (Rd.newAt (xs := [_]) rfl rfl) rfl ?_ ?_ ?_; (simp only [List.length_take, List.length_cons, List.length_nil]; omega); (simp <;> omega); intro A9 n9 c9 w9 q9; have H9 := Lib.hid q9.1; have B9 := Lib.hid (((Below.refl (w.heap.size + 2) wr).alloc hsz _).trans q9.2.2.1); have hn9 := Own.len_snoc q9.1 HTL.out; subst hn9; clear q9)
      go_roundw
      case rel => exact ⟨k + 1, A9, c9, by omega, by go_num, rfl, Lib.hid (by rw [HTK.out]; exact H9.out), Lib.hid (HA.out.below B9.out (by omega)), Lib.hid (HZ.out.below B9.out (by omega)), Lib.hid (HB.out.trans (B9.out.mono (by omega))), Nat.le_trans hsz B9.out.size⟩
      case measure => simp [intOf]; omega
    · have hk32 : k = 32 := by omega
      subst hk32
      have HO2 : Hid (Own (w.heap.size + 2) 5 .u8 wr A5 32 c5 S) := Lib.hid (by have h := HO.out; rwa [List.take_of_length_le (by rw [HS.out]; omega)] at h)
      have hgw := HB.out.size
      clear HO
      go_wp2_with fail
      refine Calls.mono (rmac_at A5 c5 S A c C _ HS.out HM.out HO2.out.rd HSB.out (by rw [HS.out]; decide) ((HR.out.below HB.out (Nat.le_refl _)).mono hgw) HBY.out hl) ?_
      rintro e w3 ⟨rfl, hb3⟩
      have Z3 := Lib.hid (HZ.out.below hb3 HZ.out.lt)
      have B3 := Lib.hid (HB.out.trans (hb3.mono hgw))
      have HX := Lib.hid (macL_len S C)
      have HT := Lib.hid (tkkL_eq S C)
      have HTL := Lib.hid (tkkL_len S C)
      clear hb3 HZ HB HO2 HA
      generalize macL S C = X at *
      generalize tkkL S C = T at *
      go_wp2_with ((with_reducible (show wpList _ _ _ (⟨none, .store 22 _ _, _, _, _, _⟩ :: _) _ _)); refine wpList_storeArr (o := ⟨none, .store 22 _ _, _, _, _, _⟩) (g := w3.heap.size) (t := 22) (k := .u8) (xs := X) (n := 32) rfl _ _ rfl rfl rfl (Blk.new _ _ _) size32 (HX.out.symm) rfl ?_; intro w5 ha5 hg5; have HA5 := Lib.hid ha5; have HG5 := Lib.hid hg5; clear ha5 hg5)
      have Z5 : Hid (Blk w5 (w.heap.size + 1) 55 (cellsL .u8 (zer 16))) := Lib.hid ((Z3.out.alloc _).grown HG5.out (by have := Z3.out.lt; simp; omega))
      have B5 := Lib.hid (((Below.refl w3.heap.size w3).alloc (Nat.le_refl _) _).trans (below_of_only HG5.out (Nat.le_refl _) (by simp)))
      have B05 := Lib.hid (B3.out.trans (B5.out.mono B3.out.size))
      have hgl := HA5.out.lt
      have hwl := Blk.lt Z3.out
      clear HG5 B5 B3 Z3
      generalize w3.heap.size = g at *
      obtain ⟨w7, rfl⟩ : ∃ w7, w7 = w5 := ⟨_, rfl⟩
      have hwg : w.heap.size ≤ w7.heap.size := B05.out.size
      have HTX : Hid (∀ k, k < 16 → X.getD k 0 = T.getD k 0) := Lib.hid (fun k hk => by rw [HT.out]; exact (getD_take hk).symm)
      go_loopw [9] (fun i wr => ∃ k : Nat, k ≤ 16 ∧ i = .int .i64 k ∧ Hid (Arr wr w7.heap.size 55 .u8 (fil T k)) ∧ Hid (Below w7.heap.size w7 wr)) (fun i _ => 16 - (intOf i).toNat)
      case atStart => exact ⟨0, by omega, rfl, Lib.hid (Arr.cast (Arr.newAt (xs := zer 16) rfl rfl) (by rw [fil_zero, HTL.out]; rfl)), Lib.hid ((Below.refl _ _).alloc (Nat.le_refl _) _)⟩
      case round =>
        obtain ⟨k, hk, rfl, HA, HB⟩ := hrel
        have hfl : Hid ((fil T k).length = 16) := Lib.hid (by rw [fil_len, HTL.out])
        by_cases hlt2 : k < 16
        · have c1 := (HA5.out.below HB.out hgl).cell (i := k) (by rw [HX.out]; omega)
          have c1' := (HA5.out.below HB.out hgl).cellAdd (i := k) (by rw [HX.out]; omega)
          rw [HTX.out k hlt2] at c1 c1'
          have c0 := HA.out.cell (i := k) (by rw [hfl.out]; exact hlt2)
          have c0' := HA.out.cellAdd (i := k) (by rw [hfl.out]; exact hlt2)
          have f0 := HA.out.frozen k
          have f0' := HA.out.frozenAdd k
          have HMS := Lib.hid (fil_set (xs := T) (k := k) (by rw [HTL.out]; exact hlt2))
          generalize T.getD k 0 = x at *
          generalize (fil T k).getD k 0 = old at *
          go_wp2_with fail
          go_roundw
          case rel => exact ⟨k + 1, by omega, by go_num, Lib.hid (Arr.cast (HA.out.set k x) HMS.out), Lib.hid (HB.out.setCell (by simp) _)⟩
          case measure => simp [intOf]; omega
        · have hkn : k = 16 := by omega
          have HA2 : Hid (Arr wr w7.heap.size 55 .u8 T) := Lib.hid (Arr.cast HA.out (by rw [hkn]; have := fil_full T; rw [HTL.out] at this; exact this))
          clear HA hkn hfl
          have L1 := Lib.hid (arr_load HA2.out Try.underlying55 sizeTok HTL.out.symm)
          obtain ⟨w6, hs6, hz6, hg6⟩ := tok_store HTL.out (Z5.out.below HB.out (Blk.lt Z5.out))
          go_wp2_with (first
            | ((with_reducible (show wpList _ _ _ (⟨some 32, .load _ _, _, _, _, _⟩ :: _) _ _)); refine wpList_loadV (o := ⟨some 32, .load _ _, _, _, _, _⟩) rfl _ rfl rfl (L1.out) ?_)
            | ((with_reducible (show wpList _ _ _ (⟨none, .store 55 _ _, _, _, _, _⟩ :: _) _ _)); refine wpList_storeV (o := ⟨none, .store 55 _ _, _, _, _, _⟩) rfl _ _ rfl rfl rfl (hs6.out) ?_))
          refine ret_row rfl rfl hz6.out Try.underlying55 rfl (by rw [cellsL_size, HTL.out]; exact sizeTok) rfl ⟨rfl, ?_⟩
          exact (B05.out.trans (HB.out.mono hwg)).trans (below_of_only hg6.out (by omega) (Nat.le_trans hwg HB.out.size))

end Go.Proofs.Ythpacdondnenmaa
