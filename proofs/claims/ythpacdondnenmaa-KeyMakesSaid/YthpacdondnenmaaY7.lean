/- Contracts: the reference's Next and Initial. Conditions: as each theorem states them. -/
import Derived.Test.YthpacdondnenmaaY6
namespace Go.Proofs.Ythpacdondnenmaa
open Go.RowKit
theorem rlabel_ku (S : List Int) (w : World) (hS : S.length = 32) (hSb : Byt S) : Calls Try.prog 48 #[.agg (cellsL .u8 S), .string ⟨#[113, 117, 105, 99, 32, 107, 117]⟩, .slice none 0 0, .int .i64 32] w (SliPost (kSec S sKu) w) := rlabel_sec S sKu w hS hSb (by decide)
set_option maxRecDepth 100000 in
set_option maxHeartbeats 8000000 in
theorem rnext_any (S K I H : List Int) (p : Int) (w : World) (h : KyOk S K I H) (hp : 0 ≤ p ∧ p < 18446744073709551616) : Calls Try.prog 20 #[kyV S K I H p] w (RetV (nextV S H p) w) := by
  have HO := Lib.hid h
  have HZ := Lib.hid zeroKeys
  obtain ⟨hp0, hp1⟩ := hp
  clear h
  unfold kyV
  go_enter Try.func20, Try.ntmps20
  go_wp2_with ((with_reducible (show wpList _ _ _ (⟨some 5, .load _ _, _, _, _, _⟩ :: _) _ _)); refine wpList_loadV (o := ⟨some 5, .load _ _, _, _, _, _⟩) rfl _ rfl rfl (ky_load0 HO.out ((Blk.new _ _ _).alloc _)) ?_)
  refine Calls.mono (rlabel_ku S _ HO.out.s HO.out.bs) ?_
  rintro e w3 ⟨A3, n3, c3, rfl, hn3, hc3, hr3, hb3⟩
  have B3 : Hid (Below w.heap.size w w3) := Lib.hid ((((Below.refl _ _).alloc (Nat.le_refl _) _).alloc (by simp) _).trans (hb3.mono (by simp <;> omega)))
  have Z3 : Hid (Blk w3 (w.heap.size + 1) 27 Try.zeroCells27) := Lib.hid (blk_below_new hb3 (by simp) (by simp))
  have K3 : Hid (KyB w3 w.heap.size S K I H p) := Lib.hid (((Blk.new _ _ _).alloc _).below hb3 (by simp <;> omega))
  have HU := Lib.hid (ku_len S)
  have HUB := Lib.hid (kSec_byt S sKu)
  have R3 := Lib.hid hr3
  have HN := Lib.hid (ofNext (S := S) HO.out.h HO.out.bh)
  have HF := Lib.hid (ofOk HU.out HUB.out)
  have HVV : Hid (nextV S H p = kyV (kSec S sKu) (kKey (kSec S sKu)) (kIv (kSec S sKu)) H ((p + 1) % 18446744073709551616)) := Lib.hid rfl
  obtain rfl : n3 = 32 := by rw [hn3, ku_len]
  clear hn3 hc3 hr3 hb3
  generalize nextV S H p = V at *
  generalize kSec S sKu = U at *
  go_wp2_with fail
  refine Calls.mono (kall_any A3 c3 U _ HU.out R3.out) ?_
  rintro e w4 ⟨rfl, hb4⟩
  have B4 := Lib.hid hb4
  have Z4 := Lib.hid (Z3.out.below hb4 Z3.out.lt)
  have K4 := Lib.hid (Blk.below K3.out hb4 (Blk.lt K3.out))
  clear hb4 Z3 K3 R3
  go_wp2_with fail
  refine Calls.mono (rof_any U _ HU.out HUB.out) ?_
  rintro e w5 ⟨rfl, hb5⟩
  have B5 := Lib.hid (B4.out.trans (hb5.mono B4.out.size))
  have Z5 := Lib.hid (Z4.out.below hb5 Z4.out.lt)
  have K5 := Lib.hid (Blk.below K4.out hb5 (Blk.lt K4.out))
  clear hb5 Z4 K4 B4
  unfold ofV
  have hga : w.heap.size < w5.heap.size := Blk.lt K5.out
  have hgz : w.heap.size + 1 < w5.heap.size := Blk.lt Z5.out
  obtain ⟨w6, hs6, hk6, hg6⟩ := ky_store (p := 0) HF.out (Blk.new w5 27 Try.zeroCells27) HZ.out
  have S6 := Lib.hid hs6
  have KA := Lib.hid (Blk.grown (Blk.alloc K5.out _) hg6 (by simp; omega))
  have ZA := Lib.hid (Blk.grown (Blk.alloc Z5.out _) hg6 (by simp; omega))
  have B6 := Lib.hid (((Below.refl w5.heap.size w5).alloc (Nat.le_refl _) _).trans (below_of_only hg6 (Nat.le_refl _) (by simp)))
  obtain ⟨w7, hs7, hk7, hg7⟩ := ky_storeH HF.out HO.out.h hk6
  have S7 := Lib.hid hs7
  have K7 := Lib.hid hk7
  have L10 := Lib.hid (ky_load3 HO.out KA.out)
  have KB := Lib.hid (Blk.grown KA.out hg7 (by simp; omega))
  have ZB := Lib.hid (Blk.grown ZA.out hg7 (by simp; omega))
  have B7 := Lib.hid (B6.out.trans (below_of_only hg7 (Nat.le_refl _) B6.out.size))
  have c7 := ky_cell76 HO.out KB.out
  have c7' := ky_cell76 HN.out K7.out
  have f7 := ky_frozen K7.out 76
  have K8 := Lib.hid (ky_setp HN.out K7.out ((p + 1) % 18446744073709551616))
  have Z8 := Lib.hid (Blk.far (p := ⟨w5.heap.size, 76, none⟩) ZB.out (by simp; omega) (.int .u64 ((p + 1) % 18446744073709551616)))
  have B8 : Hid (Below w5.heap.size w5 (w7.setCell ⟨w5.heap.size, 76, none⟩ (.int .u64 ((p + 1) % 18446744073709551616)))) := Lib.hid (B7.out.setCell (Nat.le_refl _) _)
  have hl8 := ky_load HN.out K8.out
  rw [← HVV.out] at hl8
  have L8 := Lib.hid hl8
  obtain ⟨w9, hs9, hk9, hg9⟩ := ky_store (p := (p + 1) % 18446744073709551616) HN.out Z8.out HZ.out
  rw [← HVV.out] at hs9
  have S9 := Lib.hid hs9
  have K9 := Lib.hid hk9
  have B9 : Hid (Below w.heap.size w w9) := Lib.hid (((B3.out.trans (B5.out.mono B3.out.size)).trans (B8.out.mono (Nat.le_of_lt hga))).trans (below_of_only hg9 (by omega) (by have := Blk.lt Z8.out; omega)))
  clear hs6 hk6 hg6 hs7 hk7 hg7 hl8 hs9 hk9 hg9
  go_wp2_with (first
    | ((with_reducible (show wpList _ _ _ (⟨none, .store 27 _ _, _, _, _, _⟩ :: _) _ _)); refine wpList_storeV (o := ⟨none, .store 27 _ _, _, _, _, _⟩) rfl _ _ rfl rfl rfl (S6.out) ?_)
    | ((with_reducible (show wpList _ _ _ (⟨some 10, .load _ _, _, _, _, _⟩ :: _) _ _)); refine wpList_loadV (o := ⟨some 10, .load _ _, _, _, _, _⟩) rfl _ rfl rfl (L10.out) ?_)
    | ((with_reducible (show wpList _ _ _ (⟨none, .store 23 _ _, _, _, _, _⟩ :: _) _ _)); refine wpList_storeV (o := ⟨none, .store 23 _ _, _, _, _, _⟩) rfl _ _ rfl rfl rfl (S7.out) ?_)
    | ((with_reducible (show wpList _ _ _ (⟨some 16, .load _ _, _, _, _, _⟩ :: _) _ _)); refine wpList_loadV (o := ⟨some 16, .load _ _, _, _, _, _⟩) rfl _ rfl rfl (L8.out) ?_)
    | ((with_reducible (show wpList _ _ _ (⟨none, .store 27 _ _, _, _, _, _⟩ :: _) _ _)); refine wpList_storeV (o := ⟨none, .store 27 _ _, _, _, _, _⟩) rfl _ _ rfl rfl rfl (S9.out) ?_))
  refine ret_row rfl rfl K9.out keys_fine rfl (by rw [List.size_toArray, kyL_len HN.out]; exact sizeKeys) rfl ⟨by rw [HVV.out]; rfl, B9.out⟩
theorem rlabel_cl (S : List Int) (w : World) (hS : S.length = 32) (hSb : Byt S) : Calls Try.prog 48 #[.agg (cellsL .u8 S), .string ⟨#[99, 108, 105, 101, 110, 116, 32, 105, 110]⟩, .slice none 0 0, .int .i64 32] w (SliPost (kSec S sCl) w) := rlabel_sec S sCl w hS hSb (by decide)
theorem rlabel_se (S : List Int) (w : World) (hS : S.length = 32) (hSb : Byt S) : Calls Try.prog 48 #[.agg (cellsL .u8 S), .string ⟨#[115, 101, 114, 118, 101, 114, 32, 105, 110]⟩, .slice none 0 0, .int .i64 32] w (SliPost (kSec S sSe) w) := rlabel_sec S sSe w hS hSb (by decide)
def sideS (d : Int) : ByteArray := if d = 1 then sSe else sCl
theorem rlabel_side (d : Int) (hd : d = 0 ∨ d = 1) (S : List Int) (w : World) (hS : S.length = 32) (hSb : Byt S) : Calls Try.prog 48 #[.agg (cellsL .u8 S), .string (sideS d), .slice none 0 0, .int .i64 32] w (SliPost (kSec S (sideS d)) w) := by
  rcases hd with rfl | rfl
  · exact rlabel_cl S w hS hSb
  · exact rlabel_se S w hS hSb
theorem side_sz (d : Int) : (sideS d).size ≤ 249 := by unfold sideS; split <;> decide
set_option maxRecDepth 100000 in
set_option maxHeartbeats 8000000 in
theorem rinitial_any {m : Nat} (d : Int) (hd : d = 0 ∨ d = 1) (A : Option Addr) (c : Nat) (C : List Int) (w : World) (hm : C.length = m) (hr : Rd w.heap.size .u8 w A C) (hb : Byt C) (hl : C.length ≤ 1000000000) :
    Calls Try.prog 21 #[.slice A m c, .int .i64 d] w (RetV (iniV C (sideS d)) w) := by
  have HR := Lib.hid hr
  have HBY := Lib.hid hb
  have HM := Lib.hid hm
  have HZ := Lib.hid zeroKeys
  have HD := Lib.hid hd
  have hs : sideS d = if d = 1 then ⟨#[115, 101, 114, 118, 101, 114, 32, 105, 110]⟩ else ⟨#[99, 108, 105, 101, 110, 116, 32, 105, 110]⟩ := rfl
  have HSI := Lib.hid hs
  clear hr hb hm hs
  go_enter Try.func21, Try.ntmps21
  go_wp2_with fail
  refine Calls.mono (rmac_at (some ⟨w.heap.size + 1, 0, none⟩) 20 saltL A c C _ rfl HM.out ?_ saltL_byt (by decide) ((HR.out.alloc (Nat.le_refl _) _).alloc (by simp) _ |>.mono (by simp <;> omega)) HBY.out hl) ?_
  · exact (Rd.newAt (e := 5) (by simp) rfl).mono (by simp)
  rintro e w3 ⟨rfl, hb3⟩
  have B3 : Hid (Below w.heap.size w w3) := Lib.hid ((((Below.refl _ _).alloc (Nat.le_refl _) _).alloc (by simp) _).trans (hb3.mono (by simp <;> omega)))
  have Z3 : Hid (Blk w3 w.heap.size 27 Try.zeroCells27) := Lib.hid (((Blk.new _ _ _).alloc _).below hb3 (by simp <;> omega))
  have HX := Lib.hid (macL_len saltL C)
  have HXB := Lib.hid (macL_byt saltL C)
  have HV : Hid (iniV C (sideS d) = ofV (kSec (macL saltL C) (sideS d))) := Lib.hid rfl
  have HSZ := Lib.hid (side_sz d)
  clear hb3
  generalize macL saltL C = X at *
  generalize iniV C (sideS d) = V at *
  have side : ∀ s : ByteArray, (sideS d = s) → V = ofV (kSec X s) := fun s h => by rw [← h]; exact HV.out
  have HK0 := Lib.hid (kSec_len X (s := sCl) (by decide))
  have HK1 := Lib.hid (kSec_len X (s := sSe) (by decide))
  rcases HD.out with rfl | rfl
  · have HW : Hid (V = ofV (kSec X sCl)) := Lib.hid (side sCl rfl)
    clear side HV HSI HSZ
    go_wp2_with (first
      | (((with_reducible (show wpList _ _ _ (⟨none, .store 22 _ _, _, _, _, _⟩ :: _) _ _)); refine wpList_storeArr (o := ⟨none, .store 22 _ _, _, _, _, _⟩) (g := w3.heap.size) (t := 22) (k := .u8) (xs := X) (n := 32) rfl _ _ rfl rfl rfl (Blk.new _ _ _) size32 (HX.out.symm) rfl ?_; intro w4 ha4 hg4; have HA4 := Lib.hid ha4; have HG4 := Lib.hid hg4; clear ha4 hg4); have Z4 := Lib.hid ((Z3.out.alloc _).grown HG4.out (by have := Z3.out.lt; simp; omega)); have B4 := Lib.hid (B3.out.trans ((((Below.refl w3.heap.size w3).alloc (Nat.le_refl _) _).trans (below_of_only HG4.out (Nat.le_refl _) (by simp))).mono B3.out.size)))
      | ((with_reducible (show wpList _ _ _ (⟨some 14, .load _ _, _, _, _, _⟩ :: _) _ _)); refine wpList_loadV (o := ⟨some 14, .load _ _, _, _, _, _⟩) rfl _ rfl rfl (arr_load HA4.out Try.underlying22 size32 HX.out.symm) ?_))
    refine Calls.mono (rlabel_cl X _ HX.out HXB.out) ?_
    rintro e w5 ⟨A5, n5, c5, rfl, hn5, hc5, hr5, hb5⟩
    obtain rfl : n5 = 32 := by rw [hn5, HK0.out]
    have R5 := Lib.hid hr5
    have Z5 := Lib.hid (Z4.out.below hb5 (Blk.lt Z4.out))
    have B5 := Lib.hid (B4.out.trans (hb5.mono B4.out.size))
    clear hn5 hc5 hr5 hb5 Z4 B4 HA4 HG4
    go_wp2_with fail
    refine Calls.mono (kall_any A5 c5 _ _ HK0.out R5.out) ?_
    rintro e w6 ⟨rfl, hb6⟩
    have Z6 := Lib.hid (Z5.out.below hb6 (Blk.lt Z5.out))
    have B6 := Lib.hid (B5.out.trans (hb6.mono B5.out.size))
    clear hb6
    go_wp2_with fail
    refine Calls.mono (rof_any _ _ HK0.out (kSec_byt _ _)) ?_
    rintro e w7 ⟨rfl, hb7⟩
    have Z7 := Lib.hid (Z6.out.below hb7 (Blk.lt Z6.out))
    have B7 := Lib.hid (B6.out.trans (hb7.mono B6.out.size))
    have K1 := Lib.hid (ofOk HK0.out (kSec_byt X sCl))
    obtain ⟨w8, hs8, hk8, hg8⟩ := ky_store (p := 0) K1.out Z7.out HZ.out
    have S8 : Hid ((Instr.storeAt 27 (.pointer (some ⟨w.heap.size, 0, none⟩)) V).run Try.prog w7 = .ok () w8) := Lib.hid (by rw [HW.out]; exact hs8)
    have K8 := Lib.hid hk8
    have B8 := Lib.hid (B7.out.trans (below_of_only hg8 (Nat.le_refl _) B7.out.size))
    clear hb7 hs8 hk8 hg8
    rw [← HW.out]
    go_wp2_with ((with_reducible (show wpList _ _ _ (⟨none, .store 27 _ _, _, _, _, _⟩ :: _) _ _)); refine wpList_storeV (o := ⟨none, .store 27 _ _, _, _, _, _⟩) rfl _ _ rfl rfl rfl (S8.out) ?_)
    refine ret_row rfl rfl K8.out keys_fine rfl (by rw [List.size_toArray, kyL_len K1.out]; exact sizeKeys) rfl ⟨by rw [HW.out]; rfl, B8.out⟩
  · have HW : Hid (V = ofV (kSec X sSe)) := Lib.hid (side sSe rfl)
    clear side HV HSI HSZ
    go_wp2_with (first
      | (((with_reducible (show wpList _ _ _ (⟨none, .store 22 _ _, _, _, _, _⟩ :: _) _ _)); refine wpList_storeArr (o := ⟨none, .store 22 _ _, _, _, _, _⟩) (g := w3.heap.size) (t := 22) (k := .u8) (xs := X) (n := 32) rfl _ _ rfl rfl rfl (Blk.new _ _ _) size32 (HX.out.symm) rfl ?_; intro w4 ha4 hg4; have HA4 := Lib.hid ha4; have HG4 := Lib.hid hg4; clear ha4 hg4); have Z4 := Lib.hid ((Z3.out.alloc _).grown HG4.out (by have := Z3.out.lt; simp; omega)); have B4 := Lib.hid (B3.out.trans ((((Below.refl w3.heap.size w3).alloc (Nat.le_refl _) _).trans (below_of_only HG4.out (Nat.le_refl _) (by simp))).mono B3.out.size)))
      | ((with_reducible (show wpList _ _ _ (⟨some 14, .load _ _, _, _, _, _⟩ :: _) _ _)); refine wpList_loadV (o := ⟨some 14, .load _ _, _, _, _, _⟩) rfl _ rfl rfl (arr_load HA4.out Try.underlying22 size32 HX.out.symm) ?_))
    refine Calls.mono (rlabel_se X _ HX.out HXB.out) ?_
    rintro e w5 ⟨A5, n5, c5, rfl, hn5, hc5, hr5, hb5⟩
    obtain rfl : n5 = 32 := by rw [hn5, HK1.out]
    have R5 := Lib.hid hr5
    have Z5 := Lib.hid (Z4.out.below hb5 (Blk.lt Z4.out))
    have B5 := Lib.hid (B4.out.trans (hb5.mono B4.out.size))
    clear hn5 hc5 hr5 hb5 Z4 B4 HA4 HG4
    go_wp2_with fail
    refine Calls.mono (kall_any A5 c5 _ _ HK1.out R5.out) ?_
    rintro e w6 ⟨rfl, hb6⟩
    have Z6 := Lib.hid (Z5.out.below hb6 (Blk.lt Z5.out))
    have B6 := Lib.hid (B5.out.trans (hb6.mono B5.out.size))
    clear hb6
    go_wp2_with fail
    refine Calls.mono (rof_any _ _ HK1.out (kSec_byt _ _)) ?_
    rintro e w7 ⟨rfl, hb7⟩
    have Z7 := Lib.hid (Z6.out.below hb7 (Blk.lt Z6.out))
    have B7 := Lib.hid (B6.out.trans (hb7.mono B6.out.size))
    have K1 := Lib.hid (ofOk HK1.out (kSec_byt X sSe))
    obtain ⟨w8, hs8, hk8, hg8⟩ := ky_store (p := 0) K1.out Z7.out HZ.out
    have S8 : Hid ((Instr.storeAt 27 (.pointer (some ⟨w.heap.size, 0, none⟩)) V).run Try.prog w7 = .ok () w8) := Lib.hid (by rw [HW.out]; exact hs8)
    have K8 := Lib.hid hk8
    have B8 := Lib.hid (B7.out.trans (below_of_only hg8 (Nat.le_refl _) B7.out.size))
    clear hb7 hs8 hk8 hg8
    rw [← HW.out]
    go_wp2_with ((with_reducible (show wpList _ _ _ (⟨none, .store 27 _ _, _, _, _, _⟩ :: _) _ _)); refine wpList_storeV (o := ⟨none, .store 27 _ _, _, _, _, _⟩) rfl _ _ rfl rfl rfl (S8.out) ?_)
    refine ret_row rfl rfl K8.out keys_fine rfl (by rw [List.size_toArray, kyL_len K1.out]; exact sizeKeys) rfl ⟨by rw [HW.out]; rfl, B8.out⟩
end Go.Proofs.Ythpacdondnenmaa
