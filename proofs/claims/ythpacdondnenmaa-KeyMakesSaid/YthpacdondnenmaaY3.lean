/- A connection's keys in memory: fields loaded and stored; contracts of key.Next and key.salt. Conditions: as each theorem states them. -/
import Derived.Test.YthpacdondnenmaaY2
namespace Go.Proofs.Ythpacdondnenmaa
open Go.RowKit
section
variable {S K I H : List Int} {p : Int} {w : World} {g : Nat}
abbrev KyB (w : World) (g : Nat) (S K I H : List Int) (p : Int) : Prop := Blk w g 27 (kyL S K I H p).toArray
theorem kyL_2 (S K I H : List Int) (p : Int) : kyL S K I H p = (iv .u8 S ++ iv .u8 K) ++ (iv .u8 I ++ (iv .u8 H ++ [.int .u64 p])) := by unfold kyL; simp
theorem kyL_3 (S K I H : List Int) (p : Int) : kyL S K I H p = (iv .u8 S ++ iv .u8 K ++ iv .u8 I) ++ (iv .u8 H ++ [.int .u64 p]) := by unfold kyL; simp
theorem kyL_4 (S K I H : List Int) (p : Int) : kyL S K I H p = (iv .u8 S ++ iv .u8 K ++ iv .u8 I ++ iv .u8 H) ++ ([.int .u64 p] ++ []) := by unfold kyL; simp
theorem ky_load (h : KyOk S K I H) (b : KyB w g S K I H p) : (Instr.loadAt 27 (.pointer (some ⟨g, 0, none⟩))).run Try.prog w = .ok (kyV S K I H p) w :=
  blk_load b keys_fine rfl (by rw [List.size_toArray, kyL_len h]; exact sizeKeys)
theorem ky_load0 (h : KyOk S K I H) (b : KyB w g S K I H p) : (Instr.loadAt 22 (.pointer (some ⟨g, 0, none⟩))).run Try.prog w = .ok (.agg (cellsL .u8 S)) w :=
  blk_loadMid (A := []) (B := iv .u8 S) b rfl Try.underlying22 rfl (by rw [iv_len, h.s]; exact size32)
theorem ky_load1 (h : KyOk S K I H) (b : KyB w g S K I H p) : (Instr.loadAt 23 (.pointer (some ⟨g, 32, none⟩))).run Try.prog w = .ok (.agg (cellsL .u8 K)) w :=
  blk_loadMid (A := iv .u8 S) (B := iv .u8 K) b (by rw [iv_len, h.s]) Try.underlying23 rfl (by rw [iv_len, h.k]; exact size16)
theorem ky_load2 (h : KyOk S K I H) (b : KyB w g S K I H p) : (Instr.loadAt 24 (.pointer (some ⟨g, 48, none⟩))).run Try.prog w = .ok (.agg (cellsL .u8 I)) w :=
  blk_loadMid (B := iv .u8 I) (Blk.cast b (by rw [kyL_2])) (by simp [iv_len, h.s, h.k]) Try.underlying24 rfl (by rw [iv_len, h.i]; exact size12)
theorem ky_load3 (h : KyOk S K I H) (b : KyB w g S K I H p) : (Instr.loadAt 23 (.pointer (some ⟨g, 60, none⟩))).run Try.prog w = .ok (.agg (cellsL .u8 H)) w :=
  blk_loadMid (B := iv .u8 H) (Blk.cast b (by rw [kyL_3])) (by simp [iv_len, h.s, h.k, h.i]) Try.underlying23 rfl (by rw [iv_len, h.h]; exact size16)
theorem ky_cell76 (h : KyOk S K I H) (b : KyB w g S K I H p) : w.cell? ⟨g, 76, none⟩ = some (.int .u64 p) := by
  rw [Blk.cell b]; simpa using keys_at76 h
theorem ky_frozen (b : KyB w g S K I H p) (i : Nat) : w.frozen? ⟨g, i, none⟩ = false := Blk.frozen b i
theorem ky_store (h : KyOk S K I H) {old : Array Value} (b : Blk w g 27 old) (ho : old.size = 77) : ∃ w', (Instr.storeAt 27 (.pointer (some ⟨g, 0, none⟩)) (kyV S K I H p)).run Try.prog w = .ok () w' ∧ KyB w' g S K I H p ∧ w.grownBy w' (some g) :=
  blk_storeAll (P := Try.prog) (ty := 27) (vs := kyL S K I H p) b (by rw [kyL_len h, ho]) (kyL_one _ _ _ _ _) (by rw [kyL_len h]; exact sizeKeys)
theorem ky_storeK (h : KyOk S K I H) {X : List Int} (hX : X.length = 16) (b : KyB w g S K I H p) : ∃ w', (Instr.storeAt 23 (.pointer (some ⟨g, 32, none⟩)) (.agg (cellsL .u8 X))).run Try.prog w = .ok () w' ∧ KyB w' g S X I H p ∧ w.grownBy w' (some g) := by
  obtain ⟨w', h2, h3, h4⟩ := blk_storeMid (P := Try.prog) (ty := 23) (o := 32) (vs := iv .u8 X) b (by rw [iv_len, kyL_len h, hX]; decide) (iv_one _ _) (by rw [iv_len, hX]; exact size16)
  rw [kyL_over.2.1 X h.s (by rw [hX, h.k])] at h3
  exact ⟨w', h2, h3, h4⟩
theorem ky_storeH (h : KyOk S K I H) {X : List Int} (hX : X.length = 16) (b : KyB w g S K I H p) : ∃ w', (Instr.storeAt 23 (.pointer (some ⟨g, 60, none⟩)) (.agg (cellsL .u8 X))).run Try.prog w = .ok () w' ∧ KyB w' g S K I X p ∧ w.grownBy w' (some g) := by
  obtain ⟨w', h2, h3, h4⟩ := blk_storeMid (P := Try.prog) (ty := 23) (o := 60) (vs := iv .u8 X) b (by rw [iv_len, kyL_len h, hX]; decide) (iv_one _ _) (by rw [iv_len, hX]; exact size16)
  rw [kyL_over.2.2.2 X h.s h.k h.i (by rw [hX, h.h])] at h3
  exact ⟨w', h2, h3, h4⟩
theorem ky_setp (h : KyOk S K I H) (b : KyB w g S K I H p) (q : Int) : KyB (w.setCell ⟨g, 76, none⟩ (.int .u64 q)) g S K I H q := by
  refine Blk.cast (Blk.set_ b 76 (.int .u64 q)) ?_
  have hl : (iv .u8 S ++ iv .u8 K ++ iv .u8 I ++ iv .u8 H).length = 76 := by simp [iv_len, h.s, h.k, h.i, h.h]
  rw [List.setIfInBounds_toArray, kyL_4, kyL_4, List.set_append_right _ _ (by rw [hl]; exact Nat.le_refl _), hl]
  rfl
theorem ky_seti (h : KyOk S K I H) (b : KyB w g S K I H p) {i : Nat} (hi : i < 12) (x : Int) : KyB (w.setCell ⟨g, 48 + i, none⟩ (.int .u8 x)) g S K (I.set i x) H p := by
  refine Blk.cast (Blk.set_ b (48 + i) (.int .u8 x)) ?_
  have hl : (iv .u8 S ++ iv .u8 K).length = 48 := by simp [iv_len, h.s, h.k]
  rw [List.setIfInBounds_toArray, kyL_2, kyL_2, List.set_append_right _ _ (by rw [hl]; omega), hl, Nat.add_sub_cancel_left, List.set_append_left _ _ (by rw [iv_len, h.i]; exact hi), iv_set]
end
def sKu : ByteArray := ⟨#[113, 117, 105, 99, 32, 107, 117]⟩
def nextV (S H : List Int) (p : Int) : Value := kyV (kSec S sKu) (kKey (kSec S sKu)) (kIv (kSec S sKu)) H ((p + 1) % 18446744073709551616)
theorem secret_ku (S : List Int) (w : World) (hS : S.length = 32) (hSb : Byt S) : Calls Try.prog 40 #[.agg (cellsL .u8 S), .string ⟨#[113, 117, 105, 99, 32, 107, 117]⟩] w (RetV (.agg (cellsL .u8 (kSec S sKu))) w) := secret_any S sKu w hS hSb (by decide)
theorem ku_len (S : List Int) : (kSec S sKu).length = 32 := kSec_len S (by decide)
theorem ofNext {S H : List Int} (h : H.length = 16) (hb : Byt H) : KyOk (kSec S sKu) (kKey (kSec S sKu)) (kIv (kSec S sKu)) H := ⟨ku_len S, kKey_len _, kIv_len _, h, kSec_byt _ _, kKey_byt _, kIv_byt _, hb⟩
set_option maxRecDepth 100000 in
set_option maxHeartbeats 8000000 in
theorem next_any (S K I H : List Int) (p : Int) (w : World) (h : KyOk S K I H) (hp : 0 ≤ p ∧ p < 18446744073709551616) : Calls Try.prog 12 #[kyV S K I H p] w (RetV (nextV S H p) w) := by
  have HO := Lib.hid h
  have HZ := Lib.hid zeroKeys
  obtain ⟨hp0, hp1⟩ := hp
  clear h
  unfold kyV
  go_enter Try.func12, Try.ntmps12
  go_wp2_with ((with_reducible (show wpList _ _ _ (⟨some 5, .load _ _, _, _, _, _⟩ :: _) _ _)); refine wpList_loadV (o := ⟨some 5, .load _ _, _, _, _, _⟩) rfl _ rfl rfl (ky_load0 HO.out ((Blk.new _ _ _).alloc _)) ?_)
  refine Calls.mono (secret_ku S _ HO.out.s HO.out.bs) ?_
  rintro e w3 ⟨rfl, hb3⟩
  have B3 : Hid (Below w.heap.size w w3) := Lib.hid ((((Below.refl _ _).alloc (Nat.le_refl _) _).alloc (by simp) _).trans (hb3.mono (by simp <;> omega)))
  have Z3 : Hid (Blk w3 (w.heap.size + 1) 27 Try.zeroCells27) := Lib.hid (blk_below_new hb3 (by simp) (by simp))
  have K3 : Hid (KyB w3 w.heap.size S K I H p) := Lib.hid (((Blk.new _ _ _).alloc _).below hb3 (by simp <;> omega))
  clear hb3
  have HU := Lib.hid (ku_len S)
  have HUB := Lib.hid (kSec_byt S sKu)
  have HN := Lib.hid (ofNext (S := S) HO.out.h HO.out.bh)
  have HF := Lib.hid (ofOk HU.out HUB.out)
  have HVV : Hid (nextV S H p = kyV (kSec S sKu) (kKey (kSec S sKu)) (kIv (kSec S sKu)) H ((p + 1) % 18446744073709551616)) := Lib.hid rfl
  generalize nextV S H p = V at *
  generalize kSec S sKu = U at *
  go_wp2_with fail
  refine Calls.mono (of_any U _ HU.out HUB.out) ?_
  rintro e w4 ⟨rfl, hb4⟩
  have B4 := Lib.hid hb4
  clear hb4
  unfold ofV
  have Z4 := Lib.hid (Z3.out.below B4.out Z3.out.lt)
  have K4 := Lib.hid (Blk.below K3.out B4.out (Blk.lt K3.out))
  obtain ⟨w5, hs5, hk5, hg5⟩ := ky_store (p := 0) HF.out (Blk.new w4 27 Try.zeroCells27) HZ.out
  have S5 := Lib.hid hs5
  have K5 := Lib.hid hk5
  have B5 : Hid (Below w4.heap.size w4 w5) := Lib.hid (((Below.refl _ _).alloc (Nat.le_refl _) _).trans (below_of_only hg5 (Nat.le_refl _) (by simp)))
  have hgl : w4.heap.size < w5.heap.size := Blk.lt hk5
  clear hs5 hk5 hg5
  go_wp2_with ((with_reducible (show wpList _ _ _ (⟨none, .store 27 _ _, _, _, _, _⟩ :: _) _ _)); refine wpList_storeV (o := ⟨none, .store 27 _ _, _, _, _, _⟩) rfl _ _ rfl rfl rfl (S5.out) ?_)
  have KA := Lib.hid (Blk.below K4.out B5.out (Blk.lt K4.out))
  have hga : w.heap.size < w4.heap.size := Blk.lt K4.out
  have hgz : w.heap.size + 1 < w4.heap.size := Blk.lt Z4.out
  have hg3 : w3.heap.size ≤ w4.heap.size := B4.out.size
  generalize w4.heap.size = g at *
  have HC : ∀ r : BW g w5, r.world.cell? ⟨w.heap.size, 76, none⟩ = some (.int .u64 p) := fun r => ky_cell76 HO.out (Blk.below KA.out r.below hga)
  refine wp_region_mixOB g [([0, 1, 2, 3, 4, 5], 6), ([7], 8)] (by kernel_rfl) (by kernel_rfl) (by kernel_rfl) (by kernel_rfl) (by kernel_rfl) ?_
  try (rw [put_none])
  simp only [pickL, List.map_cons, List.map_nil, List.filterMap_cons, List.filterMap_nil, List.getElem?_cons_succ, List.getElem?_cons_zero]
  refine mixO_cons ?_
  show wpQuiet _ _ _ _ (_ :: _) _
  go_big_quiet_step (fail)
  show wpQuiet _ _ _ _ (_ :: _) _
  refine wpQuiet_loadV (o := ⟨some 9, _, _, _, _, _⟩) rfl _ rfl rfl (fun w' hw' => by obtain ⟨r, rfl⟩ := hw'; exact ky_load3 HO.out (Blk.below KA.out r.below hga)) ?_
  simp only [Act.put, List.setIfInBounds_toArray, List.set_cons_zero, List.set_cons_succ]
  repeat (show wpQuiet _ _ _ _ (_ :: _) _; go_big_quiet_step (fail))
  obtain ⟨w6, hs6, hk6, hg6⟩ := ky_storeH (w := w5.drew) HF.out HO.out.h K5.out
  have S6 := Lib.hid hs6
  have K6 := Lib.hid hk6
  have B6 := Lib.hid (below_of_only (B := g) hg6 (Nat.le_refl _) (Nat.le_of_lt hgl))
  have hgl6 : g < w6.heap.size := Blk.lt hk6
  clear hs6 hk6 hg6
  refine wpQuiet_nil ?_
  show wpList _ _ _ [_] _ _
  go_wp2_with ((with_reducible (show wpList _ _ _ (⟨none, .store 23 _ _, _, _, _, _⟩ :: _) _ _)); refine wpList_storeV (o := ⟨none, .store 23 _ _, _, _, _, _⟩) rfl _ _ rfl rfl rfl (S6.out) ?_)
  refine MixO.narrow (S' := fun w' => ∃ r : BW g w6, w' = r.world) (fun v hv => by obtain ⟨r, e⟩ := hv; exact ⟨BW.mk' ((Below.drew (Below.refl _ _)).trans (B6.out.trans r.below)), e⟩) ⟨BW.mk' (Below.refl _ _), rfl⟩ ?_
  refine mixO_cons ?_
  show wpQuiet _ _ _ _ (_ :: _) _
  go_big_quiet_step (fail)
  refine wpQuiet_nil ?_
  show wpList _ _ _ [_] _ _
  have c6 := ky_cell76 HN.out K6.out
  have f6 := ky_frozen K6.out 76
  go_wp2_with fail
  refine MixO.last ?_
  refine mixO_nil ?_
  refine wpQuiet_nil ?_
  refine NoPanic.normal ?_
  have K7 := Lib.hid (ky_setp HN.out K6.out (IntKind.u64.wrap (p + 1)))
  have B7 : Hid (Below g w4 (w6.setCell ⟨g, 76, none⟩ (.int .u64 (IntKind.u64.wrap (p + 1))))) := Lib.hid (((B5.out.trans (Below.drew (Below.refl _ _))).trans B6.out).setCell (Nat.le_refl _) _)
  clear c6 f6 HC
  generalize w6.setCell ⟨g, 76, none⟩ (.int .u64 (IntKind.u64.wrap (p + 1))) = w7 at *
  have HW : Hid (IntKind.u64.wrap (p + 1) = (p + 1) % 18446744073709551616) := Lib.hid (by simp [IntKind.wrap, IntKind.bits, IntKind.signed])
  rw [HW.out] at K7
  have Z7 := Lib.hid (Blk.below Z4.out B7.out hgz)
  have hl7 := ky_load HN.out K7.out
  rw [← HVV.out] at hl7
  have L7 := Lib.hid hl7
  obtain ⟨w8, hs8, hk8, hg8⟩ := ky_store (p := (p + 1) % 18446744073709551616) HN.out Z7.out HZ.out
  rw [← HVV.out] at hs8
  have S8 := Lib.hid hs8
  have K8 := Lib.hid hk8
  have B8 : Hid (Below w.heap.size w7 w8) := Lib.hid (below_of_only hg8 (by omega) (by have := Blk.lt Z7.out; omega))
  clear hl7 hs8 hk8 hg8
  go_wp2_with (first
    | ((with_reducible (show wpList _ _ _ (⟨some 15, .load _ _, _, _, _, _⟩ :: _) _ _)); refine wpList_loadV (o := ⟨some 15, .load _ _, _, _, _, _⟩) rfl _ rfl rfl (L7.out) ?_)
    | ((with_reducible (show wpList _ _ _ (⟨none, .store 27 _ _, _, _, _, _⟩ :: _) _ _)); refine wpList_storeV (o := ⟨none, .store 27 _ _, _, _, _, _⟩) rfl _ _ rfl rfl rfl (S8.out) ?_))
  refine ret_row rfl rfl K8.out keys_fine rfl (by rw [List.size_toArray, kyL_len HN.out]; exact sizeKeys) rfl ⟨by rw [HVV.out]; rfl, ?_⟩
  exact (((B3.out.trans (B4.out.mono B3.out.size)).trans (B7.out.mono (by have := B3.out.size; omega)))).trans B8.out
end Go.Proofs.Ythpacdondnenmaa
