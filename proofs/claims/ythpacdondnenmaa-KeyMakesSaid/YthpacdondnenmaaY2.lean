/- Contracts: what is expanded for a connection's keys; key.Of. Conditions: as each theorem states them. -/
import Derived.Test.YthpacdondnenmaaY1
import Derived.Test.YthpacdondnenmaaLV
import Derived.Test.YthpacdondnenmaaQO
namespace Go.Proofs.Ythpacdondnenmaa
open Go.RowKit
theorem labelL_len (S : List Int) (s : ByteArray) (C : List Int) {N : Nat} (h1 : 1 ≤ N) (h2 : N ≤ 8160) (h3 : s.size ≤ 249) (h4 : C.length ≤ 255) : (labelL S s C N).length = N := by
  rw [labelL_in S s C N (by omega)]; exact expL_len S _ h1 h2
theorem labelL_byt (S : List Int) (s : ByteArray) (C : List Int) (n : Int) : Byt (labelL S s C n) := by
  by_cases h : n < 1 ∨ 8160 < n ∨ 249 < s.size ∨ 255 < C.length
  · rw [labelL_out S s C n h]; exact Byt.nil
  · rw [labelL_in S s C n h]; exact expL_byt S _ n
def sKey : ByteArray := ⟨#[113, 117, 105, 99, 32, 107, 101, 121]⟩
def sIv : ByteArray := ⟨#[113, 117, 105, 99, 32, 105, 118]⟩
def sHp : ByteArray := ⟨#[113, 117, 105, 99, 32, 104, 112]⟩
def kKey (S : List Int) : List Int := labelL S sKey [] 16
def kIv (S : List Int) : List Int := labelL S sIv [] 12
def kHp (S : List Int) : List Int := labelL S sHp [] 16
def kSec (S : List Int) (s : ByteArray) : List Int := labelL S s [] 32
theorem kKey_len (S : List Int) : (kKey S).length = 16 := labelL_len (N := 16) S _ _ (by decide) (by decide) (by decide) (by decide)
theorem kIv_len (S : List Int) : (kIv S).length = 12 := labelL_len (N := 12) S _ _ (by decide) (by decide) (by decide) (by decide)
theorem kHp_len (S : List Int) : (kHp S).length = 16 := labelL_len (N := 16) S _ _ (by decide) (by decide) (by decide) (by decide)
theorem kSec_len (S : List Int) {s : ByteArray} (hs : s.size ≤ 249) : (kSec S s).length = 32 := labelL_len (N := 32) S _ _ (by decide) (by decide) hs (by decide)
theorem kKey_byt (S : List Int) : Byt (kKey S) := labelL_byt _ _ _ _
theorem kIv_byt (S : List Int) : Byt (kIv S) := labelL_byt _ _ _ _
theorem kHp_byt (S : List Int) : Byt (kHp S) := labelL_byt _ _ _ _
theorem kSec_byt (S : List Int) (s : ByteArray) : Byt (kSec S s) := labelL_byt _ _ _ _
theorem label_key (S : List Int) (w : World) (hS : S.length = 32) (hSb : Byt S) : Calls Try.prog 44 #[.agg (cellsL .u8 S), .string ⟨#[113, 117, 105, 99, 32, 107, 101, 121]⟩, .slice none 0 0, .int .i64 16] w (SliPost (kKey S) w) :=
  label_any S sKey none 0 [] 16 w hS hSb Rd.nil Byt.nil (by decide) (by decide)
theorem label_iv (S : List Int) (w : World) (hS : S.length = 32) (hSb : Byt S) : Calls Try.prog 44 #[.agg (cellsL .u8 S), .string ⟨#[113, 117, 105, 99, 32, 105, 118]⟩, .slice none 0 0, .int .i64 12] w (SliPost (kIv S) w) :=
  label_any S sIv none 0 [] 12 w hS hSb Rd.nil Byt.nil (by decide) (by decide)
theorem label_hp (S : List Int) (w : World) (hS : S.length = 32) (hSb : Byt S) : Calls Try.prog 44 #[.agg (cellsL .u8 S), .string ⟨#[113, 117, 105, 99, 32, 104, 112]⟩, .slice none 0 0, .int .i64 16] w (SliPost (kHp S) w) :=
  label_any S sHp none 0 [] 16 w hS hSb Rd.nil Byt.nil (by decide) (by decide)
theorem label_sec (S : List Int) (s : ByteArray) (w : World) (hS : S.length = 32) (hSb : Byt S) (hs : s.size ≤ 249) : Calls Try.prog 44 #[.agg (cellsL .u8 S), .string s, .slice none 0 0, .int .i64 32] w (SliPost (kSec S s) w) :=
  label_any S s none 0 [] 32 w hS hSb Rd.nil Byt.nil (by decide) (by omega)
theorem rlabel_key (S : List Int) (w : World) (hS : S.length = 32) (hSb : Byt S) : Calls Try.prog 48 #[.agg (cellsL .u8 S), .string ⟨#[113, 117, 105, 99, 32, 107, 101, 121]⟩, .slice none 0 0, .int .i64 16] w (SliPost (kKey S) w) :=
  rlabel_any S sKey none 0 [] 16 w hS hSb Rd.nil Byt.nil (by decide) (by decide)
theorem rlabel_iv (S : List Int) (w : World) (hS : S.length = 32) (hSb : Byt S) : Calls Try.prog 48 #[.agg (cellsL .u8 S), .string ⟨#[113, 117, 105, 99, 32, 105, 118]⟩, .slice none 0 0, .int .i64 12] w (SliF (kIv S) w) :=
  rlabel_anyF S sIv none 0 [] 12 w hS hSb Rd.nil Byt.nil (by decide) (by decide)
theorem rlabel_hp (S : List Int) (w : World) (hS : S.length = 32) (hSb : Byt S) : Calls Try.prog 48 #[.agg (cellsL .u8 S), .string ⟨#[113, 117, 105, 99, 32, 104, 112]⟩, .slice none 0 0, .int .i64 16] w (SliPost (kHp S) w) :=
  rlabel_any S sHp none 0 [] 16 w hS hSb Rd.nil Byt.nil (by decide) (by decide)
theorem rlabel_sec (S : List Int) (s : ByteArray) (w : World) (hS : S.length = 32) (hSb : Byt S) (hs : s.size ≤ 249) : Calls Try.prog 48 #[.agg (cellsL .u8 S), .string s, .slice none 0 0, .int .i64 32] w (SliPost (kSec S s) w) :=
  rlabel_any S s none 0 [] 32 w hS hSb Rd.nil Byt.nil (by decide) (by omega)
attribute [irreducible] kKey kIv kHp kSec
def ofV (S : List Int) : Value := kyV S (kKey S) (kIv S) (kHp S) 0
theorem zeroKeys : Try.zeroCells27.size = 77 := by kernel_rfl
theorem ofOk {S : List Int} (h : S.length = 32) (hb : Byt S) : KyOk S (kKey S) (kIv S) (kHp S) := ⟨h, kKey_len S, kIv_len S, kHp_len S, hb, kKey_byt S, kIv_byt S, kHp_byt S⟩
theorem keysRow : (match TypeDesc.struct (Try.prog.fieldsOf 27) with | .struct _ | .array _ _ => true | _ => false) = true := rfl
set_option maxRecDepth 100000 in
set_option maxHeartbeats 8000000 in
theorem of_any (S : List Int) (w : World) (hS : S.length = 32) (hSb : Byt S) : Calls Try.prog 17 #[.agg (cellsL .u8 S)] w (RetV (ofV S) w) := by
  have HS := Lib.hid hS
  have HSB := Lib.hid hSb
  clear hS hSb
  go_enter Try.func17, Try.ntmps17
  go_wp2_with fail
  have SA : Hid (Arr ((w.alloc (.cells (cellsL .u8 S) 22)).alloc (.cells Try.zeroCells27 27)) w.heap.size 22 .u8 S) := Lib.hid ((Arr.newAt rfl rfl).alloc _)
  have ZA : Hid (Blk ((w.alloc (.cells (cellsL .u8 S) 22)).alloc (.cells Try.zeroCells27 27)) (w.heap.size + 1) 27 Try.zeroCells27) := Lib.hid (by have := Blk.new (w.alloc (.cells (cellsL .u8 S) 22)) 27 Try.zeroCells27; simpa using this)
  have B2 : Hid (Below w.heap.size w ((w.alloc (.cells (cellsL .u8 S) 22)).alloc (.cells Try.zeroCells27 27))) := Lib.hid (((Below.refl _ _).alloc (Nat.le_refl _) _).alloc (by simp) _)
  generalize ((w.alloc (.cells (cellsL .u8 S) 22)).alloc (.cells Try.zeroCells27 27)) = w2 at *
  have HL1 : Hid (∀ r : BW w2.heap.size w2, (Instr.loadAt 22 (.pointer (some ⟨w.heap.size, 0, none⟩))).run Try.prog r.world = .ok (.agg (cellsL .u8 S)) r.world) := Lib.hid (fun r => arr_load (SA.out.below r.below SA.out.lt) Try.underlying22 size32 HS.out.symm)
  refine wp_region_mixOB w2.heap.size [([0, 1, 5, 9], 2), ([3, 4], 6), ([7, 8], 10), ([11, 12, 13], 14)] (by kernel_rfl) (by kernel_rfl) (by kernel_rfl) (by kernel_rfl) (by kernel_rfl) ?_
  try (rw [put_none])
  simp only [pickL, List.map_cons, List.map_nil, List.filterMap_cons, List.filterMap_nil, List.getElem?_cons_succ, List.getElem?_cons_zero]
  refine mixO_cons ?_
  show wpQuiet _ _ _ _ (_ :: _) _
  refine wpQuiet_loadV (o := ⟨some 3, _, _, _, _, _⟩) rfl _ rfl rfl (fun w' hw' => by obtain ⟨r, rfl⟩ := hw'; exact HL1.out r) ?_
  simp only [Act.put, List.setIfInBounds_toArray, List.set_cons_zero, List.set_cons_succ]
  show wpQuiet _ _ _ _ (_ :: _) _
  refine wpQuiet_loadV (o := ⟨some 4, _, _, _, _, _⟩) rfl _ rfl rfl (fun w' hw' => by obtain ⟨r, rfl⟩ := hw'; exact HL1.out r) ?_
  simp only [Act.put, List.setIfInBounds_toArray, List.set_cons_zero, List.set_cons_succ]
  show wpQuiet _ _ _ _ (_ :: _) _
  refine wpQuiet_loadV (o := ⟨some 8, _, _, _, _, _⟩) rfl _ rfl rfl (fun w' hw' => by obtain ⟨r, rfl⟩ := hw'; exact HL1.out r) ?_
  simp only [Act.put, List.setIfInBounds_toArray, List.set_cons_zero, List.set_cons_succ]
  show wpQuiet _ _ _ _ (_ :: _) _
  refine wpQuiet_loadV (o := ⟨some 12, _, _, _, _, _⟩) rfl _ rfl rfl (fun w' hw' => by obtain ⟨r, rfl⟩ := hw'; exact HL1.out r) ?_
  simp only [Act.put, List.setIfInBounds_toArray, List.set_cons_zero, List.set_cons_succ]
  refine wpQuiet_nil ?_
  show wpList _ _ _ [_] _ _
  go_wp2_with fail
  refine Calls.mono (label_key S _ HS.out HSB.out) ?_
  rintro e w3 ⟨A3, n3, c3, rfl, hn3, hc3, hr3, hb3⟩
  have B3 := Lib.hid ((Below.refl w2.heap.size w2).drew.trans hb3)
  have R3 := Lib.hid hr3
  have N3 : Hid (n3 = 16) := Lib.hid (by rw [hn3, kKey_len])
  clear hn3 hc3 hr3 hb3
  go_wp2_with fail
  refine MixO.narrowB B3.out B3.out.size ?_
  refine mixO_cons ?_
  show wpQuiet _ _ _ _ (_ :: _) _
  refine wpQuiet_arrayAt (o := ⟨some 6, _, _, _, _, _⟩) rfl _ rfl rfl (fun w' => arrayAt_run Try.underlying23 A3 c3 (by rw [N3.out]; exact Nat.le_refl _) w') ?_
  simp only [Act.put, List.setIfInBounds_toArray, List.set_cons_zero, List.set_cons_succ]
  show wpQuiet _ _ _ _ (_ :: _) _
  refine wpQuiet_loadV (o := ⟨some 7, _, _, _, _, _⟩) rfl _ rfl rfl (fun w' hw' => by obtain ⟨r, rfl⟩ := hw'; exact rd_loadArr (R3.out.below r.below (Nat.le_refl _)) Try.underlying23 size16 (by rw [kKey_len]; exact Nat.le_refl _) (by decide)) ?_
  simp only [Act.put, List.setIfInBounds_toArray, List.set_cons_zero, List.set_cons_succ]
  refine wpQuiet_nil ?_
  show wpList _ _ _ [_] _ _
  go_wp2_with fail
  refine Calls.mono (label_iv S _ HS.out HSB.out) ?_
  rintro e w4 ⟨A4, n4, c4, rfl, hn4, hc4, hr4, hb4⟩
  have B4 := Lib.hid hb4
  have R4 := Lib.hid hr4
  have N4 : Hid (n4 = 12) := Lib.hid (by rw [hn4, kIv_len])
  clear hn4 hc4 hr4 hb4
  go_wp2_with fail
  refine MixO.narrowB B4.out B4.out.size ?_
  refine mixO_cons ?_
  show wpQuiet _ _ _ _ (_ :: _) _
  refine wpQuiet_arrayAt (o := ⟨some 10, _, _, _, _, _⟩) rfl _ rfl rfl (fun w' => arrayAt_run Try.underlying24 A4 c4 (by rw [N4.out]; exact Nat.le_refl _) w') ?_
  simp only [Act.put, List.setIfInBounds_toArray, List.set_cons_zero, List.set_cons_succ]
  show wpQuiet _ _ _ _ (_ :: _) _
  refine wpQuiet_loadV (o := ⟨some 11, _, _, _, _, _⟩) rfl _ rfl rfl (fun w' hw' => by obtain ⟨r, rfl⟩ := hw'; exact rd_loadArr (R4.out.below r.below (Nat.le_refl _)) Try.underlying24 size12 (by rw [kIv_len]; exact Nat.le_refl _) (by decide)) ?_
  simp only [Act.put, List.setIfInBounds_toArray, List.set_cons_zero, List.set_cons_succ]
  refine wpQuiet_nil ?_
  show wpList _ _ _ [_] _ _
  go_wp2_with fail
  refine Calls.mono (label_hp S _ HS.out HSB.out) ?_
  rintro e w5 ⟨A5, n5, c5, rfl, hn5, hc5, hr5, hb5⟩
  have B5 := Lib.hid hb5
  have R5 := Lib.hid hr5
  have N5 : Hid (n5 = 16) := Lib.hid (by rw [hn5, kHp_len])
  clear hn5 hc5 hr5 hb5
  go_wp2_with fail
  refine MixO.narrowB B5.out B5.out.size ?_
  refine mixO_cons ?_
  show wpQuiet _ _ _ _ (_ :: _) _
  refine wpQuiet_arrayAt (o := ⟨some 14, _, _, _, _, _⟩) rfl _ rfl rfl (fun w' => arrayAt_run Try.underlying23 A5 c5 (by rw [N5.out]; exact Nat.le_refl _) w') ?_
  simp only [Act.put, List.setIfInBounds_toArray, List.set_cons_zero, List.set_cons_succ]
  show wpQuiet _ _ _ _ (_ :: _) _
  refine wpQuiet_loadV (o := ⟨some 15, _, _, _, _, _⟩) rfl _ rfl rfl (fun w' hw' => by obtain ⟨r, rfl⟩ := hw'; exact rd_loadArr (R5.out.below r.below (Nat.le_refl _)) Try.underlying23 size16 (by rw [kHp_len]; exact Nat.le_refl _) (by decide)) ?_
  simp only [Act.put, List.setIfInBounds_toArray, List.set_cons_zero, List.set_cons_succ]
  have HK := Lib.hid (List.take_of_length_le (i := 16) (l := kKey S) (by rw [kKey_len]; exact Nat.le_refl _))
  have HI := Lib.hid (List.take_of_length_le (i := 12) (l := kIv S) (by rw [kIv_len]; exact Nat.le_refl _))
  have HH := Lib.hid (List.take_of_length_le (i := 16) (l := kHp S) (by rw [kHp_len]; exact Nat.le_refl _))
  have HB : Hid (Try.prog.built 27 [(0, .agg (cellsL .u8 S)), (1, .agg (cellsL .u8 ((kKey S).take 16))), (2, .agg (cellsL .u8 ((kIv S).take 12))), (3, .agg (cellsL .u8 ((kHp S).take 16)))] = some (kyL S (kKey S) (kIv S) (kHp S) 0).toArray) := Lib.hid (by rw [HK.out, HI.out, HH.out]; exact built_all (ofOk HS.out HSB.out))
  show wpQuiet _ _ _ _ (_ :: _) _
  refine wpQuiet_buildV (o := ⟨some 16, _, _, _, _, _⟩) rfl _ rfl (HB.out) ?_
  simp only [Act.put, List.setIfInBounds_toArray, List.set_cons_zero, List.set_cons_succ]
  have B25 := Lib.hid ((B3.out.trans (B4.out.mono B3.out.size)).trans (B5.out.mono (Nat.le_trans B3.out.size B4.out.size)))
  have Z5 := Lib.hid (ZA.out.below B25.out ZA.out.lt)
  obtain ⟨w6, hs6, hz6, hg6⟩ := blk_storeAll (P := Try.prog) (ty := 27) (vs := kyL S (kKey S) (kIv S) (kHp S) 0) Z5.out (by rw [kyL_len (ofOk HS.out HSB.out), zeroKeys]) (kyL_one _ _ _ _ _) (by rw [kyL_len (ofOk HS.out HSB.out)]; exact sizeKeys)
  have S6 := Lib.hid hs6
  have Z6 := Lib.hid hz6
  have G6 := Lib.hid hg6
  clear hs6 hz6 hg6
  refine wpQuiet_nil ?_
  show wpList _ _ _ [_] _ _
  go_wp2_with ((with_reducible (show wpList _ _ _ (⟨none, .store 27 _ _, _, _, _, _⟩ :: _) _ _)); refine wpList_storeV (o := ⟨none, .store 27 _ _, _, _, _, _⟩) rfl _ _ rfl rfl rfl (S6.out) ?_)
  refine MixO.last ?_
  refine mixO_nil ?_
  refine wpQuiet_nil ?_
  refine NoPanic.normal ?_
  go_wp2_with fail
  refine ret_row rfl rfl Z6.out keys_fine rfl (by rw [List.size_toArray, kyL_len (ofOk HS.out HSB.out)]; exact sizeKeys) rfl ⟨rfl, ?_⟩
  have B6 := below_of_only G6.out (B := w.heap.size) (by omega) (Nat.le_trans B2.out.size B25.out.size)
  exact (B2.out.trans (B25.out.mono B2.out.size)).trans B6
set_option maxRecDepth 100000 in
set_option maxHeartbeats 8000000 in
theorem secret_any (S : List Int) (s : ByteArray) (w : World) (hS : S.length = 32) (hSb : Byt S) (hs : s.size ≤ 249) : Calls Try.prog 40 #[.agg (cellsL .u8 S), .string s] w (RetV (.agg (cellsL .u8 (kSec S s))) w) := by
  have HS := Lib.hid hS
  have HSB := Lib.hid hSb
  have HSS := Lib.hid hs
  clear hS hSb hs
  go_enter Try.func40, Try.ntmps40
  go_wp2_with ((with_reducible (show wpList _ _ _ (⟨some 5, .load _ _, _, _, _, _⟩ :: _) _ _)); refine wpList_loadV (o := ⟨some 5, .load _ _, _, _, _, _⟩) rfl _ rfl rfl (arr_load ((Arr.newAt rfl rfl).alloc _) Try.underlying22 size32 HS.out.symm) ?_)
  refine Calls.mono (label_sec S s _ HS.out HSB.out HSS.out) ?_
  rintro e w3 ⟨A3, n3, c3, rfl, hn3, hc3, hr3, hb3⟩
  have B3 : Hid (Below w.heap.size w w3) := Lib.hid ((((Below.refl _ _).alloc (Nat.le_refl _) _).alloc (by simp) _).trans (hb3.mono (by simp <;> omega)))
  have Z3 : Hid (Blk w3 (w.heap.size + 1) 22 (cellsL .u8 (zer 32))) := Lib.hid (blk_below_new hb3 (by simp) (by simp))
  have R3 := Lib.hid hr3
  have N3 : Hid (n3 = 32) := Lib.hid (by rw [hn3, kSec_len S HSS.out])
  have K3 : Hid ((kSec S s).length = 32) := Lib.hid (kSec_len S HSS.out)
  have T3 : Hid ((kSec S s).take 32 = kSec S s) := Lib.hid (List.take_of_length_le (by rw [K3.out]; exact Nat.le_refl _))
  clear hn3 hc3 hr3 hb3
  have hl8 : (Instr.loadAt 22 (.pointer A3)).run Try.prog w3 = .ok (.agg (cellsL .u8 (kSec S s))) w3 := by
    have := rd_loadArr R3.out Try.underlying22 size32 (by rw [K3.out]; exact Nat.le_refl _) (by decide)
    rwa [T3.out] at this
  have L8 := Lib.hid hl8
  clear hl8
  obtain ⟨w6, hs6, hz6, hg6⟩ := blk_storeAll (P := Try.prog) (ty := 22) (vs := iv .u8 (kSec S s)) Z3.out (by rw [iv_len, K3.out, cellsL_size, zer_len]) (iv_one _ _) (by rw [iv_len, K3.out]; exact size32)
  have S6 := Lib.hid hs6
  have Z6 := Lib.hid hz6
  have G6 := Lib.hid hg6
  clear hs6 hz6 hg6
  go_wp2_with (first
    | ((with_reducible (show wpList _ _ _ (⟨some 8, .sliceToArrayPointer _ _, _, _, _, _⟩ :: _) _ _)); refine wpList_arrayAt (o := ⟨some 8, .sliceToArrayPointer _ _, _, _, _, _⟩) rfl _ rfl rfl (arrayAt_run Try.underlying22 A3 c3 (by rw [N3.out]; exact Nat.le_refl _) _) ?_)
    | ((with_reducible (show wpList _ _ _ (⟨some 9, .load _ _, _, _, _, _⟩ :: _) _ _)); refine wpList_loadV (o := ⟨some 9, .load _ _, _, _, _, _⟩) rfl _ rfl rfl (L8.out) ?_)
    | ((with_reducible (show wpList _ _ _ (⟨none, .store 22 _ _, _, _, _, _⟩ :: _) _ _)); refine wpList_storeV (o := ⟨none, .store 22 _ _, _, _, _, _⟩) rfl _ _ rfl rfl rfl (S6.out) ?_))
  refine ret_row rfl rfl Z6.out Try.underlying22 rfl (by rw [List.size_toArray, iv_len, K3.out]; exact size32) rfl ⟨rfl, ?_⟩
  exact B3.out.trans (below_of_only G6.out (by omega) B3.out.size)
end Go.Proofs.Ythpacdondnenmaa
