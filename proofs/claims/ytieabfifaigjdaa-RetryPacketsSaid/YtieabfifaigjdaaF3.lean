/- Layer 33: a packet's tag; contract of tag. Conditions: as each theorem states them. -/
import Derived.Test.YtieabfifaigjdaaF2
import Derived.Test.YtieabfifaigjdaaJGb
namespace Go.Proofs.Ytieabfifaigjdaa
open Go.RowKit
def K16r : List Int := [190, 12, 105, 11, 159, 102, 87, 90, 29, 118, 107, 84, 227, 104, 200, 78]
def N12r : List Int := [70, 21, 153, 211, 93, 99, 43, 242, 35, 152, 37, 187]
/-- the tag of a packet's bytes, of the id that the client chose -/
def tagP (b orig : List Int) : List Int := gsealL K16r N12r ([(orig.length : Int)] ++ orig ++ b) []
theorem K16r_blk : Blk16 K16r := ⟨rfl, by unfold K16r; intro x hx; simp only [List.mem_cons, List.not_mem_nil, or_false] at hx; omega⟩
theorem N12r_byt : Byt N12r := by unfold N12r; intro x hx; simp only [List.mem_cons, List.not_mem_nil, or_false] at hx; omega
theorem N12r_len : N12r.length = 12 := rfl
theorem tagP_len (b orig : List Int) : (tagP b orig).length = 16 := by
  unfold tagP gsealL
  rw [List.length_append, turnL_len, tagL_len K16r_blk N12r_len N12r_byt]
  rfl
theorem tagP_byt (b orig : List Int) : Byt (tagP b orig) := gsealL_byt _ _ _ _
theorem txs_lit {w : World} {g : Nat} {t : TypeId} {B : Nat} {cs : Array Value} (ts : List Tx) (h : Blk w g t cs) (he : cs.toList = ts.map fun t => Value.slice t.A t.xs.length t.c) (hB : g < B) (hr : ∀ t ∈ ts, Rd B .u8 w t.A t.xs ∧ t.xs.length ≤ t.c) : Txs B w (some ⟨g, 0, none⟩) ts := by
  intro i hi
  have hm := getD_mem (z := Tx.none) hi
  obtain ⟨h1, h2⟩ := hr _ hm
  refine ⟨_, rfl, hB, ?_, h1, h2⟩
  rw [add_zero_addr2, Blk.cell h i]
  have : cs[i]? = cs.toList[i]? := by simp
  rw [this, he, List.getElem?_map, List.getElem?_eq_getElem hi, List.getD_eq_getElem?_getD, List.getElem?_eq_getElem hi]
  rfl
attribute [local irreducible] gsealL tagP
set_option maxRecDepth 100000 in
set_option maxHeartbeats 8000000 in
theorem tag_any (A1 A2 : Option Addr) (n1 n2 c1 c2 : Nat) (b orig : List Int) (w : World) (h1 : b.length = n1) (h2 : orig.length = n2) (hr1 : Rd w.heap.size .u8 w A1 b) (hr2 : Rd w.heap.size .u8 w A2 orig) (hb1 : Byt b) (hb2 : Byt orig) (hl1 : n1 ≤ 1000) (hl2 : n2 ≤ 20) (hc1 : n1 ≤ c1) (hc2 : n2 ≤ c2) :
    Calls Try.prog 20 #[.slice A1 n1 c1, .slice A2 n2 c2] w (RetOwn 5 .u8 (tagP b orig) w) := by
  have HN1 := Lib.hid h1
  have HN2 := Lib.hid h2
  have R1 := Lib.hid hr1
  have R2 := Lib.hid hr2
  have HB1 := Lib.hid hb1
  have HB2 := Lib.hid hb2
  clear h1 h2 hr1 hr2 hb1 hb2
  go_enter Try.func20, Try.ntmps20
  go_wp2_with (first
    | ((with_reducible (show wpList _ _ _ (⟨none, .store 66 _ _, _, _, _, _⟩ :: _) _ _)); refine wpList_storeArr (o := ⟨none, .store 66 _ _, _, _, _, _⟩) (g := w.heap.size) (t := 66) (k := .u8) (xs := K16r) (n := 16) rfl _ _ rfl rfl rfl (Blk.new _ _ _) sizeE16 (rfl) rfl ?_; intro w1 ha1 hg1; have HA1 := Lib.hid ha1; have HG1 := Lib.hid hg1; clear ha1 hg1)
    | ((with_reducible (show wpList _ _ _ (⟨none, .store 67 _ _, _, _, _, _⟩ :: _) _ _)); refine wpList_storeArr (o := ⟨none, .store 67 _ _, _, _, _, _⟩) (g := w1.heap.size) (t := 67) (k := .u8) (xs := N12r) (n := 12) rfl _ _ rfl rfl rfl (Blk.new _ _ _) size51 (rfl) rfl ?_; intro w2 ha2 hg2; have HA2 := Lib.hid ha2; have HG2 := Lib.hid hg2; clear ha2 hg2))
  have B1 : Hid (Below w.heap.size w w1) := Lib.hid (((Below.refl w.heap.size w).alloc (Nat.le_refl _) _).trans (below_of_only HG1.out (Nat.le_refl _) (by simp)))
  have b2 : Below w1.heap.size w1 w2 := ((Below.refl w1.heap.size w1).alloc (Nat.le_refl _) _).trans (below_of_only HG2.out (Nat.le_refl _) (by simp))
  have A1_ : Hid (Arr w2 w.heap.size 66 .u8 K16r) := Lib.hid (HA1.out.below b2 HA1.out.lt)
  have B2 := Lib.hid (B1.out.trans (b2.mono B1.out.size))
  have hz2 := B2.out.size
  have LT1 : Hid (w.heap.size < w2.heap.size) := Lib.hid A1_.out.lt
  have LT2 : Hid (w1.heap.size < w2.heap.size) := Lib.hid HA2.out.lt
  clear b2 HG1 HG2 HA1 B1
  obtain ⟨g2, hg2⟩ : ∃ z, w1.heap.size = z := ⟨_, rfl⟩
  rw [hg2] at HA2 LT2 ⊢
  clear hg2
  have HL1 : ∀ r : BW w2.heap.size w2, (Instr.loadAt 66 (.pointer (some ⟨w.heap.size, 0, none⟩))).run Try.prog r.world = .ok (.agg (cellsL .u8 K16r)) r.world := fun r => arr_load (A1_.out.below r.below LT1.out) Try.underlying66 sizeE16 rfl
  have HL2 : ∀ r : BW w2.heap.size w2, (Instr.loadAt 67 (.pointer (some ⟨g2, 0, none⟩))).run Try.prog r.world = .ok (.agg (cellsL .u8 N12r)) r.world := fun r => arr_load (HA2.out.below r.below LT2.out) Try.underlying67 size51 rfl
  refine wp_region_mixN w2.heap.size [([0, 1, 2, 3, 4, 6, 7], 5), ([], 8), ([], 9), ([], 10)] [11] (by kernel_rfl) (by kernel_rfl) (by kernel_rfl) (by kernel_rfl) ?_
  try (rw [put_none])
  simp only [pickL, List.map_cons, List.map_nil, List.filterMap_cons, List.filterMap_nil, List.getElem?_cons_succ, List.getElem?_cons_zero]
  refine mixN_cons ?_
  show wpQuiet _ _ _ _ (_ :: _) _
  refine wpQuiet_loadV (o := ⟨some 9, _, _, _, _, _⟩) rfl _ rfl rfl (fun w' hw' => by obtain ⟨r, rfl⟩ := hw'; exact HL1 r) ?_
  simp only [Act.put, List.setIfInBounds_toArray, List.set_cons_zero, List.set_cons_succ]
  show wpQuiet _ _ _ _ (_ :: _) _
  refine wpQuiet_loadV (o := ⟨some 10, _, _, _, _, _⟩) rfl _ rfl rfl (fun w' hw' => by obtain ⟨r, rfl⟩ := hw'; exact HL2 r) ?_
  simp only [Act.put, List.setIfInBounds_toArray, List.set_cons_zero, List.set_cons_succ]
  repeat (show wpQuiet _ _ _ _ (_ :: _) _; go_big_quiet_step (fail))
  clear HL1 HL2
  refine wpQuiet_nil ?_
  show wpList _ _ _ [_] _ _
  go_wp2_with fail
  have B3 : Hid (Below w2.heap.size w2 ((w2.alloc (.cells #[.int .u8 n2] 5)).drew)) := Lib.hid (((Below.refl w2.heap.size w2).alloc (Nat.le_refl _) _).drew)
  have T3 : Hid (Rd ((w2.alloc (.cells #[.int .u8 n2] 5)).drew).heap.size .u8 ((w2.alloc (.cells #[.int .u8 n2] 5)).drew) (some ⟨w2.heap.size, 0, none⟩) [(n2 : Int)]) := Lib.hid ((Rd.newAt (xs := [(n2 : Int)]) rfl rfl).drew.mono (by simp))
  generalize (w2.alloc (.cells #[.int .u8 n2] 5)).drew = w3 at *
  have hz3 := B3.out.size
  refine MixN.narrow B3.out B3.out.size ?_
  refine mixN_cons ?_
  refine wpQuiet_nil ?_
  show wpList _ _ _ [_] _ _
  go_wp2_with fail
  have b4 := (Below.refl w3.heap.size w3).alloc (Nat.le_refl _) (.cells #[.slice (some ⟨w2.heap.size, 0, none⟩) 1 1, .slice A2 n2 c2, .slice A1 n1 c1] 22)
  have K4 : Hid (Blk (w3.alloc (.cells #[.slice (some ⟨w2.heap.size, 0, none⟩) 1 1, .slice A2 n2 c2, .slice A1 n1 c1] 22)) w3.heap.size 22 #[.slice (some ⟨w2.heap.size, 0, none⟩) 1 1, .slice A2 n2 c2, .slice A1 n1 c1]) := Lib.hid (Blk.new _ _ _)
  generalize w3.alloc (.cells #[.slice (some ⟨w2.heap.size, 0, none⟩) 1 1, .slice A2 n2 c2, .slice A1 n1 c1] 22) = w4 at *
  have B4 := Lib.hid b4
  have hz4 := b4.size
  have T4 := Lib.hid ((T3.out.below b4 (Nat.le_refl _)).mono hz4)
  have BB4 := Lib.hid ((B2.out.trans (B3.out.mono hz2)).trans (b4.mono (Nat.le_trans hz2 hz3)))
  clear b4 T3
  have R14 := Lib.hid ((R1.out.below BB4.out (Nat.le_refl _)).mono BB4.out.size)
  have R24 := Lib.hid ((R2.out.below BB4.out (Nat.le_refl _)).mono BB4.out.size)
  refine MixN.narrow B4.out B4.out.size ?_
  refine mixN_cons ?_
  refine wpQuiet_nil ?_
  show wpList _ _ _ [_] _ _
  go_wp2_with fail
  have HJ : Hid (joinT [(⟨some ⟨w2.heap.size, 0, none⟩, 1, [(n2 : Int)]⟩ : Tx), ⟨A2, c2, orig⟩, ⟨A1, c1, b⟩] = [(orig.length : Int)] ++ orig ++ b) := Lib.hid (by rw [HN2.out]; simp [joinT])
  have HJL : Hid (([(orig.length : Int)] ++ orig ++ b).length = 1 + n2 + n1) := Lib.hid (by rw [List.length_append, List.length_append, HN1.out, HN2.out]; simp)
  refine Calls.mono (concat_any (some ⟨w3.heap.size, 0, none⟩) 3 3 [⟨some ⟨w2.heap.size, 0, none⟩, 1, [(n2 : Int)]⟩, ⟨A2, c2, orig⟩, ⟨A1, c1, b⟩] w4 rfl (txs_lit _ K4.out (by simp [HN1.out, HN2.out]) K4.out.lt (by
    intro t ht
    simp only [List.mem_cons, List.not_mem_nil, or_false] at ht
    rcases ht with rfl | rfl | rfl
    · exact ⟨T4.out, Nat.le_refl _⟩
    · exact ⟨R24.out, by rw [HN2.out]; exact hc2⟩
    · exact ⟨R14.out, by rw [HN1.out]; exact hc1⟩)) (by rw [HJ.out, HJL.out]; omega) (by decide)) ?_
  rw [HJ.out]
  rintro e w5 ⟨A5, n5, c5, rfl, o5, b5⟩
  have O5 := Lib.hid o5
  have B5 := Lib.hid b5
  have hn5 : n5 = 1 + n2 + n1 := by rw [o5.len, HJL.out]
  have HN5 := Lib.hid o5.len
  have BB5 := Lib.hid (BB4.out.trans (b5.mono BB4.out.size))
  have hn5b : n5 ≤ 5000 := by omega
  clear o5 b5 hn5 K4 T4 R14 R24
  go_wp2_with fail
  refine MixN.narrow B5.out B5.out.size ?_
  refine mixN_cons ?_
  refine wpQuiet_nil ?_
  show wpList _ _ _ [_] _ _
  go_wp2_with fail
  have HTP : Hid (gsealL K16r N12r ([(orig.length : Int)] ++ orig ++ b) [] = tagP b orig) := Lib.hid (by unfold tagP; rfl)
  refine Calls.mono (gseal_any n5 c5 0 0 A5 none K16r N12r ([(orig.length : Int)] ++ orig ++ b) [] w5 K16r_blk N12r_len N12r_byt HN5.out.symm rfl ((Byt.cons ⟨by omega, by rw [HN2.out]; omega⟩ HB2.out).append HB1.out) hn5b (by decide) O5.out.rd Rd.nil) ?_
  rw [HTP.out]
  rintro e w6 ⟨A6, n6, c6, rfl, o6, b6⟩
  have O6 := Lib.hid o6
  have B6 := Lib.hid b6
  have BB6 := Lib.hid (BB5.out.trans (b6.mono BB5.out.size))
  clear o6 b6 HTP HJ HJL HN5
  go_wp2_with fail
  refine MixN.narrow B6.out B6.out.size ?_
  refine mixN_nil ?_
  repeat (show wpQuiet _ _ _ _ (_ :: _) _; go_big_quiet_step (fail))
  refine wpQuiet_nil ?_
  refine NoPanic.normal ?_
  go_wp2_with fail
  go_ret
  exact ⟨_, _, _, rfl, O6.out.mono BB5.out.size, BB6.out⟩
end Go.Proofs.Ytieabfifaigjdaa
