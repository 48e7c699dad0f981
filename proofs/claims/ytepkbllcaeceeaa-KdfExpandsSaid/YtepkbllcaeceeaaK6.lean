/- Contract: the law's own known of layer 7. Conditions: as each theorem states them. -/
import Derived.Test.YtepkbllcaeceeaaK5
namespace Go.Proofs.Ytepkbllcaeceeaa
open Go.RowKit
theorem rise_0 (w : World) : Calls Try.prog 59 #[.int .u8 0, .int .i64 13] w (RetOwn 5 .u8 (riseL 0 13) w) := rise_any 0 13 w (by decide) (by decide)
theorem rise_240 (w : World) : Calls Try.prog 59 #[.int .u8 240, .int .i64 10] w (RetOwn 5 .u8 (riseL 240 10) w) := rise_any 240 10 w (by decide) (by decide)
theorem extract_at {n m : Nat} (A : Option Addr) (c : Nat) (K : List Int) (A2 : Option Addr) (c2 : Nat) (T : List Int) (w : World) (hn : K.length = n) (hm : T.length = m) (hr : Rd w.heap.size .u8 w A K) (hb : Byt K) (hcap : K.length ≤ c) (hl : K.length ≤ 1000000000) (hr2 : Rd w.heap.size .u8 w A2 T) (hb2 : Byt T) (hcap2 : T.length ≤ c2) (hl2 : T.length ≤ 1000000000) :
    Calls Try.prog 29 #[.slice A n c, .slice A2 m c2] w (ArrPost (macL K T) w) := by
  subst hn; subst hm; exact extract_any A c K A2 c2 T w hr hb hcap hl hr2 hb2 hcap2 hl2
theorem str_hi : strOfNums [176, 52, 76, 97, 216, 219, 56, 83, 92, 168, 175, 206, 175, 11, 241, 43, 136, 29, 194, 0, 201, 131, 61, 167, 38, 233, 55, 108, 46, 50, 207, 247] = ⟨#[176, 52, 76, 97, 216, 219, 56, 83, 92, 168, 175, 206, 175, 11, 241, 43, 136, 29, 194, 0, 201, 131, 61, 167, 38, 233, 55, 108, 46, 50, 207, 247]⟩ := by kernel_rfl
theorem str_p4 : strOfNums [7, 119, 9, 54] = ⟨#[7, 119, 9, 54]⟩ := by kernel_rfl
theorem str_ok : strOfNums [60, 178, 95, 37, 250, 172, 213, 122, 144, 67, 79, 100, 208, 54, 47, 42, 45, 45, 10, 144, 207, 26, 90, 76, 93, 176, 45, 86, 236, 196, 197, 191, 52, 0, 114, 8, 213, 184, 135, 24, 88, 101] = ⟨#[60, 178, 95, 37, 250, 172, 213, 122, 144, 67, 79, 100, 208, 54, 47, 42, 45, 45, 10, 144, 207, 26, 90, 76, 93, 176, 45, 86, 236, 196, 197, 191, 52, 0, 114, 8, 213, 184, 135, 24, 88, 101]⟩ := by kernel_rfl
theorem conv_n {B : Nat} {w : World} {A : Option Addr} {xs : List Int} {n : Nat} (hr : Rd B .u8 w A xs) (hn : xs.length = n) (c : Nat) : (convert 28 9 (.slice A n c)).run Try.prog w = .ok (.string (strOfNums xs)) w := by
  subst hn; exact conv_rd elU8 Try.underlying9 hr c
theorem byt_prk : Byt [7, 119, 9, 54, 44, 46, 50, 223, 13, 220, 63, 13, 196, 123, 186, 99, 144, 182, 199, 59, 181, 15, 156, 49, 34, 236, 132, 74, 215, 194, 179, 229] := by rw [← mac_prk]; exact macL_byt _ _
theorem byt_hit : Byt [72, 105, 32, 84, 104, 101, 114, 101] := by intro x hx; simp at hx; omega
theorem Rd.takeN {B : Nat} {k : IntKind} {w : World} {A : Option Addr} {xs : List Int} (h : Rd B k w A xs) (m : Nat) : Rd B k w A (xs.take m) := fun i hi => by
  rw [List.length_take] at hi
  obtain ⟨ad, e, hb, hc⟩ := h i (by omega)
  exact ⟨ad, e, hb, by rw [hc, getD_take (by omega)]⟩

set_option maxRecDepth 100000 in
set_option maxHeartbeats 4000000 in
theorem known07_any (w : World) : Calls Try.prog 26 #[] w fun e w' => e = .returned (.bool true) ∧ Below w.heap.size w w' := by
  go_enter Try.func26, Try.ntmps26
  go_wp2_with fail
  refine Calls.mono (same_20 _) ?_
  rintro e w1 ⟨A1, n1, c1, rfl, hn1, hc1, hr1, hb1⟩
  rw [sameL_len] at hn1
  subst hn1
  have R1 := Lib.hid hr1
  have B1 := Lib.hid hb1
  have HS20 := Lib.hid (sameL_len 11 20)
  clear hr1 hb1
  have hcv := Lib.run_convert_bytes_const w1 28 5 #[.int .u8 72, .int .u8 105, .int .u8 32, .int .u8 84, .int .u8 104, .int .u8 101, .int .u8 114, .int .u8 101] 8 8 Try.underlying28 Try.underlying5
  go_wp2_with fail
  clear hcv
  refine Calls.mono (mac_at A1 c1 (sameL 11 20) _ _ [⟨some ⟨w1.heap.size, 0, none⟩, 8, [72, 105, 32, 84, 104, 101, 114, 101]⟩] _ HS20.out rfl ?_ (sameL_byt 20 (by decide)) (by rw [HS20.out]; exact hc1) (by rw [HS20.out]; decide) ?_ ?_ ?_ (by simp)) ?_
  · exact ((R1.out.alloc (Nat.le_refl _) _).alloc (by simp) _).mono (by simp <;> omega)
  · refine Txs.newAt (by simp) rfl ?_
    intro t ht
    rw [List.mem_singleton] at ht
    subst ht
    exact ⟨Rd.mark (xs := [72, 105, 32, 84, 104, 101, 114, 101]) rfl rfl, (by decide : (8 : Nat) ≤ 8)⟩
  · intro t ht
    rw [List.mem_singleton] at ht
    subst ht
    exact byt_hit
  · rw [join_one]; decide
  rintro e w2 ⟨rfl, hb2⟩
  rw [join_one]
  have HX := Lib.hid mac_hi
  have HXL := Lib.hid (macL_len (sameL 11 20) [72, 105, 32, 84, 104, 101, 114, 101])
  generalize macL (sameL 11 20) [72, 105, 32, 84, 104, 101, 114, 101] = X at *
  have B2 := Lib.hid (((B1.out.alloc B1.out.size _).alloc (by have := B1.out.size; simp; omega) _).trans (hb2.mono (by have := B1.out.size; simp; omega)))
  clear hb2
  go_wp2_with (with_reducible (show wpList _ _ _ (⟨none, .store 25 _ _, _, _, _, _⟩ :: _) _ _); refine wpList_storeArr (o := ⟨none, .store 25 _ _, _, _, _, _⟩) (g := w2.heap.size) (t := 25) (k := .u8) (xs := X) (n := 32) rfl _ _ rfl rfl rfl (Blk.new _ _ _) size32 HXL.out.symm rfl ?_; intro w3 ha3 hg3; have A3 := Lib.hid ha3; have B3 := Lib.hid ((B2.out.alloc B2.out.size _).trans (below_of_only hg3 B2.out.size (by have := B2.out.size; simp; omega))); clear ha3 hg3)
  refine Calls.mono (rise_0 _) ?_
  rintro e w4 ⟨A4, n4, c4, rfl, ho4, hb4⟩
  have hn4 : n4 = 13 := by have := ho4.len; rw [riseL_len] at this; exact this
  subst hn4
  have O4 := Lib.hid ho4
  have A4' := Lib.hid (A3.out.belowAll hb4)
  have B4 := Lib.hid (B3.out.trans (hb4.mono B3.out.size))
  clear ho4 hb4
  go_wp2_with fail
  refine Calls.mono (same_22 _) ?_
  rintro e w5 ⟨A5, n5, c5, rfl, hn5, hc5, hr5, hb5⟩
  rw [sameL_len] at hn5
  subst hn5
  have R5 := Lib.hid hr5
  have O5 := Lib.hid (O4.out.below hb5)
  have A5' := Lib.hid (A4'.out.belowAll hb5)
  have B5 := Lib.hid (B4.out.trans (hb5.mono B4.out.size))
  have HS22 := Lib.hid (sameL_len 11 22)
  have HR13 := Lib.hid (riseL_len 0 13)
  have hoc5 := O5.out.cap
  clear hr5 hb5
  go_wp2_with fail
  refine Calls.mono (extract_at A4 c4 (riseL 0 13) A5 c5 (sameL 11 22) _ HR13.out HS22.out O5.out.rd (riseL_byt (by decide)) (by rw [HR13.out]; exact hoc5.1) (by rw [HR13.out]; decide) R5.out (sameL_byt 22 (by decide)) (by rw [HS22.out]; exact hc5) (by rw [HS22.out]; decide)) ?_
  rintro e w6 ⟨rfl, hb6⟩
  have HY := Lib.hid mac_prk
  have HYL := Lib.hid (macL_len (riseL 0 13) (sameL 11 22))
  generalize macL (riseL 0 13) (sameL 11 22) = Y at *
  have B6 := Lib.hid (B5.out.trans (hb6.mono B5.out.size))
  have A6' := Lib.hid (A5'.out.belowAll hb6)
  have z23 : w2.heap.size < w6.heap.size := A6'.out.lt
  clear hb6
  go_wp2_with (with_reducible (show wpList _ _ _ (⟨none, .store 25 _ _, _, _, _, _⟩ :: _) _ _); refine wpList_storeArr (o := ⟨none, .store 25 _ _, _, _, _, _⟩) (g := w6.heap.size) (t := 25) (k := .u8) (xs := Y) (n := 32) rfl _ _ rfl rfl rfl (Blk.new _ _ _) size32 HYL.out.symm rfl ?_; intro w7 ha7 hg7; have A7 := Lib.hid ha7; have A7' := Lib.hid ((A6'.out.alloc (.cells #[.int .u8 0, .int .u8 0, .int .u8 0, .int .u8 0, .int .u8 0, .int .u8 0, .int .u8 0, .int .u8 0, .int .u8 0, .int .u8 0, .int .u8 0, .int .u8 0, .int .u8 0, .int .u8 0, .int .u8 0, .int .u8 0, .int .u8 0, .int .u8 0, .int .u8 0, .int .u8 0, .int .u8 0, .int .u8 0, .int .u8 0, .int .u8 0, .int .u8 0, .int .u8 0, .int .u8 0, .int .u8 0, .int .u8 0, .int .u8 0, .int .u8 0, .int .u8 0] 25)).grown hg7 (by simp; omega)); have B7 := Lib.hid ((B6.out.alloc B6.out.size _).trans (below_of_only hg7 B6.out.size (by have := B6.out.size; simp; omega))); clear ha7 hg7)
  have HL : ∀ r : BW w7.heap.size w7, (Instr.loadAt 25 (.pointer (some ⟨w6.heap.size, 0, none⟩))).run Try.prog r.world = .ok (.agg (cellsL .u8 Y)) r.world := fun r => arr_load (A7.out.below r.below A7.out.lt) Try.underlying25 size32 HYL.out.symm
  refine wp_region_mix_below w7.heap.size [([0], 1), ([], 2)] [3] (by kernel_rfl) (by kernel_rfl) (by kernel_rfl) (by kernel_rfl) ?_
  simp only [put_none, pickL, List.map_cons, List.map_nil, List.filterMap_cons, List.filterMap_nil, List.getElem?_cons_succ, List.getElem?_cons_zero]
  refine mixS_cons ?_
  show wpQuiet _ _ _ _ [_] _
  refine wpQuiet_loadV (o := ⟨some 12, _, _, _, _, _⟩) rfl _ rfl rfl (fun w' hw' => by obtain ⟨r, rfl⟩ := hw'; exact HL r) ?_
  simp only [Act.put, List.setIfInBounds_toArray, List.set_cons_zero, List.set_cons_succ]
  refine wpQuiet_nil ?_
  show wpList _ _ _ [_] _ _
  go_wp2_with fail
  refine Calls.mono (rise_240 _) ?_
  rintro e w8 ⟨A8, n8, c8, rfl, ho8, hb8⟩
  have hn8 : n8 = 10 := by have := ho8.len; rw [riseL_len] at this; exact this
  subst hn8
  have O8 := Lib.hid ho8
  have B78 := Lib.hid ((Below.refl w7.heap.size w7).drew.trans hb8)
  have hoc8 := O8.out.cap
  have HR10 := Lib.hid (riseL_len 240 10)
  clear ho8 hb8
  go_wp2_with fail
  refine MixQ.below B78.out ?_
  refine mixS_cons ?_
  refine wpQuiet_nil ?_
  show wpList _ _ _ [_] _ _
  go_wp2_with fail
  refine Calls.mono (expand_any Y A8 c8 (riseL 240 10) 42 _ HR10.out HYL.out (by rw [HY.out]; exact byt_prk) O8.out.rd (riseL_byt (by decide)) (by rw [HR10.out]; exact hoc8.1) (by rw [HR10.out]; decide)) ?_
  rintro e w9 ⟨A9, n9, c9, rfl, hn9, hc9, hr9, hb9⟩
  have HE : Hid (expL Y (riseL 240 10) 42 = [60, 178, 95, 37, 250, 172, 213, 122, 144, 67, 79, 100, 208, 54, 47, 42, 45, 45, 10, 144, 207, 26, 90, 76, 93, 176, 45, 86, 236, 196, 197, 191, 52, 0, 114, 8, 213, 184, 135, 24, 88, 101]) := Lib.hid (by rw [HY.out]; exact exp_okm)
  rw [HE.out] at hn9 hr9
  have hn9' : n9 = 42 := hn9
  clear hn9
  subst hn9'
  have R9 := Lib.hid hr9
  have B79 := Lib.hid (B78.out.trans (hb9.mono B78.out.size))
  clear hr9 hb9 HL
  go_wp2_with fail
  refine MixQ.below B79.out ?_
  refine mixS_nil ?_
  repeat (show wpQuiet _ _ _ _ (_ :: _) _; go_big_quiet_step (fail))
  refine wpQuiet_nil ?_
  refine NoPanic.normal ?_
  have A9a := A7'.out.belowAll B79.out
  have A9b := A7.out.belowAll B79.out
  have q1 := conv_n (n := 32) A9a.rd HXL.out 32
  rw [HX.out, str_hi] at q1
  have q2 := conv_n (n := 4) (A9b.rd.takeN 4) (by rw [List.length_take, HYL.out]; rfl) 32
  rw [HY.out] at q2
  simp only [List.take_succ_cons, List.take_zero] at q2
  rw [str_p4] at q2
  have q3 := conv_n (n := 42) R9.out rfl c9
  rw [str_ok] at q3
  clear A9a A9b
  go_wp2_with fail
  go_ret
  exact ⟨rfl, B7.out.trans (B79.out.mono B7.out.size)⟩
end Go.Proofs.Ytepkbllcaeceeaa
