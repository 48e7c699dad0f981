/- The walk of KdfFirst. Conditions: as each theorem states them. -/
import Derived.Test.YtepkbllcaeceeaaK7
namespace Go.Proofs.Ytepkbllcaeceeaa
open Go.RowKit
theorem blkL_sum {K : List Int} (h : 64 < K.length) (x : Int) : blkL (shaL K) x = blkL K x := by
  rw [blkL_eq, blkL_eq, keyL_hi h, keyL_lo (by rw [shaL_len]; omega)]
theorem blkL_nought {K : List Int} (h : K.length < 64) (x : Int) : blkL (K ++ [0]) x = blkL K x := by
  rw [blkL_eq, blkL_eq, keyL_lo (K := K) (by omega), keyL_lo (K := K ++ [0]) (by rw [List.length_append]; simp; omega)]
  congr 1
  unfold padK
  rw [List.append_assoc, List.length_append]
  congr 1
  show 0 :: List.replicate (64 - (K.length + 1)) 0 = _
  rw [← List.replicate_succ]
  congr 1
  omega
theorem macL_sum {K : List Int} (h : 64 < K.length) (T : List Int) : macL (shaL K) T = macL K T := by rw [macL_eq, macL_eq, blkL_sum h, blkL_sum h]
theorem macL_nought {K : List Int} (h : K.length < 64) (T : List Int) : macL (K ++ [0]) T = macL K T := by rw [macL_eq, macL_eq, blkL_nought h, blkL_nought h]

set_option maxRecDepth 100000 in
set_option maxHeartbeats 8000000 in
theorem first_walk (S : List Int) (A : Option Addr) (c : Nat) (I : List Int) (A2 : Option Addr) (c2 : Nat) (K : List Int) (n m : Int) (w : World) (hS : S.length = 32) (hSb : Byt S) (hr : Rd w.heap.size .u8 w A I) (hb : Byt I) (hcap : I.length ≤ c) (hil : I.length ≤ 140737488351232) (hr2 : Rd w.heap.size .u8 w A2 K) (hb2 : Byt K) (hcap2 : K.length ≤ c2) (hkl : K.length ≤ 140737488351232)
    (hn1 : -9223372036854775808 ≤ n) (hn2 : n ≤ 9223372036854775807) (hm1 : -9223372036854775808 ≤ m) (hm2 : m ≤ 9223372036854775807) :
    Calls Try.prog 8 #[.agg (cellsL .u8 S), .slice A I.length c, .slice A2 K.length c2, .int .i64 n, .int .i64 m] w fun e w' => e = .returned (.bool true) ∧ Below w.heap.size w w' := by
  have HS := Lib.hid hS
  have HSB := Lib.hid hSb
  have HR := Lib.hid hr
  have HBY := Lib.hid hb
  have HR2 := Lib.hid hr2
  have HBY2 := Lib.hid hb2
  clear hS hSb hr hb hr2 hb2
  go_enter Try.func8, Try.ntmps8
  go_wp2_with fail
  refine Calls.mono (known07_any _) ?_
  rintro e w1 ⟨rfl, hb1⟩
  have SA : Hid (Arr w1 w.heap.size 25 .u8 S) := Lib.hid ((Arr.newAt (cs := cellsL .u8 S) rfl rfl).belowAll hb1)
  have B1 := Lib.hid (((Below.refl w.heap.size w).alloc (Nat.le_refl _) _).trans (hb1.mono (by simp)))
  clear hb1
  by_cases h1 : I.length > 500
  · go_wp2_with fail
    go_ret
    exact ⟨rfl, B1.out⟩
  by_cases h2 : K.length > 500
  · go_wp2_with fail
    go_ret
    exact ⟨rfl, B1.out⟩
  by_cases h3 : n < 1
  · go_wp2_with fail
    go_ret
    exact ⟨rfl, B1.out⟩
  by_cases h4 : m < n
  · go_wp2_with fail
    go_ret
    exact ⟨rfl, B1.out⟩
  by_cases h5 : m > 300
  · go_wp2_with fail
    go_ret
    exact ⟨rfl, B1.out⟩
  obtain ⟨N, rfl⟩ : ∃ N : Nat, n = (N : Int) := ⟨n.toNat, by omega⟩
  obtain ⟨M, rfl⟩ : ∃ M : Nat, m = (M : Int) := ⟨m.toNat, by omega⟩
  go_wp2_with fail
  have z0 : w.heap.size < w1.heap.size := SA.out.lt
  have HL : ∀ r : BW w1.heap.size w1, (Instr.loadAt 25 (.pointer (some ⟨w.heap.size, 0, none⟩))).run Try.prog r.world = .ok (.agg (cellsL .u8 S)) r.world := fun r => arr_load (SA.out.below r.below SA.out.lt) Try.underlying25 size32 HS.out.symm
  have R1 := Lib.hid ((HR.out.below B1.out (Nat.le_refl _)).mono B1.out.size)
  refine wp_region_mix_below w1.heap.size [([0, 1, 2, 4, 5, 6], 3), ([], 7)] [8, 9] (by kernel_rfl) (by kernel_rfl) (by kernel_rfl) (by kernel_rfl) ?_
  simp only [pickL, List.map_cons, List.map_nil, List.filterMap_cons, List.filterMap_nil, List.getElem?_cons_succ, List.getElem?_cons_zero]
  refine mixS_cons ?_
  show wpQuiet _ _ _ _ (_ :: _) _
  refine wpQuiet_loadV (o := ⟨some 38, _, _, _, _, _⟩) rfl _ rfl rfl (fun w' hw' => by obtain ⟨r, rfl⟩ := hw'; exact HL r) ?_
  simp only [Act.put, List.setIfInBounds_toArray, List.set_cons_zero, List.set_cons_succ]
  show wpQuiet _ _ _ _ (_ :: _) _
  go_big_quiet_step (fail)
  show wpQuiet _ _ _ _ (_ :: _) _
  go_big_quiet_step (fail)
  show wpQuiet _ _ _ _ (_ :: _) _
  refine wpQuiet_loadV (o := ⟨some 42, _, _, _, _, _⟩) rfl _ rfl rfl (fun w' hw' => by obtain ⟨r, rfl⟩ := hw'; exact HL r) ?_
  simp only [Act.put, List.setIfInBounds_toArray, List.set_cons_zero, List.set_cons_succ]
  repeat (show wpQuiet _ _ _ _ (_ :: _) _; go_big_quiet_step (fail))
  refine wpQuiet_nil ?_
  show wpList _ _ _ [_] _ _
  go_wp2_with fail
  refine Calls.mono (expand_any S A c I (N : Int) _ rfl HS.out HSB.out R1.out.drew HBY.out hcap (by omega)) ?_
  rintro e w2 ⟨A3, n3, c3, rfl, hn3, hc3, hr3, hb3⟩
  have B12 := Lib.hid ((Below.refl w1.heap.size w1).drew.trans hb3)
  have hEN : Hid ((expL S I (N : Int)).length = N) := Lib.hid (expL_len S I (by omega) (by omega))
  have hEM : Hid ((expL S I (M : Int)).length = M) := Lib.hid (expL_len S I (by omega) (by omega))
  have hEF : Hid ((expL S I (M : Int)).take N = expL S I (N : Int)) := Lib.hid (expL_first S I (by omega) (by omega) (by omega))
  rw [hEN.out] at hn3
  obtain rfl := hn3.symm
  have R3 := Lib.hid hr3
  have R2 := Lib.hid ((R1.out.below B12.out (Nat.le_refl _)).mono B12.out.size)
  clear hb3 hr3
  go_wp2_with fail
  refine MixQ.below B12.out ?_
  refine mixS_cons ?_
  refine wpQuiet_nil ?_
  show wpList _ _ _ [_] _ _
  go_wp2_with fail
  refine Calls.mono (expand_any S A c I (M : Int) _ rfl HS.out HSB.out R2.out HBY.out hcap (by omega)) ?_
  rintro e w3 ⟨A4, n4, c4, rfl, hn4, hc4, hr4, hb4⟩
  have B13 := Lib.hid (B12.out.trans (hb4.mono B12.out.size))
  rw [hEM.out] at hn4
  obtain rfl := hn4.symm
  have R4 := Lib.hid hr4
  have R3' := Lib.hid ((R3.out.below hb4 (Nat.le_refl _)).mono hb4.size)
  clear hb4 hr4
  go_wp2_with fail
  refine MixQ.below B13.out ?_
  refine mixS_nil ?_
  repeat (show wpQuiet _ _ _ _ (_ :: _) _; go_big_quiet_step (fail))
  refine wpQuiet_nil ?_
  refine NoPanic.normal ?_
  have B3 := Lib.hid (B1.out.trans (B13.out.mono B1.out.size))
  clear HL B12 B13 R1 R2 R3 SA B1
  obtain ⟨A5, c5, p1, p2, p3, p4, p5⟩ := slice_hn elU8 R4.out hEM.out hc4 N (by omega)
  rw [hEF.out] at p3
  have P3 := Lib.hid p3
  clear p3 p4
  have q1 := fun n : Nat => conv_n (w := w3.drewN n) (R3'.out.drewN n) hEN.out c3
  have q2 := fun n : Nat => conv_n (w := w3.drewN n) (P3.out.drewN n) hEN.out c5
  generalize expL S I (N : Int) = X at *
  go_wp2_with fail
  go_quiet (fail)
  have B4 := Lib.hid (below_drewN B3.out nq)
  clear q1 q2 p5 R4 R3' P3 hEN hEM hEF B3
  generalize w3.drewN nq = w4 at *
  have RI := Lib.hid ((HR.out.below B4.out (Nat.le_refl _)).mono B4.out.size)
  have RK := Lib.hid ((HR2.out.below B4.out (Nat.le_refl _)).mono B4.out.size)
  have O0 : Hid (Own w4.heap.size 5 .u8 (w4.alloc (.cells #[] 5)) (some ⟨w4.heap.size, 0, none⟩) 0 0 []) := Lib.hid (Own.litAt rfl rfl rfl (Nat.le_refl _) (Nat.zero_le _))
  have RK0 := Lib.hid (RK.out.alloc (Nat.le_refl _) (.cells #[] 5))
  by_cases h6 : 64 < K.length
  · have HMS := Lib.hid (macL_sum h6 I)
    go_wp2_with (first
      | (at_builtin; refine wpList_app (o := ⟨some 67, _, _, _, _, _⟩) elU8 rfl _ _ rfl rfl rfl O0.out RK0.out rfl ?_ ?_ ?_; (simp only [List.length_nil]; omega); (simp); intro A6 n6 c6 w5 q5; have H5 : Hid (Own w4.heap.size 5 .u8 w5 A6 n6 c6 K) := Lib.hid q5.1; have B5 := Lib.hid (((Below.refl w4.heap.size w4).alloc (Nat.le_refl _) _).trans q5.2.2.1); have O5 := Lib.hid (Own.alloc H5.out (.cells #[.int .u8 0] 5)); clear q5)
      | (at_builtin; refine wpList_app (o := ⟨some 69, _, _, _, _, _⟩) elU8 rfl _ _ rfl rfl rfl O5.out (Rd.newAt (xs := [0]) rfl rfl) rfl ?_ ?_ ?_; (simp only [List.length_cons, List.length_nil]; omega); (exact (B5.out.alloc B5.out.size _).size); intro A7 n7 c7 w6 q6; have H6 := Lib.hid q6.1; have B46 := Lib.hid ((B5.out.alloc B5.out.size _).trans q6.2.2.1); clear q6))
    have z46 := B46.out.size
    have RI6 := Lib.hid ((RI.out.below B46.out (Nat.le_refl _)).mono B46.out.size)
    have RK6 := Lib.hid ((RK.out.below B46.out (Nat.le_refl _)).mono B46.out.size)
    clear H5 B5 O5 H6 O0 RK0
    refine Calls.mono (sum_any _ _ [⟨A2, c2, K⟩] _ ?_ ?_ ?_ ?_) ?_
    · refine Txs.newAt (by simp) rfl ?_
      intro t ht
      rw [List.mem_singleton] at ht
      subst ht
      exact ⟨RK6.out, hcap2⟩
    · intro t ht
      rw [List.mem_singleton] at ht
      subst ht
      exact HBY2.out
    · rw [join_one]; omega
    · simp
    rintro e w7 ⟨rfl, hb7⟩
    rw [join_one]
    have hX : Hid ((shaL K).length = 32) := Lib.hid (shaL_len K)
    have hXB := Lib.hid (shaL_byt K)
    have B67 := Lib.hid (((Below.refl w6.heap.size w6).alloc (Nat.le_refl _) (.cells #[.slice A2 K.length c2] 28)).trans (hb7.mono (by simp)))
    clear hb7
    obtain ⟨X, hXX⟩ : ∃ X, shaL K = X := ⟨_, rfl⟩
    rw [hXX] at hX hXB HMS ⊢
    clear hXX
    go_wp2_with (with_reducible (show wpList _ _ _ (⟨none, .store 25 _ _, _, _, _, _⟩ :: _) _ _); refine wpList_storeArr (o := ⟨none, .store 25 _ _, _, _, _, _⟩) (g := w7.heap.size) (t := 25) (k := .u8) (xs := X) (n := 32) rfl _ _ rfl rfl rfl (Blk.new _ _ _) size32 hX.out.symm rfl ?_; intro w8 ha8 hg8; have A8 := Lib.hid ha8; have B68 := Lib.hid ((B67.out.alloc B67.out.size _).trans (below_of_only hg8 B67.out.size (by have := B67.out.size; simp; omega))); clear ha8 hg8)
    have RI8 := Lib.hid ((RI6.out.below B68.out (Nat.le_refl _)).mono B68.out.size)
    have RK8 := Lib.hid ((RK6.out.below B68.out (Nat.le_refl _)).mono B68.out.size)
    have B48 := Lib.hid (B46.out.trans (B68.out.mono B46.out.size))
    clear RI6 RK6 B67 B46 B68
    refine Calls.mono (mac_at A2 c2 K _ _ [⟨A, c, I⟩] _ rfl rfl ((RK8.out.alloc (Nat.le_refl _) _).mono (by simp)) HBY2.out hcap2 (by omega) ?_ ?_ (by rw [join_one]; omega) (by simp)) ?_
    · refine Txs.newAt (by simp) rfl ?_
      intro t ht
      rw [List.mem_singleton] at ht
      subst ht
      exact ⟨RI8.out, hcap⟩
    · intro t ht
      rw [List.mem_singleton] at ht
      subst ht
      exact HBY.out
    rintro e w9 ⟨rfl, hb9⟩
    rw [join_one]
    have HXL := Lib.hid (macL_len K I)
    have HXB := Lib.hid (macL_byt K I)
    have B89 := Lib.hid (((Below.refl w8.heap.size w8).alloc (Nat.le_refl _) (.cells #[.slice A I.length c] 28)).trans (hb9.mono (by simp)))
    have RI9 := Lib.hid ((RI8.out.below B89.out (Nat.le_refl _)).mono B89.out.size)
    have RX9 := Lib.hid ((A8.out.belowAll B89.out).rd)
    clear hb9
    go_wp2_with fail
    refine Calls.mono (mac_at _ _ X _ _ [⟨A, c, I⟩] _ hX.out rfl ((RX9.out.alloc (Nat.le_refl _) _).mono (by simp)) hXB.out (by rw [hX.out]; exact Nat.le_refl _) (by rw [hX.out]; decide) ?_ ?_ (by rw [join_one]; omega) (by simp)) ?_
    · refine Txs.newAt (by simp) rfl ?_
      intro t ht
      rw [List.mem_singleton] at ht
      subst ht
      exact ⟨RI9.out, hcap⟩
    · intro t ht
      rw [List.mem_singleton] at ht
      subst ht
      exact HBY.out
    rintro e w10 ⟨rfl, hb10⟩
    rw [join_one]
    rw [HMS.out]
    have BE := Lib.hid (((Below.refl w9.heap.size w9).alloc (Nat.le_refl _) (.cells #[.slice A I.length c] 28)).trans (hb10.mono (by simp)))
    have BF := Lib.hid (B89.out.trans (BE.out.mono B89.out.size))
    clear hb10
    obtain ⟨Y, hYY⟩ : ∃ Y, macL K I = Y := ⟨_, rfl⟩
    rw [hYY] at HXL HXB ⊢
    clear hYY
    have HE := eql_arr32 HXL.out HXB.out
    go_wp2_with fail
    go_ret
    exact ⟨rfl, (B4.out.trans (B48.out.mono B4.out.size)).trans (BF.out.mono (Nat.le_trans B4.out.size B48.out.size))⟩
  by_cases h7 : K.length = 64
  · have H7 := Lib.hid h7
    have h7a : (K.length : Int) ≤ 64 := by omega
    have h7b : ((K.length : Int) == 64) = true := by rw [beq_iff_eq]; omega
    clear h7 h6
    go_wp2_with (first
      | (at_builtin; refine wpList_app (o := ⟨some 67, _, _, _, _, _⟩) elU8 rfl _ _ rfl rfl rfl O0.out RK0.out rfl ?_ ?_ ?_; (simp only [List.length_nil]; omega); (simp); intro A6 n6 c6 w5 q5; have H5 : Hid (Own w4.heap.size 5 .u8 w5 A6 n6 c6 K) := Lib.hid q5.1; have B5 := Lib.hid (((Below.refl w4.heap.size w4).alloc (Nat.le_refl _) _).trans q5.2.2.1); have O5 := Lib.hid (Own.alloc H5.out (.cells #[.int .u8 0] 5)); clear q5)
      | (at_builtin; refine wpList_app (o := ⟨some 69, _, _, _, _, _⟩) elU8 rfl _ _ rfl rfl rfl O5.out (Rd.newAt (xs := [0]) rfl rfl) rfl ?_ ?_ ?_; (simp only [List.length_cons, List.length_nil]; omega); (exact (B5.out.alloc B5.out.size _).size); intro A7 n7 c7 w6 q6; have H6 := Lib.hid q6.1; have B46 := Lib.hid ((B5.out.alloc B5.out.size _).trans q6.2.2.1); clear q6))
    go_ret
    exact ⟨rfl, B4.out.trans (B46.out.mono B4.out.size)⟩
  · have h6' : K.length < 64 := by omega
    have h7b : ((K.length : Int) == 64) = false := by rw [beq_eq_false_iff_ne]; omega
    have HMS := Lib.hid (macL_nought h6' I)
    clear h7
    go_wp2_with (first
      | (at_builtin; refine wpList_app (o := ⟨some 67, _, _, _, _, _⟩) elU8 rfl _ _ rfl rfl rfl O0.out RK0.out rfl ?_ ?_ ?_; (simp only [List.length_nil]; omega); (simp); intro A6 n6 c6 w5 q5; have H5 : Hid (Own w4.heap.size 5 .u8 w5 A6 n6 c6 K) := Lib.hid q5.1; have B5 := Lib.hid (((Below.refl w4.heap.size w4).alloc (Nat.le_refl _) _).trans q5.2.2.1); have O5 := Lib.hid (Own.alloc H5.out (.cells #[.int .u8 0] 5)); clear q5)
      | (at_builtin; refine wpList_app (o := ⟨some 69, _, _, _, _, _⟩) elU8 rfl _ _ rfl rfl rfl O5.out (Rd.newAt (xs := [0]) rfl rfl) rfl ?_ ?_ ?_; (simp only [List.length_cons, List.length_nil]; omega); (exact (B5.out.alloc B5.out.size _).size); intro A7 n7 c7 w6 q6; have H6 := Lib.hid q6.1; have B46 := Lib.hid ((B5.out.alloc B5.out.size _).trans q6.2.2.1); clear q6))
    have z46 := B46.out.size
    have RI8 := Lib.hid ((RI.out.below B46.out (Nat.le_refl _)).mono B46.out.size)
    have RK8 := Lib.hid ((RK.out.below B46.out (Nat.le_refl _)).mono B46.out.size)
    have hXB : Hid (Byt (K ++ [0])) := Lib.hid (HBY2.out.append (Byt.cons (by omega) Byt.nil))
    have hXL : Hid ((K ++ [0]).length ≤ 64) := Lib.hid (by rw [List.length_append]; simp; omega)
    clear H5 B5 O5 O0 RK0
    obtain ⟨X, hXX⟩ : ∃ X, K ++ [0] = X := ⟨_, rfl⟩
    rw [hXX] at hXB hXL HMS H6
    clear hXX
    have hX := Lib.hid H6.out.len.symm
    have hXc := H6.out.cap
    have hX64 : n7 ≤ 64 := by have := hXL.out; have := hX.out; omega
    have B48 := B46
    obtain ⟨w8, rfl⟩ : ∃ w8 : World, w8 = w6 := ⟨_, rfl⟩
    clear h7b
    refine Calls.mono (mac_at A2 c2 K _ _ [⟨A, c, I⟩] _ rfl rfl ((RK8.out.alloc (Nat.le_refl _) _).mono (by simp)) HBY2.out hcap2 (by omega) ?_ ?_ (by rw [join_one]; omega) (by simp)) ?_
    · refine Txs.newAt (by simp) rfl ?_
      intro t ht
      rw [List.mem_singleton] at ht
      subst ht
      exact ⟨RI8.out, hcap⟩
    · intro t ht
      rw [List.mem_singleton] at ht
      subst ht
      exact HBY.out
    rintro e w9 ⟨rfl, hb9⟩
    rw [join_one]
    have HXL := Lib.hid (macL_len K I)
    have HXB := Lib.hid (macL_byt K I)
    have B89 := Lib.hid (((Below.refl w8.heap.size w8).alloc (Nat.le_refl _) (.cells #[.slice A I.length c] 28)).trans (hb9.mono (by simp)))
    have RI9 := Lib.hid ((RI8.out.below B89.out (Nat.le_refl _)).mono B89.out.size)
    have RX9 := Lib.hid ((H6.out.below B89.out).rd)
    clear hb9
    go_wp2_with fail
    refine Calls.mono (mac_at _ _ X _ _ [⟨A, c, I⟩] _ hX.out rfl ((RX9.out.alloc (Nat.le_refl _) _).mono (by simp)) hXB.out (by rw [hX.out]; exact hXc.1) (by rw [hX.out]; omega) ?_ ?_ (by rw [join_one]; omega) (by simp)) ?_
    · refine Txs.newAt (by simp) rfl ?_
      intro t ht
      rw [List.mem_singleton] at ht
      subst ht
      exact ⟨RI9.out, hcap⟩
    · intro t ht
      rw [List.mem_singleton] at ht
      subst ht
      exact HBY.out
    rintro e w10 ⟨rfl, hb10⟩
    rw [join_one]
    rw [HMS.out]
    have BE := Lib.hid (((Below.refl w9.heap.size w9).alloc (Nat.le_refl _) (.cells #[.slice A I.length c] 28)).trans (hb10.mono (by simp)))
    have BF := Lib.hid (B89.out.trans (BE.out.mono B89.out.size))
    clear hb10
    obtain ⟨Y, hYY⟩ : ∃ Y, macL K I = Y := ⟨_, rfl⟩
    rw [hYY] at HXL HXB ⊢
    clear hYY
    have HE := eql_arr32 HXL.out HXB.out
    go_wp2_with fail
    go_ret
    exact ⟨rfl, (B4.out.trans (B48.out.mono B4.out.size)).trans (BF.out.mono (Nat.le_trans B4.out.size B48.out.size))⟩
end Go.Proofs.Ytepkbllcaeceeaa
