/- Walk: the law RouteAgrees. Conditions: as each theorem states them. -/
import Derived.Test.YtlefnddhmpgijaaR6
import Derived.Test.YtlefnddhmpgijaaQB
namespace Go.Proofs.Ytlefnddhmpgijaa
open Go.RowKit
theorem empty_len {a b : List Int} (h : a.length = b.length) : a.isEmpty = b.isEmpty := by
  cases a with
  | nil => cases b with
    | nil => rfl
    | cons y r => simp at h
  | cons x r => cases b with
    | nil => simp at h
    | cons y r => rfl
set_option maxRecDepth 100000 in
set_option maxHeartbeats 4000000 in
theorem agrees_bad (A0 A1 : Option Addr) (c0 c1 : Nat) (x0 x1 : List Int) (w : World) (g0 : x0.length ≤ 140737488351232) (g1 : x1.length ≤ 140737488351232) (hbad : 200 < x0.length ∨ 400 < x1.length) :
    Calls Try.prog 4 #[.slice A0 x0.length c0, .slice A1 x1.length c1] w fun e w' => e = .returned (.bool true) ∧ Below w.heap.size w w' := by
  by_cases b0 : 200 < x0.length
  · go_enter Try.func4, Try.ntmps4
    go_wp2_with (go_at_call 8; refine (known29_any _).mono ?_; rintro e w1 ⟨rfl, hb1⟩)
    go_ret
    exact ⟨rfl, hb1⟩
  · have b1 : 400 < x1.length := by omega
    go_enter Try.func4, Try.ntmps4
    go_wp2_with (go_at_call 8; refine (known29_any _).mono ?_; rintro e w1 ⟨rfl, hb1⟩)
    go_ret
    exact ⟨rfl, hb1⟩
set_option maxRecDepth 100000 in
set_option maxHeartbeats 8000000 in
theorem agrees_good (A0 A1 : Option Addr) (c0 c1 : Nat) (x0 x1 : List Int) (w : World) (s0 : Rd w.heap.size .u64 w A0 x0) (s1 : Rd w.heap.size .u16 w A1 x1)
    (f0 : ∀ x ∈ x0, 0 ≤ x ∧ x < 18446744073709551616) (f1 : ∀ x ∈ x1, 0 ≤ x ∧ x < 65536) (b0 : x0.length ≤ 200) (b1 : x1.length ≤ 400) :
    Calls Try.prog 4 #[.slice A0 x0.length c0, .slice A1 x1.length c1] w fun e w' => e = .returned (.bool true) ∧ Below w.heap.size w w' := by
  have S0 := Lib.hid s0
  have S1 := Lib.hid s1
  have F0 := Lib.hid f0
  have F1 := Lib.hid f1
  clear s0 s1 f0 f1
  go_enter Try.func4, Try.ntmps4
  go_wp2_with fail
  refine (known29_any _).mono ?_
  rintro e w1 ⟨rfl, hb1⟩
  have B1 := Lib.hid hb1
  have hz1 := hb1.size
  clear hb1
  go_wp2_with fail
  refine (rnew_any _).mono ?_
  rintro e w2 ⟨rfl, ha2, hb2, hs2⟩
  obtain ⟨ga, hga⟩ : ∃ ga, w1.heap.size = ga := ⟨_, rfl⟩
  rw [hga] at ha2 hb2 hs2 hz1 ⊢
  have RA2 := Lib.hid (rtl_nil ha2)
  have B2 := Lib.hid (B1.out.trans (hb2.mono hz1))
  clear hga ha2 hb2
  go_wp2_with fail
  refine (rnew_any _).mono ?_
  rintro e w3 ⟨rfl, ha3, hb3, hs3⟩
  rw [hs2] at ha3 hb3 hs3 ⊢
  have RB3 := Lib.hid (rtl_nil ha3)
  have RA3 : Hid (RtL ga [] w3) := Lib.hid (RtSt.below RA2.out hb3 (by omega))
  have B3 := Lib.hid (B2.out.trans (hb3.mono (by omega)))
  have hz3 : w.heap.size ≤ w3.heap.size := by omega
  clear ha3 hb3 RA2 B2 B1
  have R03 := Lib.hid (S0.out.below B3.out (Nat.le_refl _))
  go_wp2_with (at_builtin; refine wpList_app (o := ⟨some 39, _, _, _, _, _⟩) (B := ga + 2) elU64 rfl _ _ rfl rfl rfl (Own.litAt (xs := []) hs3 rfl rfl (by omega) (by simp)) (R03.out.alloc hz3 _) rfl ?_ ?_ ?_; (simp only [List.length_nil]; omega); (simp; omega); intro A9 n9 c9 w4 h4; have H4 := Lib.hid h4.1; have B4' := Lib.hid (((Below.refl (ga + 2) w3).alloc (by omega) _).trans h4.2.2.1); clear h4)
  rw [List.nil_append] at H4
  have hn9 := H4.out.len
  subst hn9
  have hs4 := B4'.out.size
  have RA4 : Hid (RtL ga [] w4) := Lib.hid (RtSt.below RA3.out B4'.out (by omega))
  have RB4 : Hid (RtL (ga + 1) [] w4) := Lib.hid (RtSt.below RB3.out B4'.out (by omega))
  have B4 := Lib.hid (B3.out.trans (B4'.out.mono (by omega)))
  clear RA3 RB3 B3 B4' R03
  have hs4' : ga + 2 ≤ w4.heap.size := by omega
  clear hs2 hs3 hs4 hz3
  go_loopw [8, 42] (fun top i wr => ∃ k : Nat, k ≤ x0.length ∧ i = .int .i64 k ∧ top = .int .u64 (mx (x0.take k)) ∧ Hid (RtL ga (x0.take k) wr) ∧ Hid (RtL (ga + 1) [] wr) ∧ Hid (Own (ga + 2) 24 .u64 wr A9 x0.length c9 x0) ∧ Hid (Below w.heap.size w wr) ∧ ga + 2 ≤ wr.heap.size) (fun _ i _ => x0.length - (intOf i).toNat)
  case atStart => exact ⟨0, by omega, rfl, rfl, RA4, RB4, H4, B4, hs4'⟩
  case round =>
    obtain ⟨k, hk, rfl, rfl, HA, HB, HO, HBL, hzw⟩ := hrel
    by_cases hlt : k < x0.length
    · obtain ⟨ad, x, rfl, hb, hc, HX⟩ := (S0.out.below HBL.out (Nat.le_refl _)).hx hlt
      have hxb : 0 ≤ x ∧ x < 18446744073709551616 := F0.out x (by rw [← HX.out, List.getD_eq_getElem?_getD, List.getElem?_eq_getElem hlt]; exact List.getElem_mem hlt)
      obtain ⟨hx0, hx1⟩ := hxb
      have HT : Hid (x0.take (k + 1) = x0.take k ++ [x]) := Lib.hid (by rw [List.take_succ_eq_append_getElem hlt, ← HX.out, List.getD_eq_getElem?_getD, List.getElem?_eq_getElem hlt]; rfl)
      have HM : Hid (mx (x0.take (k + 1)) = max (mx (x0.take k)) x) := Lib.hid (by rw [HT.out, mx_snoc])
      have HL := Lib.hid (learn_step ga (x0.take k) x wr HA.out hx0)
      rw [← HT.out] at HL
      generalize mx (x0.take k) = m at *
      go_wp2_with (first | (go_at_call 20; refine (own1_any x _ hx0 hx1).mono ?_; rintro e w' ⟨rfl, rfl⟩) | (go_at_call 10; refine HL.out.mono ?_; rintro e w5 ⟨⟨bb, rfl⟩, ha5, hg5⟩; have HA5 := Lib.hid ha5; have HB5 : Hid (RtL (ga + 1) [] w5) := Lib.hid (Blk.grown HB.out hg5 (by simp)); have HO5 := Lib.hid (HO.out.kept hg5 (fun ad hA e => by have h1 := (HO.out.block ad hA).1; injection e with e; omega)); have HBL5 := Lib.hid (HBL.out.grown hg5 HBL.out.size (fun g e => by injection e with e; omega)); have hzw5 := hg5.size; clear ha5 hg5))
      go_roundw
      case rel => exact ⟨k + 1, by omega, by go_num, by rw [HM.out, Int.max_def]; congr 1; split <;> split <;> omega, HA5, HB5, HO5, HBL5, by omega⟩
      case measure => simp [intOf]; omega
    · have hk2 : x0.take k = x0 := List.take_of_length_le (by omega)
      rw [hk2] at HA ⊢
      clear RA4 RB4 H4 B4 hs4' hk2
      have M0 : Hid (0 ≤ mx x0) := Lib.hid (mx_nonneg _)
      have M1 : Hid (mx x0 < 18446744073709551616) := Lib.hid (mx_lt (fun x hx => (F0.out x hx).2))
      have MS : Hid (∀ zs : List Int, (∀ n, n ∈ zs ↔ n ∈ x0) → mx zs = mx x0) := Lib.hid (fun zs h => mx_same h)
      generalize hm : mx x0 = m at *
      have HMX := Lib.hid hm
      clear hm
      have hL0 := b0
      generalize hLL : x0.length = L at *
      have HLL := Lib.hid hLL
      clear hLL
      go_wp2_with fail
      go_loopw [58] (fun i wr => ∃ (k : Nat) (zs : List Int), k ≤ x1.length ∧ i = .int .i64 k ∧ Hid (zs.length = L) ∧ Hid (∀ n, n ∈ zs ↔ n ∈ x0) ∧ Hid (RtL ga x0 wr) ∧ Hid (RtL (ga + 1) [] wr) ∧ Hid (Own (ga + 2) 24 .u64 wr A9 L c9 zs) ∧ Hid (Below w.heap.size w wr) ∧ ga + 2 ≤ wr.heap.size) (fun i _ => x1.length - (intOf i).toNat)
      case atStart => exact ⟨0, x0, by omega, rfl, HLL, Lib.hid (fun _ => Iff.rfl), HA, HB, HO, HBL, hzw⟩
      case round =>
        clear HA HB HO HBL hzw
        obtain ⟨k, zs, hk, rfl, HZ, HP, HA, HB, HO, HBL, hzw⟩ := hrel
        by_cases hlt : k < x1.length
        · obtain ⟨ad, u, rfl, hb, hc, HX⟩ := (S1.out.below HBL.out (Nat.le_refl _)).hx hlt
          have hub : 0 ≤ u ∧ u < 65536 := F1.out u (by rw [← HX.out, List.getD_eq_getElem?_getD, List.getElem?_eq_getElem hlt]; exact List.getElem_mem hlt)
          obtain ⟨hu0, hu1⟩ := hub
          rcases Nat.eq_zero_or_pos L with hL | hL
          · subst hL
            go_wp2_with fail
            go_roundw
            case rel => exact ⟨k + 1, zs, by omega, by go_num, HZ, HP, HA, HB, HO, HBL, hzw⟩
            case measure => simp [intOf]; omega
          · have hLi : ¬ ((L : Int) = 0) := by omega
            go_wp2_with fail
            go_quiet (fail)
            have hX : ((k : Int) % (L : Int)) = ((k % L : Nat) : Int) := by omega
            have hXL : k % L < L := Nat.mod_lt _ hL
            obtain ⟨un, rfl⟩ := Int.eq_ofNat_of_zero_le hu0
            have hY : ((un : Int) % (L : Int)) = ((un % L : Nat) : Int) := by omega
            have hYL : un % L < L := Nat.mod_lt _ hL
            rw [hX, hY]
            generalize k % L = X at *
            generalize un % L = Y at *
            clear hX hY
            obtain ⟨g9, rfl⟩ : ∃ g, A9 = some ⟨g, 0, none⟩ := by
              rcases HO.out.1.2 with ⟨h1, h2⟩ | ⟨g, _, _, h1, _⟩
              · omega
              · injection h1 with h1; exact ⟨g, h1⟩
            have HA2 : Hid (RtL ga x0 (wr.drewN nq)) := HA
            have HB2 : Hid (RtL (ga + 1) [] (wr.drewN nq)) := HB
            have HO2 : Hid (Own (ga + 2) 24 .u64 (wr.drewN nq) (some ⟨g9, 0, none⟩) L c9 zs) := Lib.hid (HO.out.kept (only_drewN (World.grownBy.refl _ none) nq) (fun _ _ h => by cases h))
            have HBL2 : Hid (Below w.heap.size w (wr.drewN nq)) := Lib.hid (below_drewN HBL.out nq)
            have hzw2 : ga + 2 ≤ (wr.drewN nq).heap.size := hzw
            clear HA HB HO HBL hzw hb hc
            generalize wr.drewN nq = wq at *
            have q1 : wq.cell? ⟨g9, X, none⟩ = some (.int .u64 (zs.getD X 0)) := HO2.out.cell0 (by have := HZ.out; omega)
            have q2 : wq.cell? ⟨g9, Y, none⟩ = some (.int .u64 (zs.getD Y 0)) := HO2.out.cell0 (by have := HZ.out; omega)
            have HSW := Lib.hid (fun h1 h2 => swp_mem (zs := zs) (x := X) (y := Y) h1 h2)
            clear q1 q2
            go_wp2_with fail
            refine wp_region_sig (fun _ => True) (.two [0, 1, 2, 3, 4, 5, 6, 8, 9, 10] 7 (.one [] 11 (.one [12] 13 (.one [14] 15 (.fin [])))) 11 (.one [] 7 (.one [12] 13 (.one [14] 15 (.fin []))))) (by kernel_rfl) (by kernel_rfl) (by kernel_rfl) (by kernel_rfl) trivial ?_
            have hne : Nonempty (CW (fun _ => True)) := CW.inh (w := wq) trivial
            have HA3 : Hid (RtL ga x0 wq.drew) := HA2
            have HB3 : Hid (RtL (ga + 1) [] wq.drew) := HB2
            have HO3 : Hid (Own (ga + 2) 24 .u64 wq.drew (some ⟨g9, 0, none⟩) L c9 zs) := Lib.hid (HO2.out.kept (only_drew (World.grownBy.refl _ none)) (fun _ _ h => by cases h))
            have HBL3 : Hid (Below w.heap.size w wq.drew) := Lib.hid (HBL2.out.drew)
            have hzw3 : ga + 2 ≤ wq.drew.heap.size := hzw2
            clear HA2 HB2 HO2 HBL2 hzw2
            generalize wq.drew = wd at *
            have q1 : wd.cell? ⟨g9, X, none⟩ = some (.int .u64 (zs.getD X 0)) := HO3.out.cell0 (by have := HZ.out; omega)
            have q2 : wd.cell? ⟨g9, Y, none⟩ = some (.int .u64 (zs.getD Y 0)) := HO3.out.cell0 (by have := HZ.out; omega)
            have y1 : wd.frozen? ⟨g9, X, none⟩ = false := HO3.out.frozen X
            have HO4 := Lib.hid (HO3.out.set_ X (zs.getD Y 0))
            have q3 := HO4.out.cell0 (i := Y) (by have := HZ.out; rw [List.length_set]; omega)
            have y3 := HO4.out.frozen Y
            have HO5 : Hid (Own (ga + 2) 24 .u64 ((wd.setCell ⟨g9, X, none⟩ (.int .u64 (zs.getD Y 0))).setCell ⟨g9, Y, none⟩ (.int .u64 (zs.getD X 0))) (some ⟨g9, 0, none⟩) L c9 (swp zs X Y)) := Lib.hid (HO4.out.set_ Y (zs.getD X 0))
            have hg9 := (HO3.out.block _ rfl).1
            have HZ2 : Hid ((swp zs X Y).length = L) := Lib.hid (by rw [swp_len]; exact HZ.out)
            have HP2 : Hid (∀ n, n ∈ swp zs X Y ↔ n ∈ x0) := Lib.hid (fun n => (HSW.out (by have := HZ.out; omega) (by have := HZ.out; omega) n).trans (HP.out n))
            generalize (zs.set X (zs.getD Y 0)).getD Y 0 = vz at *
            generalize zs.getD X 0 = vx at *
            generalize zs.getD Y 0 = vy at *
            refine mixT_two ?_
            simp only [pickL, List.filterMap_cons, List.filterMap_nil, List.getElem?_cons_succ, List.getElem?_cons_zero]
            repeat (show wpQuiet _ _ _ _ (_ :: _) _; go_big_quiet_step (fail))
            refine wpQuiet_nil ?_
            refine ⟨?_, ?_⟩
            all_goals
              show wpList _ _ _ [_] _ _
              go_wp2_with fail
              refine MixQ.class trivial ?_
              refine mixT_one ?_
              simp only [pickL, List.filterMap_cons, List.filterMap_nil, List.getElem?_cons_succ, List.getElem?_cons_zero]
              refine wpQuiet_nil ?_
              show wpList _ _ _ [_] _ _
              go_wp2_with fail
              refine MixQ.class trivial ?_
              refine mixT_one ?_
              simp only [pickL, List.filterMap_cons, List.filterMap_nil, List.getElem?_cons_succ, List.getElem?_cons_zero]
              repeat (show wpQuiet _ _ _ _ (_ :: _) _; go_big_quiet_step (fail))
              refine wpQuiet_nil ?_
              show wpList _ _ _ [_] _ _
              go_wp2_with fail
              refine MixQ.class trivial ?_
              refine mixT_one ?_
              simp only [pickL, List.filterMap_cons, List.filterMap_nil, List.getElem?_cons_succ, List.getElem?_cons_zero]
              repeat (show wpQuiet _ _ _ _ (_ :: _) _; go_big_quiet_step (fail))
              refine wpQuiet_nil ?_
              show wpList _ _ _ [_] _ _
              go_wp2_with fail
              refine MixQ.class trivial ?_
              refine mixT_fin ?_
              simp only [pickL, List.filterMap_nil]
              refine wpQuiet_nil ?_
              refine NoPanic.normal ?_
              go_wp2_with fail
              go_roundw
              case rel => exact ⟨k + 1, swp zs X Y, by omega, by go_num, HZ2, HP2, Lib.hid (Blk.far (Blk.far HA3.out (by show ga ≠ g9; omega) _) (by show ga ≠ g9; omega) _), Lib.hid (Blk.far (Blk.far HB3.out (by show ga + 1 ≠ g9; omega) _) (by show ga + 1 ≠ g9; omega) _), HO5, Lib.hid ((HBL3.out.setCell (by show w.heap.size ≤ g9; omega) _).setCell (by show w.heap.size ≤ g9; omega) _), by simp; omega⟩
              case measure => simp [intOf]; omega
        · have HMZ : Hid (mx zs = m) := Lib.hid (MS.out zs HP.out)
          have HOW : Hid (own_ zs = own_ x0) := Lib.hid (by
            unfold own_
            rw [HMZ.out, HMX.out]
            rw [empty_len (HZ.out.trans HLL.out.symm)])
          have HEZ : Hid ((!zs.isEmpty) = !x0.isEmpty) := Lib.hid (by rw [empty_len (HZ.out.trans HLL.out.symm)])
          have FZ : Hid (∀ x ∈ zs, 0 ≤ x ∧ x < 18446744073709551616) := Lib.hid (fun x hx => F0.out x ((HP.out x).1 hx))
          go_wp2_with fail
          go_loopw [92] (fun i wr => ∃ k : Nat, k ≤ L ∧ i = .int .i64 k ∧ Hid (RtL ga x0 wr) ∧ Hid (RtL (ga + 1) (zs.take k) wr) ∧ Hid (Own (ga + 2) 24 .u64 wr A9 L c9 zs) ∧ Hid (Below w.heap.size w wr) ∧ ga + 2 ≤ wr.heap.size) (fun i _ => L - (intOf i).toNat)
          case atStart => exact ⟨0, by omega, rfl, HA, HB, HO, HBL, hzw⟩
          case round =>
            clear HA HB HO HBL hzw
            obtain ⟨k, hk, rfl, HA, HB, HO, HBL, hzw⟩ := hrel
            by_cases hlt : k < L
            · have hkz : k < zs.length := by have := HZ.out; omega
              obtain ⟨ad, x, rfl, hb, hc, HX⟩ := HO.out.rd.hx hkz
              have hxb : 0 ≤ x ∧ x < 18446744073709551616 := FZ.out x (by rw [← HX.out, List.getD_eq_getElem?_getD, List.getElem?_eq_getElem hkz]; exact List.getElem_mem hkz)
              obtain ⟨hx0, hx1⟩ := hxb
              have HT : Hid (zs.take (k + 1) = zs.take k ++ [x]) := Lib.hid (by rw [List.take_succ_eq_append_getElem hkz, ← HX.out, List.getD_eq_getElem?_getD, List.getElem?_eq_getElem hkz]; rfl)
              have HL := Lib.hid (learn_step (ga + 1) (zs.take k) x wr HB.out hx0)
              rw [← HT.out] at HL
              go_wp2_with (first | (go_at_call 20; refine (own1_any x _ hx0 hx1).mono ?_; rintro e w' ⟨rfl, rfl⟩) | (go_at_call 10; refine HL.out.mono ?_; rintro e w5 ⟨⟨bb, rfl⟩, ha5, hg5⟩; have HB5 := Lib.hid ha5; have HA5 : Hid (RtL ga x0 w5) := Lib.hid (Blk.grown HA.out hg5 (by simp)); have HO5 := Lib.hid (HO.out.kept hg5 (fun ad hA e => by have h1 := (HO.out.block ad hA).1; injection e with e; omega)); have HBL5 := Lib.hid (HBL.out.grown hg5 HBL.out.size (fun g e => by injection e with e; omega)); have hzw5 := hg5.size; clear ha5 hg5))
              go_roundw
              case rel => exact ⟨k + 1, by omega, by go_num, HA5, HB5, HO5, HBL5, by omega⟩
              case measure => simp [intOf]; omega
            · have hk2 : zs.take k = zs := List.take_of_length_le (by have := HZ.out; omega)
              rw [hk2] at HB
              have HA2 : Hid (RtSt ga (!x0.isEmpty) m (own_ x0) wr) := Lib.hid (by have h := HA.out; unfold RtL at h; rw [HMX.out] at h; exact h)
              have HB2 : Hid (RtSt (ga + 1) (!x0.isEmpty) m (own_ x0) wr) := Lib.hid (by have h := HB.out; unfold RtL at h; rw [HMZ.out, HOW.out, HEZ.out] at h; exact h)
              clear HA HB hk2 HOW HEZ HMZ FZ HO
              rcases Nat.eq_zero_or_pos L with hL | hL
              · have hx0 : x0 = [] := List.length_eq_zero_iff.1 (HLL.out.trans hL)
                have he : x0.isEmpty = true := by rw [hx0]; rfl
                have ho : own_ x0 = 0 := by rw [hx0]; rfl
                rw [he, ho] at HA2 HB2
                clear hx0 he ho
                subst hL
                go_wp2_with fail
                refine (owner_some ga _ _ _ _ HA2.out).mono ?_
                rintro e w' ⟨rfl, rfl⟩
                go_wp2_with fail
                refine (owner_some (ga + 1) _ _ _ _ HB2.out).mono ?_
                rintro e w' ⟨rfl, rfl⟩
                go_wp2_with fail
                refine (epoch_some ga _ _ _ _ HA2.out).mono ?_
                rintro e w' ⟨rfl, rfl⟩
                go_wp2_with fail
                refine (epoch_some (ga + 1) _ _ _ _ HB2.out).mono ?_
                rintro e w' ⟨rfl, rfl⟩
                go_wp2_with fail
                refine (epoch_some ga _ _ _ _ HA2.out).mono ?_
                rintro e w' ⟨rfl, rfl⟩
                go_wp2_with fail
                refine (owner_some ga _ _ _ _ HA2.out).mono ?_
                rintro e w' ⟨rfl, rfl⟩
                go_wp2_with fail
                go_ret
                exact ⟨rfl, HBL.out⟩
              · have he : x0.isEmpty = false := by
                  have h1 := HLL.out
                  cases x0 with
                  | nil => simp at h1; omega
                  | cons y r => rfl
                have ho : own_ x0 = ow m := by unfold own_; rw [he, HMX.out]; rfl
                have hLi : ((L : Int) == 0) = false := by rw [beq_eq_false_iff_ne]; omega
                have hLn : ¬ ((L : Int) = 0) := by omega
                rw [he, ho] at HA2 HB2
                clear he ho
                have OC := ow_cases m
                have hoe : Hid (ow m = ow m) := Lib.hid rfl
                have HO1 := Lib.hid (fun w => own1_any m w M0.out M1.out)
                generalize ho : ow m = o at *
                clear hoe ho
                have hm0 := M0.out
                have hm1 := M1.out
                go_wp2_with fail
                refine (owner_some ga _ _ _ _ HA2.out).mono ?_
                rintro e w' ⟨rfl, rfl⟩
                go_wp2_with fail
                refine (owner_some (ga + 1) _ _ _ _ HB2.out).mono ?_
                rintro e w' ⟨rfl, rfl⟩
                go_wp2_with fail
                refine (epoch_some ga _ _ _ _ HA2.out).mono ?_
                rintro e w' ⟨rfl, rfl⟩
                go_wp2_with fail
                refine (epoch_some (ga + 1) _ _ _ _ HB2.out).mono ?_
                rintro e w' ⟨rfl, rfl⟩
                go_wp2_with fail
                refine (epoch_some ga _ _ _ _ HA2.out).mono ?_
                rintro e w' ⟨rfl, rfl⟩
                go_wp2_with fail
                refine (short_any _).mono ?_
                rintro e w11 ⟨A11, c11, rfl, k11, r11, hb11⟩
                have hgw : ga < wr.heap.size := by omega
                have S11 : Hid (RtSt ga true m o w11) := Lib.hid (RtSt.below HA2.out hb11 hgw)
                have B11 := Lib.hid (HBL.out.trans (hb11.mono HBL.out.size))
                have z11 : w.heap.size ≤ w11.heap.size ∧ ga < w11.heap.size := by have := HBL.out.size; have := hb11.size; omega
                clear hb11 HA2 HB2 HBL hgw
                have hp : procB o = true := by rcases OC with rfl | rfl <;> rfl
                go_wp2_with fail
                refine (to_sh ga true m o A11 c11 w11 S11.out r11 k11 true (by rw [hp]; rfl)).mono ?_
                rintro e w12 ⟨rfl, hb12⟩
                unfold toV
                simp only [if_true]
                have S12 := Lib.hid (RtSt.below S11.out hb12 z11.2)
                have B12 := Lib.hid (B11.out.trans (hb12.mono z11.1))
                have z12 : w.heap.size ≤ w12.heap.size ∧ ga < w12.heap.size := by have := hb12.size; omega
                clear hb12 S11 B11 r11 k11 z11
                have HKEY : Hid (∀ j : Nat, j < 4 → (true && (procB (j : Int) && ((j : Int) != o))) = ((j : Int) == 3 - o)) := Lib.hid (fun j hj => by
                  rcases OC with rfl | rfl <;> rcases (show j = 0 ∨ j = 1 ∨ j = 2 ∨ j = 3 by omega) with rfl | rfl | rfl | rfl <;> rfl)
                obtain ⟨o0, o1⟩ : 1 ≤ o ∧ o ≤ 2 := by omega
                clear OC
                go_wp2_with fail
                go_loopw [133] (fun i wr => ∃ j : Nat, j ≤ 4 ∧ i = .int .u8 j ∧ Hid (RtSt ga true m o wr) ∧ Hid (Below w.heap.size w wr) ∧ w.heap.size ≤ wr.heap.size ∧ ga < wr.heap.size) (fun i _ => 4 - (intOf i).toNat)
                case atStart => exact ⟨0, by omega, rfl, S12, B12, z12.1, z12.2⟩
                case round =>
                  clear S12 B12 z12
                  obtain ⟨j, hj, rfl, HS, HB, hz1, hz2⟩ := hrel
                  by_cases hlt : j < 4
                  · go_wp2_with fail
                    refine (short_any _).mono ?_
                    rintro e w13 ⟨A13, c13, rfl, k13, r13, hb13⟩
                    have S13 := Lib.hid (RtSt.below HS.out hb13 hz2)
                    have B13 := Lib.hid (HB.out.trans (hb13.mono hz1))
                    have z13 : w.heap.size ≤ w13.heap.size ∧ ga < w13.heap.size := by have := hb13.size; omega
                    clear hb13 HS HB
                    rcases hx : ((j : Int) == 3 - o) with _ | _
                    all_goals
                      have HX := Lib.hid ((HKEY.out j hlt).trans hx)
                      go_wp2_with fail
                      refine (fwd_sh ga true m o j A13 c13 w13 S13.out r13 k13 _ HX.out).mono ?_
                      rintro e w14 ⟨rfl, hb14⟩
                      unfold toV
                      have S14 := Lib.hid (RtSt.below S13.out hb14 z13.2)
                      have B14 := Lib.hid (B13.out.trans (hb14.mono z13.1))
                      have z14 : w.heap.size ≤ w14.heap.size ∧ ga < w14.heap.size := by have := hb14.size; omega
                      clear hb14
                      go_wp2_with fail
                      go_roundw
                      case rel => exact ⟨j + 1, by omega, by go_num, S14, B14, z14.1, z14.2⟩
                      case measure => simp [intOf]; omega
                  · go_wp2_with fail
                    refine (short_any _).mono ?_
                    rintro e w13 ⟨A13, c13, rfl, k13, r13, hb13⟩
                    have S13 := Lib.hid (RtSt.below HS.out hb13 hz2)
                    have B13 := Lib.hid (HB.out.trans (hb13.mono hz1))
                    have z13 : w.heap.size ≤ w13.heap.size ∧ ga < w13.heap.size := by have := hb13.size; omega
                    clear hb13 HS HB
                    go_wp2_with fail
                    refine (fwd_sh ga true m o o A13 c13 w13 S13.out r13 k13 false (by simp)).mono ?_
                    rintro e w14 ⟨rfl, hb14⟩
                    unfold toV
                    simp only [Bool.false_eq_true, if_false]
                    have B14 := Lib.hid (B13.out.trans (hb14.mono z13.1))
                    clear hb14
                    go_wp2_with (go_at_call 20; refine (HO1.out _).mono ?_; rintro e w' ⟨rfl, rfl⟩)
                    go_ret
                    exact ⟨rfl, B14.out⟩
theorem agrees_walk (A0 A1 : Option Addr) (c0 c1 : Nat) (x0 x1 : List Int) (w : World) (s0 : Rd w.heap.size .u64 w A0 x0) (s1 : Rd w.heap.size .u16 w A1 x1)
    (f0 : ∀ x ∈ x0, 0 ≤ x ∧ x < 18446744073709551616) (f1 : ∀ x ∈ x1, 0 ≤ x ∧ x < 65536) (g0 : x0.length ≤ 140737488351232) (g1 : x1.length ≤ 140737488351232) :
    Calls Try.prog 4 #[.slice A0 x0.length c0, .slice A1 x1.length c1] w fun e w' => e = .returned (.bool true) ∧ Below w.heap.size w w' := by
  by_cases hbad : 200 < x0.length ∨ 400 < x1.length
  · exact agrees_bad A0 A1 c0 c1 x0 x1 w g0 g1 hbad
  · exact agrees_good A0 A1 c0 c1 x0 x1 w s0 s1 f0 f1 (by omega) (by omega)
end Go.Proofs.Ytlefnddhmpgijaa
