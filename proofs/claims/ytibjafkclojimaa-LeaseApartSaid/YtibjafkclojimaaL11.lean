/- Layer 27: walk of the law LeaseApart. Conditions: as each theorem states them. -/
import Derived.Test.YtibjafkclojimaaL10
import Derived.Test.YtibjafkclojimaaQB
namespace Go.Proofs.Ytibjafkclojimaa
open Go.RowKit
theorem oneP (b : Nat) : ∀ u ∈ [ptrV b], u.oneCell' = true := fun u hu => by
  simp at hu
  subst hu
  rfl
theorem set_same (ls : List LS) (i : Nat) (h : i < ls.length) : ls.set i (ls.getD i LS.zero) = ls := by
  rw [List.getD_eq_getElem?_getD, List.getElem?_eq_getElem h]
  exact List.set_getElem_self h
theorem LawH.other {B g bm b : Nat} {w w' : World} {v : Value} {s : SS} {gs : List Nat} {ls : List LS} {acc : List Int} {t : TypeId} {cs : Array Value} (h : LawH B g bm w v s gs ls acc) (hk : Blk w b t cs) (h1 : t ≠ 53) (h2 : t ≠ 59) (h3 : t ≠ 37) (h4 : t ≠ 5) (hg : w.grownBy w' (some b)) : LawH B g bm w' v s gs ls acc := by
  obtain ⟨cs2, hk2⟩ := h.st.blk
  exact ⟨h.st.grown hg (Blk.ne_ hk hk2 h1) (hk.notT h4), row_kept h.row hg (hk.notT h3), h.len, fun i hi => Blk.grown (h.leas i hi) hg (by intro q; injection q with q; exact Blk.ne_ hk (h.leas i hi) h2 q.symm), h.dist, h.lo, h.glo, h.mlo, Nat.le_trans h.hi hg.size, h.mp.kept hg (by intro q; injection q with q; exact h.mp.ne hk q)⟩
/-- what the region reads that writes a cell's owner and epoch -/
def RD (gx gc : Nat) (cs : Array Value) (w : World) : Prop := Blk w gx 35 cs ∧ w.cell? ⟨gc, 3, none⟩ = some (.int .u64 0)
theorem inv_nil {base : Int} {s : SS} (hc : COk s.ep s.ow s.nx) (b0 : 0 ≤ base) (hb : base ≤ s.nx) : Inv base [] s [] :=
  ⟨hc, b0, hb, fun i hi => absurd hi (Nat.not_lt_zero i), fun x hx => (by cases hx), fun i hi => absurd hi (Nat.not_lt_zero i), fun i _ hi => absurd hi (Nat.not_lt_zero i)⟩
theorem lawH_nil {B g : Nat} {w : World} {s : SS} (hs : StH g w s) (hg : B ≤ g) (hB : B ≤ w.heap.size) : LawH B g w.heap.size (w.alloc (.map #[] 0)) (.slice none 0 0) s [] [] [] :=
  ⟨hs.below ((Below.refl _ _).alloc (Nat.le_refl _) _), World.ownsRow_nil _ _ _ _, rfl, fun i hi => absurd hi (Nat.not_lt_zero i), fun i _ hi => absurd hi (Nat.not_lt_zero i), fun i hi => absurd hi (Nat.not_lt_zero i), hg, hB, Nat.le_trans hB ((Below.refl w.heap.size w).alloc (Nat.le_refl _) _).size, World.ownsMap_made _ _ _ _⟩
attribute [local irreducible] CL.rcd CL.size takeL newN wrS LastI CL.May lc StH renP wrP takP runP setL
set_option maxRecDepth 100000 in
set_option maxHeartbeats 16000000 in
theorem apart_walk (a0 : Int) (A : Option Addr) (cap : Nat) (ds : List DoL) (n : Nat) (w : World) (ha : 0 ≤ a0) (hn : ds.length = n) (hn2 : n ≤ 9223372036854775807) (hD : DoLs w A ds) :
    Calls Try.prog 3 #[.int .u64 a0, .slice A n cap] w fun e w' => e = .returned (.bool true) ∧ Below w.heap.size w w' := by
  have HN := Lib.hid hn
  have HD := Lib.hid hD
  have hmm := @run_makeMap Try.prog
  obtain ⟨i0, hi, hz0, hz1, hz2⟩ := info_parts infoP
  have HI0 := Lib.hid hi
  have HZ0 := Lib.hid hz0
  have HZ1 := Lib.hid hz1
  have HZ2 := Lib.hid hz2
  clear hn hD hi hz0 hz1 hz2
  go_enter Try.func3, Try.ntmps3
  go_wp2_with fail
  refine Calls.mono (known27 _) ?_
  rintro e w1 ⟨rfl, b1⟩
  have B1 := Lib.hid b1
  clear b1
  by_cases q1 : 200 < n
  · have q2 : (200 : Int) < (n : Int) := by omega
    go_wp2_with fail
    go_ret
    exact ⟨rfl, B1.out⟩
  have q2 : decide ((200 : Int) < (n : Int)) = false := decide_eq_false (by omega)
  have hn3 : n ≤ 200 := by omega
  clear q1 hn2
  by_cases q3 : 4611686018427387904 < a0
  · go_wp2_with fail
    go_ret
    exact ⟨rfl, B1.out⟩
  have q4 : decide (4611686018427387904 < a0) = false := decide_eq_false q3
  have ha2 : a0 ≤ 4611686018427387904 := by omega
  clear q3
  go_wp2_with fail
  clear q2 q4
  refine Calls.mono (new_any _) ?_
  rintro e w2 ⟨g, rfl, hst, hg, b2⟩
  have Z2 := Lib.hid hst
  have B2 := Lib.hid (B1.out.trans (b2.mono B1.out.size))
  have HG : Hid (w.heap.size ≤ g) := Lib.hid (Nat.le_trans B1.out.size hg)
  clear hst hg b2 B1
  go_wp2_with fail
  refine Calls.mono (write_first g 1 1 a0 none 0 w2 Z2.out ⟨by decide, by decide, by decide, by decide, ha, ha2⟩) ?_
  rintro e w3 ⟨rfl, s3, g3⟩
  have S3 := Lib.hid s3
  have B3 := Lib.hid (B2.out.trans (below_of_only g3 HG.out B2.out.size))
  clear s3 g3 B2 Z2
  go_wp2_with fail
  have L4 := Lib.hid (lawH_nil S3.out HG.out B3.out.size)
  have B4 := Lib.hid (B3.out.trans (((Below.refl w3.heap.size w3).alloc (Nat.le_refl _) (.map #[] 0)).mono B3.out.size))
  have I4 : Hid (Inv a0 [] ⟨1, 1, a0, 1, false, 0⟩ []) := Lib.hid (inv_nil ⟨(by decide : (0 : Int) ≤ 1), (by decide : (1 : Int) < 18446744073709551616), (by decide : (0 : Int) ≤ 1), (by decide : (1 : Int) ≤ 2), ha, ha2⟩ ha (Int.le_refl _))
  clear S3 B3
  generalize w3.alloc (.map #[] 0) = w4 at *
  obtain ⟨bm, hbm⟩ : ∃ z, w3.heap.size = z := ⟨_, rfl⟩
  rw [hbm] at L4 ⊢
  clear hbm
  go_loopw [7, 39] (fun v i wr => ∃ (k : Nat) (s : SS) (gs : List Nat) (ls : List LS) (acc : List Int), k ≤ n ∧ i = .int .i64 k ∧ Hid (LawH w.heap.size g bm wr v s gs ls acc) ∧ Hid (Inv a0 ls s acc) ∧ Hid (s.N ≤ k + 1 ∧ gs.length ≤ k ∧ acc.length ≤ k) ∧ Hid (Below w.heap.size w wr)) (fun _ i _ => n - (intOf i).toNat)
  case atStart => exact ⟨0, _, _, _, _, by omega, rfl, L4, I4, Lib.hid ⟨Nat.le_refl _, Nat.le_refl _, Nat.le_refl _⟩, B4⟩
  case round =>
    clear L4 I4 B4
    obtain ⟨k, s, gs, ls, acc, hk, rfl, HL, HI, HK, HB⟩ := hrel
    obtain ⟨Av, cv, rfl, hcv⟩ := own_form HL.out.row
    clear hcv
    by_cases hlt : k < n
    · have hfit := HD.out.fit (i := k) (by rw [HN.out]; exact hlt)
      obtain ⟨ad, hA, dat⟩ := (HD.out.below HB.out).2.2 k (by rw [HN.out]; exact hlt)
      generalize ds.getD k DoL.none = d at *
      obtain ⟨kind, di, ow, ep, bl, af⟩ := d
      have HROW : Hid ((Instr.loadAt 35 (.pointer (some (ad.add (k * 6))))).run Try.prog wr = .ok (.agg #[.int .i64 kind, .int .i64 di, .int .u8 ow, .int .u64 ep, .int .u64 bl, .int .i64 af]) wr) := Lib.hid (row_load (P := Try.prog) (vs := [.int .i64 kind, .int .i64 di, .int .u8 ow, .int .u64 ep, .int .u64 bl, .int .i64 af]) (fun j v hv => dat j v hv) Try.underlying35 size6d)
      subst hA
      have HF := Lib.hid hfit
      clear dat hfit
      have b5 := (Below.refl wr.heap.size wr).alloc (Nat.le_refl _) (.cells #[.int .i64 kind, .int .i64 di, .int .u8 ow, .int .u64 ep, .int .u64 bl, .int .i64 af] 35)
      have L5 := Lib.hid (HL.out.below b5)
      have B5 := Lib.hid (HB.out.trans (b5.mono HB.out.size))
      have X5 : Hid (Blk (wr.alloc (.cells #[.int .i64 kind, .int .i64 di, .int .u8 ow, .int .u64 ep, .int .u64 bl, .int .i64 af] 35)) wr.heap.size 35 #[.int .i64 kind, .int .i64 di, .int .u8 ow, .int .u64 ep, .int .u64 bl, .int .i64 af]) := Lib.hid (Blk.new _ _ _)
      clear b5
      by_cases k0 : kind = 0
      · subst k0
        by_cases hI : 0 ≤ di ∧ di < (gs.length : Int)
        · obtain ⟨i, rfl⟩ : ∃ i : Nat, di = i := ⟨di.toNat, by omega⟩
          have hi : i < gs.length := by omega
          have HII := Lib.hid hi
          have HIL : Hid (i < ls.length) := Lib.hid (by rw [← HL.out.len]; exact hi)
          have y1 : decide ((i : Int) < 0) = false := decide_eq_false (by omega)
          have y2 : decide (gs.length ≤ i) = false := decide_eq_false (by omega)
          obtain ⟨gR, hv⟩ : ∃ gR, Av = some ⟨gR, 0, none⟩ := by
            rcases HL.out.row.2 with ⟨_, h⟩ | ⟨g', cap', cur, h, _⟩
            · omega
            · injection h with h
              exact ⟨_, h⟩
          subst hv
          obtain ⟨gl, hgl⟩ : ∃ z, gs.getD i 0 = z := ⟨_, rfl⟩
          obtain ⟨l, hl⟩ : ∃ z, ls.getD i LS.zero = z := ⟨_, rfl⟩
          have hcell : (wr.alloc (.cells #[.int .i64 0, .int .i64 i, .int .u8 ow, .int .u64 ep, .int .u64 bl, .int .i64 af] 35)).cell? ⟨gR, i, none⟩ = some (.pointer (some ⟨gl, 0, none⟩)) := by
            have h := L5.out.row.cells (g := gR) rfl i (ptrV gl) (by rw [List.getElem?_map, ← hgl, List.getD_eq_getElem?_getD, List.getElem?_eq_getElem hi]; rfl)
            rw [add_zero_addr2] at h
            exact h
          have M5 := Lib.hid (L5.out.leas i hi)
          rw [hgl, hl] at M5
          have HGL := Lib.hid hgl
          have HLL := Lib.hid hl
          have HO := HI.out.l i HIL.out
          rw [hl] at HO
          have RD := Lib.hid (ltake_any gl g l s _ M5.out L5.out.st HI.out.c (by have := HK.out.1; omega) HO.b0 HO.b1 HO.n0 (by have := HO.n1; have := HO.n2; have := HI.out.c.n1; omega))
          clear hgl hl HO hI hi
          go_wp2_with ((with_reducible (show wpList _ _ _ (⟨some 42, .load _ _, _, _, _, _⟩ :: _) _ _)); refine wpList_loadV (o := ⟨some 42, .load _ _, _, _, _, _⟩) rfl _ rfl rfl (HROW.out) ?_)
          clear y1 y2 hcell HROW HL HB X5
          generalize wr.alloc (.cells #[.int .i64 0, .int .i64 i, .int .u8 ow, .int .u64 ep, .int .u64 bl, .int .i64 af] 35) = w5 at *
          by_cases z : (takP l s).2.1 = 0
          · have IT := inv_take (i := i) HI.out HIL.out (by rw [HLL.out]; exact z)
            rw [HLL.out] at IT
            have RD2 := RD.out
            unfold TakPost at RD2
            rw [z] at RD2
            clear RD z
            generalize takP l s = r at *
            obtain ⟨x, re, l', s'⟩ := r
            simp only at IT RD2
            obtain ⟨i1, i2, i3, i4, i5, i6⟩ := IT
            have HI2 := Lib.hid i5
            have HN2 := Lib.hid i6
            have HAS := setL_has acc x i4
            have x0 : 0 ≤ x := by omega
            have d1 : decide (s'.nx ≤ x) = false := decide_eq_false (by omega)
            have d2 : decide (x < a0) = false := decide_eq_false (by omega)
            have d3 : decide ((4611686018427387903 : Int) < x) = false := decide_eq_false (by omega)
            have hkey : keyOf Try.prog 22 (.int .u64 x) = some (.int .u64 x) := Go.Maps.keyOf_int_mk Try.underlying22 (WalkArith.wf_u64 (by omega))
            have hka : acc.length ≤ 200 := by have := HK.out.2.2; omega
            clear i1 i2 i3 i4 i5 i6 x0
            refine Calls.mono RD2 ?_
            clear RD2
            rintro e w6 ⟨rfl, h6, s6, w7, g7, g6⟩
            obtain ⟨l6, b6⟩ := L5.out.took HII.out g7 (by rw [HGL.out]; exact g6) (by rw [HGL.out]; exact h6) s6
            have L6 := Lib.hid l6
            have B6 := Lib.hid (B5.out.trans b6)
            clear h6 s6 g7 g6 l6 b6 L5 B5 M5
            go_wp2_with fail
            refine Calls.mono (read_st g s' w6 L6.out.st) ?_
            rintro e w8 ⟨A8, c8, rfl, b8⟩
            have L8 := Lib.hid (L6.out.below b8)
            have B8 := Lib.hid (B6.out.trans (b8.mono B6.out.size))
            clear b8 L6 B6
            go_wp2_with (first
              | (at_lookup; go_loud (refine wpList_lookup_own_unit _ rfl _ _ 32 rfl 22 41 keyU Try.underlying32 (zeroU _) bm acc.length _ rfl (L8.out.mp.alloc _) _ _ rfl hkey ?_))
              | (at_mapUpdate; go_loud (refine wpList_mapUpdate_own _ rfl _ _ _ 32 rfl 22 41 keyU Try.underlying32 (unitElem (H := Unit)) bm acc.length _ rfl ((L8.out.mp.alloc _).alloc _) (by unfold maxLen; omega) _ _ _ rfl rfl hkey _ [] unitElem_mk ?_); intro w9 hm9 hg9))
            have bb := ((Below.refl w8.heap.size w8).alloc (Nat.le_refl _) (.cells #[.int .u64 s'.ep, .int .u8 s'.ow, .int .u64 s'.nx, .int .u64 0, .slice A8 0 c8] 31)).alloc (by simp) (.cells #[] 41)
            obtain ⟨l9, b9⟩ := (L8.out.below bb).mapped hg9 hm9
            have B9 := Lib.hid ((B8.out.trans (bb.mono B8.out.size)).trans b9)
            refine ⟨⟨k + 1, s', gs, _, _, by omega, by go_num, Lib.hid l9, HI2, Lib.hid (by have := HK.out; have := HN2.out; rw [List.length_append, List.length_singleton]; omega), B9⟩, ?_⟩
            simp [intOf]
            omega
          · have IE := inv_err (i := i) HI.out (by rw [HLL.out]; exact z)
            rw [HLL.out] at IE
            have RD2 := RD.out
            unfold TakPost at RD2
            have z1 : ((takP l s).2.1 != 0) = true := by simp [z]
            clear RD z
            generalize takP l s = r at *
            obtain ⟨x, re, l', s'⟩ := r
            simp only at IE RD2 z1
            obtain ⟨i1, i2, i3⟩ := IE
            subst i1
            have HI2 := Lib.hid i2
            have HN2 := Lib.hid i3
            clear i2 i3
            refine Calls.mono RD2 ?_
            clear RD2
            rintro e w6 ⟨rfl, h6, s6, w7, g7, g6⟩
            obtain ⟨l6, b6⟩ := L5.out.took HII.out g7 (by rw [HGL.out]; exact g6) (by rw [HGL.out]; exact h6) s6
            rw [← HLL.out, set_same ls i HIL.out] at l6
            have L6 := Lib.hid l6
            have B6 := Lib.hid (B5.out.trans b6)
            clear h6 s6 g7 g6 l6 b6 L5 B5 M5
            go_wp2_with fail
            refine ⟨⟨k + 1, s', gs, ls, acc, by omega, by go_num, L6, HI2, Lib.hid (by have := HK.out; have := HN2.out; omega), B6⟩, ?_⟩
            simp [intOf]
            omega
        · by_cases hneg : di < 0
          · have y1 : decide (di < 0) = true := decide_eq_true hneg
            clear hI hneg
            go_wp2_with ((with_reducible (show wpList _ _ _ (⟨some 42, .load _ _, _, _, _, _⟩ :: _) _ _)); refine wpList_loadV (o := ⟨some 42, .load _ _, _, _, _, _⟩) rfl _ rfl rfl (HROW.out) ?_)
            refine ⟨⟨k + 1, s, gs, ls, acc, by omega, by go_num, L5, HI, Lib.hid (by have := HK.out; omega), B5⟩, ?_⟩
            simp [intOf]
            omega
          · have y1 : decide (di < 0) = false := decide_eq_false hneg
            have y2 : decide ((gs.length : Int) ≤ di) = true := decide_eq_true (by omega)
            clear hI hneg
            go_wp2_with ((with_reducible (show wpList _ _ _ (⟨some 42, .load _ _, _, _, _, _⟩ :: _) _ _)); refine wpList_loadV (o := ⟨some 42, .load _ _, _, _, _, _⟩) rfl _ rfl rfl (HROW.out) ?_)
            refine ⟨⟨k + 1, s, gs, ls, acc, by omega, by go_num, L5, HI, Lib.hid (by have := HK.out; omega), B5⟩, ?_⟩
            simp [intOf]
            omega
      by_cases k1 : kind = 1
      · subst k1
        go_wp2_with ((with_reducible (show wpList _ _ _ (⟨some 42, .load _ _, _, _, _, _⟩ :: _) _ _)); refine wpList_loadV (o := ⟨some 42, .load _ _, _, _, _, _⟩) rfl _ rfl rfl (HROW.out) ?_)
        clear HROW HL HB X5
        generalize wr.alloc (.cells #[.int .i64 1, .int .i64 di, .int .u8 ow, .int .u64 ep, .int .u64 bl, .int .i64 af] 35) = w5 at *
        refine Calls.mono (new_lease (some ⟨g, 0, none⟩) ow ep (bl.tmod 1001) w5) ?_
        obtain ⟨gl, hgl⟩ : ∃ z, w5.heap.size = z := ⟨_, rfl⟩
        rw [hgl]
        rintro e w6 ⟨rfl, h6, b6⟩
        rw [← hgl] at b6
        have HGN : Hid (∀ i, i < gs.length → gs.getD i 0 ≠ gl) := Lib.hid (fun i hi => by have := Blk.lt (L5.out.leas i hi); omega)
        have HGLO : Hid (w.heap.size ≤ gl) := Lib.hid (by rw [← hgl]; exact L5.out.hi)
        have L6 := Lib.hid (L5.out.below b6)
        have M6 : Hid (LsH gl w6 (ptrV g) ⟨ow, ep, bl.tmod 1001, 0, 0⟩) := Lib.hid h6
        have B6 := Lib.hid (B5.out.trans (b6.mono B5.out.size))
        have HIN := Lib.hid (inv_new (ow := ow) (ep := ep) (bl := bl.tmod 1001) HI.out (Int.tmod_nonneg _ HF.out.2.2.2.2.1) (by have := Int.tmod_lt_of_pos bl (show (0 : Int) < 1001 by decide); omega) HF.out.1 (by have := HF.out.2.1; simp only at this; omega) HF.out.2.2.1 HF.out.2.2.2.1)
        have hk3 : gs.length ≤ 200 := by have := HK.out.2.1; omega
        have hlo6 := L6.out.hi
        clear h6 b6 L5 B5 hgl
        go_wp2_with (at_builtin; go_loud (refine wpList_append_own (o := ⟨some 115, _, _, _, _, _⟩) _ rfl _ _ 33 rfl w.heap.size 37 i0 (.pointer none) 1 8 Try.underlying33 HI0.out HZ0.out HZ1.out HZ2.out rfl (by decide) _ _ _ rfl (L6.out.row.alloc _) ⟨w6.heap.size, 0, none⟩ 1 1 [ptrV gl] rfl rfl (blk_at (Blk.new _ _ _)) (oneP gl) ?_ ?_ ?_ ?_); (unfold maxLen; omega); omega; (simp; omega); intro v2 w7 ho7 hg7 _)
        have b7 := (Below.refl w6.heap.size w6).alloc (Nat.le_refl _) (.cells #[ptrV gl] 37)
        obtain ⟨l7, b8⟩ := (L6.out.below b7).grew (M6.out.below b7) HGN.out HGLO.out hg7 ho7
        have B7 := Lib.hid ((B6.out.trans (b7.mono B6.out.size)).trans b8)
        refine ⟨⟨k + 1, s, gs ++ [gl], _, acc, by omega, by go_num, Lib.hid l7, HIN, Lib.hid (by have := HK.out; rw [List.length_append, List.length_singleton]; omega), B7⟩, ?_⟩
        simp [intOf]
        omega
      by_cases k2 : kind = 2
      · subst k2
        go_wp2_with ((with_reducible (show wpList _ _ _ (⟨some 42, .load _ _, _, _, _, _⟩ :: _) _ _)); refine wpList_loadV (o := ⟨some 42, .load _ _, _, _, _, _⟩) rfl _ rfl rfl (HROW.out) ?_)
        clear HROW HL HB
        generalize wr.alloc (.cells #[.int .i64 2, .int .i64 di, .int .u8 ow, .int .u64 ep, .int .u64 bl, .int .i64 af] 35) = w5 at *
        obtain ⟨gx, hgx⟩ : ∃ z, wr.heap.size = z := ⟨_, rfl⟩
        rw [hgx] at X5 ⊢
        clear hgx
        refine Calls.mono (read_st g s w5 L5.out.st) ?_
        rintro e w6 ⟨A6, c6, rfl, b6⟩
        have L6 := Lib.hid (L5.out.below b6)
        have B6 := Lib.hid (B5.out.trans (b6.mono B5.out.size))
        have X6 := Lib.hid (Blk.below X5.out b6 (Blk.lt X5.out))
        clear b6 L5 B5 X5
        go_wp2_with fail
        have b7 := (Below.refl w6.heap.size w6).alloc (Nat.le_refl _) (.cells #[.int .u64 s.ep, .int .u8 s.ow, .int .u64 s.nx, .int .u64 0, .slice A6 0 c6] 31)
        have L7 := Lib.hid (L6.out.below b7)
        have B7 := Lib.hid (B6.out.trans (b7.mono B6.out.size))
        have X7 := Lib.hid (Blk.below X6.out b7 (Blk.lt X6.out))
        have C7 : Hid (Blk (w6.alloc (.cells #[.int .u64 s.ep, .int .u8 s.ow, .int .u64 s.nx, .int .u64 0, .slice A6 0 c6] 31)) w6.heap.size 31 #[.int .u64 s.ep, .int .u8 s.ow, .int .u64 s.nx, .int .u64 0, .slice A6 0 c6]) := Lib.hid (Blk.new _ _ _)
        have HGC : Hid (w.heap.size ≤ w6.heap.size) := Lib.hid B6.out.size
        clear b7 L6 B6 X6
        generalize w6.alloc (.cells #[.int .u64 s.ep, .int .u8 s.ow, .int .u64 s.nx, .int .u64 0, .slice A6 0 c6] 31) = w7 at *
        obtain ⟨gc, hgc⟩ : ∃ z, w6.heap.size = z := ⟨_, rfl⟩
        rw [hgc] at C7 HGC ⊢
        clear hgc
        have HCK : Hid (COk ep (ow.tmod 3) s.nx) := Lib.hid ⟨HF.out.2.2.1, HF.out.2.2.2.1, Int.tmod_nonneg _ HF.out.1, (by have := Int.tmod_lt_of_pos ow (show (0 : Int) < 3 by decide); omega), HI.out.c.n0, HI.out.c.n1⟩
        have hmx : ¬ ep < 0 := by have := HF.out.2.2.1; simp only at this; omega
        have hcw : RD gx gc #[.int .i64 2, .int .i64 di, .int .u8 ow, .int .u64 ep, .int .u64 bl, .int .i64 af] w7.drew := ⟨Blk.drew X7.out, Blk.cell (Blk.drew C7.out) 3⟩
        have e0 : ∀ r : CW (RD gx gc #[.int .i64 2, .int .i64 di, .int .u8 ow, .int .u64 ep, .int .u64 bl, .int .i64 af]), r.world.cell? ⟨gx, 2, none⟩ = some (.int .u8 ow) := fun r => Blk.cell r.holds.1 2
        have e1 : ∀ r : CW (RD gx gc #[.int .i64 2, .int .i64 di, .int .u8 ow, .int .u64 ep, .int .u64 bl, .int .i64 af]), r.world.cell? ⟨gx, 3, none⟩ = some (.int .u64 ep) := fun r => Blk.cell r.holds.1 3
        have e2 : ∀ r : CW (RD gx gc #[.int .i64 2, .int .i64 di, .int .u8 ow, .int .u64 ep, .int .u64 bl, .int .i64 af]), r.world.cell? ⟨gc, 3, none⟩ = some (.int .u64 0) := fun r => r.holds.2
        have hne : Nonempty (CW (RD gx gc #[.int .i64 2, .int .i64 di, .int .u8 ow, .int .u64 ep, .int .u64 bl, .int .i64 af])) := CW.inh hcw
        refine wp_region_sig (RD gx gc #[.int .i64 2, .int .i64 di, .int .u8 ow, .int .u64 ep, .int .u64 bl, .int .i64 af]) (.two [0, 1, 2, 3, 4, 5, 6, 8] 7 (.one [] 9 (.one [10] 11 (.fin []))) 9 (.one [] 7 (.one [10] 11 (.fin [])))) (by kernel_rfl) (by kernel_rfl) (by kernel_rfl) (by kernel_rfl) hcw ?_
        refine mixT_two ?_
        simp only [pickL, List.filterMap_cons, List.filterMap_nil, List.getElem?_cons_succ, List.getElem?_cons_zero]
        repeat (show wpQuiet _ _ _ _ (_ :: _) _; go_big_quiet_step (fail))
        refine wpQuiet_nil ?_
        clear e0 e1 e2 hcw
        have X8 := Lib.hid (Blk.drew X7.out)
        have C8 := Lib.hid (Blk.drew C7.out)
        have L8 := Lib.hid (L7.out.below (Below.refl w7.heap.size w7).drew)
        have B8 := Lib.hid (B7.out.drew)
        clear X7 C7 L7 B7
        generalize w7.drew = w8 at *
        have c0 := Blk.cell C8.out 0
        have c1 := Blk.cell C8.out 1
        have f0 := Blk.frozen C8.out 0
        have f1 := Blk.frozen C8.out 1
        simp at c0 c1
        have HNX : Hid (gx ≠ gc) := Lib.hid (Blk.ne_ X8.out C8.out (by decide))
        refine ⟨?_, ?_⟩
        · skip
          show wpList _ _ _ [_] _ _
          go_wp2_with fail
          refine MixQ.class (show RD gx gc #[.int .i64 2, .int .i64 di, .int .u8 ow, .int .u64 ep, .int .u64 bl, .int .i64 af] w8 from ⟨X8.out, Blk.cell C8.out 3⟩) ?_
          refine mixT_one ?_
          simp only [pickL, List.filterMap_cons, List.filterMap_nil, List.getElem?_cons_succ, List.getElem?_cons_zero]
          repeat (show wpQuiet _ _ _ _ (_ :: _) _; go_big_quiet_step (fail))
          refine wpQuiet_nil ?_
          show wpList _ _ _ [_] _ _
          go_wp2_with fail
          refine MixQ.class (show RD gx gc #[.int .i64 2, .int .i64 di, .int .u8 ow, .int .u64 ep, .int .u64 bl, .int .i64 af] (w8.setCell ⟨gc, 1, none⟩ (.int .u8 (ow.tmod 3))) from ⟨Blk.far X8.out (p := ⟨gc, 1, none⟩) HNX.out _, Blk.cell (C8.out.set_ 1 (.int .u8 (ow.tmod 3))) 3⟩) ?_
          refine mixT_one ?_
          simp only [pickL, List.filterMap_cons, List.filterMap_nil, List.getElem?_cons_succ, List.getElem?_cons_zero]
          repeat (show wpQuiet _ _ _ _ (_ :: _) _; go_big_quiet_step (fail))
          refine wpQuiet_nil ?_
          show wpList _ _ _ [_] _ _
          go_wp2_with fail
          refine MixQ.class (show RD gx gc #[.int .i64 2, .int .i64 di, .int .u8 ow, .int .u64 ep, .int .u64 bl, .int .i64 af] ((w8.setCell ⟨gc, 1, none⟩ (.int .u8 (ow.tmod 3))).setCell ⟨gc, 0, none⟩ (.int .u64 ep)) from ⟨Blk.far (Blk.far X8.out (p := ⟨gc, 1, none⟩) HNX.out _) (p := ⟨gc, 0, none⟩) HNX.out _, Blk.cell ((C8.out.set_ 1 (.int .u8 (ow.tmod 3))).set_ 0 (.int .u64 ep)) 3⟩) ?_
          refine mixT_fin ?_
          simp only [pickL, List.filterMap_nil]
          refine wpQuiet_nil ?_
          refine NoPanic.normal ?_
          have G9 : Hid (w8.grownBy ((w8.setCell ⟨gc, 1, none⟩ (.int .u8 (ow.tmod 3))).setCell ⟨gc, 0, none⟩ (.int .u64 ep)) (some gc)) := Lib.hid (only_setCell (p := ⟨gc, 0, none⟩) (only_setCell (p := ⟨gc, 1, none⟩) (World.grownBy.refl w8 (some gc)) (.inl rfl) _) (.inl rfl) _)
          have C9 : Hid (Blk ((w8.setCell ⟨gc, 1, none⟩ (.int .u8 (ow.tmod 3))).setCell ⟨gc, 0, none⟩ (.int .u64 ep)) gc 31 #[.int .u64 ep, .int .u8 (ow.tmod 3), .int .u64 s.nx, .int .u64 0, .slice A6 0 c6]) := Lib.hid (Blk.cast ((C8.out.set_ 1 (.int .u8 (ow.tmod 3))).set_ 0 (.int .u64 ep)) (by simp))
          have L9 := Lib.hid (L8.out.other C8.out (by decide) (by decide) (by decide) (by decide) G9.out)
          have B9 := Lib.hid (B8.out.trans (below_of_only G9.out HGC.out B8.out.size))
          clear hne c0 c1 f0 f1 hmx L8 B8 X8 C8 G9
          generalize (w8.setCell ⟨gc, 1, none⟩ (.int .u8 (ow.tmod 3))).setCell ⟨gc, 0, none⟩ (.int .u64 ep) = w9 at *
          go_wp2_with ((with_reducible (show wpList _ _ _ (⟨some 136, .load _ _, _, _, _, _⟩ :: _) _ _)); refine wpList_loadV (o := ⟨some 136, .load _ _, _, _, _, _⟩) rfl _ rfl rfl (cb_load C9.out) ?_)
          refine Calls.mono (write_st g s ep (ow.tmod 3) s.nx A6 c6 w9 L9.out.st HCK.out (by have := HK.out.1; omega)) ?_
          rintro e w10 ⟨rfl, s10, g10⟩
          have L10 := Lib.hid (L9.out.wrote g10 s10)
          have B10 := Lib.hid (B9.out.trans (L9.out.wroteB g10))
          obtain ⟨iw, hnx⟩ := inv_write (e := ep) (o := ow.tmod 3) HI.out HCK.out
          have HNN := Lib.hid (wrP_N s ep (ow.tmod 3) s.nx)
          clear s10 g10 L9 B9 C9
          generalize (wrP s ep (ow.tmod 3) s.nx).2 = s' at *
          have HI2 := Lib.hid iw
          have RR := read_st g s' w10 L10.out.st
          rw [hnx] at RR
          clear iw hnx
          go_wp2_with fail
          refine Calls.mono RR ?_
          clear RR
          rintro e w11 ⟨A11, c11, rfl, b11⟩
          have b12 := b11.trans (((Below.refl w11.heap.size w11).alloc (Nat.le_refl _) (.cells #[.int .u64 s'.ep, .int .u8 s'.ow, .int .u64 s.nx, .int .u64 0, .slice A11 0 c11] 31)).mono b11.size)
          have L12 := Lib.hid (L10.out.below b12)
          have B12 := Lib.hid (B10.out.trans (b12.mono B10.out.size))
          clear b11 b12 L10 B10
          go_wp2_with fail
          refine ⟨⟨k + 1, s', gs, ls, acc, by omega, by go_num, L12, HI2, Lib.hid (by have := HK.out; have := HNN.out; omega), B12⟩, ?_⟩
          simp [intOf]
          omega
        · skip
          show wpList _ _ _ [_] _ _
          go_wp2_with fail
          refine MixQ.class (show RD gx gc #[.int .i64 2, .int .i64 di, .int .u8 ow, .int .u64 ep, .int .u64 bl, .int .i64 af] (w8.setCell ⟨gc, 1, none⟩ (.int .u8 (ow.tmod 3))) from ⟨Blk.far X8.out (p := ⟨gc, 1, none⟩) HNX.out _, Blk.cell (C8.out.set_ 1 (.int .u8 (ow.tmod 3))) 3⟩) ?_
          refine mixT_one ?_
          simp only [pickL, List.filterMap_cons, List.filterMap_nil, List.getElem?_cons_succ, List.getElem?_cons_zero]
          repeat (show wpQuiet _ _ _ _ (_ :: _) _; go_big_quiet_step (fail))
          refine wpQuiet_nil ?_
          show wpList _ _ _ [_] _ _
          go_wp2_with fail
          refine MixQ.class (show RD gx gc #[.int .i64 2, .int .i64 di, .int .u8 ow, .int .u64 ep, .int .u64 bl, .int .i64 af] (w8.setCell ⟨gc, 1, none⟩ (.int .u8 (ow.tmod 3))) from ⟨Blk.far X8.out (p := ⟨gc, 1, none⟩) HNX.out _, Blk.cell (C8.out.set_ 1 (.int .u8 (ow.tmod 3))) 3⟩) ?_
          refine mixT_one ?_
          simp only [pickL, List.filterMap_cons, List.filterMap_nil, List.getElem?_cons_succ, List.getElem?_cons_zero]
          repeat (show wpQuiet _ _ _ _ (_ :: _) _; go_big_quiet_step (fail))
          refine wpQuiet_nil ?_
          show wpList _ _ _ [_] _ _
          go_wp2_with fail
          refine MixQ.class (show RD gx gc #[.int .i64 2, .int .i64 di, .int .u8 ow, .int .u64 ep, .int .u64 bl, .int .i64 af] ((w8.setCell ⟨gc, 1, none⟩ (.int .u8 (ow.tmod 3))).setCell ⟨gc, 0, none⟩ (.int .u64 ep)) from ⟨Blk.far (Blk.far X8.out (p := ⟨gc, 1, none⟩) HNX.out _) (p := ⟨gc, 0, none⟩) HNX.out _, Blk.cell ((C8.out.set_ 1 (.int .u8 (ow.tmod 3))).set_ 0 (.int .u64 ep)) 3⟩) ?_
          refine mixT_fin ?_
          simp only [pickL, List.filterMap_nil]
          refine wpQuiet_nil ?_
          refine NoPanic.normal ?_
          have G9 : Hid (w8.grownBy ((w8.setCell ⟨gc, 1, none⟩ (.int .u8 (ow.tmod 3))).setCell ⟨gc, 0, none⟩ (.int .u64 ep)) (some gc)) := Lib.hid (only_setCell (p := ⟨gc, 0, none⟩) (only_setCell (p := ⟨gc, 1, none⟩) (World.grownBy.refl w8 (some gc)) (.inl rfl) _) (.inl rfl) _)
          have C9 : Hid (Blk ((w8.setCell ⟨gc, 1, none⟩ (.int .u8 (ow.tmod 3))).setCell ⟨gc, 0, none⟩ (.int .u64 ep)) gc 31 #[.int .u64 ep, .int .u8 (ow.tmod 3), .int .u64 s.nx, .int .u64 0, .slice A6 0 c6]) := Lib.hid (Blk.cast ((C8.out.set_ 1 (.int .u8 (ow.tmod 3))).set_ 0 (.int .u64 ep)) (by simp))
          have L9 := Lib.hid (L8.out.other C8.out (by decide) (by decide) (by decide) (by decide) G9.out)
          have B9 := Lib.hid (B8.out.trans (below_of_only G9.out HGC.out B8.out.size))
          clear hne c0 c1 f0 f1 hmx L8 B8 X8 C8 G9
          generalize (w8.setCell ⟨gc, 1, none⟩ (.int .u8 (ow.tmod 3))).setCell ⟨gc, 0, none⟩ (.int .u64 ep) = w9 at *
          go_wp2_with ((with_reducible (show wpList _ _ _ (⟨some 136, .load _ _, _, _, _, _⟩ :: _) _ _)); refine wpList_loadV (o := ⟨some 136, .load _ _, _, _, _, _⟩) rfl _ rfl rfl (cb_load C9.out) ?_)
          refine Calls.mono (write_st g s ep (ow.tmod 3) s.nx A6 c6 w9 L9.out.st HCK.out (by have := HK.out.1; omega)) ?_
          rintro e w10 ⟨rfl, s10, g10⟩
          have L10 := Lib.hid (L9.out.wrote g10 s10)
          have B10 := Lib.hid (B9.out.trans (L9.out.wroteB g10))
          obtain ⟨iw, hnx⟩ := inv_write (e := ep) (o := ow.tmod 3) HI.out HCK.out
          have HNN := Lib.hid (wrP_N s ep (ow.tmod 3) s.nx)
          clear s10 g10 L9 B9 C9
          generalize (wrP s ep (ow.tmod 3) s.nx).2 = s' at *
          have HI2 := Lib.hid iw
          have RR := read_st g s' w10 L10.out.st
          rw [hnx] at RR
          clear iw hnx
          go_wp2_with fail
          refine Calls.mono RR ?_
          clear RR
          rintro e w11 ⟨A11, c11, rfl, b11⟩
          have b12 := b11.trans (((Below.refl w11.heap.size w11).alloc (Nat.le_refl _) (.cells #[.int .u64 s'.ep, .int .u8 s'.ow, .int .u64 s.nx, .int .u64 0, .slice A11 0 c11] 31)).mono b11.size)
          have L12 := Lib.hid (L10.out.below b12)
          have B12 := Lib.hid (B10.out.trans (b12.mono B10.out.size))
          clear b11 b12 L10 B10
          go_wp2_with fail
          refine ⟨⟨k + 1, s', gs, ls, acc, by omega, by go_num, L12, HI2, Lib.hid (by have := HK.out; have := HNN.out; omega), B12⟩, ?_⟩
          simp [intOf]
          omega
      by_cases k3 : kind = 3
      · subst k3
        go_wp2_with ((with_reducible (show wpList _ _ _ (⟨some 42, .load _ _, _, _, _, _⟩ :: _) _ _)); refine wpList_loadV (o := ⟨some 42, .load _ _, _, _, _, _⟩) rfl _ rfl rfl (HROW.out) ?_)
        clear HROW HL HB X5
        generalize wr.alloc (.cells #[.int .i64 3, .int .i64 di, .int .u8 ow, .int .u64 ep, .int .u64 bl, .int .i64 af] 35) = w5 at *
        refine Calls.mono (fail_st g s af w5 L5.out.st) ?_
        rintro e w6 ⟨rfl, s6, g6⟩
        have L6 := Lib.hid (L5.out.wrote g6 s6)
        have B6 := Lib.hid (B5.out.trans (L5.out.wroteB g6))
        clear s6 g6 L5 B5
        go_wp2_with fail
        refine ⟨⟨k + 1, _, gs, ls, acc, by omega, by go_num, L6, Lib.hid (inv_fail HI.out af), Lib.hid (by have := HK.out; simp only; omega), B6⟩, ?_⟩
        simp [intOf]
        omega
      have e0 : (kind == 0) = false := by simp [k0]
      have e1 : (kind == 1) = false := by simp [k1]
      have e2 : (kind == 2) = false := by simp [k2]
      have e3 : (kind == 3) = false := by simp [k3]
      clear k0 k1 k2 k3
      go_wp2_with ((with_reducible (show wpList _ _ _ (⟨some 42, .load _ _, _, _, _, _⟩ :: _) _ _)); refine wpList_loadV (o := ⟨some 42, .load _ _, _, _, _, _⟩) rfl _ rfl rfl (HROW.out) ?_)
      refine ⟨⟨k + 1, s, gs, ls, acc, by omega, by go_num, L5, HI, Lib.hid (by have := HK.out; omega), B5⟩, ?_⟩
      simp [intOf]
      omega
    · go_wp2_with fail
      go_ret
      exact ⟨rfl, HB.out⟩
end Go.Proofs.Ytibjafkclojimaa
