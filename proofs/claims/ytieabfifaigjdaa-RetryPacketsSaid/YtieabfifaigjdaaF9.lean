/- Layer 33, the reference's: contract of Token. Conditions: as each theorem states them. -/
import Derived.Test.YtieabfifaigjdaaF7
import Derived.ArgAppend
namespace Go.Proofs.Ytieabfifaigjdaa
open Go.RowKit
theorem own_ne {B : Nat} {e t : TypeId} {k : IntKind} {w : World} {A : Option Addr} {n c g : Nat} {xs : List Int} {cs : Array Value} (h : Own B e k w A n c xs) (hg : Blk w g t cs) (hne : e ≠ t) : some g ≠ ablk A := by
  have := own_blk_ne h.1 hg hne
  rw [ownBlock_slice] at this
  exact fun q => this q.symm
theorem rd_cells {B : Nat} {k : IntKind} {w : World} {ad : Addr} {xs : List Int} (h : Rd B k w (some ad) xs) : ∀ j u, (xs.map (Value.int k))[j]? = some u → w.cell? (ad.add j) = some u := fun j u hu => by
  rw [List.getElem?_map] at hu
  rcases Nat.lt_or_ge j xs.length with q | q
  · obtain ⟨ad', e, _, hc⟩ := h j q
    injection e with e
    subst e
    rw [hc, ← hu, List.getElem?_eq_getElem q, List.getD_eq_getElem?_getD, List.getElem?_eq_getElem q]
    rfl
  · rw [List.getElem?_eq_none q] at hu; cases hu
/-- an append to a slice without room: the row that it makes is the call's own -/
theorem wpList_appF {P : Program} {t e : TypeId} {k : IntKind} {bytes B1 B2 : Nat} {w : World} {ad : Addr} {A2 : Option Addr} {n cap m c2 : Nat} {xs ys : List Int} {ops : Array Oper} {rest : List Oper} {o : Oper} {a : Act} {Q : Exit → Act → World → Prop}
    (E : ElT P t e k bytes) (hgd : o.guard = none) (s x : Operand) (hop : o.op = .call { callee := .builtin .append, args := #[s, x], argTypes := #[t, t] })
    (hs : a.eval s = .slice (some ad) n cap) (hx : a.eval x = .slice A2 m c2) (r1 : Rd B1 k w (some ad) xs) (hn : n = xs.length) (r2 : Rd B2 k w A2 ys) (hm : m = ys.length) (h0 : 0 < m) (hfull : cap < n + m) (hl : xs.length + ys.length ≤ 17592186044416)
    (h : ∀ A' n' c' w', Own w.heap.size e k w' A' n' c' (xs ++ ys) → Below w.heap.size w w' → wpList P ops Q rest (a.put o.dst (.slice A' n' c')) w') : wpList P ops Q (o :: rest) a w := by
  obtain ⟨i, hi, hz, hsz, hby⟩ := info_parts E.info
  obtain ⟨ad2, e2, _, _⟩ := r2 0 (by omega)
  subst e2
  refine wpList_append_grows w hgd s x t hop e i (.int k 0) 1 bytes E.ht hi hz hsz hby rfl (by decide) (some ad) n cap (xs.map (Value.int k)) hs (fun q => by cases q) (by simp [hn]) (fun b q => by injection q with q; subst q; exact rd_cells r1)
    ad2 m c2 (ys.map (Value.int k)) hx (by simp [hm]) (rd_cells r2) (ints_oneCell k ys) hfull (by unfold maxLen; omega) (Nat.le_trans (Nat.mul_le_mul (show n + m ≤ 17592186044416 by omega) E.most) (by decide)) (fun v' w' ho hg => ?_)
  obtain ⟨A', c', hv⟩ : ∃ A' c', v' = .slice A' (n + m) c' := by
    rcases ho.2 with ⟨hv, hz0⟩ | ⟨g, cap', cur, hv, _⟩
    · omega
    · exact ⟨_, _, hv⟩
  subst hv
  refine h A' (n + m) c' w' ⟨by rw [List.map_append]; exact ho, by rw [List.length_append, hn, hm]⟩ ⟨hg.os, hg.tape, hg.output, hg.size, fun i hi => hg.block i hi (fun q => by cases q)⟩
attribute [local irreducible] macR tokB
set_option maxRecDepth 100000 in
set_option maxHeartbeats 4000000 in
theorem rtoken_any (sec : List Int) (addr at_ : Int) (A : Option Addr) (n c : Nat) (orig : List Int) (w : World) (hs : sec.length = 32) (hsb : Byt sec) (hn : orig.length = n) (hr : Rd w.heap.size .u8 w A orig) (hb : Byt orig) (hl : n ≤ 20)
    (a0 : 0 ≤ addr) (a1 : addr < 4294967296) (t0 : 0 ≤ at_) (t1 : at_ < 18446744073709551616) :
    Calls Try.prog 15 #[.agg (cellsL .u8 sec), .int .u32 addr, .slice A n c, .int .u64 at_] w (RetOwn 5 .u8 (tknL sec addr at_ orig) w) := by
  have HS := Lib.hid hs
  have HSB := Lib.hid hsb
  have HN := Lib.hid hn
  have HR := Lib.hid hr
  have HB := Lib.hid hb
  have Z0 : Hid (Arr (w.alloc (.cells (cellsL .u8 sec) 35)) w.heap.size 35 .u8 sec) := Lib.hid (Arr.newAt rfl rfl)
  have B0 := Lib.hid ((Below.refl w.heap.size w).alloc (Nat.le_refl _) (.cells (cellsL .u8 sec) 35))
  clear hs hsb hn hr hb
  go_enter Try.func15, Try.ntmps15
  go_wp2_with fail
  generalize w.alloc (.cells (cellsL .u8 sec) 35) = w0 at *
  refine Calls.mono (rn_any addr 4 w0 a0 (by omega) (by decide) (by decide)) ?_
  rintro e w1 ⟨A1, n1, c1, rfl, o1, b1⟩
  have O1 := Lib.hid o1
  have hz0 := B0.out.size
  have hz1 := b1.size
  have N1 := Lib.hid (show n1 = 4 by rw [o1.len, beL_len])
  have Z1 := Lib.hid (Z0.out.below b1 Z0.out.lt)
  have LZ0 : Hid (w.heap.size < w0.heap.size) := Lib.hid Z0.out.lt
  have B1 := Lib.hid (B0.out.trans (b1.mono B0.out.size))
  clear o1 b1 Z0 B0
  go_wp2_with fail
  refine Calls.mono (rn_any at_ 8 w1 t0 t1 (by decide) (by decide)) ?_
  rintro e w2 ⟨A2, n2, c2, rfl, o2, b2⟩
  have O2 := Lib.hid o2
  have N2 := Lib.hid o2.len
  have N2' := Lib.hid (show n2 = 8 by rw [o2.len, beL_len])
  have O12 := Lib.hid (O1.out.below b2)
  have Z2 := Lib.hid (Z1.out.below b2 Z1.out.lt)
  have B2 := Lib.hid (B1.out.trans (b2.mono B1.out.size))
  have b2z := b2.size
  clear o2 b2 O1 B1 Z1
  have hz2 : w0.heap.size ≤ w2.heap.size := Nat.le_trans hz1 b2z
  have LZ : Hid (w.heap.size < w0.heap.size) := Lib.hid LZ0.out
  have R2 := Lib.hid (HR.out.below B2.out (Nat.le_refl _))
  go_wp2_with (first
    | (at_builtin; (have _g := H25; clear _g); go_loud (refine wpList_app (o := ⟨some 27, _, _, _, _, _⟩) elC rfl _ _ rfl rfl rfl H25.out.1 ((R2.out.below B25.out hz0)) HN.out.symm ?_ (Nat.le_trans hz2 (Below.size B25.out)) ?_); (have := HN.out; simp [beL_len]; omega); intro A27 n27 c27 w27 h27; have H27 := Lib.hid h27; have B27 := Lib.hid (B25.out.trans h27.2.2.1); clear h27)
    | (at_builtin; (have _g := H19; clear _g); go_loud (refine wpList_app (o := ⟨some 25, _, _, _, _, _⟩) elC rfl _ _ rfl rfl rfl (H19.out.1.alloc _) (Rd.newAt (xs := [(n : Int)]) rfl rfl) rfl ?_ ?_ ?_); (simp [beL_len]); (have := Below.size B19.out; simp; omega); intro A25 n25 c25 w25 h25; have H25 := Lib.hid h25; have B25 := Lib.hid ((Below.alloc B19.out (Nat.le_trans hz2 (Below.size B19.out)) _).trans h25.2.2.1); clear h25)
    | (at_builtin; go_loud (refine wpList_app (o := ⟨some 19, _, _, _, _, _⟩) elC rfl _ _ rfl rfl rfl O12.out O2.out.rd N2.out ?_ hz2 ?_); (simp [beL_len]); intro A19 n19 c19 w19 h19; have H19 := Lib.hid h19; have B19 : Hid (Below w0.heap.size w2 w19) := Lib.hid h19.2.2.1; clear h19))
  have OT : Hid (Own w0.heap.size 5 .u8 w27 A27 n27 c27 (tokB addr at_ orig)) := Lib.hid (Own.cast H27.out.1 (by unfold tokB; rw [HN.out]))
  have Z3 : Hid (Arr w27 w.heap.size 35 .u8 sec) := Lib.hid (Z2.out.below B27.out LZ.out)
  have B3 : Hid (Below w.heap.size w w27) := Lib.hid (B2.out.trans (B27.out.mono hz0))
  have HTL := Lib.hid (tokB_len addr at_ orig)
  have HTB := Lib.hid (tokB_byt (addr := addr) (at_ := at_) HB.out (by rw [HN.out]; omega))
  have HTK : Hid (tknL sec addr at_ orig = tokB addr at_ orig ++ macR sec (tokB addr at_ orig)) := Lib.hid rfl
  have hz27 : w0.heap.size ≤ w27.heap.size := Nat.le_trans hz2 B27.out.size
  clear H19 H25 H27 B19 B25 B27 Z2 B2 R2 O12 O2 N1 N2 N2' hz1
  generalize tokB addr at_ orig = L at *
  have LW : Hid (w.heap.size < w27.heap.size) := Lib.hid Z3.out.lt
  go_loopw [10, 11] (fun v i wr => ∃ (k : Nat) (Av : Option Addr) (nv cv : Nat), k ≤ 32 ∧ i = .int .i64 k ∧ v = .slice Av nv cv ∧ Hid (Own w27.heap.size 5 .u8 wr Av nv cv (sec.take k)) ∧ Hid (Below w27.heap.size w27 wr)) (fun _ i _ => 32 - (intOf i).toNat)
  case atStart => exact ⟨0, none, 0, 0, by omega, rfl, rfl, Lib.hid (by rw [List.take_zero]; exact Own.nil _ _ _ _), Lib.hid (Below.refl _ _)⟩
  case round =>
    obtain ⟨k, Av, nv, cv, hk, rfl, rfl, HO, HBr⟩ := hrel
    have Z4 := Lib.hid (Z3.out.below HBr.out LW.out)
    have hzr := HBr.out.size
    by_cases hlt : k < 32
    · have hc := Z4.out.cell (i := k) (by rw [HS.out]; exact hlt)
      have HT := Lib.hid (take_snoc_getD (xs := sec) (t := k) (by rw [HS.out]; exact hlt))
      have hx := HSB.out.getD k
      generalize sec.getD k 0 = x at *
      obtain ⟨hx0, hx1⟩ := hx
      go_wp2_with (at_builtin; go_loud (refine wpList_app (o := ⟨some 37, _, _, _, _, _⟩) elC rfl _ _ rfl rfl rfl (HO.out.alloc _) (Rd.newAt (xs := [x]) rfl rfl) rfl ?_ ?_ ?_); (have := HS.out; simp; omega); (simp; omega); intro A5 n5 c5 w5 h5; have H5 := Lib.hid h5; clear h5)
      refine ⟨⟨k + 1, A5, n5, c5, by omega, by go_num, rfl, Lib.hid (by rw [HT.out]; exact H5.out.1), Lib.hid ((HBr.out.alloc hzr _).trans H5.out.2.2.1)⟩, ?_⟩
      simp [intOf]
      omega
    · obtain rfl : k = 32 := by omega
      clear hlt hk
      have KO : Hid (Own w27.heap.size 5 .u8 wr Av nv cv sec) := Lib.hid (by have h := HO.out; rwa [List.take_of_length_le (by rw [HS.out]; exact Nat.le_refl _)] at h)
      have KN := Lib.hid (show sec.length = nv by have h := KO.out.len; omega)
      have OT4 : Hid (Own w0.heap.size 5 .u8 wr A27 n27 c27 L) := Lib.hid (OT.out.below HBr.out)
      have B4 := Lib.hid (B3.out.trans (HBr.out.mono (by omega)))
      clear HO HBr Z4 Z3 OT B3
      have cv1 := Lib.run_convert_bytes_const (P := Try.prog) wr 22 5 #[.int .u8 104, .int .u8 111, .int .u8 115, .int .u8 116, .int .u8 108, .int .u8 101, .int .u8 114, .int .u8 32, .int .u8 114, .int .u8 101, .int .u8 116, .int .u8 114, .int .u8 121] 13 13 Try.underlying22 Try.underlying5
      simp only [List.size_toArray, List.length_cons, List.length_nil] at cv1
      have T1 : Hid (Rd (wr.heap.size + 1) .u8 (wr.alloc (.cells #[.int .u8 104, .int .u8 111, .int .u8 115, .int .u8 116, .int .u8 108, .int .u8 101, .int .u8 114, .int .u8 32, .int .u8 114, .int .u8 101, .int .u8 116, .int .u8 114, .int .u8 121] 5 (13, 14))) (some ⟨wr.heap.size, 0, none⟩) retryT) := Lib.hid (Rd.mark (xs := retryT) rfl rfl)
      have n27b : 13 ≤ n27 := by have h1 := OT4.out.len; have h2 := HTL.out; omega
      have n27c : n27 ≤ 40 := by have h1 := OT4.out.len; have h2 := HTL.out; have h3 := HN.out; omega
      go_wp2_with (at_builtin; go_loud (refine wpList_appF (o := ⟨some 42, _, _, _, _, _⟩) elC rfl _ _ rfl rfl rfl T1.out rfl ((OT4.out.alloc _).rd) OT4.out.len (by omega) (by omega) ?_ ?_); (rw [← OT4.out.len]; show 13 + n27 ≤ _; omega); intro A6 n6 c6 w6 o6 b6; have O6 := Lib.hid o6; have B46 := Lib.hid (((Below.refl wr.heap.size wr).alloc (Nat.le_refl _) _).trans (b6.mono (by simp))); clear o6 b6)
      clear cv1 T1
      have KO6 := Lib.hid (KO.out.below B46.out)
      have OT6 := Lib.hid (OT4.out.below B46.out)
      have B6 := Lib.hid (B4.out.trans (B46.out.mono B4.out.size))
      have N6 := Lib.hid O6.out.len
      clear KO OT4 B4 B46
      have MC := Lib.hid (rmac_any Av cv sec A6 c6 (retryT ++ L) w6 KO6.out.rd HSB.out (by rw [HS.out]; decide) O6.out.rd (retryT_byt.append HTB.out) (by rw [← N6.out, N6.out, List.length_append, HTL.out, HN.out]; show 13 + (13 + n) ≤ _; omega))
      rw [← N6.out, KN.out] at MC
      refine Calls.mono MC.out ?_
      have HMR : Hid (macR sec L = (macL sec (retryT ++ L)).take 16) := Lib.hid (by unfold macR; rfl)
      have HX := Lib.hid (macL_len sec (retryT ++ L))
      have HXB := Lib.hid (macL_byt sec (retryT ++ L))
      rw [HMR.out] at HTK
      generalize macL sec (retryT ++ L) = X at *
      rintro e w7 ⟨rfl, b7⟩
      have OT7 := Lib.hid (OT6.out.below b7)
      have B7 := Lib.hid (B6.out.trans (b7.mono B6.out.size))
      clear b7 MC KO6 OT6 B6 O6 HMR
      go_wp2_with ((with_reducible (show wpList _ _ _ (⟨none, .store 35 _ _, _, _, _, _⟩ :: _) _ _)); refine wpList_storeArr (o := ⟨none, .store 35 _ _, _, _, _, _⟩) (g := w7.heap.size) (t := 35) (k := .u8) (xs := X) (n := 32) rfl _ _ rfl rfl rfl (Blk.new _ _ _) size35 (HX.out.symm) rfl ?_; intro w8 ha8 hg8; have HA8 := Lib.hid ha8; have HG8 := Lib.hid hg8; clear ha8 hg8)
      have bz8 : Below w7.heap.size w7 w8 := ((Below.refl w7.heap.size w7).alloc (Nat.le_refl _) _).trans (below_of_only HG8.out (Nat.le_refl _) (by simp))
      have OT8 := Lib.hid (OT7.out.below bz8)
      have B8 := Lib.hid (B7.out.trans (bz8.mono B7.out.size))
      have LA : Hid (w7.heap.size < w8.heap.size) := Lib.hid HA8.out.lt
      have OT9 := Lib.hid (OT8.out.mono hz0)
      clear bz8 OT7 B7 HG8 OT8
      go_wp2_with fail
      obtain ⟨g8, hg8⟩ : ∃ z, w7.heap.size = z := ⟨_, rfl⟩
      rw [hg8] at HA8 ⊢
      clear hg8 LA
      go_loopw [9, 13] (fun v i wr => ∃ (k : Nat) (Av : Option Addr) (nv cv : Nat), k ≤ 16 ∧ i = .int .i64 k ∧ v = .slice Av nv cv ∧ Hid (Own w.heap.size 5 .u8 wr Av nv cv (L ++ X.take k)) ∧ Hid (Arr wr g8 35 .u8 X) ∧ Hid (Below w.heap.size w wr)) (fun _ i _ => 16 - (intOf i).toNat)
      case atStart => exact ⟨0, A27, n27, c27, by omega, rfl, rfl, Lib.hid (by rw [List.take_zero, List.append_nil]; exact OT9.out), HA8, B8⟩
      case round =>
        clear OT9 HA8 B8
        obtain ⟨k, Aw, nw, cw, hk, rfl, rfl, HO, HA, HBr⟩ := hrel
        have hzr2 := HBr.out.size
        by_cases hlt : k < 16
        · have hc := HA.out.cell (i := k) (by rw [HX.out]; omega)
          have HT := Lib.hid (take_snoc_getD (xs := X) (t := k) (by rw [HX.out]; omega))
          have hx := HXB.out.getD k
          have HTLN : Hid ((X.take k).length = k) := Lib.hid (by rw [List.length_take, HX.out]; omega)
          generalize X.getD k 0 = x at *
          obtain ⟨hx0, hx1⟩ := hx
          go_wp2_with (at_builtin; go_loud (refine wpList_app (o := ⟨some 53, _, _, _, _, _⟩) elC rfl _ _ rfl rfl rfl (HO.out.alloc _) (Rd.newAt (xs := [x]) rfl rfl) rfl ?_ ?_ ?_); (rw [List.length_append, HTL.out, HN.out, HTLN.out]; simp; omega); (simp; omega); intro A5 n5 c5 w5 h5; have H5 := Lib.hid h5; clear h5)
          have HNE := Lib.hid (own_ne (HO.out.alloc (.cells #[.int .u8 x] 5)) (Blk.alloc HA.out _) (by decide))
          refine ⟨⟨k + 1, A5, n5, c5, by omega, by go_num, rfl, Lib.hid (Own.cast H5.out.1 (by rw [HT.out, List.append_assoc])), Lib.hid (Arr.grown (HA.out.alloc _) H5.out.2.1 HNE.out), Lib.hid ((HBr.out.alloc hzr2 _).trans H5.out.2.2.1)⟩, ?_⟩
          simp [intOf]
          omega
        · obtain rfl : k = 16 := by omega
          go_wp2_with fail
          go_ret
          exact ⟨_, _, _, rfl, Own.cast HO.out HTK.out.symm, HBr.out⟩
end Go.Proofs.Ytieabfifaigjdaa
