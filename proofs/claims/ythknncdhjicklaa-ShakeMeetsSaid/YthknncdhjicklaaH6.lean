/- Layer 21: contracts of sum, mac, notes. Conditions: as each theorem states them. -/
import Derived.Test.YthknncdhjicklaaH5
namespace Go.Proofs.Ythknncdhjicklaa
open Go.RowKit
set_option maxRecDepth 100000 in
set_option maxHeartbeats 4000000 in
theorem ssum_any (g : Nat) (p : PS) (vp vq v0 v1 vt : Value) (A : Option Addr) (n c : Nat) (ts : List Tx) (w : World) (h : ShB g w p vp vq v0 v1 vt) (hr : Txs w.heap.size w A ts) (hn : n = ts.length) (hb : BytT ts) (hl : (joinT ts).length ≤ 1000000) (hn2 : n ≤ 1000000) (ht : p.tr.length ≤ 1000000) :
    Calls Try.prog 29 #[.pointer (some ⟨g, 0, none⟩), .slice A n c] w (SliPost (shaL (p.tr ++ joinT ts)) w) := by
  obtain ⟨q0, q1, q2, q3, q4⟩ := h.c5
  obtain ⟨At, ct, hvt, hct, hrt⟩ := h.tr.form
  subst hvt
  have HT := Lib.hid hrt
  have HB := Lib.hid hb
  have HTB := Lib.hid h.ok.btr
  have HR := Lib.hid hr
  have HL := Lib.hid hn
  clear q0 q1 q2 q3 h hrt hb hr hn
  generalize p.tr = T at *
  have L1 : Hid (OwnT w.heap.size (w.alloc (.cells #[.slice At T.length ct] 23)) (some ⟨w.heap.size, 0, none⟩) 1 1 [⟨At, ct, T⟩]) := Lib.hid (OwnT.litAt rfl (by simp [txV]) rfl (Nat.le_refl _) (by simp [maxLen]))
  have T1 : Hid (Txs w.heap.size (w.alloc (.cells #[.slice At T.length ct] 23)) A ts) := Lib.hid (HR.out.below ((Below.refl w.heap.size w).alloc (Nat.le_refl _) _) (Nat.le_refl _))
  have z1 : w.heap.size ≤ (w.alloc (.cells #[.slice At T.length ct] 23)).heap.size := by simp
  go_enter Try.func29, Try.ntmps29
  go_wp2_with (at_builtin; refine wpList_appTx (o := ⟨some 13, _, _, _, _, _⟩) rfl _ _ rfl rfl rfl L1.out T1.out HL.out ?_ z1 ?_; (have := HL.out; simp only [List.length_cons, List.length_nil]; omega); intro A4 n4 c4 w2 q1 q2; have O2 := Lib.hid q1; have B2 := Lib.hid (((Below.refl w.heap.size w).alloc (Nat.le_refl _) _).trans q2); clear q1 q2)
  have O2' : Hid (OwnT w.heap.size w2 A4 n4 c4 (⟨At, ct, T⟩ :: ts)) := O2
  obtain rfl := O2'.out.2
  refine Calls.mono (sum_any A4 c4 (⟨At, ct, T⟩ :: ts) _ (txs_of_own O2'.out ?_) (BytT.cons HTB.out HB.out) (by rw [join_cons, List.length_append]; show T.length + _ ≤ _; omega) (by have := HL.out; rw [List.length_cons]; omega)) ?_
  · intro t ht
    rcases List.mem_cons.1 ht with rfl | ht
    · exact ⟨(HT.out.below B2.out (Nat.le_refl _)).mono B2.out.size, hct⟩
    · obtain ⟨h1, h2⟩ := HR.out.each t ht
      exact ⟨(h1.below B2.out (Nat.le_refl _)).mono B2.out.size, h2⟩
  rintro e w3 ⟨rfl, hb3⟩
  rw [join_cons]
  simp only
  have B3 := Lib.hid (B2.out.trans (hb3.mono B2.out.size))
  have hX : Hid ((shaL (T ++ joinT ts)).length = 32) := Lib.hid (shaL_len _)
  clear hb3 L1 T1 O2 O2' B2 HT HR HTB HB
  generalize shaL (T ++ joinT ts) = X at *
  go_wp2_with ((with_reducible (show wpList _ _ _ (⟨none, .store 22 _ _, _, _, _, _⟩ :: _) _ _)); refine wpList_storeArr (o := ⟨none, .store 22 _ _, _, _, _, _⟩) (g := w3.heap.size) (t := 22) (k := .u8) (xs := X) (n := 32) rfl _ _ rfl rfl rfl (Blk.new _ _ _) size32 (hX.out.symm) rfl ?_; intro w4 ha4 hg4; have HA4 := Lib.hid ha4; have HG4 := Lib.hid hg4; clear ha4 hg4)
  have B4 := Lib.hid ((B3.out.alloc B3.out.size _).trans (below_of_only HG4.out B3.out.size (by have := B3.out.size; simp; omega)))
  go_ret
  exact ⟨_, _, _, rfl, hX.out.symm, Nat.le_refl _, HA4.out.rd, B4.out⟩
theorem al32 (o : Oper) (ho : o.op = .alloc 22) (ρ : Operand → Value) (w : World) : (execOp ρ o).run Try.prog w = .ok (.value (ptr0 w.heap.size)) (w.alloc (.cells (cellsL .u8 (zer 32)) 22)) := by
  obtain ⟨d, op, ty, p, af, g⟩ := o
  simp only at ho
  subst ho
  have h : ∀ w, (zeroValue 22).run Try.prog w = .ok (.agg (cellsL .u8 (zer 32))) w := fun w => by kernel_rfl
  unfold execOp
  simp [Instr.alloc, h, go_sem]
  rfl
def sFin : ByteArray := ⟨#[102, 105, 110, 105, 115, 104, 101, 100]⟩
/-- a side's proof that it knows the secret -/
def proL (S T : List Int) : List Int := macL (secL S sFin []) (shaL T)
theorem proL_len (S T : List Int) : (proL S T).length = 32 := macL_len _ _
theorem proL_byt (S T : List Int) : Byt (proL S T) := macL_byt _ _
set_option maxRecDepth 100000 in
set_option maxHeartbeats 4000000 in
theorem smac_any (g : Nat) (p : PS) (vp vq v0 v1 vt : Value) (S : List Int) (A : Option Addr) (n c : Nat) (ts : List Tx) (w : World) (h : ShB g w p vp vq v0 v1 vt) (hS : S.length = 32) (hSb : Byt S) (hr : Txs w.heap.size w A ts) (hn : n = ts.length) (hb : BytT ts) (hl : (joinT ts).length ≤ 1000000) (hn2 : n ≤ 1000000) (ht : p.tr.length ≤ 1000000) :
    Calls Try.prog 23 #[.pointer (some ⟨g, 0, none⟩), .agg (cellsL .u8 S), .slice A n c] w (SliPost (proL S (p.tr ++ joinT ts)) w) := by
  have HS := Lib.hid hS
  have HSB := Lib.hid hSb
  have H0 := Lib.hid h
  have HR := Lib.hid hr
  have HB := Lib.hid hb
  have HN := Lib.hid hn
  have HP : Hid (macL (secL S sFin []) (shaL (p.tr ++ joinT ts)) = proL S (p.tr ++ joinT ts)) := Lib.hid rfl
  have HPL := Lib.hid (proL_len S (p.tr ++ joinT ts))
  clear h hS hSb hr hn hb
  go_enter Try.func23, Try.ntmps23
  go_wp2_with ((with_reducible (show wpList _ _ _ (⟨some 9, .load _ _, _, _, _, _⟩ :: _) _ _)); refine wpList_loadV (o := ⟨some 9, .load _ _, _, _, _, _⟩) rfl _ rfl rfl (arr_load (Arr.newAt rfl rfl) Try.underlying22 size32 HS.out.symm) ?_)
  refine Calls.mono (secret_any S sFin none 0 0 [] _ HS.out HSB.out Rd.nil rfl Byt.nil (by omega) (by decide)) ?_
  rintro e w1 ⟨rfl, hb1⟩
  have B1 := Lib.hid (((Below.refl w.heap.size w).alloc (Nat.le_refl _) _).trans (hb1.mono (by simp)))
  have K1 : Hid ((secL S sFin []).length = 32) := Lib.hid (secL_len S sFin [] (by decide) (by simp))
  have KB1 := Lib.hid (secL_byt S sFin [])
  clear hb1
  generalize secL S sFin [] = K at *
  go_wp2_with ((with_reducible (show wpList _ _ _ (⟨none, .store 22 _ _, _, _, _, _⟩ :: _) _ _)); refine wpList_storeArr (o := ⟨none, .store 22 _ _, _, _, _, _⟩) (g := w1.heap.size) (t := 22) (k := .u8) (xs := K) (n := 32) rfl _ _ rfl rfl rfl (Blk.new _ _ _) size32 (K1.out.symm) rfl ?_; intro w2 ha2 hg2; have HA2 := Lib.hid ha2; have HG2 := Lib.hid hg2; clear ha2 hg2)
  have B2 := Lib.hid ((B1.out.alloc B1.out.size _).trans (below_of_only HG2.out B1.out.size (by have := B1.out.size; simp; omega)))
  have hgl : w.heap.size ≤ w1.heap.size := B1.out.size
  obtain ⟨gk, hgk⟩ : ∃ z, w1.heap.size = z := ⟨_, rfl⟩
  rw [hgk] at HA2 hgl ⊢
  clear hgk HG2 B1
  refine wp_region_mixVB [⟨6, 8, 22, cellsL .u8 (zer 32)⟩] 7 [([0, 1, 2], 3), ([], 4), ([], 5)] (by kernel_rfl) (by kernel_rfl) (by kernel_rfl) (by kernel_rfl) (by kernel_rfl) (by kernel_rfl) (by kernel_rfl) (by kernel_rfl) (by kernel_rfl) ?_ ?_
  · refine ⟨⟨by decide, _, rfl, ?_⟩, trivial⟩
    exact ⟨rfl, rfl, by kernel_rfl, al32 _ rfl⟩
  simp only [put_none, pickL, List.map_cons, List.map_nil, List.filterMap_cons, List.filterMap_nil, List.getElem?_cons_succ, List.getElem?_cons_zero]
  refine mixV_cons ?_
  repeat (show wpQuiet _ _ _ _ (_ :: _) _; go_big_quiet_step (fail))
  refine wpQuiet_nil ?_
  rintro x0 ⟨r0, rfl⟩
  show wpList _ _ _ [_] _ _
  go_wp2_with fail
  have X0 := Lib.hid (B2.out.trans (r0.below.mono B2.out.size))
  refine Calls.mono (ssum_any g p vp vq v0 v1 vt A n c ts _ (H0.out.below X0.out) ((HR.out.below X0.out (Nat.le_refl _)).mono X0.out.size) HN.out HB.out hl hn2 ht) ?_
  rintro e x1 ⟨A3, n3, c3, rfl, hn3, hc3, hr3, hb1⟩
  have R3 := Lib.hid hr3
  have X1 := Lib.hid (r0.below.trans (hb1.mono r0.below.size))
  have HX : Hid ((shaL (p.tr ++ joinT ts)).length = 32) := Lib.hid (shaL_len _)
  have HXB := Lib.hid (shaL_byt (p.tr ++ joinT ts))
  rw [HX.out] at hn3
  subst hn3
  clear hr3 X0
  generalize shaL (p.tr ++ joinT ts) = X at *
  go_wp2_with fail
  refine MixV.bw r0.below r0.below.size hb1 ?_
  clear hb1
  refine mixV_cons ?_
  refine wpQuiet_nil ?_
  rintro x2 ⟨r2, rfl⟩
  have X2 := Lib.hid (X1.out.trans (r2.below.mono X1.out.size))
  have R4 := Lib.hid (R3.out.below r2.below (Nat.le_refl _))
  have hz2 := r2.below.size
  show wpList _ _ _ [_] _ _
  go_wp2_with fail
  have T4 : Hid (Txs (r2.world.alloc (.cells #[.slice A3 32 c3] 23)).heap.size (r2.world.alloc (.cells #[.slice A3 32 c3] 23)) (some ⟨r2.world.heap.size, 0, none⟩) [⟨A3, c3, X⟩]) := Lib.hid (Txs.newAt rfl (by simp [txV, HX.out]) (fun t ht => by
    simp only [List.mem_cons, List.not_mem_nil, or_false] at ht
    subst ht
    exact ⟨R4.out.mono hz2, by show X.length ≤ c3; rw [HX.out]; exact hc3⟩))
  have E4 := (Below.refl r2.world.heap.size r2.world).alloc (Nat.le_refl _) (.cells #[.slice A3 32 c3] 23)
  have Y4 := Lib.hid (X2.out.trans (E4.mono X2.out.size))
  have S4 : Hid (some (⟨r2.world.heap.size, 0, none⟩ : Addr) = some ⟨r2.world.heap.size, 0, none⟩) := Lib.hid rfl
  refine MixV.bw r2.below r2.below.size E4 ?_
  refine mixV_cons ?_
  refine wpQuiet_nil ?_
  rintro x5 ⟨r5, rfl⟩
  have X5 := Lib.hid (Y4.out.trans (r5.below.mono Y4.out.size))
  have T5 := Lib.hid ((T4.out.below r5.below (Nat.le_refl _)).mono r5.below.size)
  clear T4 S4
  show wpList _ _ _ [_] _ _
  go_wp2_with fail
  have MA := mac_any (some ⟨gk, 0, none⟩) 32 K (some ⟨r2.world.heap.size, 0, none⟩) 1 [⟨A3, c3, X⟩] r5.world ((HA2.out.belowAll X5.out).rd) KB1.out (by rw [K1.out]; exact Nat.le_refl _) (by rw [K1.out]; omega) T5.out (fun t ht => by
    simp only [List.mem_cons, List.not_mem_nil, or_false] at ht
    subst ht
    exact HXB.out) (by simp [joinT, HX.out]) (by simp)
  rw [K1.out, show joinT [(⟨A3, c3, X⟩ : Tx)] = X by simp [joinT], HP.out] at MA
  refine Calls.mono MA ?_
  clear MA
  rintro e x6 ⟨rfl, hb6⟩
  have X6 := Lib.hid (X5.out.trans (hb6.mono X5.out.size))
  clear X5 T5 X2 Y4 R3 R4 E4
  generalize proL S (p.tr ++ joinT ts) = Y at *
  go_wp2_with fail
  refine MixV.bw r5.below r5.below.size hb6 ?_
  refine mixV_nil ?_
  rintro x7 ⟨r7, rfl⟩
  intro γ hγ hd
  obtain ⟨g4, e4, hN4, hB4⟩ := hγ _ (List.mem_cons_self ..)
  simp only at e4 hB4
  simp only [putsA, step1, e4, List.drop_succ_cons, List.drop_zero, Act.put, ptr0, List.setIfInBounds_toArray, List.set_cons_zero, List.set_cons_succ]
  have X7 := Lib.hid (X6.out.trans (r7.below.mono X6.out.size))
  have Z7 := Lib.hid hB4
  clear hB4 hb6 hγ hd e4 X6 X1
  go_wp2_with ((with_reducible (show wpList _ _ _ (⟨none, .store 22 _ _, _, _, _, _⟩ :: _) _ _)); refine wpList_storeArr (o := ⟨none, .store 22 _ _, _, _, _, _⟩) (g := g4) (t := 22) (k := .u8) (xs := Y) (n := 32) rfl _ _ rfl rfl rfl Z7.out size32 HPL.out.symm rfl ?_; intro w8 ha8 hg8; have A8 := Lib.hid ha8; have B8 := Lib.hid (X7.out.trans (below_of_only hg8 hN4 X7.out.size)); clear ha8 hg8)
  refine NoPanic.normal ?_
  have B9 := Lib.hid (B2.out.trans (B8.out.mono B2.out.size))
  clear B8 X7 Z7 H0 HR B2
  go_wp2_with fail
  go_ret
  exact ⟨_, _, _, rfl, HPL.out.symm, Nat.le_refl _, A8.out.rd, B9.out⟩
end Go.Proofs.Ythknncdhjicklaa
