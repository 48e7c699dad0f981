/- Layer 26: walk of the law CellCut. Conditions: as each theorem states them. -/
import Derived.Test.YtnagpaaiaaaamaaD19
import Derived.Test.YtnagpaaiaaaamaaQP
namespace Go.Proofs.Ytnagpaaiaaaamaa
open Go.RowKit
theorem slice_hc {P : Program} {t e : TypeId} {k : IntKind} {bytes : Nat} (E : ElT P t e k bytes) (A : Option Addr) (n c : Nat) (h : Int) (m : Nat) (h0 : m ≤ c) (hm : (m : Int) = h) (w : World) (kh : IntKind) :
    (Instr.sliceAt t (.slice A n c) none (some (.int kh h)) none).run P w = .ok (.slice A m c) w := by
  subst hm
  rw [run_sliceAt_slice _ _ _ _ _ _ (by rw [E.elem]; exact E.ht), run_slice_h _ _ _ _ _ (by rw [E.elem]; exact E.ht) kh m (by omega) (by omega), E.elem, E.size]
  have ha : A.map (·.add 0) = A := by rcases A with _ | ad <;> simp [Addr.add]
  simp [Result.andThen, sliced, ha]
attribute [local irreducible] CL.rcd CL.size greatN takeL
set_option maxRecDepth 100000 in
set_option maxHeartbeats 8000000 in
theorem cut26_walk (ep ow nx sn : Int) (A : Option Addr) (n cap : Nat) (ts : List Tx) (k cut : Int) (Ab : Option Addr) (cb : Nat) (bh : List Int) (w : World) (hc : CIn w.heap.size w A n cap ts) (hf : (cl_ ep ow nx sn ts).Fit) (hn : n ≤ 140737488355328) (hb : ∀ t ∈ ts, t.xs.length ≤ 140737488355328) (hr : rowsN (bsT ts) ≤ 1000000000000) (k0 : 0 ≤ k) (k1 : k < 18446744073709551616)
    (hrb : Rd w.heap.size .u8 w Ab bh) (hbb : Byt bh) (hlb : bh.length ≤ 140737488355328) :
    Calls Try.prog 5 #[.agg #[.int .u64 ep, .int .u8 ow, .int .u64 nx, .int .u64 sn, .slice A n cap], .int .u64 k, .int .i64 cut, .slice Ab bh.length cb] w fun e w' => e = .returned (.bool true) ∧ Below w.heap.size w w' := by
  obtain ⟨hl, hcp, htx, hby⟩ := hc
  subst hl
  have HC : Hid (CIn w.heap.size w A ts.length cap ts) := Lib.hid ⟨rfl, hcp, htx, hby⟩
  have HX : Hid (∀ x ∈ [(⟨ep, ow, nx, sn, A, cap, ts⟩ : CX)], x.ts.length ≤ 140737488355328 ∧ ∀ t ∈ x.ts, t.xs.length ≤ 140737488355328) := Lib.hid (fun x hx => by
    rw [List.mem_singleton] at hx
    subst hx
    exact ⟨hn, hb⟩)
  have HF := Lib.hid hf
  have HRB := Lib.hid hrb
  have HBB := Lib.hid hbb
  have HR := Lib.hid hr
  obtain ⟨nb, hnb⟩ : ∃ z, bh.length = z := ⟨_, rfl⟩
  rw [hnb] at hlb ⊢
  have HNB := Lib.hid hnb
  clear hb hf htx hby hcp hrb hbb hnb hr
  obtain ⟨nt, hnt⟩ : ∃ z, ts.length = z := ⟨_, rfl⟩
  rw [hnt] at HC hn ⊢
  have HNT := Lib.hid hnt
  clear hnt
  have Z0 : Hid (Blk (w.alloc (.cells #[.int .u64 ep, .int .u8 ow, .int .u64 nx, .int .u64 sn, .slice A nt cap] 25)) w.heap.size 25 #[.int .u64 ep, .int .u8 ow, .int .u64 nx, .int .u64 sn, .slice A nt cap]) := Lib.hid (Blk.new _ _ _)
  have B0 := Lib.hid ((Below.refl w.heap.size w).alloc (Nat.le_refl _) (.cells #[.int .u64 ep, .int .u8 ow, .int .u64 nx, .int .u64 sn, .slice A nt cap] 25))
  go_enter Try.func5, Try.ntmps5
  go_wp2_with fail
  generalize w.alloc (.cells #[.int .u64 ep, .int .u8 ow, .int .u64 nx, .int .u64 sn, .slice A nt cap] 25) = w0 at *
  refine Calls.mono (known26 _) ?_
  rintro e w1 ⟨rfl, b1⟩
  have Z1 := Lib.hid (Z0.out.below b1 Z0.out.lt)
  have B1 := Lib.hid (B0.out.trans (b1.mono B0.out.size))
  clear b1 Z0 B0
  have C1 := Lib.hid ((HC.out.below B1.out (Nat.le_refl _)).mono B1.out.size)
  go_wp2_with ((with_reducible (show wpList _ _ _ (⟨some 19, .load _ _, _, _, _, _⟩ :: _) _ _)); refine wpList_loadV (o := ⟨some 19, .load _ _, _, _, _, _⟩) rfl _ rfl rfl (cb_load Z1.out) ?_)
  by_cases hm : (cl_ ep ow nx sn ts).May
  · have HM := Lib.hid hm
    refine Calls.mono (cput_yes ep ow nx sn A nt cap ts k w1 C1.out HF.out hm k0 k1) ?_
    have HSM : Hid ((cl_ ep ow nx sn ts).size ≤ 16777216) := Lib.hid hm.2.2.2
    have HLN := Lib.hid (CL.rcd_len (cl_ ep ow nx sn ts) k)
    have HTK := Lib.hid (takeL_rcd (k := k) HF.out hm k0 k1)
    have HLB := Lib.hid (CL.rcd_byt HF.out k)
    have HCU := Lib.hid (fun (m : Nat) (h : m < ((cl_ ep ow nx sn ts).rcd k).length) => takeL_cut (k := k) HF.out hm h)
    have HMO := Lib.hid (fun (h : 0 < bh.length) => takeL_more (k := k) HF.out hm HBB.out h)
    have HCE : Hid ((cl_ ep ow nx sn ts).ep = ep ∧ (cl_ ep ow nx sn ts).ow = ow ∧ (cl_ ep ow nx sn ts).nx = nx ∧ (cl_ ep ow nx sn ts).sn = sn ∧ (cl_ ep ow nx sn ts).bs = bsT ts) := Lib.hid ⟨rfl, rfl, rfl, rfl, rfl⟩
    have HLL : Hid (((cl_ ep ow nx sn ts).rcd k).length ≤ 16777236) := Lib.hid (by rw [HLN.out]; have := HSM.out; omega)
    clear hm k0 k1 HSM HLN HM
    generalize (cl_ ep ow nx sn ts).rcd k = L at *
    generalize hcl : cl_ ep ow nx sn ts = cl at *
    clear hcl HF
    rintro e w2 ⟨A2, n2, c2, rfl, o2, b2⟩
    have O2 := Lib.hid o2
    have N2 := Lib.hid o2.len
    have Z2 := Lib.hid (Z1.out.below b2 Z1.out.lt)
    have B2 := Lib.hid (B1.out.trans (b2.mono B1.out.size))
    have HW1 : Hid (w.heap.size < w1.heap.size) := Lib.hid Z1.out.lt
    clear o2 b2 Z1 B1 C1
    have T2 : Hid (Blk (w2.alloc (.cells #[.int .u64 ep, .int .u8 ow, .int .u64 nx, .int .u64 sn, .slice A nt cap] 25)) w2.heap.size 25 #[.int .u64 ep, .int .u8 ow, .int .u64 nx, .int .u64 sn, .slice A nt cap]) := Lib.hid (Blk.new _ _ _)
    have b3 := (Below.refl w2.heap.size w2).alloc (Nat.le_refl _) (.cells #[.int .u64 ep, .int .u8 ow, .int .u64 nx, .int .u64 sn, .slice A nt cap] 25)
    have Z3 := Lib.hid (Z2.out.below b3 Z2.out.lt)
    have O3 := Lib.hid (O2.out.below b3)
    have B3 := Lib.hid (B2.out.trans (b3.mono B2.out.size))
    clear b3
    go_wp2_with ((with_reducible (show wpList _ _ _ (⟨some 24, .load _ _, _, _, _, _⟩ :: _) _ _)); refine wpList_loadV (o := ⟨some 24, .load _ _, _, _, _, _⟩) rfl _ rfl rfl (cb_load Z2.out) ?_)
    generalize hw3 : w2.alloc (.cells #[.int .u64 ep, .int .u8 ow, .int .u64 nx, .int .u64 sn, .slice A nt cap] 25) = w3 at *
    clear hw3 Z2 O2 B2
    have C3 := Lib.hid ((HC.out.below B3.out (Nat.le_refl _)).mono B3.out.size)
    refine Calls.mono (great_any (some ⟨w2.heap.size, 0, none⟩) 1 1 [⟨ep, ow, nx, sn, A, cap, ts⟩] w3 rfl (cxs_one _ (by have h := T2.out; simp only [CX.vs, HNT.out]; exact h) (by simp only [HNT.out]; exact C3.out)) (by decide) HX.out) ?_
    rintro e w4 ⟨rfl, rfl⟩
    clear T2 HX
    rcases hg : decide (20000 < greatN [(⟨ep, ow, nx, sn, A, cap, ts⟩ : CX)]) with _ | _
    · clear hg
      by_cases hb1 : 1000 < nb
      · have hb2 : (1000 : Int) < (nb : Int) := by omega
        go_wp2_with fail
        go_ret
        exact ⟨rfl, B3.out⟩
      have hb2 : decide ((1000 : Int) < (nb : Int)) = false := decide_eq_false (by omega)
      have hb3 : nb ≤ 1000 := by omega
      clear hb1
      go_wp2_with fail
      clear hb2
      have n2b : n2 ≤ 16777236 := by have h1 := N2.out; have h2 := HLL.out; omega
      have TK := ctake_any A2 n2 c2 L w3 N2.out.symm O3.out.cap.1 O3.out.rd HLB.out (by omega)
      rw [HTK.out] at TK
      refine Calls.mono TK ?_
      clear TK
      rintro e w4 ⟨A4, n4, c4, ts4, rfl, i4, f4, e4, b4⟩
      have Z4 := Lib.hid (Z3.out.below b4 Z3.out.lt)
      have O4 := Lib.hid (O3.out.below b4)
      have B4 := Lib.hid (B3.out.trans (b4.mono B3.out.size))
      have C4 := Lib.hid i4
      have E4 : Hid (bsT ts = bsT ts4) := Lib.hid (by rw [← HCE.out.2.2.2.2]; exact e4)
      obtain ⟨ce0, ce1, ce2, ce3, -⟩ := HCE.out
      rw [ce0, ce1, ce2, ce3]
      clear i4 f4 e4 b4 Z3 O3 B3 C3 ce0 ce1 ce2 ce3
      have GZ : Hid (w.heap.size < w4.heap.size) := Lib.hid Z4.out.lt
      go_wp2_with (first
        | ((have _g := Z5; clear _g); ((with_reducible (show wpList _ _ _ (⟨some 50, .load _ _, _, _, _, _⟩ :: _) _ _)); refine wpList_unguard rfl ?_; refine wpList_loadV (o := ⟨some 50, .load _ _, _, _, _, _⟩) rfl _ rfl rfl (cb_load Z5.out) ?_))
        | ((have _g := Z5; clear _g); ((with_reducible (show wpList _ _ _ (⟨some 51, .load _ _, _, _, _, _⟩ :: _) _ _)); refine wpList_unguard rfl ?_; refine wpList_loadV (o := ⟨some 51, .load _ _, _, _, _, _⟩) rfl _ rfl rfl (cb_load D5.out) ?_))
        | ((with_reducible (show wpList _ _ _ (⟨none, .store 25 _ _, _, _, _, _⟩ :: _) _ _)); go_loud (refine wpList_storeBlk (o := ⟨none, .store 25 _ _, _, _, _, _⟩) (g := w4.heap.size) (t := 25) (vs := [.int .u64 ep, .int .u8 ow, .int .u64 nx, .int .u64 sn, .slice A4 n4 c4]) rfl _ _ rfl rfl rfl (Blk.new _ _ _) rfl (one5 rfl rfl rfl rfl rfl) size5 ?_); intro w5 z5 g5; have G5 := Lib.hid (((Below.refl w4.heap.size w4).alloc (Nat.le_refl _) _).trans (below_of_only g5 (Nat.le_refl _) (by simp))); have D5 := Lib.hid z5; have Z5 := Lib.hid (Z4.out.below G5.out Z4.out.lt); have C5 := Lib.hid ((C4.out.below G5.out (Nat.le_refl _)).mono G5.out.size); have O5 := Lib.hid (O4.out.below G5.out); have B5 := Lib.hid (B4.out.trans (G5.out.mono B4.out.size)); clear z5 g5))
      clear Z4 O4 B4 C4 G5
      refine Calls.mono (csame_yes ep ow nx sn A nt cap ts A4 n4 c4 ts4 w5 ((HC.out.below B5.out (Nat.le_refl _)).mono B5.out.size) C5.out E4.out hn) ?_
      rintro e w6 ⟨rfl, b6⟩
      have O6 := Lib.hid (O5.out.below b6)
      have B6 := Lib.hid (B5.out.trans (b6.mono B5.out.size))
      clear b6 Z5 D5 C5 O5 B5 E4 GZ
      have HZ := Lib.hid B6.out.size
      -- what is left behind the bytes that stand behind it
      have REST : Hid (∀ (W : World), Own w1.heap.size 5 .u8 W A2 n2 c2 L → ∀ m : Nat, m < n2 → Calls Try.prog 19 #[.slice A2 m c2] W (TakeNo W)) := Lib.hid (fun W hO m hm => by
        have hl : (L.take m).length = m := by rw [List.length_take]; have := hO.len; omega
        have h := ctake_any A2 m c2 (L.take m) W hl (by have := hO.cap.1; omega) (rd_take hO.rd m) (HLB.out.take m) (by omega)
        rw [HCU.out m (by have := hO.len; omega)] at h
        exact h)
      have MOR : Hid (∀ (W : World) (A7 : Option Addr) (n7 c7 B : Nat), 0 < nb → nb ≤ 1000 → Own B 5 .u8 W A7 n7 c7 (L ++ bh) → Calls Try.prog 19 #[.slice A7 n7 c7] W (TakeNo W)) := Lib.hid (fun W A7 n7 c7 B h0 h1000 hO => by
        have h := ctake_any A7 n7 c7 (L ++ bh) W hO.len.symm hO.cap.1 hO.rd (HLB.out.append HBB.out) (by have h1 := hO.len; rw [List.length_append] at h1; have := HLL.out; have := HNB.out; omega)
        rw [HMO.out (by have := HNB.out; omega)] at h
        exact h)
      clear HTK HCU HMO HCE HLL
      have CP := Lib.hid O6.out.cap
      have PREB : Hid (Below w6.heap.size w6 (w6.alloc (.cells #[] 5))) := Lib.hid ((Below.refl w6.heap.size w6).alloc (Nat.le_refl _) _)
      have RDB := Lib.hid (HRB.out.below (B6.out.alloc B6.out.size (.cells #[] 5)) (Nat.le_refl _))
      have SLC := Lib.hid (fun (m : Nat) (hm2 : m < n2) (hm3 : n2 ≤ c2) (W : World) => slice_hc elC A2 n2 c2 (m : Int) m (by omega) rfl W .i64)
      rcases (show cut < 0 ∨ ((n2 : Int) ≤ cut ∧ 0 ≤ cut) ∨ ∃ m : Nat, (m : Int) = cut ∧ m < n2 by
        rcases Int.lt_or_le cut 0 with q | q
        · exact .inl q
        · rcases Int.lt_or_le cut (n2 : Int) with r | r
          · exact .inr (.inr ⟨cut.toNat, by omega, by omega⟩)
          · exact .inr (.inl ⟨r, q⟩)) with hcu | ⟨hcu, hcu2⟩ | ⟨m, rfl, hmn⟩
      · by_cases hb0 : 0 < nb
        · have hb4 : (0 : Int) < (nb : Int) := by omega
          go_wp2_with (first
            | (at_builtin; (have _g := H61; clear _g); refine wpList_app (o := ⟨some 63, _, _, _, _, _⟩) elC rfl _ _ rfl rfl rfl (Own.cast H61.out.1 (List.nil_append _)) (RDB.out.below H61.out.2.2.1 HZ.out) HNB.out.symm ?_ ?_ ?_; (rw [HNB.out, ← N2.out]; omega); exact Below.size B61.out; intro A63 n63 c63 w63 h63; have H63 := Lib.hid h63; have B63 := Lib.hid (Below.trans B61.out h63.2.2.1); clear h63)
            | (at_builtin; refine wpList_app (o := ⟨some 61, _, _, _, _, _⟩) elC rfl _ _ rfl rfl rfl (Own.litAt (xs := []) (by simp) rfl rfl (Nat.le_refl _) (by simp)) (O6.out.alloc _).rd N2.out ?_ ?_ ?_; (rw [List.length_nil, ← N2.out]; omega); exact Below.size PREB.out; intro A61 n61 c61 w61 h61; have H61 := Lib.hid h61; have B61 := Lib.hid (Below.trans PREB.out h61.2.2.1); clear h61))
          have O7 := Lib.hid (O6.out.below B63.out)
          have B7 := Lib.hid (B6.out.trans (B63.out.mono HZ.out))
          have TM := MOR.out w63 A63 n63 c63 _ hb0 hb3 H63.out.1
          clear O6 B6 H61 B61 B63 H63 RDB MOR
          refine Calls.mono TM ?_
          clear TM
          rintro e w8 ⟨rfl, b8⟩
          have O8 := Lib.hid (O7.out.below b8)
          have B8 := Lib.hid (B7.out.trans (b8.mono B7.out.size))
          clear b8 O7 B7
          go_wp2_with (first
            | ((with_reducible (show wpList _ _ _ (⟨none, .store 25 _ _, _, _, _, _⟩ :: _) _ _)); go_loud (refine wpList_storeBlk (o := ⟨none, .store 25 _ _, _, _, _, _⟩) (g := w8.heap.size) (t := 25) (vs := [.int .u64 0, .int .u8 0, .int .u64 0, .int .u64 0, .slice none 0 0]) rfl _ _ rfl rfl rfl (Blk.new _ _ _) rfl (one5 rfl rfl rfl rfl rfl) size5 ?_); intro w9 z9 g9; have G9 := Lib.hid (((Below.refl w8.heap.size w8).alloc (Nat.le_refl _) _).trans (below_of_only g9 (Nat.le_refl _) (by simp))); have O9 := Lib.hid (O8.out.below G9.out); have B9 := Lib.hid (B8.out.trans (G9.out.mono B8.out.size)); clear z9 g9 G9))
          go_ret
          exact ⟨rfl, B9.out⟩
        · have hb4 : decide ((0 : Int) < (nb : Int)) = false := decide_eq_false (by omega)
          go_wp2_with fail
          go_ret
          exact ⟨rfl, B6.out⟩
      · by_cases hb0 : 0 < nb
        · have hb4 : (0 : Int) < (nb : Int) := by omega
          have hcu3 : decide (cut < 0) = false := decide_eq_false (by omega)
          clear hcu2
          go_wp2_with (first
            | (at_builtin; (have _g := H61; clear _g); refine wpList_app (o := ⟨some 63, _, _, _, _, _⟩) elC rfl _ _ rfl rfl rfl (Own.cast H61.out.1 (List.nil_append _)) (RDB.out.below H61.out.2.2.1 HZ.out) HNB.out.symm ?_ ?_ ?_; (rw [HNB.out, ← N2.out]; omega); exact Below.size B61.out; intro A63 n63 c63 w63 h63; have H63 := Lib.hid h63; have B63 := Lib.hid (Below.trans B61.out h63.2.2.1); clear h63)
            | (at_builtin; refine wpList_app (o := ⟨some 61, _, _, _, _, _⟩) elC rfl _ _ rfl rfl rfl (Own.litAt (xs := []) (by simp) rfl rfl (Nat.le_refl _) (by simp)) (O6.out.alloc _).rd N2.out ?_ ?_ ?_; (rw [List.length_nil, ← N2.out]; omega); exact Below.size PREB.out; intro A61 n61 c61 w61 h61; have H61 := Lib.hid h61; have B61 := Lib.hid (Below.trans PREB.out h61.2.2.1); clear h61))
          have O7 := Lib.hid (O6.out.below B63.out)
          have B7 := Lib.hid (B6.out.trans (B63.out.mono HZ.out))
          have TM := MOR.out w63 A63 n63 c63 _ hb0 hb3 H63.out.1
          clear O6 B6 H61 B61 B63 H63 RDB MOR
          refine Calls.mono TM ?_
          clear TM
          rintro e w8 ⟨rfl, b8⟩
          have O8 := Lib.hid (O7.out.below b8)
          have B8 := Lib.hid (B7.out.trans (b8.mono B7.out.size))
          clear b8 O7 B7
          go_wp2_with (first
            | ((with_reducible (show wpList _ _ _ (⟨none, .store 25 _ _, _, _, _, _⟩ :: _) _ _)); go_loud (refine wpList_storeBlk (o := ⟨none, .store 25 _ _, _, _, _, _⟩) (g := w8.heap.size) (t := 25) (vs := [.int .u64 0, .int .u8 0, .int .u64 0, .int .u64 0, .slice none 0 0]) rfl _ _ rfl rfl rfl (Blk.new _ _ _) rfl (one5 rfl rfl rfl rfl rfl) size5 ?_); intro w9 z9 g9; have G9 := Lib.hid (((Below.refl w8.heap.size w8).alloc (Nat.le_refl _) _).trans (below_of_only g9 (Nat.le_refl _) (by simp))); have O9 := Lib.hid (O8.out.below G9.out); have B9 := Lib.hid (B8.out.trans (G9.out.mono B8.out.size)); clear z9 g9 G9))
          go_ret
          exact ⟨rfl, B9.out⟩
        · have hb4 : decide ((0 : Int) < (nb : Int)) = false := decide_eq_false (by omega)
          have hcu3 : decide (cut < 0) = false := decide_eq_false (by omega)
          clear hcu2
          go_wp2_with fail
          go_ret
          exact ⟨rfl, B6.out⟩
      · by_cases hb0 : 0 < nb
        · have hb4 : (0 : Int) < (nb : Int) := by omega
          have hcu3 : decide ((m : Int) < 0) = false := decide_eq_false (by omega)
          have hcu4 : decide ((n2 : Int) ≤ (m : Int)) = false := decide_eq_false (by omega)
          go_wp2_with (first
            | (at_builtin; (have _g := H61; clear _g); refine wpList_app (o := ⟨some 63, _, _, _, _, _⟩) elC rfl _ _ rfl rfl rfl (Own.cast H61.out.1 (List.nil_append _)) (RDB.out.below H61.out.2.2.1 HZ.out) HNB.out.symm ?_ ?_ ?_; (rw [HNB.out, ← N2.out]; omega); exact Below.size B61.out; intro A63 n63 c63 w63 h63; have H63 := Lib.hid h63; have B63 := Lib.hid (Below.trans B61.out h63.2.2.1); clear h63)
            | (at_builtin; refine wpList_app (o := ⟨some 61, _, _, _, _, _⟩) elC rfl _ _ rfl rfl rfl (Own.litAt (xs := []) (by simp) rfl rfl (Nat.le_refl _) (by simp)) (O6.out.alloc _).rd N2.out ?_ ?_ ?_; (rw [List.length_nil, ← N2.out]; omega); exact Below.size PREB.out; intro A61 n61 c61 w61 h61; have H61 := Lib.hid h61; have B61 := Lib.hid (Below.trans PREB.out h61.2.2.1); clear h61))
          have O7 := Lib.hid (O6.out.below B63.out)
          have B7 := Lib.hid (B6.out.trans (B63.out.mono HZ.out))
          have TM := MOR.out w63 A63 n63 c63 _ hb0 hb3 H63.out.1
          clear O6 B6 H61 B61 B63 H63 RDB MOR
          refine Calls.mono TM ?_
          clear TM
          rintro e w8 ⟨rfl, b8⟩
          have O8 := Lib.hid (O7.out.below b8)
          have B8 := Lib.hid (B7.out.trans (b8.mono B7.out.size))
          clear b8 O7 B7
          have slc := SLC.out m hmn CP.out.1
          go_wp2_with (first
            | ((with_reducible (show wpList _ _ _ (⟨none, .store 25 _ _, _, _, _, _⟩ :: _) _ _)); go_loud (refine wpList_storeBlk (o := ⟨none, .store 25 _ _, _, _, _, _⟩) (g := w8.heap.size) (t := 25) (vs := [.int .u64 0, .int .u8 0, .int .u64 0, .int .u64 0, .slice none 0 0]) rfl _ _ rfl rfl rfl (Blk.new _ _ _) rfl (one5 rfl rfl rfl rfl rfl) size5 ?_); intro w9 z9 g9; have G9 := Lib.hid (((Below.refl w8.heap.size w8).alloc (Nat.le_refl _) _).trans (below_of_only g9 (Nat.le_refl _) (by simp))); have O9 := Lib.hid (O8.out.below G9.out); have B9 := Lib.hid (B8.out.trans (G9.out.mono B8.out.size)); clear z9 g9 G9))
          clear slc
          refine Calls.mono (REST.out w9 O9.out m hmn) ?_
          rintro e w20 ⟨rfl, b20⟩
          have B20 := Lib.hid (B9.out.trans (b20.mono B9.out.size))
          clear b20
          go_wp2_with fail
          go_ret
          exact ⟨rfl, B20.out⟩
        · have hb4 : decide ((0 : Int) < (nb : Int)) = false := decide_eq_false (by omega)
          have hcu3 : decide ((m : Int) < 0) = false := decide_eq_false (by omega)
          have hcu4 : decide ((n2 : Int) ≤ (m : Int)) = false := decide_eq_false (by omega)
          have slc := SLC.out m hmn CP.out.1
          go_wp2_with fail
          clear slc
          refine Calls.mono (REST.out w6 O6.out m hmn) ?_
          rintro e w20 ⟨rfl, b20⟩
          have B20 := Lib.hid (B6.out.trans (b20.mono B6.out.size))
          clear b20
          go_wp2_with fail
          go_ret
          exact ⟨rfl, B20.out⟩
    · clear hg
      go_wp2_with fail
      go_ret
      exact ⟨rfl, B3.out⟩
  · refine Calls.mono (cput_no ep ow nx sn A nt cap ts k w1 C1.out HR.out hm) ?_
    rintro e w2 ⟨rfl, b2⟩
    have Z2 := Lib.hid (Z1.out.below b2 Z1.out.lt)
    have B2 := Lib.hid (B1.out.trans (b2.mono B1.out.size))
    clear b2 Z1 B1 C1 hm k0 k1
    have T2 : Hid (Blk (w2.alloc (.cells #[.int .u64 ep, .int .u8 ow, .int .u64 nx, .int .u64 sn, .slice A nt cap] 25)) w2.heap.size 25 #[.int .u64 ep, .int .u8 ow, .int .u64 nx, .int .u64 sn, .slice A nt cap]) := Lib.hid (Blk.new _ _ _)
    have b3 := (Below.refl w2.heap.size w2).alloc (Nat.le_refl _) (.cells #[.int .u64 ep, .int .u8 ow, .int .u64 nx, .int .u64 sn, .slice A nt cap] 25)
    have B3 := Lib.hid (B2.out.trans (b3.mono B2.out.size))
    clear b3
    go_wp2_with ((with_reducible (show wpList _ _ _ (⟨some 24, .load _ _, _, _, _, _⟩ :: _) _ _)); refine wpList_loadV (o := ⟨some 24, .load _ _, _, _, _, _⟩) rfl _ rfl rfl (cb_load Z2.out) ?_)
    generalize hw3 : w2.alloc (.cells #[.int .u64 ep, .int .u8 ow, .int .u64 nx, .int .u64 sn, .slice A nt cap] 25) = w3 at *
    clear hw3
    have C3 := Lib.hid ((HC.out.below B3.out (Nat.le_refl _)).mono B3.out.size)
    refine Calls.mono (great_any (some ⟨w2.heap.size, 0, none⟩) 1 1 [⟨ep, ow, nx, sn, A, cap, ts⟩] w3 rfl (cxs_one _ (by have h := T2.out; simp only [CX.vs, HNT.out]; exact h) (by simp only [HNT.out]; exact C3.out)) (by decide) HX.out) ?_
    rintro e w4 ⟨rfl, rfl⟩
    clear T2 HX
    rcases hg : decide (20000 < greatN [(⟨ep, ow, nx, sn, A, cap, ts⟩ : CX)]) with _ | _
    all_goals
      clear hg
      go_wp2_with fail
      go_ret
      exact ⟨rfl, B3.out⟩
end Go.Proofs.Ytnagpaaiaaaamaa
