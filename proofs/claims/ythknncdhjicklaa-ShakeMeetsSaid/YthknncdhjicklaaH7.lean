/- Layer 21: contracts of notes, handshake. Conditions: as each theorem states them. -/
import Derived.Test.YthknncdhjicklaaH6
import Derived.Deep.DeepCutAuto
namespace Go.Proofs.Ythknncdhjicklaa
open Go.RowKit
theorem rd_cells {B : Nat} {k : IntKind} {w : World} {ad : Addr} {xs : List Int} (h : Rd B k w (some ad) xs) : ∀ j u, (xs.map (Value.int k))[j]? = some u → w.cell? (ad.add j) = some u := fun j u hu => by
  rw [List.getElem?_map] at hu
  rcases Nat.lt_or_ge j xs.length with q | q
  · obtain ⟨ad', e, _, hc⟩ := h j q
    injection e with e
    subst e
    rw [hc, ← hu, List.getElem?_eq_getElem q, List.getD_eq_getElem?_getD, List.getElem?_eq_getElem q]
    rfl
  · rw [List.getElem?_eq_none q] at hu; cases hu
/-- an append to a slice without room: the row that it makes is the call's own -/
theorem wpList_appF {P : Program} {t e : TypeId} {k : IntKind} {bytes B1 B2 : Nat} {w : World} {ad : Addr} {A2 : Option Addr} {n cap m c2 : Nat} {xs ys : List Int} {ops : Array Oper} {rest : List Oper} {o : Oper} {a : Act} {Q : Exit → Act → World → Prop}
    (E : ElT P t e k bytes) (hgd : o.guard = none) (s x : Operand) (hop : o.op = .call { callee := .builtin .append, args := #[s, x], argTypes := #[t, t] })
    (hs : a.eval s = .slice (some ad) n cap) (hx : a.eval x = .slice A2 m c2) (r1 : Rd B1 k w (some ad) xs) (hn : n = xs.length) (r2 : Rd B2 k w A2 ys) (hm : m = ys.length) (h0 : 0 < m) (hfull : cap < n + m) (hl : xs.length + ys.length ≤ 17592186044416)
    (h : ∀ A' n' c' w', Own w.heap.size e k w' A' n' c' (xs ++ ys) → Below w.heap.size w w' → wpList P ops Q rest (a.put o.dst (.slice A' n' c')) w') : wpList P ops Q (o :: rest) a w := by
  obtain ⟨i, hi, hz, hsz, hby⟩ := info_parts E.info
  obtain ⟨ad2, e2, _, _⟩ := r2 0 (by omega)
  subst e2
  refine wpList_append_grows w hgd s x t hop e i (.int k 0) 1 bytes E.ht hi hz hsz hby rfl (by decide) (some ad) n cap (xs.map (Value.int k)) hs (fun q => by cases q) (by simp [hn]) (fun b q => by injection q with q; subst q; exact rd_cells r1)
    ad2 m c2 (ys.map (Value.int k)) hx (by simp [hm]) (rd_cells r2) (ints_oneCell k ys) hfull (by unfold maxLen; omega) (Nat.le_trans (Nat.mul_le_mul (show n + m ≤ 17592186044416 by omega) E.most) (by decide)) (fun v' w' ho hg => ?_)
  obtain ⟨A', c', hv⟩ : ∃ A' c', v' = .slice A' (n + m) c' := by
    rcases ho.2 with ⟨hv, hz0⟩ | ⟨g, cap', cur, hv, _⟩
    · omega
    · exact ⟨_, _, hv⟩
  subst hv
  refine h A' (n + m) c' w' ⟨by rw [List.map_append]; exact ho, by rw [List.length_append, hn, hm]⟩ ⟨hg.os, hg.tape, hg.output, hg.size, fun i hi => hg.block i hi (fun q => by cases q)⟩
set_option maxRecDepth 100000 in
set_option maxHeartbeats 4000000 in
theorem notes_any (g : Nat) (p : PS) (vp vq v0 v1 vt : Value) (A : Option Addr) (n c : Nat) (X : List Int) (w : World) (h : ShB g w p vp vq v0 v1 vt) (hr : Rd w.heap.size .u8 w A X) (hn : X.length = n) (hb : Byt X) (hl : n ≤ 1000000) (ht : p.tr.length ≤ 1000000) :
    Calls Try.prog 21 #[.pointer (some ⟨g, 0, none⟩), .slice A n c] w fun e w' => ∃ vt', e = .returned (.tuple #[]) ∧ ShB g w' { p with tr := p.tr ++ X } vp vq v0 v1 vt' ∧ w.grownBy w' (some g) := by
  obtain ⟨q0, q1, q2, q3, q4⟩ := h.c5
  obtain ⟨At, ct, hvt, hct, hrt⟩ := h.tr.form
  subst hvt
  have H0 := Lib.hid h
  have HR := Lib.hid hr
  have HN := Lib.hid hn
  have HT := Lib.hid hrt
  have HB := Lib.hid (h.ok.btr.append hb)
  subst hn
  clear q0 q1 q2 q3 h hr hrt hb
  go_enter Try.func21, Try.ntmps21
  go_wp2_with fail
  refine Calls.mono (clone_n At ct _ p.tr w HT.out rfl (by omega)) ?_
  rintro e w1 ⟨A1, n1, c1, rfl, o1, b1⟩
  have O1 := Lib.hid o1
  have B1 := Lib.hid b1
  have R1 := Lib.hid ((HR.out.below b1 (Nat.le_refl _)).mono b1.size)
  have hn1 : n1 ≤ 1000000 := by have := o1.len; omega
  have H1 := Lib.hid (H0.out.below b1)
  have z1 := H1.out.lt
  have f1 := H1.out.fz 102
  clear o1 b1 q4
  go_wp2_with (first
    | ((at_builtin; refine wpList_app (o := ⟨some 12, _, _, _, _, _⟩) elC rfl _ _ rfl rfl rfl O1.out R1.out rfl ?_ ?_ ?_; (have := O1.out.len; omega); exact B1.out.size; intro A2 n2 c2 w2 h2; have HA2 := Lib.hid h2; have B2 := Lib.hid (B1.out.trans h2.2.2.1); have H2 := Lib.hid (H0.out.below B2.out); have f2 := H2.out.fz 102; have d2 := H2.out.c5.2.2.2.2; clear h2)))
  have H3 := H2.out.set_tr (SlT.own HA2.out.1) HB.out
  exact bodyPost_end (results_none rfl _ _ _) rfl ⟨_, rfl, H3, only_setCell (only_of_below B2.out (some g)) (.inl rfl) _⟩
/-- the secret that the others are expanded of -/
def hsL (psk cr sr : List Int) : List Int := macL (macL [] psk) (cr ++ sr)
theorem hsL_len (psk cr sr : List Int) : (hsL psk cr sr).length = 32 := macL_len _ _
theorem hsL_byt (psk cr sr : List Int) : Byt (hsL psk cr sr) := macL_byt _ _
def PS.hs (p : PS) : List Int := if p.sv then hsL p.psk p.peer p.rnd else hsL p.psk p.rnd p.peer
set_option maxRecDepth 100000 in
set_option maxHeartbeats 4000000 in
theorem handshake_any (g : Nat) (p : PS) (vp vq v0 v1 vt : Value) (w : World) (h : ShB g w p vp vq v0 v1 vt) :
    Calls Try.prog 27 #[.pointer (some ⟨g, 0, none⟩)] w (ArrPost p.hs w) := by
  have E0 := (Below.refl w.heap.size w).alloc (Nat.le_refl _) (.cells (cellsL .u8 (zer 32)) 22)
  have H0 := Lib.hid (h.below E0)
  have Z0 : Hid (Blk (w.alloc (.cells (cellsL .u8 (zer 32)) 22)) w.heap.size 22 (cellsL .u8 (zer 32))) := Lib.hid (Blk.new _ _ _)
  have HOK : Hid (p.rnd.length = 32 ∧ p.peer.length = 32) := Lib.hid ⟨h.ok.rnd, h.ok.peer⟩
  have HS : Hid ((w.alloc (.cells (cellsL .u8 (zer 32)) 22)).heap.size = w.heap.size + 1) := Lib.hid (by simp)
  have B0 := Lib.hid E0
  clear h E0
  go_enter Try.func27, Try.ntmps27
  go_upto_region 1 with fail
  show Code.wp _ _ _ _ (w.alloc (.cells (cellsL .u8 (zer 32)) 22))
  generalize w.alloc (.cells (cellsL .u8 (zer 32)) 22) = w0 at *
  obtain ⟨g2, hg2⟩ : ∃ z, w.heap.size = z := ⟨_, rfl⟩
  rw [hg2] at Z0 ⊢
  have HG2 := Lib.hid hg2
  clear hg2
  go_cut [3, 4] from 6 (fun v3 v4 wx => ∃ g3 g4 : Nat, v3 = .pointer (some ⟨g3, 0, none⟩) ∧ v4 = .pointer (some ⟨g4, 0, none⟩) ∧ g3 ≠ g4 ∧ w0.heap.size ≤ g3 ∧ w0.heap.size ≤ g4 ∧ Hid (Arr wx g3 22 .u8 p.rnd) ∧ Hid (Arr wx g4 22 .u8 p.peer) ∧ Hid (Below w0.heap.size w0 wx))
  case first =>
    refine wp_region_sig (fun v => Below w0.heap.size w0 v) (.two [0, 1, 2, 3, 4, 5, 6, 7, 8, 9] 10 (.one [] 11 (.one [] 12 (.one [] 13 (.fin [])))) 11 (.one [] 10 (.one [] 12 (.one [] 13 (.fin []))))) (by kernel_rfl) (by kernel_rfl) (by kernel_rfl) (by kernel_rfl) (Below.refl _ _).drew ?_
    have hne : Nonempty (CW (fun v => Below w0.heap.size w0 v)) := CW.inh (w := w0) (Below.refl _ _)
    refine mixT_two ?_
    simp only [pickL, List.filterMap_cons, List.filterMap_nil, List.getElem?_cons_succ, List.getElem?_cons_zero]
    show wpQuiet _ _ _ _ (_ :: _) _
    go_big_quiet_step (fail)
    show wpQuiet _ _ _ _ (_ :: _) _
    go_big_quiet_step (fail)
    show wpQuiet _ _ _ _ (_ :: _) _
    go_big_quiet_step (fail)
    show wpQuiet _ _ _ _ (_ :: _) _
    go_big_quiet_step (fail)
    show wpQuiet _ _ _ _ (_ :: _) _
    refine wpQuiet_loadV (o := ⟨some 10, _, _, _, _, _⟩) rfl _ rfl rfl (fun w' hw' => by obtain ⟨r, rfl⟩ := hw'; exact (H0.out.below r.2).ld_rnd) ?_
    simp only [Act.put, List.setIfInBounds_toArray, List.set_cons_zero, List.set_cons_succ]
    show wpQuiet _ _ _ _ (_ :: _) _
    go_big_quiet_step (fail)
    show wpQuiet _ _ _ _ (_ :: _) _
    go_big_quiet_step (fail)
    show wpQuiet _ _ _ _ (_ :: _) _
    go_big_quiet_step (fail)
    show wpQuiet _ _ _ _ (_ :: _) _
    go_big_quiet_step (fail)
    show wpQuiet _ _ _ _ (_ :: _) _
    refine wpQuiet_loadV (o := ⟨some 15, _, _, _, _, _⟩) rfl _ rfl rfl (fun w' hw' => by obtain ⟨r, rfl⟩ := hw'; exact (H0.out.below r.2).ld_peer) ?_
    simp only [Act.put, List.setIfInBounds_toArray, List.set_cons_zero, List.set_cons_succ]
    refine wpQuiet_nil ?_
    refine ⟨?_, ?_⟩
    · show wpList _ _ _ [_] _ _
      go_wp2_with fail
      refine MixQ.class ((Below.refl w0.heap.size w0).drew.alloc (Nat.le_refl _) _) ?_
      refine mixT_one ?_
      simp only [pickL, List.filterMap_cons, List.filterMap_nil, List.getElem?_cons_succ, List.getElem?_cons_zero]
      refine wpQuiet_nil ?_
      show wpList _ _ _ [_] _ _
      go_wp2_with fail
      refine MixQ.class (((Below.refl w0.heap.size w0).drew.alloc (Nat.le_refl _) _).alloc (by simp) _) ?_
      refine mixT_one ?_
      simp only [pickL, List.filterMap_cons, List.filterMap_nil, List.getElem?_cons_succ, List.getElem?_cons_zero]
      refine wpQuiet_nil ?_
      have E2 := Lib.hid (((Below.refl w0.heap.size w0).drew.alloc (Nat.le_refl _) (.cells (cellsL .u8 (zer 32)) 22)).alloc (by simp) (.cells (cellsL .u8 (zer 32)) 22))
      have Z3 : Hid (Blk ((w0.drew.alloc (.cells (cellsL .u8 (zer 32)) 22)).alloc (.cells (cellsL .u8 (zer 32)) 22)) w0.heap.size 22 (cellsL .u8 (zer 32))) := Lib.hid (Blk.alloc (Blk.new w0.drew _ _) _)
      have Z4 : Hid (Blk ((w0.drew.alloc (.cells (cellsL .u8 (zer 32)) 22)).alloc (.cells (cellsL .u8 (zer 32)) 22)) (w0.heap.size + 1) 22 (cellsL .u8 (zer 32))) := Lib.hid (blk_new_at (by simp))
      show wpList _ _ _ [_] _ _
      go_wp2_with ((with_reducible (show wpList _ _ _ (⟨none, .store 22 _ _, _, _, _, _⟩ :: _) _ _)); go_loud (refine wpList_storeArr (o := ⟨none, .store 22 _ _, _, _, _, _⟩) (g := w0.heap.size) (t := 22) (k := .u8) (xs := p.rnd) (n := 32) rfl _ _ rfl rfl rfl Z3.out size32 HOK.out.1.symm rfl ?_); intro w5 ha5 hg5)
      have E5 := E2.out.trans (below_of_only hg5 (by first | omega | exact Nat.le_refl _) (by simp; omega))
      refine MixQ.class E5 ?_
      refine mixT_one ?_
      simp only [pickL, List.filterMap_cons, List.filterMap_nil, List.getElem?_cons_succ, List.getElem?_cons_zero]
      refine wpQuiet_nil ?_
      have Z5 := Lib.hid (Z4.out.grown hg5 (by intro q; injection q with q; omega))
      show wpList _ _ _ [_] _ _
      go_wp2_with ((with_reducible (show wpList _ _ _ (⟨none, .store 22 _ _, _, _, _, _⟩ :: _) _ _)); go_loud (refine wpList_storeArr (o := ⟨none, .store 22 _ _, _, _, _, _⟩) (g := (w0.heap.size + 1)) (t := 22) (k := .u8) (xs := p.peer) (n := 32) rfl _ _ rfl rfl rfl Z5.out size32 HOK.out.2.symm rfl ?_); intro w6 ha6 hg6)
      have E6 := E5.trans (below_of_only hg6 (by omega) E5.size)
      refine MixQ.class E6 ?_
      refine mixT_fin ?_
      simp only [pickL, List.filterMap_nil]
      refine wpQuiet_nil ?_
      refine NoPanic.normal ?_
      go_wp2_with fail
      go_meet
      case rel => exact ⟨w0.heap.size, (w0.heap.size + 1), rfl, rfl, by omega, by omega, by omega, Lib.hid (ha5.grown hg6 (by intro q; injection q with q; omega)), Lib.hid ha6, Lib.hid E6⟩
    · show wpList _ _ _ [_] _ _
      go_wp2_with fail
      refine MixQ.class ((Below.refl w0.heap.size w0).drew.alloc (Nat.le_refl _) _) ?_
      refine mixT_one ?_
      simp only [pickL, List.filterMap_cons, List.filterMap_nil, List.getElem?_cons_succ, List.getElem?_cons_zero]
      refine wpQuiet_nil ?_
      show wpList _ _ _ [_] _ _
      go_wp2_with fail
      refine MixQ.class (((Below.refl w0.heap.size w0).drew.alloc (Nat.le_refl _) _).alloc (by simp) _) ?_
      refine mixT_one ?_
      simp only [pickL, List.filterMap_cons, List.filterMap_nil, List.getElem?_cons_succ, List.getElem?_cons_zero]
      refine wpQuiet_nil ?_
      have E2 := Lib.hid (((Below.refl w0.heap.size w0).drew.alloc (Nat.le_refl _) (.cells (cellsL .u8 (zer 32)) 22)).alloc (by simp) (.cells (cellsL .u8 (zer 32)) 22))
      have Z3 : Hid (Blk ((w0.drew.alloc (.cells (cellsL .u8 (zer 32)) 22)).alloc (.cells (cellsL .u8 (zer 32)) 22)) w0.heap.size 22 (cellsL .u8 (zer 32))) := Lib.hid (Blk.alloc (Blk.new w0.drew _ _) _)
      have Z4 : Hid (Blk ((w0.drew.alloc (.cells (cellsL .u8 (zer 32)) 22)).alloc (.cells (cellsL .u8 (zer 32)) 22)) (w0.heap.size + 1) 22 (cellsL .u8 (zer 32))) := Lib.hid (blk_new_at (by simp))
      show wpList _ _ _ [_] _ _
      go_wp2_with ((with_reducible (show wpList _ _ _ (⟨none, .store 22 _ _, _, _, _, _⟩ :: _) _ _)); go_loud (refine wpList_storeArr (o := ⟨none, .store 22 _ _, _, _, _, _⟩) (g := (w0.heap.size + 1)) (t := 22) (k := .u8) (xs := p.rnd) (n := 32) rfl _ _ rfl rfl rfl Z4.out size32 HOK.out.1.symm rfl ?_); intro w5 ha5 hg5)
      have E5 := E2.out.trans (below_of_only hg5 (by first | omega | exact Nat.le_refl _) (by simp; omega))
      refine MixQ.class E5 ?_
      refine mixT_one ?_
      simp only [pickL, List.filterMap_cons, List.filterMap_nil, List.getElem?_cons_succ, List.getElem?_cons_zero]
      refine wpQuiet_nil ?_
      have Z5 := Lib.hid (Z3.out.grown hg5 (by intro q; injection q with q; omega))
      show wpList _ _ _ [_] _ _
      go_wp2_with ((with_reducible (show wpList _ _ _ (⟨none, .store 22 _ _, _, _, _, _⟩ :: _) _ _)); go_loud (refine wpList_storeArr (o := ⟨none, .store 22 _ _, _, _, _, _⟩) (g := w0.heap.size) (t := 22) (k := .u8) (xs := p.peer) (n := 32) rfl _ _ rfl rfl rfl Z5.out size32 HOK.out.2.symm rfl ?_); intro w6 ha6 hg6)
      have E6 := E5.trans (below_of_only hg6 (by omega) E5.size)
      refine MixQ.class E6 ?_
      refine mixT_fin ?_
      simp only [pickL, List.filterMap_nil]
      refine wpQuiet_nil ?_
      refine NoPanic.normal ?_
      go_wp2_with fail
      go_meet
      case rel => exact ⟨(w0.heap.size + 1), w0.heap.size, rfl, rfl, by omega, by omega, by omega, Lib.hid (ha5.grown hg6 (by intro q; injection q with q; omega)), Lib.hid ha6, Lib.hid E6⟩
  case rest =>
    obtain ⟨g3, g4, rfl, rfl, h34, h3, h4, A3, A4, B6⟩ := hcut
    have HZ := Lib.hid B6.out.size
    have H6 := Lib.hid (H0.out.below B6.out)
    have q0 := H6.out.c0
    have hgg : g2 < g3 ∧ g2 < g4 := by have h1 := HS.out; have h2 := HG2.out; omega
    generalize wc = w1 at *
    go_upto_if 20 with fail
    go_cut [3] from 20 (fun v wx => v = .pointer (some ⟨g3, 0, none⟩) ∧ Hid (Arr wx g3 22 .u8 (if p.sv then p.peer else p.rnd)) ∧ Hid (Arr wx g4 22 .u8 (if p.sv then p.rnd else p.peer)) ∧ Hid (Below w0.heap.size w1 wx))
    case first =>
      clear q0
      cases hsv : p.sv
      · go_wp2_with fail
        go_meet
        case rel => exact ⟨rfl, Lib.hid (by have h := A3.out; simpa [hsv] using h), Lib.hid (by have h := A4.out; simpa [hsv] using h), Lib.hid ((Below.refl _ _).mono HZ.out)⟩
      · go_wp2_with (first
          | ((with_reducible (show wpList _ _ _ (⟨some 21, .load _ _, _, _, _, _⟩ :: _) _ _)); refine wpList_loadV (o := ⟨some 21, .load _ _, _, _, _, _⟩) rfl _ rfl rfl (arr_load A4.out Try.underlying22 size32 HOK.out.2.symm) ?_)
          | ((with_reducible (show wpList _ _ _ (⟨some 22, .load _ _, _, _, _, _⟩ :: _) _ _)); refine wpList_loadV (o := ⟨some 22, .load _ _, _, _, _, _⟩) rfl _ rfl rfl (arr_load A3.out Try.underlying22 size32 HOK.out.1.symm) ?_)
          | ((with_reducible (show wpList _ _ _ (⟨none, .store 22 _ _, _, _, _, _⟩ :: _) _ _)); (fail_if_success (have _g := ha5)); refine wpList_storeArr (o := ⟨none, .store 22 _ _, _, _, _, _⟩) (g := g3) (t := 22) (k := .u8) (xs := p.peer) (n := 32) rfl _ _ rfl rfl rfl A3.out size32 HOK.out.2.symm (by simp [HOK.out.1]) ?_; intro w5 ha5 hg5)
          | ((with_reducible (show wpList _ _ _ (⟨none, .store 22 _ _, _, _, _, _⟩ :: _) _ _)); refine wpList_storeArr (o := ⟨none, .store 22 _ _, _, _, _, _⟩) (g := g4) (t := 22) (k := .u8) (xs := p.rnd) (n := 32) rfl _ _ rfl rfl rfl (A4.out.grown hg5 (by intro q; injection q with q; omega)) size32 HOK.out.1.symm (by simp [HOK.out.2]) ?_; intro w6 ha6 hg6))
        have E5 := below_of_only hg5 h3 HZ.out
        have E6 := E5.trans (below_of_only hg6 h4 (Nat.le_trans HZ.out E5.size))
        go_meet
        case rel => exact ⟨rfl, Lib.hid (by have h := ha5.grown hg6 (by intro q; injection q with q; omega); simpa [hsv] using h), Lib.hid (by simpa [hsv] using ha6), Lib.hid E6⟩
    case rest =>
      obtain ⟨rfl, A5, A6, B7⟩ := hcut
      have HSE : Hid (p.hs = macL (macL [] p.psk) ((if p.sv then p.peer else p.rnd) ++ (if p.sv then p.rnd else p.peer))) := Lib.hid (by unfold PS.hs hsL; cases p.sv <;> rfl)
      have HXL : Hid ((if p.sv then p.peer else p.rnd).length = 32) := Lib.hid (by cases p.sv <;> simp [HOK.out.1, HOK.out.2])
      have HYL : Hid ((if p.sv then p.rnd else p.peer).length = 32) := Lib.hid (by cases p.sv <;> simp [HOK.out.1, HOK.out.2])
      have HXB : Hid (Byt (if p.sv then p.peer else p.rnd)) := Lib.hid (by have h1 := H6.out.ok.bpeer; have h2 := H6.out.ok.brnd; cases p.sv <;> simpa)
      have HYB : Hid (Byt (if p.sv then p.rnd else p.peer)) := Lib.hid (by have h1 := H6.out.ok.bpeer; have h2 := H6.out.ok.brnd; cases p.sv <;> simpa)
      generalize (if p.sv then p.peer else p.rnd) = X at *
      generalize (if p.sv then p.rnd else p.peer) = Y at *
      have BB := Lib.hid (B6.out.trans B7.out)
      have H7 := Lib.hid (H0.out.below BB.out)
      have Z7 := Lib.hid (Z0.out.below BB.out Z0.out.lt)
      have K7 := Lib.hid (B0.out.trans (BB.out.mono B0.out.size))
      have ZZ := Lib.hid BB.out.size
      have HPK : Hid (p.psk.length = 32 ∧ Byt p.psk) := Lib.hid ⟨H0.out.ok.psk, H0.out.ok.bpsk⟩
      clear H0 Z0 B0 B6 A3 A4 H6 B7 HOK q0
      generalize wc = w2 at *
      go_wp2_with fail
      have XA := extract_any none 0 [] (some ⟨g, 2, none⟩) 32 p.psk w2 Rd.nil Byt.nil (Nat.le_refl _) (by simp) H7.out.rd_psk HPK.out.2 (by rw [HPK.out.1]; exact Nat.le_refl _) (by rw [HPK.out.1]; omega)
      rw [HPK.out.1] at XA
      refine Calls.mono XA ?_
      clear XA
      rintro e w3 ⟨rfl, b3⟩
      have HEL : Hid ((macL [] p.psk).length = 32) := Lib.hid (macL_len _ _)
      have HEB := Lib.hid (macL_byt [] p.psk)
      generalize macL [] p.psk = E at *
      have B3 := Lib.hid b3
      clear b3
      go_wp2_with ((with_reducible (show wpList _ _ _ (⟨none, .store 22 _ _, _, _, _, _⟩ :: _) _ _)); refine wpList_storeArr (o := ⟨none, .store 22 _ _, _, _, _, _⟩) (g := w3.heap.size) (t := 22) (k := .u8) (xs := E) (n := 32) rfl _ _ rfl rfl rfl (Blk.new _ _ _) size32 (HEL.out.symm) rfl ?_; intro w4 ha4 hg4; have HA4 := Lib.hid ha4; have HG4 := Lib.hid hg4; clear ha4 hg4)
      have B4 := Lib.hid ((B3.out.alloc B3.out.size _).trans (below_of_only HG4.out B3.out.size (by have := B3.out.size; simp; omega)))
      have hz3 := B3.out.size
      have hz4 := B4.out.size
      obtain ⟨g5, hg5⟩ : ∃ z, w3.heap.size = z := ⟨_, rfl⟩
      rw [hg5] at HA4 hz3 ⊢
      clear hg5 HG4 B3
      have F3 := Lib.hid (A5.out.belowAll B4.out)
      have F4 := Lib.hid (A6.out.belowAll B4.out)
      have F2 := Lib.hid (Z7.out.below B4.out Z7.out.lt)
      have K4 := Lib.hid (K7.out.trans (B4.out.mono K7.out.size))
      have hl2 : g2 < w2.heap.size := Z7.out.lt
      clear A5 A6 Z7 K7 H7 B4
      refine wp_region_mixOB w4.heap.size [([0, 1, 2], 3), ([], 4), ([], 5)] (by kernel_rfl) (by kernel_rfl) (by kernel_rfl) (by kernel_rfl) (by kernel_rfl) ?_
      try (rw [put_none])
      simp only [pickL, List.map_cons, List.map_nil, List.filterMap_cons, List.filterMap_nil, List.getElem?_cons_succ, List.getElem?_cons_zero]
      refine mixO_cons ?_
      repeat (show wpQuiet _ _ _ _ (_ :: _) _; go_big_quiet_step (fail))
      refine wpQuiet_nil ?_
      show wpList _ _ _ [_] _ _
      go_wp2_with (at_builtin; go_loud (refine wpList_appF (o := ⟨some 32, _, _, _, _, _⟩) elC rfl _ _ rfl rfl rfl F3.out.rd HXL.out.symm F4.out.rd HYL.out.symm (by omega) (by omega) ?_ ?_); (rw [HXL.out, HYL.out]; omega); intro A6 n6 c6 w6 o6 b6; have O6 := Lib.hid o6; have B6 := Lib.hid ((Below.refl w4.heap.size w4).drew.trans b6); clear o6 b6)
      refine MixO.narrowB B6.out B6.out.size ?_
      refine mixO_cons ?_
      repeat (show wpQuiet _ _ _ _ (_ :: _) _; go_big_quiet_step (fail))
      refine wpQuiet_nil ?_
      show wpList _ _ _ [_] _ _
      go_wp2_with fail
      have HNL : Hid ((X ++ Y).length = 64) := Lib.hid (by rw [List.length_append, HXL.out, HYL.out])
      have XA := extract_any (some ⟨g5, 0, none⟩) 32 E A6 c6 (X ++ Y) w6 ((HA4.out.belowAll B6.out).rd) HEB.out (by rw [HEL.out]; exact Nat.le_refl _) (by rw [HEL.out]; omega) O6.out.rd (HXB.out.append HYB.out) (by rw [← O6.out.len]; exact O6.out.cap.1) (by rw [HNL.out]; omega)
      rw [← O6.out.len, HEL.out, ← HSE.out] at XA
      refine Calls.mono XA ?_
      clear XA
      rintro e w7 ⟨rfl, b7⟩
      have HPL : Hid (p.hs.length = 32) := Lib.hid (by rw [HSE.out]; exact macL_len _ _)
      have B7 := Lib.hid b7
      have B47 := Lib.hid (B6.out.trans (b7.mono B6.out.size))
      have F7 := Lib.hid (F2.out.below B47.out F2.out.lt)
      have K7 := Lib.hid (K4.out.trans (B47.out.mono K4.out.size))
      clear b7 F2 K4 O6 HA4
      go_wp2_with fail
      refine MixO.narrowB B7.out B7.out.size ?_
      refine mixO_cons ?_
      repeat (show wpQuiet _ _ _ _ (_ :: _) _; go_big_quiet_step (fail))
      refine wpQuiet_nil ?_
      show wpList _ _ _ [_] _ _
      generalize p.hs = R at *
      go_wp2_with ((with_reducible (show wpList _ _ _ (⟨none, .store 22 _ _, _, _, _, _⟩ :: _) _ _)); go_loud (refine wpList_storeArr (o := ⟨none, .store 22 _ _, _, _, _, _⟩) (g := g2) (t := 22) (k := .u8) (xs := R) (n := 32) rfl _ _ rfl rfl rfl F7.out size32 HPL.out.symm (by rw [cellsL_size, zer_len]) ?_); intro w8 ha8 hg8)
      refine MixO.last ?_
      refine mixO_nil ?_
      refine wpQuiet_nil ?_
      refine NoPanic.normal ?_
      go_wp2_with fail
      exact ret_arr (g := g2) (t := 22) (k := .u8) (xs := R) rfl rfl ha8 Try.underlying22 size32 HPL.out.symm rfl ⟨rfl, K7.out.trans (below_of_only hg8 (by rw [← HG2.out]; exact Nat.le_refl _) K7.out.size)⟩
end Go.Proofs.Ythknncdhjicklaa
