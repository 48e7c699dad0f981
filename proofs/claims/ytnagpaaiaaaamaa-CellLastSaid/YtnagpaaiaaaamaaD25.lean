/- Layer 26: walk of the law CellLast. Conditions: as each theorem states them. -/
import Derived.Test.YtnagpaaiaaaamaaD24
namespace Go.Proofs.Ytnagpaaiaaaamaa
open Go.RowKit
theorem do_cells {v : World} {g : Nat} {c0 c1 c2 c3 c4 c5 c6 c7 : Value} (h : Blk v g 41 #[c0, c1, c2, c3, c4, c5, c6, c7]) :
    (Instr.loadAt 25 (.pointer (some ⟨g, 0, none⟩))).run Try.prog v = .ok (.agg #[c0, c1, c2, c3, c4]) v ∧ v.cell? ⟨g, 5, none⟩ = some c5 ∧ v.cell? ⟨g, 6, none⟩ = some c6 :=
  ⟨blk_loadMid (P := Try.prog) (ty := 25) (A := []) (B := [c0, c1, c2, c3, c4]) (C := [c5, c6, c7]) (o := 0) h rfl Try.underlying25 rfl size5, Blk.cell h 5, Blk.cell h 6⟩
theorem LastI.ex {L0 L1 : List Int} {c : CL} {N : Int} (h : LastI L0 L1 c N) : ∃ sl, newN L0 L1 = (sl, c, N) ∧ ((0 ≤ sl ∧ 0 < N) ∨ (sl < 0 ∧ N = 0)) := by
  obtain ⟨sl, e, ⟨rfl, _, h2⟩ | ⟨rfl, _, h2⟩ | ⟨rfl, _, _, h3, _⟩⟩ := h
  · exact ⟨0, e, .inl ⟨by decide, h2⟩⟩
  · exact ⟨1, e, .inl ⟨by decide, h2⟩⟩
  · exact ⟨-1, e, .inr ⟨by decide, h3⟩⟩
theorem lastI_cast {L0 L1 : List Int} {c : CL} {K M : Int} (h : LastI L0 L1 c K) (e : K = M) : LastI L0 L1 c M := e ▸ h
attribute [local irreducible] CL.rcd CL.size greatN takeL newN wrS vsL LastI CL.May
set_option maxRecDepth 100000 in
set_option maxHeartbeats 16000000 in
theorem last26_walk (A : Option Addr) (n cap : Nat) (l : List DC) (w : World) (hn : l.length = n) (hD : DCs w.heap.size w A l) (hn2 : n ≤ 140737488355328) (hb : ∀ d ∈ l, d.x.ts.length ≤ 140737488355328 ∧ ∀ t ∈ d.x.ts, t.xs.length ≤ 140737488355328)
    (hF : ∀ d ∈ l, (cl_ d.x.ep d.x.ow d.x.nx d.x.sn d.x.ts).Fit) :
    Calls Try.prog 4 #[.slice A n cap] w fun e w' => e = .returned (.bool true) ∧ Below w.heap.size w w' := by
  have HN := Lib.hid hn
  have HD := Lib.hid hD
  have HBX := Lib.hid hb
  have HF := Lib.hid hF
  clear hn hD hb hF
  go_enter Try.func4, Try.ntmps4
  go_wp2_with fail
  refine Calls.mono (known26 _) ?_
  rintro e w1 ⟨rfl, b1⟩
  have B1 := Lib.hid b1
  clear b1
  by_cases h100 : 100 < n
  · have h101 : (100 : Int) < (n : Int) := by omega
    go_wp2_with fail
    go_ret
    exact ⟨rfl, B1.out⟩
  have h101 : decide ((100 : Int) < (n : Int)) = false := decide_eq_false (by omega)
  have hn3 : n ≤ 100 := by omega
  clear h100 hn2
  go_wp2_with fail
  clear h101
  refine Calls.mono (cells_any A n cap l w1 HN.out (fun i hi => by
    obtain ⟨ad, e, h1, h2, h3⟩ := HD.out.below B1.out (Nat.le_refl _) i hi
    exact ⟨ad, e, Nat.lt_of_lt_of_le h1 B1.out.size, h2, h3.mono B1.out.size⟩) hn3) ?_
  rintro e w2 ⟨A2, c2, rfl, x2, b2⟩
  have X2 := Lib.hid x2
  have B2 := Lib.hid (B1.out.trans (b2.mono B1.out.size))
  clear x2 b2 B1
  go_wp2_with fail
  refine Calls.mono (great_any A2 n c2 (l.map DC.x) w2 (by rw [List.length_map, HN.out]) X2.out (by omega) (fun x hx => by
    obtain ⟨d, hd, rfl⟩ := List.mem_map.1 hx
    exact HBX.out d hd)) ?_
  rintro e w3 ⟨rfl, rfl⟩
  clear X2
  by_cases hg : 20000 < greatN (l.map DC.x)
  · have hg2 : decide (20000 < greatN (l.map DC.x)) = true := decide_eq_true hg
    rw [hg2]
    clear hg hg2
    go_wp2_with fail
    go_ret
    exact ⟨rfl, B2.out⟩
  have hg2 : decide (20000 < greatN (l.map DC.x)) = false := decide_eq_false hg
  rw [hg2]
  have HFD : Hid (∀ i, i < l.length → (cl_ (l.getD i DC.none).x.ep (l.getD i DC.none).x.ow (l.getD i DC.none).x.nx (l.getD i DC.none).x.sn (l.getD i DC.none).x.ts).Fit ∧ rowsN (bsT (l.getD i DC.none).x.ts) ≤ 20000 ∧ (l.getD i DC.none).x.ts.length ≤ 140737488355328) := Lib.hid (fun i hi => by
    have hm := getD_mem (z := DC.none) hi
    refine ⟨HF.out _ hm, ?_, (HBX.out _ hm).1⟩
    have h := rows_great (l := l.map DC.x) (i := i) (by rw [List.length_map]; exact hi)
    have e : (l.map DC.x).getD i CX.zero = (l.getD i DC.none).x := by
      rw [List.getD_eq_getElem?_getD, List.getD_eq_getElem?_getD, List.getElem?_map, List.getElem?_eq_getElem hi]; rfl
    rw [e] at h
    omega)
  clear hg hg2 HF HBX
  go_wp2_with fail
  refine Calls.mono (new_any _) ?_
  rintro e w4 ⟨g, rfl, hst, hg, b4⟩
  have S4 := Lib.hid hst
  have B4 := Lib.hid (B2.out.trans (b4.mono B2.out.size))
  have hg0 : w.heap.size ≤ g := Nat.le_trans B2.out.size hg
  have Z5 : Hid (Blk (w4.alloc (.cells #[.int .u64 0, .int .u8 0, .int .u64 0, .int .u64 0, .slice none 0 0] 25)) w4.heap.size 25 #[.int .u64 0, .int .u8 0, .int .u64 0, .int .u64 0, .slice none 0 0]) := Lib.hid (Blk.new _ _ _)
  have b5 := (Below.refl w4.heap.size w4).alloc (Nat.le_refl _) (.cells #[.int .u64 0, .int .u8 0, .int .u64 0, .int .u64 0, .slice none 0 0] 25)
  have S5 := Lib.hid (S4.out.below b5)
  have B5 := Lib.hid (B4.out.trans (b5.mono B4.out.size))
  have hg4 : w.heap.size ≤ w4.heap.size := B4.out.size
  clear hst hg b4 b5 B2 S4 B4
  go_wp2_with fail
  generalize w4.alloc (.cells #[.int .u64 0, .int .u8 0, .int .u64 0, .int .u64 0, .slice none 0 0] 25) = w5 at *
  obtain ⟨g4, hg4e⟩ : ∃ z, w4.heap.size = z := ⟨_, rfl⟩
  rw [hg4e] at Z5 hg4 ⊢
  clear hg4e
  go_loopw [5, 26] (fun nn i wr => ∃ (k N : Nat) (L0 L1 : List Int) (t : Bool) (a : Int) (lep low lnx lsn : Int) (A4 : Option Addr) (n4 c4 : Nat) (ts4 : List Tx), k ≤ n ∧ N ≤ k ∧ nn = .int .u64 N ∧ i = .int .i64 k ∧ Hid (StB g wr L0 L1 false a t) ∧ Hid (Okl L0 ∧ Okl L1) ∧ Hid (Blk wr g4 25 #[.int .u64 lep, .int .u8 low, .int .u64 lnx, .int .u64 lsn, .slice A4 n4 c4]) ∧ Hid (CIn w.heap.size w A4 n4 c4 ts4) ∧ Hid ((cl_ lep low lnx lsn ts4).Fit ∧ (cl_ lep low lnx lsn ts4).May ∧ rowsN (bsT ts4) ≤ 20000 ∧ n4 ≤ 140737488355328) ∧ Hid (LastI L0 L1 (cl_ lep low lnx lsn ts4) N) ∧ Hid (Below w.heap.size w wr)) (fun _ i _ => n - (intOf i).toNat)
  case atStart => exact ⟨0, 0, [], [], false, 0, 0, 0, 0, 0, none, 0, 0, [], by omega, by omega, rfl, rfl, S5, Lib.hid ⟨okl_nil, okl_nil⟩, Z5, Lib.hid ⟨rfl, Nat.le_refl _, fun i hi => absurd hi (Nat.not_lt_zero i), fun x hx => by cases hx⟩, Lib.hid (by rw [cl_kc]; exact ⟨kc_fit (by decide) (by decide) (by decide) (by decide), kc_may (by decide) (by decide), by rw [bsT_nil_, rowsN_nil_]; decide, by decide⟩), Lib.hid (by rw [cl_kc, ← zero_kc]; exact lastI_nil), B5⟩
  case round =>
    clear S5 Z5 B5
    obtain ⟨k, N, L0, L1, t, a, lep, low, lnx, lsn, A4, n4, c4, ts4, hk, hN, rfl, rfl, HS, HO, HZ, HC4, HL, HI, HB⟩ := hrel
    by_cases hlt : k < n
    · skip
      obtain ⟨ad, hA, p1, p2, -⟩ := HD.out.below HB.out (Nat.le_refl _) k (by rw [HN.out]; exact hlt)
      obtain ⟨_, -, -, -, p3⟩ := HD.out k (by rw [HN.out]; exact hlt)
      have HFX := HFD.out k (by rw [HN.out]; exact hlt)
      generalize l.getD k DC.none = d at *
      obtain ⟨⟨ep, ow, nx, sn, Ax, cx, ts⟩, f, af, cp⟩ := d
      simp only at p3 HFX
      obtain ⟨nx_, hnx⟩ : ∃ z, ts.length = z := ⟨_, rfl⟩
      have HROW : Hid ((Instr.loadAt 41 (.pointer (some (ad.add (k * 8))))).run Try.prog wr = .ok (.agg #[.int .u64 ep, .int .u8 ow, .int .u64 nx, .int .u64 sn, .slice Ax nx_ cx, .bool f, .int .i64 af, .bool cp]) wr) := Lib.hid (by
        have h := row_load (P := Try.prog) (vs := (⟨⟨ep, ow, nx, sn, Ax, cx, ts⟩, f, af, cp⟩ : DC).vs) (fun j v hv => by rw [add_of_add]; exact p2 j v hv) Try.underlying41 size8d
        simp only [DC.vs, hnx] at h
        exact h)
      rw [hnx] at p3 HFX
      have HCX := Lib.hid p3
      have HFF := Lib.hid HFX
      subst hA
      clear p1 p2 p3 HFX hnx
      have HNE : Hid (g4 ≠ g) := Lib.hid (by obtain ⟨v0, v1, h, _⟩ := HS.out.b; exact Blk.ne_ HZ.out h (by decide))
      have HOG : Hid (g < wr.heap.size) := Lib.hid HS.out.lt
      have hzw := HB.out.size
      obtain ⟨sl0, hse0, -⟩ := HI.out.ex
      have HNW := Lib.hid hse0
      clear hse0
      by_cases hm : (cl_ ep ow nx sn ts).May
      · have HM := Lib.hid hm
        clear hm
        cases f with
        | false =>
          go_wp2_with (first
            | ((with_reducible (show wpList _ _ _ (⟨some 29, .load _ _, _, _, _, _⟩ :: _) _ _)); refine wpList_loadV (o := ⟨some 29, .load _ _, _, _, _, _⟩) rfl _ rfl rfl (HROW.out) ?_)
            | ((with_reducible (show wpList _ _ _ (⟨some 38, .load _ _, _, _, _, _⟩ :: _) _ _)); refine wpList_loadV (o := ⟨some 38, .load _ _, _, _, _, _⟩) rfl _ rfl rfl (xl) ?_)
            | ((with_reducible (show wpList _ _ _ (⟨none, .store 41 _ _, _, _, _, _⟩ :: _) _ _)); go_loud (refine wpList_storeBlk (o := ⟨none, .store 41 _ _, _, _, _, _⟩) (g := wr.heap.size) (t := 41) (vs := [.int .u64 ep, .int .u8 ow, .int .u64 nx, .int .u64 sn, .slice Ax nx_ cx, .bool false, .int .i64 af, .bool cp]) rfl _ _ rfl rfl rfl (Blk.new _ _ _) rfl (one8 rfl rfl rfl rfl rfl rfl rfl rfl) size8d ?_); intro w1x z1 g1; have G1 := Lib.hid (((Below.refl wr.heap.size wr).alloc (Nat.le_refl _) _).trans (below_of_only g1 (Nat.le_refl _) (by simp))); have XX := Lib.hid z1; have XXS := Lib.hid (show wr.heap.size < w1x.heap.size from z1.lt); obtain ⟨xl, x5, x6⟩ := do_cells z1; clear z1 g1))
          clear HROW
          clear xl x5 x6
          have HOX : Hid (g < wr.heap.size) := HOG
          have S1 := Lib.hid (HS.out.below G1.out)
          have Z1 := Lib.hid (HZ.out.below G1.out HZ.out.lt)
          have B1 := Lib.hid (HB.out.trans ((G1.out).mono HB.out.size))
          clear HS HZ HB
          clear G1
          obtain ⟨g7, hg7⟩ : ∃ z, wr.heap.size = z := ⟨_, rfl⟩
          rw [hg7] at XX XXS HOX ⊢
          have X0 := XX
          clear XX hg7
          refine Calls.mono (cput_yes ep ow nx sn Ax nx_ cx ts (N + 1) _ ((HCX.out.below B1.out (Nat.le_refl _)).mono B1.out.size) HFF.out.1 HM.out (by omega) (by omega)) ?_
          rintro e wp ⟨Ap, np, cp_, rfl, op, bp⟩
          have NP := Lib.hid op.len
          have S2 := Lib.hid (S1.out.below bp)
          have Z2 := Lib.hid (Z1.out.below bp Z1.out.lt)
          have B2 := Lib.hid (B1.out.trans ((bp).mono B1.out.size))
          have X2 := Lib.hid (X0.out.below bp X0.out.lt)
          clear S1 Z1 B1 X0
          clear op bp
          obtain ⟨xl, x5, x6⟩ := do_cells X2.out
          go_wp2_with ((with_reducible (show wpList _ _ _ (⟨some 46, .load _ _, _, _, _, _⟩ :: _) _ _)); refine wpList_loadV (o := ⟨some 46, .load _ _, _, _, _, _⟩) rfl _ rfl rfl (xl) ?_)
          clear xl x5 x6
          refine Calls.mono (write_any g L0 L1 false t a ep ow nx sn Ax nx_ cx ts wp S2.out HO.out.1.1 HO.out.2.1 HO.out.1.2 HO.out.2.2 ((HCX.out.below B2.out (Nat.le_refl _)).mono B2.out.size) HFF.out.1 (by have := HFF.out.2.1; omega) (by rw [HNW.out]; simp) (by rw [HNW.out]; simp only; omega)) ?_
          obtain ⟨R0, R1, WE, hi2, ho0, ho1⟩ := wr_whole (a := a) (t := t) HI.out HO.out.1 HO.out.2 HFF.out.1 HM.out (by omega) (by omega)
          have HI3 := Lib.hid (lastI_cast hi2 (M := ((N + 1 : Nat) : Int)) (by omega))
          have HI2 := HI3
          have HO2 := Lib.hid (show Okl R0 ∧ Okl R1 from ⟨ho0, ho1⟩)
          clear hi2 ho0 ho1
          rw [WE]
          rintro e ww ⟨rfl, sw, gw⟩
          simp only at sw
          clear WE
          have S3 := Lib.hid sw
          have Z3 := Lib.hid (Z2.out.grown gw (by intro q; injection q with q; exact HNE.out q))
          have B3 := Lib.hid (B2.out.trans (below_of_only gw hg0 B2.out.size))
          have X3 := Lib.hid (X2.out.grown gw (by intro q; injection q with q; have := HOX.out; omega))
          clear S2 Z2 B2 X2
          clear sw gw
          obtain ⟨xl, x5, x6⟩ := do_cells X3.out
          go_wp2_with (first
            | ((with_reducible (show wpList _ _ _ (⟨some 95, .load _ _, _, _, _, _⟩ :: _) _ _)); refine wpList_loadV (o := ⟨some 95, .load _ _, _, _, _, _⟩) rfl _ rfl rfl (xl) ?_)
            | ((with_reducible (show wpList _ _ _ (⟨none, .store 25 _ _, _, _, _, _⟩ :: _) _ _)); go_loud (refine wpList_storeBlk (o := ⟨none, .store 25 _ _, _, _, _, _⟩) (g := g4) (t := 25) (vs := [.int .u64 ep, .int .u8 ow, .int .u64 nx, .int .u64 sn, .slice Ax nx_ cx]) rfl _ _ rfl rfl rfl Z3.out rfl (one5 rfl rfl rfl rfl rfl) size5 ?_); intro w9 z9 g9; have Z9 := Lib.hid z9; have G9 := Lib.hid g9; clear z9 g9))
          clear xl x5 x6
          have S9 : Hid (StB g w9 R0 R1 false a false) := Lib.hid (by obtain ⟨v0, v1, h1, h2, h3⟩ := S3.out.b; exact ⟨v0, v1, h1.grown G9.out (by intro q; injection q with q; exact HNE.out q.symm), h2.grown G9.out Z3.out (by decide), h3.grown G9.out Z3.out (by decide)⟩)
          have B9 := Lib.hid (B3.out.trans (below_of_only G9.out hg4 B3.out.size))
          clear S3 Z3 B3 X3 G9
          obtain ⟨sl, hse, hsd⟩ := HI2.out.ex
          have HSE := Lib.hid hse
          clear hse
          have RD := Lib.hid (read_any g R0 R1 false _ _ _ S9.out HO2.out.1.1 HO2.out.2.1 HO2.out.1.2 HO2.out.2.2)
          rw [HSE.out] at RD
          have HCE : Hid ((cl_ ep ow nx sn ts).ep = ep ∧ (cl_ ep ow nx sn ts).ow = ow ∧ (cl_ ep ow nx sn ts).nx = nx ∧ (cl_ ep ow nx sn ts).sn = sn ∧ (cl_ ep ow nx sn ts).bs = bsT ts) := Lib.hid ⟨rfl, rfl, rfl, rfl, rfl⟩
          rcases hsd with ⟨hs0, hsN⟩ | ⟨hs0, hsN⟩
          · skip
            have hsd : decide (0 ≤ sl) = true := decide_eq_true hs0
            refine Calls.mono RD.out ?_
            rintro e wq ⟨Aq, nq, cq, tq, rfl, iq, fq, bq, blq⟩
            obtain ⟨ce0, ce1, ce2, ce3, ce4⟩ := HCE.out
            simp only at bq
            simp only [ce0, ce1, ce2, ce3, hsd]
            have BQ := Lib.hid (ce4.symm.trans bq)
            clear ce0 ce1 ce2 ce3 ce4 hsd
            have IQ := Lib.hid iq
            have S4 := Lib.hid (S9.out.below blq)
            have Z4 := Lib.hid (Z9.out.below blq Z9.out.lt)
            have B4 := Lib.hid (B9.out.trans ((blq).mono B9.out.size))
            clear S9 Z9 B9
            clear RD bq iq fq blq
            go_wp2_with ((with_reducible (show wpList _ _ _ (⟨none, .store 25 _ _, _, _, _, _⟩ :: _) _ _)); go_loud (refine wpList_storeBlk (o := ⟨none, .store 25 _ _, _, _, _, _⟩) (g := wq.heap.size) (t := 25) (vs := [.int .u64 ep, .int .u8 ow, .int .u64 nx, .int .u64 sn, .slice Aq nq cq]) rfl _ _ rfl rfl rfl (Blk.new _ _ _) rfl (one5 rfl rfl rfl rfl rfl) size5 ?_); intro w10 z10 g10; have Q10 := Lib.hid z10; have G10 := Lib.hid (((Below.refl wq.heap.size wq).alloc (Nat.le_refl _) _).trans (below_of_only g10 (Nat.le_refl _) (by simp))); have I10 := Lib.hid ((IQ.out.below G10.out (Nat.le_refl _)).mono G10.out.size); clear z10 g10)
            have S5 := Lib.hid (S4.out.below G10.out)
            have Z5 := Lib.hid (Z4.out.below G10.out Z4.out.lt)
            have B5 := Lib.hid (B4.out.trans ((G10.out).mono B4.out.size))
            clear S4 Z4 B4
            clear G10 IQ
            refine Calls.mono (count_any g R0 R1 false _ _ _ S5.out HO2.out.1.1 HO2.out.2.1 HO2.out.1.2 HO2.out.2.2) ?_
            rw [HSE.out]
            simp only
            rintro e w11 ⟨rfl, b11⟩
            have I11 := Lib.hid ((I10.out.below b11 (Nat.le_refl _)).mono b11.size)
            have Q11 := Lib.hid (Q10.out.below b11 Q10.out.lt)
            have S6 := Lib.hid (S5.out.below b11)
            have Z6 := Lib.hid (Z5.out.below b11 Z5.out.lt)
            have B6 := Lib.hid (B5.out.trans ((b11).mono B5.out.size))
            clear S5 Z5 B5
            clear b11 I10 Q10
            go_wp2_with (first
              | ((with_reducible (show wpList _ _ _ (⟨some 116, .load _ _, _, _, _, _⟩ :: _) _ _)); refine wpList_unguard rfl ?_; refine wpList_loadV (o := ⟨some 116, .load _ _, _, _, _, _⟩) rfl _ rfl rfl (cb_load Q11.out) ?_)
              | ((with_reducible (show wpList _ _ _ (⟨some 117, .load _ _, _, _, _, _⟩ :: _) _ _)); refine wpList_unguard rfl ?_; refine wpList_loadV (o := ⟨some 117, .load _ _, _, _, _, _⟩) rfl _ rfl rfl (cb_load Z6.out) ?_))
            refine Calls.mono (csame_yes ep ow nx sn Aq nq cq tq Ax nx_ cx ts _ I11.out (((HCX.out.below B6.out (Nat.le_refl _))).mono B6.out.size) BQ.out.symm (by have h1 := I11.out.len; have h2 := congrArg List.length BQ.out; rw [bsT_len, bsT_len, h1] at h2; have h3 := HCX.out.len; have h4 := HFF.out.2.2; omega)) ?_
            rintro e w12 ⟨rfl, b12⟩
            have S7 := Lib.hid (S6.out.below b12)
            have Z7 := Lib.hid (Z6.out.below b12 Z6.out.lt)
            have B7 := Lib.hid (B6.out.trans ((b12).mono B6.out.size))
            clear S6 Z6 B6
            clear b12 I11 Q11
            go_wp2_with fail
            refine ⟨⟨k + 1, N + 1, R0, R1, _, _, ep, ow, nx, sn, Ax, nx_, cx, ts, by omega, by omega, by go_num, by go_num, S7, HO2, Z7, HCX, Lib.hid ⟨HFF.out.1, HM.out, HFF.out.2.1, HFF.out.2.2⟩, HI3, B7⟩, ?_⟩
            simp [intOf]
            omega
          · skip
            omega
        | true =>
          go_wp2_with (first
            | ((with_reducible (show wpList _ _ _ (⟨some 29, .load _ _, _, _, _, _⟩ :: _) _ _)); refine wpList_loadV (o := ⟨some 29, .load _ _, _, _, _, _⟩) rfl _ rfl rfl (HROW.out) ?_)
            | ((with_reducible (show wpList _ _ _ (⟨some 38, .load _ _, _, _, _, _⟩ :: _) _ _)); refine wpList_loadV (o := ⟨some 38, .load _ _, _, _, _, _⟩) rfl _ rfl rfl (xl) ?_)
            | ((with_reducible (show wpList _ _ _ (⟨none, .store 41 _ _, _, _, _, _⟩ :: _) _ _)); go_loud (refine wpList_storeBlk (o := ⟨none, .store 41 _ _, _, _, _, _⟩) (g := wr.heap.size) (t := 41) (vs := [.int .u64 ep, .int .u8 ow, .int .u64 nx, .int .u64 sn, .slice Ax nx_ cx, .bool true, .int .i64 af, .bool cp]) rfl _ _ rfl rfl rfl (Blk.new _ _ _) rfl (one8 rfl rfl rfl rfl rfl rfl rfl rfl) size8d ?_); intro w1x z1 g1; have G1 := Lib.hid (((Below.refl wr.heap.size wr).alloc (Nat.le_refl _) _).trans (below_of_only g1 (Nat.le_refl _) (by simp))); have XX := Lib.hid z1; have XXS := Lib.hid (show wr.heap.size < w1x.heap.size from z1.lt); obtain ⟨xl, x5, x6⟩ := do_cells z1; clear z1 g1))
          clear HROW
          clear xl x5 x6
          have HOX : Hid (g < wr.heap.size) := HOG
          have S8 := Lib.hid (HS.out.below G1.out)
          have Z8 := Lib.hid (HZ.out.below G1.out HZ.out.lt)
          have B8 := Lib.hid (HB.out.trans ((G1.out).mono HB.out.size))
          clear HS HZ HB
          clear G1
          obtain ⟨g7, hg7⟩ : ∃ z, wr.heap.size = z := ⟨_, rfl⟩
          rw [hg7] at XX XXS HOX ⊢
          have X0 := XX
          clear XX hg7
          refine Calls.mono (fail_any g L0 L1 false t a af _ S8.out) ?_
          rintro e wf ⟨rfl, sf, gf⟩
          have S10 := Lib.hid sf
          have Z10 := Lib.hid (Z8.out.grown gf (by intro q; injection q with q; exact HNE.out q))
          have B10 := Lib.hid (B8.out.trans (below_of_only gf hg0 B8.out.size))
          have X10 := Lib.hid (X0.out.grown gf (by intro q; injection q with q; have := HOX.out; omega))
          clear S8 Z8 B8 X0
          clear sf gf
          obtain ⟨xl, x5, x6⟩ := do_cells X10.out
          go_wp2_with ((with_reducible (show wpList _ _ _ (⟨some 38, .load _ _, _, _, _, _⟩ :: _) _ _)); refine wpList_loadV (o := ⟨some 38, .load _ _, _, _, _, _⟩) rfl _ rfl rfl (xl) ?_)
          clear xl x5 x6
          refine Calls.mono (cput_yes ep ow nx sn Ax nx_ cx ts (N + 1) _ ((HCX.out.below B10.out (Nat.le_refl _)).mono B10.out.size) HFF.out.1 HM.out (by omega) (by omega)) ?_
          rintro e wp ⟨Ap, np, cp_, rfl, op, bp⟩
          have NP := Lib.hid op.len
          have S11 := Lib.hid (S10.out.below bp)
          have Z11 := Lib.hid (Z10.out.below bp Z10.out.lt)
          have B11 := Lib.hid (B10.out.trans ((bp).mono B10.out.size))
          have X11 := Lib.hid (X10.out.below bp X10.out.lt)
          clear S10 Z10 B10 X10
          clear op bp
          obtain ⟨xl, x5, x6⟩ := do_cells X11.out
          go_wp2_with ((with_reducible (show wpList _ _ _ (⟨some 46, .load _ _, _, _, _, _⟩ :: _) _ _)); refine wpList_loadV (o := ⟨some 46, .load _ _, _, _, _, _⟩) rfl _ rfl rfl (xl) ?_)
          clear xl x5 x6
          refine Calls.mono (write_any g L0 L1 true t af ep ow nx sn Ax nx_ cx ts wp S11.out HO.out.1.1 HO.out.2.1 HO.out.1.2 HO.out.2.2 ((HCX.out.below B11.out (Nat.le_refl _)).mono B11.out.size) HFF.out.1 (by have := HFF.out.2.1; omega) (by rw [HNW.out]; simp) (by rw [HNW.out]; simp only; omega)) ?_
          by_cases hta : (np : Int) ≤ af
          · have hta1 : ((cl_ ep ow nx sn ts).rcd (N + 1)).length ≤ af := by rw [← NP.out]; exact hta
            obtain ⟨R0, R1, WE, hi2, ho0, ho1⟩ := wr_late (t := t) HI.out HO.out.1 HO.out.2 HFF.out.1 HM.out (by omega) (by omega) hta1
            have HI3 := Lib.hid (lastI_cast hi2 (M := ((N + 1 : Nat) : Int)) (by omega))
            have HI2 := HI3
            have HO2 := Lib.hid (show Okl R0 ∧ Okl R1 from ⟨ho0, ho1⟩)
            clear hi2 ho0 ho1 hta1
            rw [WE]
            rintro e ww ⟨rfl, sw, gw⟩
            simp only at sw
            clear WE
            have S12 := Lib.hid sw
            have Z12 := Lib.hid (Z11.out.grown gw (by intro q; injection q with q; exact HNE.out q))
            have B12 := Lib.hid (B11.out.trans (below_of_only gw hg0 B11.out.size))
            have X12 := Lib.hid (X11.out.grown gw (by intro q; injection q with q; have := HOX.out; omega))
            clear S11 Z11 B11 X11
            clear sw gw
            obtain ⟨xl, x5, x6⟩ := do_cells X12.out
            go_wp2_with (first
              | ((with_reducible (show wpList _ _ _ (⟨some 95, .load _ _, _, _, _, _⟩ :: _) _ _)); refine wpList_loadV (o := ⟨some 95, .load _ _, _, _, _, _⟩) rfl _ rfl rfl (xl) ?_)
              | ((with_reducible (show wpList _ _ _ (⟨none, .store 25 _ _, _, _, _, _⟩ :: _) _ _)); go_loud (refine wpList_storeBlk (o := ⟨none, .store 25 _ _, _, _, _, _⟩) (g := g4) (t := 25) (vs := [.int .u64 ep, .int .u8 ow, .int .u64 nx, .int .u64 sn, .slice Ax nx_ cx]) rfl _ _ rfl rfl rfl Z12.out rfl (one5 rfl rfl rfl rfl rfl) size5 ?_); intro w9 z9 g9; have Z9 := Lib.hid z9; have G9 := Lib.hid g9; clear z9 g9))
            clear xl x5 x6
            have S9 : Hid (StB g w9 R0 R1 false af true) := Lib.hid (by obtain ⟨v0, v1, h1, h2, h3⟩ := S12.out.b; exact ⟨v0, v1, h1.grown G9.out (by intro q; injection q with q; exact HNE.out q.symm), h2.grown G9.out Z12.out (by decide), h3.grown G9.out Z12.out (by decide)⟩)
            have B9 := Lib.hid (B12.out.trans (below_of_only G9.out hg4 B12.out.size))
            clear S12 Z12 B12 X12 G9
            obtain ⟨sl, hse, hsd⟩ := HI2.out.ex
            have HSE := Lib.hid hse
            clear hse
            have RD := Lib.hid (read_any g R0 R1 false _ _ _ S9.out HO2.out.1.1 HO2.out.2.1 HO2.out.1.2 HO2.out.2.2)
            rw [HSE.out] at RD
            have HCE : Hid ((cl_ ep ow nx sn ts).ep = ep ∧ (cl_ ep ow nx sn ts).ow = ow ∧ (cl_ ep ow nx sn ts).nx = nx ∧ (cl_ ep ow nx sn ts).sn = sn ∧ (cl_ ep ow nx sn ts).bs = bsT ts) := Lib.hid ⟨rfl, rfl, rfl, rfl, rfl⟩
            rcases hsd with ⟨hs0, hsN⟩ | ⟨hs0, hsN⟩
            · skip
              have hsd : decide (0 ≤ sl) = true := decide_eq_true hs0
              refine Calls.mono RD.out ?_
              rintro e wq ⟨Aq, nq, cq, tq, rfl, iq, fq, bq, blq⟩
              obtain ⟨ce0, ce1, ce2, ce3, ce4⟩ := HCE.out
              simp only at bq
              simp only [ce0, ce1, ce2, ce3, hsd]
              have BQ := Lib.hid (ce4.symm.trans bq)
              clear ce0 ce1 ce2 ce3 ce4 hsd
              have IQ := Lib.hid iq
              have S13 := Lib.hid (S9.out.below blq)
              have Z13 := Lib.hid (Z9.out.below blq Z9.out.lt)
              have B13 := Lib.hid (B9.out.trans ((blq).mono B9.out.size))
              clear S9 Z9 B9
              clear RD bq iq fq blq
              go_wp2_with ((with_reducible (show wpList _ _ _ (⟨none, .store 25 _ _, _, _, _, _⟩ :: _) _ _)); go_loud (refine wpList_storeBlk (o := ⟨none, .store 25 _ _, _, _, _, _⟩) (g := wq.heap.size) (t := 25) (vs := [.int .u64 ep, .int .u8 ow, .int .u64 nx, .int .u64 sn, .slice Aq nq cq]) rfl _ _ rfl rfl rfl (Blk.new _ _ _) rfl (one5 rfl rfl rfl rfl rfl) size5 ?_); intro w10 z10 g10; have Q10 := Lib.hid z10; have G10 := Lib.hid (((Below.refl wq.heap.size wq).alloc (Nat.le_refl _) _).trans (below_of_only g10 (Nat.le_refl _) (by simp))); have I10 := Lib.hid ((IQ.out.below G10.out (Nat.le_refl _)).mono G10.out.size); clear z10 g10)
              have S14 := Lib.hid (S13.out.below G10.out)
              have Z14 := Lib.hid (Z13.out.below G10.out Z13.out.lt)
              have B14 := Lib.hid (B13.out.trans ((G10.out).mono B13.out.size))
              clear S13 Z13 B13
              clear G10 IQ
              refine Calls.mono (count_any g R0 R1 false _ _ _ S14.out HO2.out.1.1 HO2.out.2.1 HO2.out.1.2 HO2.out.2.2) ?_
              rw [HSE.out]
              simp only
              rintro e w11 ⟨rfl, b11⟩
              have I11 := Lib.hid ((I10.out.below b11 (Nat.le_refl _)).mono b11.size)
              have Q11 := Lib.hid (Q10.out.below b11 Q10.out.lt)
              have S15 := Lib.hid (S14.out.below b11)
              have Z15 := Lib.hid (Z14.out.below b11 Z14.out.lt)
              have B15 := Lib.hid (B14.out.trans ((b11).mono B14.out.size))
              clear S14 Z14 B14
              clear b11 I10 Q10
              go_wp2_with (first
                | ((with_reducible (show wpList _ _ _ (⟨some 116, .load _ _, _, _, _, _⟩ :: _) _ _)); refine wpList_unguard rfl ?_; refine wpList_loadV (o := ⟨some 116, .load _ _, _, _, _, _⟩) rfl _ rfl rfl (cb_load Q11.out) ?_)
                | ((with_reducible (show wpList _ _ _ (⟨some 117, .load _ _, _, _, _, _⟩ :: _) _ _)); refine wpList_unguard rfl ?_; refine wpList_loadV (o := ⟨some 117, .load _ _, _, _, _, _⟩) rfl _ rfl rfl (cb_load Z15.out) ?_))
              refine Calls.mono (csame_yes ep ow nx sn Aq nq cq tq Ax nx_ cx ts _ I11.out (((HCX.out.below B15.out (Nat.le_refl _))).mono B15.out.size) BQ.out.symm (by have h1 := I11.out.len; have h2 := congrArg List.length BQ.out; rw [bsT_len, bsT_len, h1] at h2; have h3 := HCX.out.len; have h4 := HFF.out.2.2; omega)) ?_
              rintro e w12 ⟨rfl, b12⟩
              have S16 := Lib.hid (S15.out.below b12)
              have Z16 := Lib.hid (Z15.out.below b12 Z15.out.lt)
              have B16 := Lib.hid (B15.out.trans ((b12).mono B15.out.size))
              clear S15 Z15 B15
              clear b12 I11 Q11
              go_wp2_with fail
              refine ⟨⟨k + 1, N + 1, R0, R1, _, _, ep, ow, nx, sn, Ax, nx_, cx, ts, by omega, by omega, by go_num, by go_num, S16, HO2, Z16, HCX, Lib.hid ⟨HFF.out.1, HM.out, HFF.out.2.1, HFF.out.2.2⟩, HI3, B16⟩, ?_⟩
              simp [intOf]
              omega
            · skip
              omega
          · have hta1 : af < ((cl_ ep ow nx sn ts).rcd (N + 1)).length := by rw [← NP.out]; omega
            have hta2 : decide ((np : Int) ≤ af) = false := decide_eq_false hta
            obtain ⟨R0, R1, WE, hi2, ho0, ho1⟩ := wr_torn (t := t) HI.out HO.out.1 HO.out.2 HFF.out.1 HM.out hta1
            have HI3 := Lib.hid hi2
            have HI2 := HI3
            have HO2 := Lib.hid (show Okl R0 ∧ Okl R1 from ⟨ho0, ho1⟩)
            clear hi2 ho0 ho1 hta1 hta
            rw [WE]
            rintro e ww ⟨rfl, sw, gw⟩
            simp only at sw
            clear WE
            have S17 := Lib.hid sw
            have Z17 := Lib.hid (Z11.out.grown gw (by intro q; injection q with q; exact HNE.out q))
            have B17 := Lib.hid (B11.out.trans (below_of_only gw hg0 B11.out.size))
            have X17 := Lib.hid (X11.out.grown gw (by intro q; injection q with q; have := HOX.out; omega))
            clear S11 Z11 B11 X11
            clear sw gw
            obtain ⟨xl, x5, x6⟩ := do_cells X17.out
            go_wp2_with fail
            clear xl x5 x6
            obtain ⟨sl, hse, hsd⟩ := HI2.out.ex
            have HSE := Lib.hid hse
            clear hse
            have RD := Lib.hid (read_any g R0 R1 false _ _ _ S17.out HO2.out.1.1 HO2.out.2.1 HO2.out.1.2 HO2.out.2.2)
            rw [HSE.out] at RD
            have HCE : Hid ((cl_ lep low lnx lsn ts4).ep = lep ∧ (cl_ lep low lnx lsn ts4).ow = low ∧ (cl_ lep low lnx lsn ts4).nx = lnx ∧ (cl_ lep low lnx lsn ts4).sn = lsn ∧ (cl_ lep low lnx lsn ts4).bs = bsT ts4) := Lib.hid ⟨rfl, rfl, rfl, rfl, rfl⟩
            rcases hsd with ⟨hs0, hsN⟩ | ⟨hs0, hsN⟩
            · skip
              have hsd : decide (0 ≤ sl) = true := decide_eq_true hs0
              refine Calls.mono RD.out ?_
              rintro e wq ⟨Aq, nq, cq, tq, rfl, iq, fq, bq, blq⟩
              obtain ⟨ce0, ce1, ce2, ce3, ce4⟩ := HCE.out
              simp only at bq
              simp only [ce0, ce1, ce2, ce3, hsd]
              have BQ := Lib.hid (ce4.symm.trans bq)
              clear ce0 ce1 ce2 ce3 ce4 hsd
              have IQ := Lib.hid iq
              have S18 := Lib.hid (S17.out.below blq)
              have Z18 := Lib.hid (Z17.out.below blq Z17.out.lt)
              have B18 := Lib.hid (B17.out.trans ((blq).mono B17.out.size))
              have X18 := Lib.hid (X17.out.below blq X17.out.lt)
              clear S17 Z17 B17 X17
              clear RD bq iq fq blq
              go_wp2_with ((with_reducible (show wpList _ _ _ (⟨none, .store 25 _ _, _, _, _, _⟩ :: _) _ _)); go_loud (refine wpList_storeBlk (o := ⟨none, .store 25 _ _, _, _, _, _⟩) (g := wq.heap.size) (t := 25) (vs := [.int .u64 lep, .int .u8 low, .int .u64 lnx, .int .u64 lsn, .slice Aq nq cq]) rfl _ _ rfl rfl rfl (Blk.new _ _ _) rfl (one5 rfl rfl rfl rfl rfl) size5 ?_); intro w10 z10 g10; have Q10 := Lib.hid z10; have G10 := Lib.hid (((Below.refl wq.heap.size wq).alloc (Nat.le_refl _) _).trans (below_of_only g10 (Nat.le_refl _) (by simp))); have I10 := Lib.hid ((IQ.out.below G10.out (Nat.le_refl _)).mono G10.out.size); clear z10 g10)
              have S19 := Lib.hid (S18.out.below G10.out)
              have Z19 := Lib.hid (Z18.out.below G10.out Z18.out.lt)
              have B19 := Lib.hid (B18.out.trans ((G10.out).mono B18.out.size))
              have X19 := Lib.hid (X18.out.below G10.out X18.out.lt)
              clear S18 Z18 B18 X18
              clear G10 IQ
              refine Calls.mono (count_any g R0 R1 false _ _ _ S19.out HO2.out.1.1 HO2.out.2.1 HO2.out.1.2 HO2.out.2.2) ?_
              rw [HSE.out]
              simp only
              rintro e w11 ⟨rfl, b11⟩
              have I11 := Lib.hid ((I10.out.below b11 (Nat.le_refl _)).mono b11.size)
              have Q11 := Lib.hid (Q10.out.below b11 Q10.out.lt)
              have S20 := Lib.hid (S19.out.below b11)
              have Z20 := Lib.hid (Z19.out.below b11 Z19.out.lt)
              have B20 := Lib.hid (B19.out.trans ((b11).mono B19.out.size))
              have X20 := Lib.hid (X19.out.below b11 X19.out.lt)
              clear S19 Z19 B19 X19
              clear b11 I10 Q10
              go_wp2_with (first
                | ((with_reducible (show wpList _ _ _ (⟨some 116, .load _ _, _, _, _, _⟩ :: _) _ _)); refine wpList_unguard rfl ?_; refine wpList_loadV (o := ⟨some 116, .load _ _, _, _, _, _⟩) rfl _ rfl rfl (cb_load Q11.out) ?_)
                | ((with_reducible (show wpList _ _ _ (⟨some 117, .load _ _, _, _, _, _⟩ :: _) _ _)); refine wpList_unguard rfl ?_; refine wpList_loadV (o := ⟨some 117, .load _ _, _, _, _, _⟩) rfl _ rfl rfl (cb_load Z20.out) ?_))
              refine Calls.mono (csame_yes lep low lnx lsn Aq nq cq tq A4 n4 c4 ts4 _ I11.out (((HC4.out.below B20.out (Nat.le_refl _))).mono B20.out.size) BQ.out.symm (by have h1 := I11.out.len; have h2 := congrArg List.length BQ.out; rw [bsT_len, bsT_len, h1] at h2; have h3 := HC4.out.len; have h4 := HL.out.2.2.2; omega)) ?_
              rintro e w12 ⟨rfl, b12⟩
              have S21 := Lib.hid (S20.out.below b12)
              have Z21 := Lib.hid (Z20.out.below b12 Z20.out.lt)
              have B21 := Lib.hid (B20.out.trans ((b12).mono B20.out.size))
              have X21 := Lib.hid (X20.out.below b12 X20.out.lt)
              clear S20 Z20 B20 X20
              clear b12 I11 Q11
              go_wp2_with fail
              refine ⟨⟨k + 1, N, R0, R1, _, _, lep, low, lnx, lsn, A4, n4, c4, ts4, by omega, by omega, by go_num, by go_num, S21, HO2, Z21, HC4, Lib.hid HL.out, HI3, B21⟩, ?_⟩
              simp [intOf]
              omega
            · skip
              have hsd : decide (0 ≤ sl) = false := decide_eq_false (by omega)
              have hN0 : N = 0 := by omega
              subst hN0
              refine Calls.mono RD.out ?_
              rintro e wq ⟨Aq, nq, cq, tq, rfl, iq, fq, bq, blq⟩
              obtain ⟨ce0, ce1, ce2, ce3, ce4⟩ := HCE.out
              simp only at bq
              simp only [ce0, ce1, ce2, ce3, hsd]
              have BQ := Lib.hid (ce4.symm.trans bq)
              clear ce0 ce1 ce2 ce3 ce4 hsd
              have IQ := Lib.hid iq
              have S22 := Lib.hid (S17.out.below blq)
              have Z22 := Lib.hid (Z17.out.below blq Z17.out.lt)
              have B22 := Lib.hid (B17.out.trans ((blq).mono B17.out.size))
              have X22 := Lib.hid (X17.out.below blq X17.out.lt)
              clear S17 Z17 B17 X17
              clear RD bq iq fq blq
              go_wp2_with ((with_reducible (show wpList _ _ _ (⟨none, .store 25 _ _, _, _, _, _⟩ :: _) _ _)); go_loud (refine wpList_storeBlk (o := ⟨none, .store 25 _ _, _, _, _, _⟩) (g := wq.heap.size) (t := 25) (vs := [.int .u64 lep, .int .u8 low, .int .u64 lnx, .int .u64 lsn, .slice Aq nq cq]) rfl _ _ rfl rfl rfl (Blk.new _ _ _) rfl (one5 rfl rfl rfl rfl rfl) size5 ?_); intro w10 z10 g10; have Q10 := Lib.hid z10; have G10 := Lib.hid (((Below.refl wq.heap.size wq).alloc (Nat.le_refl _) _).trans (below_of_only g10 (Nat.le_refl _) (by simp))); have I10 := Lib.hid ((IQ.out.below G10.out (Nat.le_refl _)).mono G10.out.size); clear z10 g10)
              have S23 := Lib.hid (S22.out.below G10.out)
              have Z23 := Lib.hid (Z22.out.below G10.out Z22.out.lt)
              have B23 := Lib.hid (B22.out.trans ((G10.out).mono B22.out.size))
              have X23 := Lib.hid (X22.out.below G10.out X22.out.lt)
              clear S22 Z22 B22 X22
              clear G10 IQ
              refine Calls.mono (count_any g R0 R1 false _ _ _ S23.out HO2.out.1.1 HO2.out.2.1 HO2.out.1.2 HO2.out.2.2) ?_
              rw [HSE.out]
              simp only
              rintro e w11 ⟨rfl, b11⟩
              have I11 := Lib.hid ((I10.out.below b11 (Nat.le_refl _)).mono b11.size)
              have Q11 := Lib.hid (Q10.out.below b11 Q10.out.lt)
              have S24 := Lib.hid (S23.out.below b11)
              have Z24 := Lib.hid (Z23.out.below b11 Z23.out.lt)
              have B24 := Lib.hid (B23.out.trans ((b11).mono B23.out.size))
              have X24 := Lib.hid (X23.out.below b11 X23.out.lt)
              clear S23 Z23 B23 X23
              clear b11 I10 Q10
              go_wp2_with fail
              refine ⟨⟨k + 1, 0, R0, R1, _, _, lep, low, lnx, lsn, A4, n4, c4, ts4, by omega, by omega, by go_num, by go_num, S24, HO2, Z24, HC4, Lib.hid HL.out, HI3, B24⟩, ?_⟩
              simp [intOf]
              omega
      · have HM := Lib.hid hm
        clear hm
        cases f with
        | false =>
          go_wp2_with (first
            | ((with_reducible (show wpList _ _ _ (⟨some 29, .load _ _, _, _, _, _⟩ :: _) _ _)); refine wpList_loadV (o := ⟨some 29, .load _ _, _, _, _, _⟩) rfl _ rfl rfl (HROW.out) ?_)
            | ((with_reducible (show wpList _ _ _ (⟨some 38, .load _ _, _, _, _, _⟩ :: _) _ _)); refine wpList_loadV (o := ⟨some 38, .load _ _, _, _, _, _⟩) rfl _ rfl rfl (xl) ?_)
            | ((with_reducible (show wpList _ _ _ (⟨none, .store 41 _ _, _, _, _, _⟩ :: _) _ _)); go_loud (refine wpList_storeBlk (o := ⟨none, .store 41 _ _, _, _, _, _⟩) (g := wr.heap.size) (t := 41) (vs := [.int .u64 ep, .int .u8 ow, .int .u64 nx, .int .u64 sn, .slice Ax nx_ cx, .bool false, .int .i64 af, .bool cp]) rfl _ _ rfl rfl rfl (Blk.new _ _ _) rfl (one8 rfl rfl rfl rfl rfl rfl rfl rfl) size8d ?_); intro w1x z1 g1; have G1 := Lib.hid (((Below.refl wr.heap.size wr).alloc (Nat.le_refl _) _).trans (below_of_only g1 (Nat.le_refl _) (by simp))); have XX := Lib.hid z1; have XXS := Lib.hid (show wr.heap.size < w1x.heap.size from z1.lt); obtain ⟨xl, x5, x6⟩ := do_cells z1; clear z1 g1))
          clear HROW
          clear xl x5 x6
          have HOX : Hid (g < wr.heap.size) := HOG
          have S25 := Lib.hid (HS.out.below G1.out)
          have Z25 := Lib.hid (HZ.out.below G1.out HZ.out.lt)
          have B25 := Lib.hid (HB.out.trans ((G1.out).mono HB.out.size))
          clear HS HZ HB
          clear G1
          obtain ⟨g7, hg7⟩ : ∃ z, wr.heap.size = z := ⟨_, rfl⟩
          rw [hg7] at XX XXS HOX ⊢
          have X0 := XX
          clear XX hg7
          refine Calls.mono (cput_no ep ow nx sn Ax nx_ cx ts (N + 1) _ ((HCX.out.below B25.out (Nat.le_refl _)).mono B25.out.size) (by have := HFF.out.2.1; omega) HM.out) ?_
          rintro e wp ⟨rfl, bp⟩
          have S26 := Lib.hid (S25.out.below bp)
          have Z26 := Lib.hid (Z25.out.below bp Z25.out.lt)
          have B26 := Lib.hid (B25.out.trans ((bp).mono B25.out.size))
          have X26 := Lib.hid (X0.out.below bp X0.out.lt)
          clear S25 Z25 B25 X0
          clear bp
          obtain ⟨xl, x5, x6⟩ := do_cells X26.out
          go_wp2_with ((with_reducible (show wpList _ _ _ (⟨some 46, .load _ _, _, _, _, _⟩ :: _) _ _)); refine wpList_loadV (o := ⟨some 46, .load _ _, _, _, _, _⟩) rfl _ rfl rfl (xl) ?_)
          clear xl x5 x6
          refine Calls.mono (write_any g L0 L1 false t a ep ow nx sn Ax nx_ cx ts wp S26.out HO.out.1.1 HO.out.2.1 HO.out.1.2 HO.out.2.2 ((HCX.out.below B26.out (Nat.le_refl _)).mono B26.out.size) HFF.out.1 (by have := HFF.out.2.1; omega) (by rw [HNW.out]; simp) (by rw [HNW.out]; simp only; omega)) ?_
          rw [wr_not HM.out]
          rintro e ww ⟨rfl, sw, gw⟩
          simp only at sw
          have S28 := Lib.hid sw
          have Z28 := Lib.hid (Z26.out.grown gw (by intro q; injection q with q; exact HNE.out q))
          have B28 := Lib.hid (B26.out.trans (below_of_only gw hg0 B26.out.size))
          have X28 := Lib.hid (X26.out.grown gw (by intro q; injection q with q; have := HOX.out; omega))
          clear S26 Z26 B26 X26
          clear sw gw
          go_wp2_with fail
          refine Calls.mono (fail_any g L0 L1 false t a (-1) _ S28.out) ?_
          rintro e wg ⟨rfl, sg, gg⟩
          have S29 := Lib.hid sg
          have Z29 := Lib.hid (Z28.out.grown gg (by intro q; injection q with q; exact HNE.out q))
          have B29 := Lib.hid (B28.out.trans (below_of_only gg hg0 B28.out.size))
          have X29 := Lib.hid (X28.out.grown gg (by intro q; injection q with q; have := HOX.out; omega))
          clear S28 Z28 B28 X28
          clear sg gg
          go_wp2_with ((with_reducible (show wpList _ _ _ (⟨some 57, .load _ _, _, _, _, _⟩ :: _) _ _)); refine wpList_loadV (o := ⟨some 57, .load _ _, _, _, _, _⟩) rfl _ rfl rfl (cb_load Z29.out) ?_)
          refine Calls.mono (write_any g L0 L1 true t (-1) lep low lnx lsn A4 n4 c4 ts4 wg S29.out HO.out.1.1 HO.out.2.1 HO.out.1.2 HO.out.2.2 ((HC4.out.below B29.out (Nat.le_refl _)).mono B29.out.size) HL.out.1 (by have := HL.out.2.2.1; omega) (by rw [HNW.out]; simp) (by rw [HNW.out]; simp only; omega)) ?_
          rw [wr_fails HL.out.2.1]
          rintro e wh ⟨rfl, sh, gh⟩
          simp only at sh
          have S30 := Lib.hid sh
          have Z30 := Lib.hid (Z29.out.grown gh (by intro q; injection q with q; exact HNE.out q))
          have B30 := Lib.hid (B29.out.trans (below_of_only gh hg0 B29.out.size))
          have X30 := Lib.hid (X29.out.grown gh (by intro q; injection q with q; have := HOX.out; omega))
          clear S29 Z29 B29 X29
          clear sh gh
          go_wp2_with fail
          refine ⟨⟨k + 1, N, L0, L1, true, -1, lep, low, lnx, lsn, A4, n4, c4, ts4, by omega, by omega, rfl, by go_num, S30, HO, Z30, HC4, HL, HI, B30⟩, ?_⟩
          simp [intOf]
          omega
        | true =>
          go_wp2_with (first
            | ((with_reducible (show wpList _ _ _ (⟨some 29, .load _ _, _, _, _, _⟩ :: _) _ _)); refine wpList_loadV (o := ⟨some 29, .load _ _, _, _, _, _⟩) rfl _ rfl rfl (HROW.out) ?_)
            | ((with_reducible (show wpList _ _ _ (⟨some 38, .load _ _, _, _, _, _⟩ :: _) _ _)); refine wpList_loadV (o := ⟨some 38, .load _ _, _, _, _, _⟩) rfl _ rfl rfl (xl) ?_)
            | ((with_reducible (show wpList _ _ _ (⟨none, .store 41 _ _, _, _, _, _⟩ :: _) _ _)); go_loud (refine wpList_storeBlk (o := ⟨none, .store 41 _ _, _, _, _, _⟩) (g := wr.heap.size) (t := 41) (vs := [.int .u64 ep, .int .u8 ow, .int .u64 nx, .int .u64 sn, .slice Ax nx_ cx, .bool true, .int .i64 af, .bool cp]) rfl _ _ rfl rfl rfl (Blk.new _ _ _) rfl (one8 rfl rfl rfl rfl rfl rfl rfl rfl) size8d ?_); intro w1x z1 g1; have G1 := Lib.hid (((Below.refl wr.heap.size wr).alloc (Nat.le_refl _) _).trans (below_of_only g1 (Nat.le_refl _) (by simp))); have XX := Lib.hid z1; have XXS := Lib.hid (show wr.heap.size < w1x.heap.size from z1.lt); obtain ⟨xl, x5, x6⟩ := do_cells z1; clear z1 g1))
          clear HROW
          clear xl x5 x6
          have HOX : Hid (g < wr.heap.size) := HOG
          have S31 := Lib.hid (HS.out.below G1.out)
          have Z31 := Lib.hid (HZ.out.below G1.out HZ.out.lt)
          have B31 := Lib.hid (HB.out.trans ((G1.out).mono HB.out.size))
          clear HS HZ HB
          clear G1
          obtain ⟨g7, hg7⟩ : ∃ z, wr.heap.size = z := ⟨_, rfl⟩
          rw [hg7] at XX XXS HOX ⊢
          have X0 := XX
          clear XX hg7
          refine Calls.mono (fail_any g L0 L1 false t a af _ S31.out) ?_
          rintro e wf ⟨rfl, sf, gf⟩
          have S33 := Lib.hid sf
          have Z33 := Lib.hid (Z31.out.grown gf (by intro q; injection q with q; exact HNE.out q))
          have B33 := Lib.hid (B31.out.trans (below_of_only gf hg0 B31.out.size))
          have X33 := Lib.hid (X0.out.grown gf (by intro q; injection q with q; have := HOX.out; omega))
          clear S31 Z31 B31 X0
          clear sf gf
          obtain ⟨xl, x5, x6⟩ := do_cells X33.out
          go_wp2_with ((with_reducible (show wpList _ _ _ (⟨some 38, .load _ _, _, _, _, _⟩ :: _) _ _)); refine wpList_loadV (o := ⟨some 38, .load _ _, _, _, _, _⟩) rfl _ rfl rfl (xl) ?_)
          clear xl x5 x6
          refine Calls.mono (cput_no ep ow nx sn Ax nx_ cx ts (N + 1) _ ((HCX.out.below B33.out (Nat.le_refl _)).mono B33.out.size) (by have := HFF.out.2.1; omega) HM.out) ?_
          rintro e wp ⟨rfl, bp⟩
          have S34 := Lib.hid (S33.out.below bp)
          have Z34 := Lib.hid (Z33.out.below bp Z33.out.lt)
          have B34 := Lib.hid (B33.out.trans ((bp).mono B33.out.size))
          have X34 := Lib.hid (X33.out.below bp X33.out.lt)
          clear S33 Z33 B33 X33
          clear bp
          obtain ⟨xl, x5, x6⟩ := do_cells X34.out
          go_wp2_with ((with_reducible (show wpList _ _ _ (⟨some 46, .load _ _, _, _, _, _⟩ :: _) _ _)); refine wpList_loadV (o := ⟨some 46, .load _ _, _, _, _, _⟩) rfl _ rfl rfl (xl) ?_)
          clear xl x5 x6
          refine Calls.mono (write_any g L0 L1 true t af ep ow nx sn Ax nx_ cx ts wp S34.out HO.out.1.1 HO.out.2.1 HO.out.1.2 HO.out.2.2 ((HCX.out.below B34.out (Nat.le_refl _)).mono B34.out.size) HFF.out.1 (by have := HFF.out.2.1; omega) (by rw [HNW.out]; simp) (by rw [HNW.out]; simp only; omega)) ?_
          rw [wr_not HM.out]
          rintro e ww ⟨rfl, sw, gw⟩
          simp only at sw
          have S36 := Lib.hid sw
          have Z36 := Lib.hid (Z34.out.grown gw (by intro q; injection q with q; exact HNE.out q))
          have B36 := Lib.hid (B34.out.trans (below_of_only gw hg0 B34.out.size))
          have X36 := Lib.hid (X34.out.grown gw (by intro q; injection q with q; have := HOX.out; omega))
          clear S34 Z34 B34 X34
          clear sw gw
          go_wp2_with fail
          refine Calls.mono (fail_any g L0 L1 true t af (-1) _ S36.out) ?_
          rintro e wg ⟨rfl, sg, gg⟩
          have S37 := Lib.hid sg
          have Z37 := Lib.hid (Z36.out.grown gg (by intro q; injection q with q; exact HNE.out q))
          have B37 := Lib.hid (B36.out.trans (below_of_only gg hg0 B36.out.size))
          have X37 := Lib.hid (X36.out.grown gg (by intro q; injection q with q; have := HOX.out; omega))
          clear S36 Z36 B36 X36
          clear sg gg
          go_wp2_with ((with_reducible (show wpList _ _ _ (⟨some 57, .load _ _, _, _, _, _⟩ :: _) _ _)); refine wpList_loadV (o := ⟨some 57, .load _ _, _, _, _, _⟩) rfl _ rfl rfl (cb_load Z37.out) ?_)
          refine Calls.mono (write_any g L0 L1 true t (-1) lep low lnx lsn A4 n4 c4 ts4 wg S37.out HO.out.1.1 HO.out.2.1 HO.out.1.2 HO.out.2.2 ((HC4.out.below B37.out (Nat.le_refl _)).mono B37.out.size) HL.out.1 (by have := HL.out.2.2.1; omega) (by rw [HNW.out]; simp) (by rw [HNW.out]; simp only; omega)) ?_
          rw [wr_fails HL.out.2.1]
          rintro e wh ⟨rfl, sh, gh⟩
          simp only at sh
          have S38 := Lib.hid sh
          have Z38 := Lib.hid (Z37.out.grown gh (by intro q; injection q with q; exact HNE.out q))
          have B38 := Lib.hid (B37.out.trans (below_of_only gh hg0 B37.out.size))
          have X38 := Lib.hid (X37.out.grown gh (by intro q; injection q with q; have := HOX.out; omega))
          clear S37 Z37 B37 X37
          clear sh gh
          go_wp2_with fail
          refine ⟨⟨k + 1, N, L0, L1, true, -1, lep, low, lnx, lsn, A4, n4, c4, ts4, by omega, by omega, rfl, by go_num, S38, HO, Z38, HC4, HL, HI, B38⟩, ?_⟩
          simp [intOf]
          omega
    · go_wp2_with fail
      go_ret
      exact ⟨rfl, HB.out⟩
end Go.Proofs.Ytnagpaaiaaaamaa
