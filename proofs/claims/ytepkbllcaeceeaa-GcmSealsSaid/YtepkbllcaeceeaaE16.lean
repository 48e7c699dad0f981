/- Contract of layer 8's reference: Columns. Conditions: as each theorem states them. -/
import Derived.Test.YtepkbllcaeceeaaE15
namespace Go.Proofs.Ytepkbllcaeceeaa
open Go.RowKit
theorem slice_lhN {P : Program} {t e : TypeId} {k : IntKind} {bytes B n c : Nat} {w : World} {A : Option Addr} {xs : List Int} (E : ElT P t e k bytes) (hr : Rd B k w A xs) (hn : xs.length = n) (hc : n ≤ c) (l h : Int) (m : Nat) (h0 : 0 ≤ l) (h1 : l ≤ h) (h2 : h ≤ n) (hm : (m : Int) = h - l) :
    ∃ A' c', m ≤ c' ∧ c' ≤ c ∧ Rd B k w A' ((xs.drop l.toNat).take m) ∧ ((xs.drop l.toNat).take m).length = m ∧
      ∀ (w : World) (kl kh : IntKind), (Instr.sliceAt t (.slice A n c) (some (.int kl l)) (some (.int kh h)) none).run P w = .ok (.slice A' m c') w := by
  subst hn; exact slice_lh E hr hc l h m h0 h1 h2 hm
theorem times_2 {c : Int} (hc : B8 c) : times c 2 = tw c := by
  have h := List.all_eq_true.1 times_two c (allE_mem hc)
  simp only [Bool.and_eq_true, beq_iff_eq] at h
  exact h.1.2
set_option maxRecDepth 100000 in
set_option maxHeartbeats 8000000 in
theorem rcols_any (A0 : Option Addr) (c0 : Nat) (A1 : Option Addr) (c1 : Nat) (K : List Int) (w : World) (hK : Blk16 K) (hb : Rd w.heap.size .u8 w A0 boxL) (hr : Rd w.heap.size .u8 w A1 K) :
    Calls Try.prog 23 #[.slice A0 256 c0, .slice A1 16 c1] w (RetOwn 5 .u8 (wkL K) w) := by
  have HK := Lib.hid hK
  have HKL := Lib.hid hK.1
  have HBL := Lib.hid boxL_len
  obtain ⟨ad0, rfl, had0⟩ := hb.isSome (by rw [HBL.out]; decide)
  have HB := Lib.hid hb
  have HR := Lib.hid hr
  clear hK hb hr
  have O0 : Hid (Own w.heap.size 5 .u8 (w.alloc (.cells #[] 5)) (some ⟨w.heap.size, 0, none⟩) 0 0 []) := Lib.hid (Own.litAt rfl rfl rfl (Nat.le_refl _) (Nat.zero_le _))
  have HR0 := Lib.hid (HR.out.alloc (Nat.le_refl _) (.cells #[] 5))
  go_enter Try.func23, Try.ntmps23
  go_wp2_with (at_builtin; refine wpList_app (o := ⟨some 12, _, _, _, _, _⟩) elB8 rfl _ _ rfl rfl rfl O0.out HR0.out HKL.out.symm ?_ ?_ ?_; (rw [HKL.out]; decide); (simp); intro A2 n2 c2 w2 q2; have H2 : Hid (Own w.heap.size 5 .u8 w2 A2 n2 c2 K) := Lib.hid q2.1; have B2 := Lib.hid (((Below.refl w.heap.size w).alloc (Nat.le_refl _) _).trans q2.2.2.1); clear q2)
  have HZ1 : Hid ((1 : Int) = (kexp K (4 - 4)).2) := Lib.hid (by rw [kexp_zero])
  have HZ2 : Hid (Own w.heap.size 5 .u8 w2 A2 n2 c2 (kexp K (4 - 4)).1) := Lib.hid (by rw [kexp_zero]; exact H2.out)
  have HZ3 : Hid (n2 = 4 * 4) := Lib.hid (by rw [H2.out.len, HKL.out])
  clear H2
  go_loopw [5, 6, 7] (fun v u i wr => ∃ (k : Nat) (c : Int) (A : Option Addr) (n cc : Nat), 4 ≤ k ∧ k ≤ 44 ∧ i = .int .i64 k ∧ u = .int .u8 c ∧ v = .slice A n cc ∧ Hid (n = 4 * k) ∧ Hid (Own w.heap.size 5 .u8 wr A n cc (kexp K (k - 4)).1) ∧ Hid (c = (kexp K (k - 4)).2) ∧ Hid (Below w.heap.size w wr)) (fun _ _ i _ => 44 - (intOf i).toNat)
  case atStart => exact ⟨4, 1, A2, n2, c2, by omega, by omega, rfl, rfl, rfl, HZ3, HZ2, HZ1, B2⟩
  case round =>
    clear HZ1 HZ2 HZ3
    obtain ⟨k, c, A, n, cc, hk4, hk, rfl, rfl, rfl, HN, HO, HC, HW⟩ := hrel
    by_cases hlt : k < 44
    · have HOK := Lib.hid (kexp_ok HK.out (k - 4))
      have HKX := Lib.hid (kexp_succ K (k - 4))
      have hx8 : B8 c := by rw [HC.out]; exact HOK.out.2.2
      have HC8 := Lib.hid hx8
      obtain ⟨hc0, hc1⟩ := hx8
      rw [← HC.out] at HKX HOK
      generalize (kexp K (k - 4)).1 = xs at *
      have HXL : Hid (xs.length = 4 * k) := Lib.hid (by have := HOK.out.1; omega)
      have HXB := Lib.hid HOK.out.2.1
      have hcap := HO.out.cap
      have hHW := HW.out.size
      have hn := HN.out
      subst hn
      obtain ⟨ga, rfl, hga, hga'⟩ := HO.out.addr (by omega)
      obtain ⟨A6, c6, p1, p2, p3, p4, p5⟩ := slice_lhN elB8 (HO.out.rd.alloc (Nat.le_refl _) (.cells #[] 5)) HO.out.len.symm hcap.1 (4 * (k : Int) - 4) (4 * (k : Int)) 4 (by omega) (by omega) (by omega) (by omega)
      have P4 := Lib.hid p4
      have e4 : (4 * (k : Int) - 4).toNat = (k - 1) * 4 := by omega
      rw [e4, four_of (by rw [HXL.out]; omega)] at p3
      have P3 := Lib.hid p3
      have g0 := HXB.out.getD ((k - 1) * 4)
      have g1 := HXB.out.getD ((k - 1) * 4 + 1)
      have g2 := HXB.out.getD ((k - 1) * 4 + 2)
      have g3 := HXB.out.getD ((k - 1) * 4 + 3)
      obtain ⟨t0, ht0⟩ : ∃ t, xs.getD ((k - 1) * 4) 0 = t := ⟨_, rfl⟩
      obtain ⟨t1, ht1⟩ : ∃ t, xs.getD ((k - 1) * 4 + 1) 0 = t := ⟨_, rfl⟩
      obtain ⟨t2, ht2⟩ : ∃ t, xs.getD ((k - 1) * 4 + 2) 0 = t := ⟨_, rfl⟩
      obtain ⟨t3, ht3⟩ : ∃ t, xs.getD ((k - 1) * 4 + 3) 0 = t := ⟨_, rfl⟩
      rw [ht0, ht1, ht2, ht3] at P3
      rw [ht0] at g0
      rw [ht1] at g1
      rw [ht2] at g2
      rw [ht3] at g3
      have HT0 := Lib.hid ht0
      have HT1 := Lib.hid ht1
      have HT2 := Lib.hid ht2
      have HT3 := Lib.hid ht3
      obtain ⟨g00, g01⟩ := g0
      obtain ⟨g10, g11⟩ := g1
      obtain ⟨g20, g21⟩ := g2
      obtain ⟨g30, g31⟩ := g3
      have OE : Hid (Own wr.heap.size 5 .u8 (wr.alloc (.cells #[] 5)) (some ⟨wr.heap.size, 0, none⟩) 0 0 []) := Lib.hid (Own.litAt rfl rfl rfl (Nat.le_refl _) (Nat.zero_le _))
      clear ht0 ht1 ht2 ht3 p3 p4 e4
      by_cases h4 : k % 4 = 0
      case' pos =>
        have h4i : (k : Int) % 4 = 0 := by omega
        go_wp2_with (at_builtin; refine wpList_app (o := ⟨some 25, _, _, _, _, _⟩) elB8 rfl _ _ rfl rfl rfl OE.out P3.out rfl ?_ ?_ ?_; (simp); (simp); intro A8 n8 c8 w8 q8; obtain ⟨g8, rfl, hg8, hg8'⟩ := Own.addr q8.1 (by rw [q8.1.len]; simp); obtain rfl := (show n8 = 4 from q8.1.len); have H8 : Hid (Own wr.heap.size 5 .u8 w8 (some ⟨g8, 0, none⟩) 4 c8 [t0, t1, t2, t3]) := Lib.hid q8.1; have B8' := Lib.hid (((Below.refl wr.heap.size wr).alloc (Nat.le_refl _) _).trans q8.2.2.1); clear q8)
        have HW8 := Lib.hid (HW.out.trans (B8'.out.mono hHW))
        have HB8 := Lib.hid (HB.out.below HW8.out (Nat.le_refl _))
        have e0 : ∀ r : BW w8.heap.size w8, r.world.cell? ⟨g8, 0, none⟩ = some (.int .u8 t0) := fun r => (H8.out.below r.below).cell0 (i := 0) (by simp)
        have e1 : ∀ r : BW w8.heap.size w8, r.world.cell? ⟨g8, 1, none⟩ = some (.int .u8 t1) := fun r => (H8.out.below r.below).cell0 (i := 1) (by simp)
        have e2 : ∀ r : BW w8.heap.size w8, r.world.cell? ⟨g8, 2, none⟩ = some (.int .u8 t2) := fun r => (H8.out.below r.below).cell0 (i := 2) (by simp)
        have e3 : ∀ r : BW w8.heap.size w8, r.world.cell? ⟨g8, 3, none⟩ = some (.int .u8 t3) := fun r => (H8.out.below r.below).cell0 (i := 3) (by simp)
        have b0 : ∀ r : BW w8.heap.size w8, r.world.cell? (ad0.add t0.toNat) = some (.int .u8 (sub t0)) := fun r => (HB8.out.below r.below HW8.out.size).at_ (by rw [HBL.out]; omega)
        have b1 : ∀ r : BW w8.heap.size w8, r.world.cell? (ad0.add t1.toNat) = some (.int .u8 (sub t1)) := fun r => (HB8.out.below r.below HW8.out.size).at_ (by rw [HBL.out]; omega)
        have b2 : ∀ r : BW w8.heap.size w8, r.world.cell? (ad0.add t2.toNat) = some (.int .u8 (sub t2)) := fun r => (HB8.out.below r.below HW8.out.size).at_ (by rw [HBL.out]; omega)
        have b3 : ∀ r : BW w8.heap.size w8, r.world.cell? (ad0.add t3.toNat) = some (.int .u8 (sub t3)) := fun r => (HB8.out.below r.below HW8.out.size).at_ (by rw [HBL.out]; omega)
        refine wp_region_mixN w8.heap.size [([0, 1, 2, 3, 4, 5, 6, 7, 8, 9, 10, 11, 12, 13, 14, 15, 16, 17, 18, 19, 20, 21, 22, 23, 24, 25], 26)] [27] (by kernel_rfl) (by kernel_rfl) (by kernel_rfl) (by kernel_rfl) ?_
        try (rw [put_none])
        simp only [pickL, List.map_cons, List.map_nil, List.filterMap_cons, List.filterMap_nil, List.getElem?_cons_succ, List.getElem?_cons_zero]
        refine mixN_cons ?_
        repeat (show wpQuiet _ _ _ _ (_ :: _) _; go_big_quiet_step (fail))
        refine wpQuiet_nil ?_
        show wpList _ _ _ [_] _ _
        go_wp2_with fail
        obtain ⟨g, hg⟩ : ∃ g, w8.heap.size = g := ⟨_, rfl⟩
        obtain ⟨T, hT⟩ : ∃ T, [bits .xor .u8 (sub t1) c, sub t2, sub t3, sub t0] = T := ⟨_, rfl⟩
        have HTL : Hid (T.length = 4) := Lib.hid (by rw [← hT]; rfl)
        have HTE : Hid (∀ j, j < 4 → T.getD j 0 = kt xs c k j) := Lib.hid (fun j hj => by
          rw [← hT]
          unfold kt
          rw [if_pos h4]
          rcases (show j = 0 ∨ j = 1 ∨ j = 2 ∨ j = 3 by omega) with rfl | rfl | rfl | rfl
          · rw [if_pos rfl, show 4 * k - 3 = (k - 1) * 4 + 1 by omega, HT1.out]; rfl
          · rw [if_neg (by decide), show 4 * k - 4 + (1 + 1) % 4 = (k - 1) * 4 + 2 by omega, HT2.out]; rfl
          · rw [if_neg (by decide), show 4 * k - 4 + (2 + 1) % 4 = (k - 1) * 4 + 3 by omega, HT3.out]; rfl
          · rw [if_neg (by decide), show 4 * k - 4 + (3 + 1) % 4 = (k - 1) * 4 by omega, HT0.out]; rfl)
        have B9 : Hid (Below w8.heap.size w8 (w8.alloc (.cells #[.int .u8 (bits .xor .u8 (sub t1) c), .int .u8 (sub t2), .int .u8 (sub t3), .int .u8 (sub t0)] 5)).drew) := Lib.hid (((Below.refl _ _).alloc (Nat.le_refl _) _).drew)
        have HT9 : Hid (Own w.heap.size 5 .u8 (w8.alloc (.cells #[.int .u8 (bits .xor .u8 (sub t1) c), .int .u8 (sub t2), .int .u8 (sub t3), .int .u8 (sub t0)] 5)).drew (some ⟨g, 0, none⟩) 4 4 T) := Lib.hid (Own.drew (Own.litAt hg (by rw [← hT]; rfl) (by rw [← hT]; rfl) (by rw [← hg]; exact HW8.out.size) (by rw [← hT]; simp [maxLen])))
        have hne : ga ≠ g := by have := B8'.out.size; omega
        have HX9 := Lib.hid (HO.out.below (B8'.out.trans (B9.out.mono B8'.out.size)))
        have HW9 := Lib.hid (HW8.out.trans (B9.out.mono HW8.out.size))
        obtain ⟨cc2, hcc⟩ : ∃ cc2, tw c = cc2 := ⟨_, rfl⟩
        have HCC : Hid (cc2 = (kexp K (k - 4 + 1)).2) := Lib.hid (by rw [HKX.out, ← hcc]; show _ = if _ then _ else _; rw [if_pos (by omega)])
        refine MixN.narrow B9.out B9.out.size ?_
        refine mixN_nil ?_
        repeat (show wpQuiet _ _ _ _ (_ :: _) _; go_big_quiet_step (fail))
        refine wpQuiet_nil ?_
        refine NoPanic.normal ?_
        rw [hg]
        generalize (w8.alloc (.cells #[.int .u8 (bits .xor .u8 (sub t1) c), .int .u8 (sub t2), .int .u8 (sub t3), .int .u8 (sub t0)] 5)).drew = w9 at *
        generalize bits .xor .u8 (sub t1) c = y0 at *
        clear e0 e1 e2 e3 b0 b1 b2 b3 B9 H8 hT hg hg8 hg8' B8' HW8 HB8
        go_wp2_with fail
        refine Calls.mono (rtimes_any c 2 _ HC8.out ⟨by decide, by decide⟩) ?_
        rintro e w7 ⟨rfl, rfl⟩
        rw [times_2 HC8.out, hcc]
        clear hcc h4i h4
        have HTR : Hid (Rd w9.heap.size .u8 w9 (some ⟨g, 0, none⟩) T) := Lib.hid HT9.out.rd
        have hgW : g < w9.heap.size := (HT9.out.block _ rfl).2
        clear HT9
      case' neg =>
        have h4i : (k : Int) % 4 ≠ 0 := by omega
        go_wp2_with (at_builtin; refine wpList_app (o := ⟨some 25, _, _, _, _, _⟩) elB8 rfl _ _ rfl rfl rfl OE.out P3.out rfl ?_ ?_ ?_; (simp); (simp); intro A8 n8 c8 w8 q8; obtain ⟨g8, rfl, hg8, hg8'⟩ := Own.addr q8.1 (by rw [q8.1.len]; simp); obtain rfl := (show n8 = 4 from q8.1.len); have H8 : Hid (Own wr.heap.size 5 .u8 w8 (some ⟨g8, 0, none⟩) 4 c8 [t0, t1, t2, t3]) := Lib.hid q8.1; have B8' := Lib.hid (((Below.refl wr.heap.size wr).alloc (Nat.le_refl _) _).trans q8.2.2.1); clear q8)
        obtain ⟨g, hg⟩ : ∃ g, g8 = g := ⟨_, rfl⟩
        obtain ⟨T, hT⟩ : ∃ T, [t0, t1, t2, t3] = T := ⟨_, rfl⟩
        have HTL : Hid (T.length = 4) := Lib.hid (by rw [← hT]; rfl)
        have HTE : Hid (∀ j, j < 4 → T.getD j 0 = kt xs c k j) := Lib.hid (fun j hj => by
          rw [← hT]
          unfold kt
          rw [if_neg h4]
          rcases (show j = 0 ∨ j = 1 ∨ j = 2 ∨ j = 3 by omega) with rfl | rfl | rfl | rfl
          · rw [show 4 * k - 4 + 0 = (k - 1) * 4 by omega, HT0.out]; rfl
          · rw [show 4 * k - 4 + 1 = (k - 1) * 4 + 1 by omega, HT1.out]; rfl
          · rw [show 4 * k - 4 + 2 = (k - 1) * 4 + 2 by omega, HT2.out]; rfl
          · rw [show 4 * k - 4 + 3 = (k - 1) * 4 + 3 by omega, HT3.out]; rfl)
        obtain ⟨w9, rfl⟩ : ∃ w9 : World, w9 = w8 := ⟨_, rfl⟩
        have HTR : Hid (Rd w9.heap.size .u8 w9 (some ⟨g, 0, none⟩) T) := Lib.hid (by rw [← hT, ← hg]; exact H8.out.rd)
        have hgW : g < w9.heap.size := by rw [← hg]; exact hg8'
        have hne : ga ≠ g := by omega
        have HX9 := Lib.hid (HO.out.below B8'.out)
        have HW9 := Lib.hid (HW.out.trans (B8'.out.mono hHW))
        obtain ⟨cc2, hcc⟩ : ∃ cc2, c = cc2 := ⟨_, rfl⟩
        have HCC : Hid (cc2 = (kexp K (k - 4 + 1)).2) := Lib.hid (by rw [HKX.out, ← hcc]; show _ = if _ then _ else _; rw [if_neg (by omega)])
        have y0 : Int := 0
        rw [hg, hcc]
        clear H8 hT hg hg8 hg8' B8' hcc h4i h4
      all_goals
        clear HO HW p1 p2 p5 P4 P3 HT0 HT1 HT2 HT3 g00 g01 g10 g11 g20 g21 g30 g31 OE hHW hga hga' hcap
        go_wp2_with fail
        go_loopw [5, 9] (fun v jj wi => ∃ (j ga n' c' : Nat), j ≤ 4 ∧ jj = .int .i64 j ∧ v = .slice (some ⟨ga, 0, none⟩) n' c' ∧ n' = 4 * k + j ∧ ga ≠ g ∧ g < wi.heap.size ∧ Hid (Own w.heap.size 5 .u8 wi (some ⟨ga, 0, none⟩) n' c' (xs ++ (kcol xs c k).take j)) ∧ Hid (Rd wi.heap.size .u8 wi (some ⟨g, 0, none⟩) T) ∧ Hid (Below w.heap.size w wi)) (fun _ jj _ => 4 - (intOf jj).toNat)
        case atStart => exact ⟨0, ga, 4 * k, cc, by omega, rfl, rfl, by omega, hne, hgW, Lib.hid (by rw [List.take_zero, List.append_nil]; exact HX9.out), HTR, HW9⟩
        case round =>
          clear HX9 HTR HW9 hne hgW
          obtain ⟨j, ga, n', c', hj, rfl, rfl, rfl, hne, hgW, HOi, HTi, HWi⟩ := hrel
          have HCL : Hid ((kcol xs c k).length = 4) := Lib.hid rfl
          by_cases hj4 : j < 4
          · have HN2 : Hid ((kcol xs c k).getD j 0 = bits .xor .u8 (xs.getD (4 * k - 16 + j) 0) (T.getD j 0)) := Lib.hid (by
              rw [kcol_getD xs c k hj4, HTE.out j hj4]
              rfl)
            have HTS := Lib.hid (take_snoc_getD (xs := kcol xs c k) (t := j) (by rw [HCL.out]; exact hj4))
            have p0 : wr.cell? ⟨ga, 4 * k - 16 + j, none⟩ = some (.int .u8 (xs.getD (4 * k - 16 + j) 0)) := by
              have h1 := HOi.out.cell0 (i := 4 * k - 16 + j) (by rw [List.length_append, HXL.out]; omega)
              rwa [append_getDl _ (by rw [HXL.out]; omega)] at h1
            have q0 : wr.cell? ⟨g, j, none⟩ = some (.int .u8 (T.getD j 0)) := HTi.out.cell0 (by rw [HTL.out]; exact hj4)
            have HXi := Lib.hid (append_getDl (a := xs) (List.take j (kcol xs c k)) (i := 4 * k - 16 + j) (by rw [HXL.out]; omega))
            have e0 : (4 * (k : Int) - 16 + (j : Int)).toNat = 4 * k - 16 + j := by omega
            have P0 := Lib.hid p0
            have Q0 := Lib.hid q0
            have HTJ := Lib.hid (rfl : T.getD j 0 = T.getD j 0)
            generalize hp : xs.getD (4 * k - 16 + j) 0 = p at *
            generalize hq : T.getD j 0 = q at P0 Q0 HN2 q0
            have HP := Lib.hid hp
            have HQ := Lib.hid hq
            have p1 := fun r : CW (fun v : World => v.cell? ⟨ga, 4 * k - 16 + j, none⟩ = some (.int .u8 p) ∧ v.cell? ⟨g, j, none⟩ = some (.int .u8 q)) => r.holds.1
            have p2 := fun r : CW (fun v : World => v.cell? ⟨ga, 4 * k - 16 + j, none⟩ = some (.int .u8 p) ∧ v.cell? ⟨g, j, none⟩ = some (.int .u8 q)) => r.holds.2
            have hne2 : Nonempty (CW (fun v : World => v.cell? ⟨ga, 4 * k - 16 + j, none⟩ = some (.int .u8 p) ∧ v.cell? ⟨g, j, none⟩ = some (.int .u8 q))) := CW.inh ⟨P0.out, Q0.out⟩
            clear hp hq p0 q0 HTJ
            go_wp2_with fail
            refine wp_region_mix_class (fun v : World => v.cell? ⟨ga, 4 * k - 16 + j, none⟩ = some (.int .u8 p) ∧ v.cell? ⟨g, j, none⟩ = some (.int .u8 q)) [([0, 1, 2, 3, 4, 5, 6, 7, 8, 9, 10, 11, 12, 13], 14), ([], 15)] [16] (by kernel_rfl) (by kernel_rfl) (by kernel_rfl) (by kernel_rfl) ⟨P0.out, Q0.out⟩ ?_
            simp only [pickL, List.map_cons, List.map_nil, List.filterMap_cons, List.filterMap_nil, List.getElem?_cons_succ, List.getElem?_cons_zero]
            refine mixS_cons ?_
            repeat (show wpQuiet _ _ _ _ (_ :: _) _; go_big_quiet_step (fail))
            refine wpQuiet_nil ?_
            show wpList _ _ _ [_] _ _
            go_wp2_with fail
            have B1 : Hid (Below wr.heap.size wr (wr.alloc (.cells #[.int .u8 (bits .xor .u8 p q)] 5)).drew) := Lib.hid (((Below.refl _ _).alloc (Nat.le_refl _) _).drew)
            have HT1 := Lib.hid (HTi.out.below B1.out (Nat.le_refl _))
            have hga1 := (HOi.out.block _ rfl).2
            refine MixQ.class ⟨Below.cell_some B1.out P0.out hga1, Below.cell_some B1.out Q0.out hgW⟩ ?_
            refine mixS_cons ?_
            refine wpQuiet_nil ?_
            show wpList _ _ _ [_] _ _
            go_wp2_with (at_builtin; refine wpList_app2 (o := ⟨some 77, _, _, _, _, _⟩) elB8 rfl _ _ rfl rfl rfl ((HOi.out.alloc _).drew) (Rd.drew (Rd.newAt (xs := [_]) rfl rfl)) rfl ?_ ?_ ?_; (simp only [List.length_append, List.length_take, List.length_cons, List.length_nil, HXL.out]; omega); (have := HWi.out.size; simp <;> omega); intro A9 n9 c9 w9' q9; have H9 := Lib.hid q9.1.1; have G9 := Lib.hid q9.1.2.1; have BB9 := Lib.hid ((HWi.out.trans (B1.out.mono HWi.out.size)).trans q9.1.2.2.1); have D9 := Lib.hid q9.1.2.2.2; have R9 := Lib.hid q9.2; clear q9)
            have HT9' : Hid (Rd wr.heap.size .u8 w9' (some ⟨g, 0, none⟩) T) := Lib.hid (HT1.out.far G9.out (by simp) (fun ad h => by cases h; exact fun h => hne h.symm))
            obtain ⟨g9, rfl, hg9, hg9'⟩ := H9.out.addr (by rw [H9.out.len]; simp <;> omega)
            have hn9 := len_snoc' H9.out (m := 4 * k + j) (by rw [List.length_append, List.length_take, HXL.out, HCL.out]; omega)
            subst hn9
            have hszL : wr.heap.size ≤ w9'.heap.size := by
              have h1 := G9.out.size
              have h2 := B1.out.size
              omega
            have hne9 : g9 ≠ g := by
              rcases D9.out with h | ⟨b, h, hb⟩
              · cases h; exact hne
              · cases h; simp at hb; omega
            have k1 : w9'.cell? ⟨ga, 4 * k - 16 + j, none⟩ = some (.int .u8 p) := by
              have := R9.out.cell0 (i := 4 * k - 16 + j) (by rw [List.length_append, HXL.out]; omega)
              rwa [HXi.out] at this
            have k2 : w9'.cell? ⟨g, j, none⟩ = some (.int .u8 q) := by
              have := HT9'.out.cell0 (i := j) (by rw [HTL.out]; exact hj4)
              rwa [HQ.out] at this
            refine MixQ.class ⟨k1, k2⟩ ?_
            refine mixS_nil ?_
            repeat (show wpQuiet _ _ _ _ (_ :: _) _; go_big_quiet_step (fail))
            refine wpQuiet_nil ?_
            refine NoPanic.normal ?_
            have HN9 : Hid (Own w.heap.size 5 .u8 w9' (some ⟨g9, 0, none⟩) (4 * k + j + 1) c9 (xs ++ (kcol xs c k).take (j + 1))) := Lib.hid (by rw [HTS.out, HN2.out, ← List.append_assoc]; exact H9.out)
            have HT9 := Lib.hid (HT9'.out.mono hszL)
            have hgL : g < w9'.heap.size := by omega
            clear p1 p2 k1 k2 hne2 e0 H9 G9 D9 R9 HT9' HT1 B1 P0 Q0
            go_wp2_with fail
            go_roundw
            case rel => exact ⟨j + 1, g9, _, c9, by omega, by go_num, rfl, by omega, hne9, hgL, HN9, HT9, BB9⟩
            case measure => simp [intOf]; omega
          · have hj4' : j = 4 := by omega
            have HFE : Hid (Own w.heap.size 5 .u8 wr (some ⟨ga, 0, none⟩) (4 * k + j) c' (kexp K (k + 1 - 4)).1) := Lib.hid (by
              have h := HOi.out
              rw [hj4', List.take_of_length_le (by rw [HCL.out]; exact Nat.le_refl _)] at h
              rw [show k + 1 - 4 = k - 4 + 1 by omega, HKX.out]
              show Own w.heap.size _ _ wr _ _ _ (xs ++ kcol xs c (k - 4 + 4))
              rw [show k - 4 + 4 = k by omega, hj4']
              exact h)
            have HNE : Hid (4 * k + j = 4 * (k + 1)) := Lib.hid (by omega)
            clear HOi HTi hj hne hgW hj4'
            go_wp2_with fail
            go_roundw
            case rel => exact ⟨k + 1, cc2, _, _, _, by omega, by omega, by go_num, rfl, rfl, HNE, HFE, Lib.hid (by rw [show k + 1 - 4 = k - 4 + 1 by omega]; exact HCC.out), HWi⟩
            case measure => simp [intOf]; omega
    · have hk44 : k = 44 := by omega
      have HWE := Lib.hid (wkL_eq K)
      have HF2 : Hid (Own w.heap.size 5 .u8 wr A n cc (wkL K)) := Lib.hid (by have h := HO.out; rw [hk44] at h; rw [HWE.out]; exact h)
      clear HO hk44 HWE HC
      go_wp2_with fail
      go_ret
      exact ⟨A, n, cc, rfl, HF2.out, HW.out⟩
end Go.Proofs.Ytepkbllcaeceeaa
