/- Walk: the law RetryChecks. Conditions: as each theorem states them. -/
import Derived.Test.YtieabfifaigjdaaF13
namespace Go.Proofs.Ytieabfifaigjdaa
open Go.RowKit
theorem below_of_none_ {a w : World} (h : a.grownBy w none) : Below a.heap.size a w := ⟨h.os, h.tape, h.output, h.size, fun i hi => h.block i hi (fun q => by cases q)⟩
theorem str_same_ (X : List Int) : ((strOfNums X).toList == (strOfNums X).toList) = true := by simp
theorem conv_n_ {B : Nat} {w : World} {A : Option Addr} {xs : List Int} {n : Nat} (hr : Rd B .u8 w A xs) (hn : n = xs.length) (c : Nat) : (convert 22 9 (.slice A n c)).run Try.prog w = .ok (.string (strOfNums xs)) w := by
  subst hn; exact conv_rd elC Try.underlying9 hr c
set_option maxRecDepth 100000 in
set_option maxHeartbeats 8000000 in
theorem checks_walk (sec : List Int) (life addr now : Int) (A : Option Addr) (c : Nat) (tok : List Int) (w : World) (hs : sec.length = 32) (hsb : Byt sec) (hr : Rd w.heap.size .u8 w A tok) (hb : Byt tok) (hc : tok.length ≤ c) (hl0 : tok.length ≤ 140737488355328)
    (a0 : 0 ≤ addr) (a1 : addr < 4294967296) (t0 : 0 ≤ now) (t1 : now < 18446744073709551616) :
    Calls Try.prog 5 #[.agg (cellsL .u8 sec), .int .u64 life, .slice A tok.length c, .int .u32 addr, .int .u64 now] w fun e w' => e = .returned (.bool true) ∧ Below w.heap.size w w' := by
  have HS := Lib.hid hs
  have HSB := Lib.hid hsb
  have HR := Lib.hid hr
  have HB := Lib.hid hb
  obtain ⟨n, hn⟩ : ∃ z, tok.length = z := ⟨_, rfl⟩
  rw [hn] at hc hl0 ⊢
  have HN := Lib.hid hn
  have Z0 : Hid (Arr (w.alloc (.cells (cellsL .u8 sec) 35)) w.heap.size 35 .u8 sec) := Lib.hid (Arr.newAt rfl rfl)
  have B0 := Lib.hid ((Below.refl w.heap.size w).alloc (Nat.le_refl _) (.cells (cellsL .u8 sec) 35))
  clear hs hsb hr hb hn
  by_cases h3 : 300 < n
  · have h3' : (300 : Int) < (n : Int) := by omega
    go_enter Try.func5, Try.ntmps5
    go_wp2_with fail
    refine Calls.mono (works_any _) ?_
    rintro e w1 ⟨rfl, b1⟩
    have B1 := Lib.hid (B0.out.trans (b1.mono B0.out.size))
    clear b1
    go_wp2_with fail
    go_ret
    exact ⟨rfl, B1.out⟩
  have h3' : decide ((300 : Int) < (n : Int)) = false := decide_eq_false (by omega)
  have hn3 : n ≤ 300 := by omega
  have HZ0 := Lib.hid B0.out.size
  go_enter Try.func5, Try.ntmps5
  go_wp2_with (first
    | ((have _g := H1; clear _g); ((with_reducible (show wpList _ _ _ (⟨some 25, .load _ _, _, _, _, _⟩ :: _) _ _)); refine wpList_loadV (o := ⟨some 25, .load _ _, _, _, _, _⟩) rfl _ rfl rfl (arr_load Z1.out Try.underlying35 size35 HS.out.symm) ?_))
    | (at_builtin; go_loud (refine wpList_app (o := ⟨some 23, _, _, _, _, _⟩) elC rfl _ _ rfl rfl rfl (Own.litAt (xs := []) (by simp) rfl rfl (Nat.le_refl _) (by simp)) ((HR.out.below B0.out (Nat.le_refl _)).alloc HZ0.out _) HN.out.symm ?_ ?_ ?_); (rw [HN.out, List.length_nil]; omega); (simp); intro A1 n1 c1 w1 h1; have H1 := Lib.hid (Own.cast h1.1 (List.nil_append _)); have D1 : Hid (Below (w.heap.size + 1) (w.alloc (.cells (cellsL .u8 sec) 35)) w1) := Lib.hid (((Below.refl _ _).alloc (by simp) _).trans h1.2.2.1); have Z1 := Lib.hid (Z0.out.below D1.out (by omega)); clear h1))
  have B1 := Lib.hid (B0.out.trans (D1.out.mono (by omega)))
  have ZL := Lib.hid Z0.out.lt
  generalize w.alloc (.cells (cellsL .u8 sec) 35) = w0 at *
  have N1 := Lib.hid (show n1 = n by rw [H1.out.len, HN.out])
  have hn1 : n1 ≤ 300 := by have := N1.out; omega
  clear D1 Z0 B0 h3'
  refine Calls.mono (new_any sec life w1 HS.out) ?_
  rintro e w2 ⟨g, rfl, hk, hg, b2⟩
  have K2 := Lib.hid hk
  have O2 := Lib.hid (H1.out.below b2)
  have Z2 := Lib.hid (Z1.out.below b2 Z1.out.lt)
  have B2 := Lib.hid (B1.out.trans (b2.mono B1.out.size))
  clear hk b2 H1 Z1 B1
  go_wp2_with fail
  refine Calls.mono (check_any_ g sec life addr now A1 n1 c1 tok w2 K2.out HS.out HSB.out (by rw [HN.out, N1.out]) O2.out.rd HB.out (by have := N1.out; omega) O2.out.cap.1 a0 a1 t0 t1) ?_
  rintro e w3 ⟨A3, n3, c3, rfl, r3, l3, m3, b3, f3⟩
  have R3 := Lib.hid r3
  have L3 := Lib.hid l3
  have F3 := Lib.hid f3
  have O3 := Lib.hid (O2.out.below b3)
  have Z3 := Lib.hid (Z2.out.below b3 Z2.out.lt)
  have B3 := Lib.hid (B2.out.trans (b3.mono B2.out.size))
  have G3 : Hid (∀ ad, A1 = some ad → ad.block < w2.heap.size ∧ w.heap.size < ad.block) := Lib.hid (fun ad e => ⟨(O2.out.block ad e).2, (O2.out.block ad e).1⟩)
  clear r3 l3 f3 b3 O2 Z2 B2 K2
  generalize hchk : chkL sec life tok addr now = r at *
  have HCHK := Lib.hid hchk
  clear hchk
  obtain ⟨ro, re⟩ := r
  go_wp2_with fail
  go_loopw [36] (fun i wr => ∃ (k : Nat) (ys : List Int), k ≤ n1 ∧ i = .int .i64 k ∧ Hid (Own (w.heap.size + 1) 5 .u8 wr A1 n1 c1 ys) ∧ Hid (w3.grownBy wr (ablk A1))) (fun i _ => n1 - (intOf i).toNat)
  case atStart => exact ⟨0, tok, by omega, rfl, O3, Lib.hid (World.grownBy.refl _ _)⟩
  case round =>
    obtain ⟨k, ys, hk, rfl, HO, HG⟩ := hrel
    by_cases hlt : k < n1
    · obtain ⟨gl, hgl⟩ : ∃ gl, A1 = some ⟨gl, 0, none⟩ := by
        rcases HO.out.1.2 with ⟨h1, h2⟩ | ⟨q, _, _, h1, _⟩
        · omega
        · injection h1 with h1; exact ⟨q, h1⟩
      subst hgl
      have hyl := HO.out.len
      have d0 := HO.out.cell0 (i := k) (by omega)
      have f0 := HO.out.frozen k
      have d1 := d0
      have f1 := f0
      rw [← add_zero_addr] at d1 f1
      have HYL := Lib.hid hyl
      clear hyl
      obtain ⟨y, hy⟩ : ∃ z, ys.getD k 0 = z := ⟨_, rfl⟩
      rw [hy] at d0 d1
      clear hy
      go_wp2_with fail
      refine ⟨⟨k + 1, _, by omega, by go_num, Lib.hid (HO.out.set_ k _), Lib.hid (only_setCell (p := ⟨gl, k, none⟩) HG.out (.inl rfl) _)⟩, ?_⟩
      simp [intOf]
      omega
    · obtain rfl : k = n1 := by omega
      clear hlt hk HO O3
      have R4 : Hid (Rd wr.heap.size .u8 wr A3 ro) := Lib.hid (by
        rcases A1 with _ | ad1
        · exact (R3.out.below (below_of_none_ HG.out) (Nat.le_refl _)).mono HG.out.size
        · exact (R3.out.far HG.out (Nat.le_refl _) (fun ad e q => by have q : ad.block = ad1.block := q; have h1 := F3.out ad e; have h2 := (G3.out ad1 rfl).1; omega)).mono HG.out.size)
      have R5 : Hid (Rd wr.heap.size .u8 wr A tok) := Lib.hid (by
        have h := HR.out.below B3.out (Nat.le_refl _)
        rcases A1 with _ | ad1
        · exact (h.below (below_of_none_ HG.out) B3.out.size).mono (Nat.le_trans B3.out.size HG.out.size)
        · refine (h.grown HG.out B3.out.size (fun q e => ?_)).mono (Nat.le_trans B3.out.size HG.out.size)
          injection e with e
          have e : ad1.block = q := e
          have h2 := (G3.out ad1 rfl).2
          omega)
      have Z5 : Hid (Arr wr w.heap.size 35 .u8 sec) := Lib.hid (Z3.out.grown HG.out (by
        rcases A1 with _ | ad1
        · intro q; cases q
        · intro q; injection q with q; have q : w.heap.size = ad1.block := q; have h2 := (G3.out ad1 rfl).2; omega))
      have B5 : Hid (Below w.heap.size w wr) := Lib.hid (B3.out.trans ⟨HG.out.os, HG.out.tape, HG.out.output, HG.out.size, fun i hi => HG.out.block i (Nat.lt_of_lt_of_le hi B3.out.size) (by
        rcases A1 with _ | ad1
        · intro q; cases q
        · intro q; injection q with q; have q : i = ad1.block := q; have h2 := (G3.out ad1 rfl).2; omega)⟩)
      clear R3 F3 G3 HG Z3 B3
      go_wp2_with ((with_reducible (show wpList _ _ _ (⟨some 47, .load _ _, _, _, _, _⟩ :: _) _ _)); refine wpList_loadV (o := ⟨some 47, .load _ _, _, _, _, _⟩) rfl _ rfl rfl (arr_load Z5.out Try.underlying35 size35 HS.out.symm) ?_)
      refine Calls.mono (rcheck_any sec life addr now A n c tok wr HS.out HSB.out HN.out R5.out HB.out (by omega) hc t0 t1) ?_
      rw [HCHK.out]
      rintro e w6 ⟨A6, n6, c6, rfl, r6, l6, m6, b6, -⟩
      have hcv1 := conv_n_ (R4.out.below b6 (Nat.le_refl _)) L3.out c3
      have hcv2 := conv_n_ r6 l6 c6
      have hss := str_same_ ro
      have B6 := Lib.hid (B5.out.trans (b6.mono B5.out.size))
      have hre : (re == re) = true := by simp
      simp only at hcv1 hcv2
      clear R4 R5 Z5 B5 r6 l6 b6 L3 HCHK
      generalize strOfNums ro = sa at *
      go_wp2_with fail
      refine Calls.mono (works_any _) ?_
      rintro e w7 ⟨rfl, b7⟩
      have B7 := Lib.hid (B6.out.trans (b7.mono B6.out.size))
      clear b7
      go_wp2_with fail
      go_ret
      exact ⟨rfl, B7.out⟩
end Go.Proofs.Ytieabfifaigjdaa
