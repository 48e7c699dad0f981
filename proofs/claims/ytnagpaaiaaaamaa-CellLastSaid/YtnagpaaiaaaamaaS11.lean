
/- Contract of the reference's words. Conditions: as each theorem states them. -/
import Derived.Test.YtnagpaaiaaaamaaS10
namespace Go.Proofs.Ytnagpaaiaaaamaa
open Go.RowKit

theorem sg0_spell (x : Int) : bits .xor .u32 (bits .xor .u32 (rotr 7 x) (rotr 18 x)) (hlf 3 x) = sg0 x := by unfold sg0 xr hlf; rfl
theorem sg1_spell (x : Int) : bits .xor .u32 (bits .xor .u32 (rotr 17 x) (rotr 19 x)) (hlf 10 x) = sg1 x := by unfold sg1 xr hlf; rfl
theorem sg0_u (x : Int) : U32 (sg0 x) := xr_u _ _
theorem sg1_u (x : Int) : U32 (sg1 x) := xr_u _ _

set_option maxRecDepth 100000 in
set_option maxHeartbeats 4000000 in
theorem words_any (A : Option Addr) (c : Nat) (L : List Int) (w : World) (hr : Rd w.heap.size .u8 w A L) (hb : Byt L) (hl : L.length = 64) :
    Calls Try.prog 39 #[.slice A 64 c] w (RetOwn 70 .u32 (wordsL L) w) := by
  have HR := Lib.hid hr
  have HBY := Lib.hid hb
  have HL := Lib.hid hl
  obtain ⟨pa, rfl, hab⟩ := hr.isSome (by omega)
  have HW := Lib.hid (words_len L)
  clear hr hb hl
  go_enter Try.func39, Try.ntmps39
  go_wp2_with fail
  go_loopw [3, 4] (fun v i wr => ∃ (k : Nat) (A1 : Option Addr) (n1 c1 : Nat), k ≤ 16 ∧ i = .int .i64 k ∧ v = .slice A1 n1 c1 ∧ Hid (Own w.heap.size 70 .u32 wr A1 n1 c1 ((wordsL L).take k)) ∧ Hid (Below w.heap.size w wr)) (fun _ i _ => 16 - (intOf i).toNat)
  case atStart => exact ⟨0, none, 0, 0, by omega, rfl, rfl, Lib.hid (by rw [List.take_zero]; exact Own.nil _ _ _ _), Lib.hid (Below.refl _ _)⟩
  case round =>
    obtain ⟨k, A1, n1, c1, hk, rfl, rfl, HO, HB⟩ := hrel
    by_cases hlt : k < 16
    · have HRk := Lib.hid (HR.out.below HB.out (Nat.le_refl _))
      have hne : Nonempty (CW (Rd w.heap.size .u8 · (some pa) L)) := CW.inh HRk.out
      have c0 := fun r : CW (Rd w.heap.size .u8 · (some pa) L) => r.holds.at_ (i := 4 * k) (by have := HL.out; omega)
      have c1' := fun r : CW (Rd w.heap.size .u8 · (some pa) L) => r.holds.atN (4 * k + 1) (by have := HL.out; omega) (by omega)
      have c2 := fun r : CW (Rd w.heap.size .u8 · (some pa) L) => r.holds.atN (4 * k + 2) (by have := HL.out; omega) (by omega)
      have c3 := fun r : CW (Rd w.heap.size .u8 · (some pa) L) => r.holds.atN (4 * k + 3) (by have := HL.out; omega) (by omega)
      have e0 : (4 * (k : Int)).toNat = 4 * k := by omega
      have e1 : (4 * (k : Int) + 1).toNat = 4 * k + 1 := by omega
      have e2 : (4 * (k : Int) + 2).toNat = 4 * k + 2 := by omega
      have e3 : (4 * (k : Int) + 3).toNat = 4 * k + 3 := by omega
      have s0 : IntKind.i64.wrap (4 * (k : Int)) = 4 * (k : Int) := IntWalk.i64_in _ (by omega)
      have s1 : IntKind.i64.wrap (4 * (k : Int) + 1) = 4 * (k : Int) + 1 := IntWalk.i64_in _ (by omega)
      have s2 : IntKind.i64.wrap (4 * (k : Int) + 2) = 4 * (k : Int) + 2 := IntWalk.i64_in _ (by omega)
      have s3 : IntKind.i64.wrap (4 * (k : Int) + 3) = 4 * (k : Int) + 3 := IntWalk.i64_in _ (by omega)
      obtain ⟨b00, b01⟩ := HBY.out.getD (4 * k)
      obtain ⟨b10, b11⟩ := HBY.out.getD (4 * k + 1)
      obtain ⟨b20, b21⟩ := HBY.out.getD (4 * k + 2)
      obtain ⟨b30, b31⟩ := HBY.out.getD (4 * k + 3)
      have HV : Hid ((wordsL L).getD k 0 = L.getD (4 * k) 0 * 16777216 + L.getD (4 * k + 1) 0 * 65536 + L.getD (4 * k + 2) 0 * 256 + L.getD (4 * k + 3) 0) := Lib.hid (by rw [words_lo L hlt]; rfl)
      generalize L.getD (4 * k) 0 = x0 at *
      generalize L.getD (4 * k + 1) 0 = x1 at *
      generalize L.getD (4 * k + 2) 0 = x2 at *
      generalize L.getD (4 * k + 3) 0 = x3 at *
      have HTK := Lib.hid (take_snoc_getD (xs := wordsL L) (t := k) (by rw [HW.out]; omega))
      go_wp2_with fail
      refine wp_region_mix_class (Rd w.heap.size .u8 · (some pa) L) [([0, 1, 2, 3, 4, 5, 6, 7, 8, 9, 10, 11, 12, 13, 14, 15, 16, 17, 18, 19, 20, 21, 22, 23, 24, 25, 26, 27, 28, 29, 30, 31, 32, 33], 34), ([], 35)] [36] (by kernel_rfl) (by kernel_rfl) (by kernel_rfl) (by kernel_rfl) HRk.out ?_
      simp only [pickL, List.map_cons, List.map_nil, List.filterMap_cons, List.filterMap_nil, List.getElem?_cons_succ, List.getElem?_cons_zero]
      refine mixS_cons ?_
      repeat (show wpQuiet _ _ _ _ (_ :: _) _; go_big_quiet_step (fail))
      refine wpQuiet_nil ?_
      show wpList _ _ _ [_] _ _
      go_wp2_with fail
      refine MixQ.class ((HRk.out.alloc HB.out.size _).drew) ?_
      refine mixS_cons ?_
      refine wpQuiet_nil ?_
      show wpList _ _ _ [_] _ _
      go_wp2_with (at_builtin; refine wpList_app (o := ⟨some 47, _, _, _, _, _⟩) elU32 rfl _ _ rfl rfl rfl ((HO.out.alloc _).drew) (Rd.drew (Rd.newAt (xs := [_]) rfl rfl)) rfl ?_ ?_ ?_; (simp only [List.length_take, List.length_cons, List.length_nil]; omega); (have := HB.out.size; simp; omega); intro A9 n9 c9 w9 q9; have H9 := Lib.hid q9; have B9 := Lib.hid (((HB.out.alloc HB.out.size _).drew).trans q9.2.2.1); clear q9)
      refine MixQ.class (HR.out.below B9.out (Nat.le_refl _)) ?_
      refine mixS_nil ?_
      repeat (show wpQuiet _ _ _ _ (_ :: _) _; go_big_quiet_step (fail))
      refine wpQuiet_nil ?_
      refine NoPanic.normal ?_
      clear c0 c1' c2 c3 e0 e1 e2 e3 s0 s1 s2 s3
      go_wp2_with fail
      go_roundw
      case rel => exact ⟨k + 1, A9, n9, c9, by omega, by go_num, rfl, Lib.hid (by
        have h := H9.out.1
        rw [show ((x0 * 256 + x1) * 256 + x2) * 256 + x3 = x0 * 16777216 + x1 * 65536 + x2 * 256 + x3 by omega] at h
        rw [HTK.out, HV.out]; exact h), B9⟩
      case measure => simp [intOf]; omega
    · have hk16 : k = 16 := by omega
      obtain ⟨k1, rfl⟩ : ∃ k1 : Nat, k1 = k := ⟨_, rfl⟩
      rw [hk16] at HO
      have hk1 : ¬ k1 < 16 := hlt
      clear hlt hk hk16
      obtain ⟨w1, rfl⟩ : ∃ w1 : World, w1 = wr := ⟨_, rfl⟩
      go_wp2_with fail
      go_loopw [3, 5] (fun v i wr => ∃ (k : Nat) (A1 : Option Addr) (c1 : Nat), 16 ≤ k ∧ k ≤ 64 ∧ i = .int .i64 k ∧ v = .slice A1 k c1 ∧ Hid (Own w.heap.size 70 .u32 wr A1 k c1 ((wordsL L).take k)) ∧ Hid (Below w.heap.size w wr)) (fun _ i _ => 64 - (intOf i).toNat)
      case atStart =>
        have hn : n1 = 16 := by have := HO.out.len; rw [List.length_take, HW.out] at this; omega
        subst hn
        exact ⟨16, A1, c1, by omega, by omega, rfl, rfl, HO, HB⟩
      case round =>
        clear HO HB
        obtain ⟨k, A1, c1, hk0, hk, rfl, rfl, HO, HB⟩ := hrel
        by_cases hlt : k < 64
        · obtain ⟨g, rfl, hg1, hg2⟩ := HO.out.addr (by omega)
          have hlen : Hid (((wordsL L).take k).length = k) := Lib.hid (by rw [List.length_take, HW.out]; omega)
          have hkc := HO.out.cap
          have HC : Hid (∀ W : World, RdE .u32 (some ⟨g, 0, none⟩) ((wordsL L).take k) W → ∀ i, i < k → W.cell? ⟨g, i, none⟩ = some (.int .u32 ((wordsL L).getD i 0))) := Lib.hid (fun W hW i hi => by rw [hW.cell0 (by rw [hlen.out]; exact hi), getD_take hi])
          have c15 := HC.out wr HO.out.rd.some_ (k - 15) (by omega)
          have c2 := HC.out wr HO.out.rd.some_ (k - 2) (by omega)
          have HV := Lib.hid (words_hi L hk0 hlt)
          have u15 := words_u HBY.out (k - 15)
          have u2 := words_u HBY.out (k - 2)
          have U15 := Lib.hid u15
          have U2 := Lib.hid u2
          have U16 := Lib.hid (words_u HBY.out (k - 16))
          have U7 := Lib.hid (words_u HBY.out (k - 7))
          unfold U32 at u15 u2
          obtain ⟨u150, u151⟩ := u15
          obtain ⟨u20, u21⟩ := u2
          have HS0 := Lib.hid (sg0_u ((wordsL L).getD (k - 15) 0))
          have HS1 := Lib.hid (sg1_u ((wordsL L).getD (k - 2) 0))
          have p0 := sg0_spell ((wordsL L).getD (k - 15) 0)
          have p1 := sg1_spell ((wordsL L).getD (k - 2) 0)
          obtain ⟨x15, X15⟩ : ∃ x, Hid ((wordsL L).getD (k - 15) 0 = x) := ⟨_, Lib.hid rfl⟩
          obtain ⟨x2, X2⟩ : ∃ x, Hid ((wordsL L).getD (k - 2) 0 = x) := ⟨_, Lib.hid rfl⟩
          obtain ⟨x16, X16⟩ : ∃ x, Hid ((wordsL L).getD (k - 16) 0 = x) := ⟨_, Lib.hid rfl⟩
          obtain ⟨x7, X7⟩ : ∃ x, Hid ((wordsL L).getD (k - 7) 0 = x) := ⟨_, Lib.hid rfl⟩
          rw [X15.out] at c15 U15 u150 u151 HV HS0 p0
          rw [X2.out] at c2 U2 u20 u21 HV HS1 p1
          rw [X16.out] at HV U16
          rw [X7.out] at HV U7
          generalize sg0 x15 = y0 at *
          generalize sg1 x2 = y1 at *
          have e15 : ((k : Int) - 15).toNat = k - 15 := by omega
          have e2 : ((k : Int) - 2).toNat = k - 2 := by omega
          have e16 : ((k : Int) - 16).toNat = k - 16 := by omega
          have e7 : ((k : Int) - 7).toNat = k - 7 := by omega
          go_wp2_with fail
          go_quiet ((first
            | (go_at_call 40; first | (with_reducible exact Calls.quiet_of_same (rturn_i x15 _ 7 rfl (by decide) _ U15.out)) | (with_reducible exact Calls.quiet_of_same (rturn_i x15 _ 18 rfl (by decide) _ U15.out)))
            | (go_at_call 41; with_reducible exact Calls.quiet_of_same (shift_i x15 _ 3 rfl (by decide) _ U15.out))))
          clear c15 c2 p0
          have HO3 := Lib.hid (HO.out.drewN nq)
          have HB3 := Lib.hid (below_drewN HB.out nq)
          generalize wr.drewN nq = w3 at *
          have c2 := HC.out w3 HO3.out.rd.some_ (k - 2) (by omega)
          rw [X2.out] at c2
          go_wp2_with fail
          go_quiet ((first
            | (go_at_call 40; first | (with_reducible exact Calls.quiet_of_same (rturn_i x2 _ 17 rfl (by decide) _ U2.out)) | (with_reducible exact Calls.quiet_of_same (rturn_i x2 _ 19 rfl (by decide) _ U2.out)))
            | (go_at_call 41; with_reducible exact Calls.quiet_of_same (shift_i x2 _ 10 rfl (by decide) _ U2.out))))
          clear c2 p1
          have HO4 := Lib.hid (HO3.out.drewN nq)
          have HB4 := Lib.hid (below_drewN HB3.out nq)
          generalize w3.drewN nq = w4 at *
          have hne : Nonempty (CW (RdE .u32 (some ⟨g, 0, none⟩) ((wordsL L).take k))) := CW.inh HO4.out.rd.some_
          have c16 := fun r : CW (RdE .u32 (some ⟨g, 0, none⟩) ((wordsL L).take k)) => HC.out r.world r.holds (k - 16) (by omega)
          have c7 := fun r : CW (RdE .u32 (some ⟨g, 0, none⟩) ((wordsL L).take k)) => HC.out r.world r.holds (k - 7) (by omega)
          rw [X16.out] at c16
          rw [X7.out] at c7
          have s16 : IntKind.i64.wrap ((k : Int) - 16) = (k : Int) - 16 := IntWalk.i64_in _ (by omega)
          have s7 : IntKind.i64.wrap ((k : Int) - 7) = (k : Int) - 7 := IntWalk.i64_in _ (by omega)
          go_wp2_with fail
          refine wp_region_mix_class (RdE .u32 (some ⟨g, 0, none⟩) ((wordsL L).take k)) [([0, 1, 2, 3, 4, 5, 6, 7, 8, 9, 10, 11, 12, 13, 14, 15], 16), ([], 17)] [18] (by kernel_rfl) (by kernel_rfl) (by kernel_rfl) (by kernel_rfl) HO4.out.rd.drew.some_ ?_
          simp only [pickL, List.map_cons, List.map_nil, List.filterMap_cons, List.filterMap_nil, List.getElem?_cons_succ, List.getElem?_cons_zero]
          refine mixS_cons ?_
          repeat (show wpQuiet _ _ _ _ (_ :: _) _; go_big_quiet_step (fail))
          refine wpQuiet_nil ?_
          show wpList _ _ _ [_] _ _
          go_wp2_with fail
          refine MixQ.class ((HO4.out.drew.rd.alloc (Nat.le_refl _) _).some_) ?_
          refine mixS_cons ?_
          refine wpQuiet_nil ?_
          show wpList _ _ _ [_] _ _
          go_wp2_with (at_builtin; refine wpList_app2 (o := ⟨some 109, _, _, _, _, _⟩) elU32 rfl _ _ rfl rfl rfl ((HO4.out.alloc _).drew) (Rd.drew (Rd.newAt (xs := [_]) rfl rfl)) rfl ?_ ?_ ?_; (simp only [List.length_take, List.length_cons, List.length_nil]; omega); (have := HB4.out.size; simp; omega); intro A9 n9 c9 w9 q9; have H9 := Lib.hid q9.1; have K9 := Lib.hid q9.2; have B9 := Lib.hid (((HB4.out.alloc HB4.out.size _).drew).trans q9.1.2.2.1); clear q9)
          refine MixQ.class K9.out.some_ ?_
          refine mixS_nil ?_
          repeat (show wpQuiet _ _ _ _ (_ :: _) _; go_big_quiet_step (fail))
          refine wpQuiet_nil ?_
          refine NoPanic.normal ?_
          clear c16 c7 s16 s7
          go_wp2_with fail
          have hn9 : n9 = k + 1 := by have := H9.out.1.len; rw [List.length_append, hlen.out] at this; exact this
          subst hn9
          go_roundw
          case rel => exact ⟨k + 1, A9, c9, by omega, by omega, by go_num, rfl, Lib.hid (by
            rw [take_snoc_getD (by rw [HW.out]; omega), HV.out]
            refine (congrArg (fun v => Own w.heap.size 70 .u32 w9 A9 (k + 1) c9 ((wordsL L).take k ++ [v])) ?_).mp H9.out.1
            simp only [ad, wrapu32]
            omega), B9⟩
          case measure => simp [intOf]; omega
        · have hk64 : k = 64 := by omega
          have HO2 : Hid (Own w.heap.size 70 .u32 wr A1 k c1 (wordsL L)) := Lib.hid (by have h := HO.out; rw [List.take_of_length_le (by rw [HW.out]; omega)] at h; exact h)
          go_wp2_with fail
          go_ret
          exact ⟨_, _, _, rfl, HO2.out, HB.out⟩
end Go.Proofs.Ytnagpaaiaaaamaa
