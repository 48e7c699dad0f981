
/- Contract: (*sha.state).take. Conditions: as each theorem states them. -/
import Derived.Test.YtibjafkclojimaaS2
import Derived.Test.YtibjafkclojimaaA
namespace Go.Proofs.Ytibjafkclojimaa
open Go.RowKit

theorem elU8 : ElT Try.prog 50 5 .u8 1 := ⟨Try.underlying50, Try.underlying5, by kernel_rfl, by decide⟩
theorem or4 (a b c d : Int) (ha : 0 ≤ a ∧ a < 256) (hb : 0 ≤ b ∧ b < 256) (hc : 0 ≤ c ∧ c < 256) (hd : 0 ≤ d ∧ d < 256) :
    bits .or .u32 (bits .or .u32 (bits .or .u32 (a * 16777216) (b * 65536)) (c * 256)) d = a * 16777216 + b * 65536 + c * 256 + d := by
  obtain ⟨a, rfl⟩ := Int.eq_ofNat_of_zero_le ha.1
  obtain ⟨b, rfl⟩ := Int.eq_ofNat_of_zero_le hb.1
  obtain ⟨c, rfl⟩ := Int.eq_ofNat_of_zero_le hc.1
  obtain ⟨d, rfl⟩ := Int.eq_ofNat_of_zero_le hd.1
  have e1 : bits .or .u32 ((a : Int) * 16777216) ((b : Int) * 65536) = ((a * 16777216 + b * 65536 : Nat) : Int) := by
    have h := bits_or_u32_nat (a * 16777216) (b * 65536) (by omega) (by omega)
    have h2 : (a * 16777216 ||| b * 65536) = a * 16777216 + b * 65536 := by
      have := or_add (n := 24) (a := b * 65536) (b := a) (by omega)
      simpa using this
    rw [h2] at h
    simpa using h
  have e2 : bits .or .u32 ((a * 16777216 + b * 65536 : Nat) : Int) ((c : Int) * 256) = ((a * 16777216 + b * 65536 + c * 256 : Nat) : Int) := by
    have h := bits_or_u32_nat (a * 16777216 + b * 65536) (c * 256) (by omega) (by omega)
    have h2 : (a * 16777216 + b * 65536 ||| c * 256) = a * 16777216 + b * 65536 + c * 256 := by
      have := or_add (n := 16) (a := c * 256) (b := a * 256 + b) (by omega)
      rw [show (a * 256 + b) * 2 ^ 16 = a * 16777216 + b * 65536 by omega] at this
      exact this
    rw [h2] at h
    simpa using h
  have e3 : bits .or .u32 ((a * 16777216 + b * 65536 + c * 256 : Nat) : Int) (d : Int) = ((a * 16777216 + b * 65536 + c * 256 + d : Nat) : Int) := by
    have h := bits_or_u32_nat (a * 16777216 + b * 65536 + c * 256) d (by omega) (by omega)
    have h2 : (a * 16777216 + b * 65536 + c * 256 ||| d) = a * 16777216 + b * 65536 + c * 256 + d := by
      have := or_add (n := 8) (a := d) (b := a * 65536 + b * 256 + c) (by omega)
      rw [show (a * 65536 + b * 256 + c) * 2 ^ 8 = a * 16777216 + b * 65536 + c * 256 by omega] at this
      exact this
    rw [h2] at h
    simpa using h
  rw [e1, e2, e3]
  omega

theorem not_u32 {x : Int} (h : U32 x) : bits .xor .u32 IntKind.u32.max x = 4294967295 - x := by
  obtain ⟨n, rfl⟩ := Int.eq_ofNat_of_zero_le h.1
  have hn : n < 2 ^ 32 := by have := h.2; omega
  have e := bits_xor_u32_nat 4294967295 n (by omega) hn
  have e2 : 4294967295 ^^^ n = 4294967295 - n := by
    have h1 := congrArg BitVec.toNat (BitVec.allOnes_xor (x := BitVec.ofNat 32 n))
    simp only [BitVec.toNat_xor, BitVec.toNat_not, BitVec.toNat_allOnes, BitVec.toNat_ofNat, Nat.mod_eq_of_lt hn] at h1
    exact h1
  rw [show IntKind.u32.max = ((4294967295 : Nat) : Int) from rfl, e, e2]
  omega
/-- what take leaves -/
def TakePost (g : Nat) (s : S8) (w : World) (e : Ending) (w' : World) : Prop := e = .returned (.tuple #[]) ∧ Arr w' g 77 .u32 s.l ∧ w.grownBy w' (some g)

set_option maxRecDepth 100000 in
set_option maxHeartbeats 8000000 in
theorem take_any (g gk : Nat) (s : S8) (A : Option Addr) (c : Nat) (L : List Int) (w : World) (hs : Arr w g 77 .u32 s.l) (hk : Arr w gk 79 .u32 kL) (hr : Rd w.heap.size .u8 w A L) (hb : Byt L) (hl : L.length = 64) (hok : s.Ok) :
    Calls Try.prog 33 #[.pointer (some ⟨g, 0, none⟩), .pointer (some ⟨gk, 0, none⟩), .slice A 64 c] w (TakePost g (comp s L) w) := by
  have HS := Lib.hid hs
  have HK := Lib.hid hk
  have HR := Lib.hid hr
  have HBY := Lib.hid hb
  have HL := Lib.hid hl
  have HOK := Lib.hid hok
  have hgl := Arr.lt hs
  have hkl := Arr.lt hk
  obtain ⟨pa, rfl, hab⟩ := hr.isSome (by omega)
  have HW := Lib.hid (words_len L)
  clear hs hk hr hb hl hok
  go_enter Try.func33, Try.ntmps33
  go_wp2_with fail
  go_loopw [18] (fun i wr => ∃ k : Nat, k ≤ 16 ∧ i = .int .i64 k ∧ Hid (Arr wr w.heap.size 79 .u32 (fil (wordsL L) k)) ∧ Hid (Below w.heap.size w wr)) (fun i _ => 16 - (intOf i).toNat)
  case atStart => exact ⟨0, by omega, rfl, Lib.hid (Arr.newAt rfl (by rw [fil_zero, HW.out]; rfl)), Lib.hid ((Below.refl _ _).alloc (Nat.le_refl _) _)⟩
  case round =>
    obtain ⟨k, hk, rfl, HA, HB⟩ := hrel
    by_cases hlt : k < 16
    · have HRk := Lib.hid (HR.out.below HB.out (Nat.le_refl _))
      have c0 := HRk.out.at_ (i := 4 * k) (by have := HL.out; omega)
      have c1 := HRk.out.atN (4 * k + 1) (by have := HL.out; omega) (by omega)
      have c2 := HRk.out.atN (4 * k + 2) (by have := HL.out; omega) (by omega)
      have c3 := HRk.out.atN (4 * k + 3) (by have := HL.out; omega) (by omega)
      have e0 : (4 * (k : Int)).toNat = 4 * k := by omega
      have e1 : (4 * (k : Int) + 1).toNat = 4 * k + 1 := by omega
      have e2 : (4 * (k : Int) + 2).toNat = 4 * k + 2 := by omega
      have e3 : (4 * (k : Int) + 3).toNat = 4 * k + 3 := by omega
      obtain ⟨b00, b01⟩ := HBY.out.getD (4 * k)
      obtain ⟨b10, b11⟩ := HBY.out.getD (4 * k + 1)
      obtain ⟨b20, b21⟩ := HBY.out.getD (4 * k + 2)
      obtain ⟨b30, b31⟩ := HBY.out.getD (4 * k + 3)
      have HV : Hid (bits .or .u32 (bits .or .u32 (bits .or .u32 (L.getD (4 * k) 0 * 16777216) (L.getD (4 * k + 1) 0 * 65536)) (L.getD (4 * k + 2) 0 * 256)) (L.getD (4 * k + 3) 0) = (wordsL L).getD k 0) := Lib.hid (by
        rw [or4 _ _ _ _ ⟨b00, b01⟩ ⟨b10, b11⟩ ⟨b20, b21⟩ ⟨b30, b31⟩, words_lo L hlt]; rfl)
      generalize L.getD (4 * k) 0 = x0 at *
      generalize L.getD (4 * k + 1) 0 = x1 at *
      generalize L.getD (4 * k + 2) 0 = x2 at *
      generalize L.getD (4 * k + 3) 0 = x3 at *
      have d0 := HA.out.cellAdd (i := k) (by rw [fil_len, HW.out]; omega)
      have f0 := HA.out.frozenAdd k
      have d0' := HA.out.cell (i := k) (by rw [fil_len, HW.out]; omega)
      have f0' := HA.out.frozen k
      generalize (fil (wordsL L) k).getD k 0 = old at d0 d0'
      go_wp2_with fail
      refine wp_region_drawn_tail 35 (by kernel_rfl) (by kernel_rfl) ?_
      simp only [List.take_succ_cons, List.take_zero, List.drop_succ_cons, List.drop_zero]
      repeat (go_big_quiet_step (fail))
      refine wpQuiet_nil ?_
      intro _ hw'
      obtain ⟨nq, rfl⟩ := hw'
      go_wp2_with fail
      go_roundw
      case rel => exact ⟨k + 1, by omega, by go_num, Lib.hid (Arr.cast ((HA.out.drewN nq).set k _) (by rw [HV.out]; exact fil_set (by rw [HW.out]; omega))), Lib.hid ((below_drewN HB.out nq).setCell (by simp) _)⟩
      case measure => simp [intOf]; omega
    · have hk16 : k = 16 := by omega
      obtain ⟨k1, rfl⟩ : ∃ k1 : Nat, k1 = k := ⟨_, rfl⟩
      rw [hk16] at HA
      have hk1 : ¬ k1 < 16 := hlt
      clear hlt hk hk16
      obtain ⟨w1, rfl⟩ : ∃ w1 : World, w1 = wr := ⟨_, rfl⟩
      go_wp2_with fail
      go_loopw [8] (fun i wr => ∃ k : Nat, 16 ≤ k ∧ k ≤ 64 ∧ i = .int .i64 k ∧ Hid (Arr wr w.heap.size 79 .u32 (fil (wordsL L) k)) ∧ Hid (Below w.heap.size w wr)) (fun i _ => 64 - (intOf i).toNat)
      case atStart => exact ⟨16, by omega, by omega, rfl, HA, HB⟩
      case round =>
        clear HA HB
        obtain ⟨k, hk0, hk, rfl, HA, HB⟩ := hrel
        by_cases hlt : k < 64
        · have hfl : Hid ((fil (wordsL L) k).length = 64) := Lib.hid (by rw [fil_len, HW.out])
          have c15 := HA.out.cell (i := k - 15) (by rw [hfl.out]; omega)
          have c2 := HA.out.cell (i := k - 2) (by rw [hfl.out]; omega)
          have c16 := HA.out.cell (i := k - 16) (by rw [hfl.out]; omega)
          have c7 := HA.out.cell (i := k - 7) (by rw [hfl.out]; omega)
          have d0 := HA.out.cell (i := k) (by rw [hfl.out]; omega)
          have f0 := HA.out.frozen k
          rw [fil_get (by omega) (by rw [HW.out]; omega)] at c15 c2 c16 c7
          have HV := Lib.hid (words_hi L hk0 hlt)
          have u15 := words_u HBY.out (k - 15)
          have u2 := words_u HBY.out (k - 2)
          have U15 := Lib.hid u15
          have U2 := Lib.hid u2
          unfold U32 at u15 u2
          obtain ⟨u150, u151⟩ := u15
          obtain ⟨u20, u21⟩ := u2
          obtain ⟨x15, X15⟩ : ∃ x, Hid ((wordsL L).getD (k - 15) 0 = x) := ⟨_, Lib.hid rfl⟩
          obtain ⟨x2, X2⟩ : ∃ x, Hid ((wordsL L).getD (k - 2) 0 = x) := ⟨_, Lib.hid rfl⟩
          obtain ⟨x16, X16⟩ : ∃ x, Hid ((wordsL L).getD (k - 16) 0 = x) := ⟨_, Lib.hid rfl⟩
          obtain ⟨x7, X7⟩ : ∃ x, Hid ((wordsL L).getD (k - 7) 0 = x) := ⟨_, Lib.hid rfl⟩
          rw [X15.out] at c15 U15 u150 u151 HV
          rw [X2.out] at c2 U2 u20 u21 HV
          rw [X16.out] at c16 HV
          rw [X7.out] at c7 HV
          generalize (fil (wordsL L) k).getD k 0 = old at d0
          have e15 : ((k : Int) - 15).toNat = k - 15 := by omega
          have e2 : ((k : Int) - 2).toNat = k - 2 := by omega
          have e16 : ((k : Int) - 16).toNat = k - 16 := by omega
          have e7 : ((k : Int) - 7).toNat = k - 7 := by omega
          go_wp2_with fail
          go_quiet (fail)
          clear c15 c2 c16 c7 d0 f0
          have HA3 := Lib.hid (HA.out.drewN nq)
          have HB3 := Lib.hid (below_drewN HB.out nq)
          generalize wr.drewN nq = w3 at *
          have c16 := HA3.out.cell (i := k - 16) (by rw [hfl.out]; omega)
          have c7 := HA3.out.cell (i := k - 7) (by rw [hfl.out]; omega)
          have d0 := HA3.out.cell (i := k) (by rw [hfl.out]; omega)
          have f0 := HA3.out.frozen k
          rw [fil_get (by omega) (by rw [HW.out]; omega)] at c16 c7
          rw [X16.out] at c16
          rw [X7.out] at c7
          generalize (fil (wordsL L) k).getD k 0 = old at d0
          go_wp2_with fail
          refine wp_region_drawn_tail 29 (by kernel_rfl) (by kernel_rfl) ?_
          simp only [List.take_succ_cons, List.take_zero, List.drop_succ_cons, List.drop_zero]
          repeat (go_big_quiet_step ((go_at_call 34; first | (with_reducible exact Calls.quiet_of_same (turn_any x15 _ _ U15.out (by decide))) | (with_reducible exact Calls.quiet_of_same (turn_any x2 _ _ U2.out (by decide))))))
          refine wpQuiet_nil ?_
          intro _ hw'
          obtain ⟨nq', rfl⟩ := hw'
          clear e15 e2 e16 e7
          go_wp2_with fail
          go_roundw
          case rel => exact ⟨k + 1, by omega, by omega, by go_num, Lib.hid (Arr.cast ((HA3.out.drewN nq').set k _) (by rw [← fil_set (by rw [HW.out]; omega), HV.out]; congr 1; simp only [ad, wrapu32, sg0, sg1, xr]; omega)), Lib.hid ((below_drewN HB3.out nq').setCell (by simp) _)⟩
          case measure => simp [intOf]; omega
        · have hk64 : k = 64 := by omega
          obtain ⟨k2, rfl⟩ : ∃ k2 : Nat, k2 = k := ⟨_, rfl⟩
          rw [hk64] at HA
          have hk2 : ¬ k2 < 64 := hlt
          clear hlt hk hk0 hk64
          have HA2 : Hid (Arr wr w.heap.size 79 .u32 (wordsL L)) := Lib.hid (Arr.cast HA.out (by have := fil_full (wordsL L); rwa [HW.out] at this))
          clear HA
          obtain ⟨w2, rfl⟩ : ∃ w2 : World, w2 = wr := ⟨_, rfl⟩
          have HS2 := Lib.hid (HS.out.below HB.out hgl)
          have a0 := HS2.out.cell (i := 0) (by simp [S8.l])
          have a1 := HS2.out.cell (i := 1) (by simp [S8.l])
          have a2 := HS2.out.cell (i := 2) (by simp [S8.l])
          have a3 := HS2.out.cell (i := 3) (by simp [S8.l])
          have a4 := HS2.out.cell (i := 4) (by simp [S8.l])
          have a5 := HS2.out.cell (i := 5) (by simp [S8.l])
          have a6 := HS2.out.cell (i := 6) (by simp [S8.l])
          have a7 := HS2.out.cell (i := 7) (by simp [S8.l])
          simp [S8.l] at a0 a1 a2 a3 a4 a5 a6 a7
          go_wp2_with fail
          clear a0 a1 a2 a3 a4 a5 a6 a7
          have hw2 : w.heap.size < w2.heap.size := Arr.lt HA2.out
          go_loopw [101] (fun i w3 => ∃ k : Nat, k ≤ 64 ∧ i = .int .i64 k ∧ Hid (Arr w3 w2.heap.size 77 .u32 (rnds s (wordsL L) k).l) ∧ Hid (Below w2.heap.size w2 w3)) (fun i _ => 64 - (intOf i).toNat)
          case atStart => exact ⟨0, by omega, rfl, Lib.hid (Arr.newAt rfl (by rw [rnds_zero]; rfl)), Lib.hid ((Below.refl _ _).alloc (Nat.le_refl _) _)⟩
          case round =>
            clear HS2
            obtain ⟨k, hk, rfl, HV, HC⟩ := hrel
            have hw3 := HC.out.size
            have HA3 := Lib.hid (HA2.out.belowAll HC.out)
            have HK3 := Lib.hid ((HK.out.below HB.out hkl).below HC.out (by have := HB.out.size; omega))
            by_cases hlt : k < 64
            · have HOk := Lib.hid (rnds_ok HOK.out (wordsL L) k)
              have HNX := Lib.hid (rnds_succ s (wordsL L) k)
              have ck := HK3.out.cell (i := k) (by rw [kL_len]; omega)
              have cw := HA3.out.cell (i := k) (by rw [HW.out]; omega)
              generalize rnds s (wordsL L) k = v at *
              generalize (wordsL L).getD k 0 = xw at *
              generalize kL.getD k 0 = xk at *
              obtain ⟨va, vb, vc, vd, ve, vf, vg, vh⟩ := v
              have hou := HOk.out
              unfold S8.Ok at hou
              simp only at hou
              obtain ⟨o1, o2, o3, o4, o5, o6, o7, o8⟩ := hou
              have UA := Lib.hid o1
              have UE := Lib.hid o5
              unfold U32 at o1 o5
              have a0 := HV.out.cell (i := 0) (by simp [S8.l])
              have a1 := HV.out.cell (i := 1) (by simp [S8.l])
              have a2 := HV.out.cell (i := 2) (by simp [S8.l])
              have a3 := HV.out.cell (i := 3) (by simp [S8.l])
              have a4 := HV.out.cell (i := 4) (by simp [S8.l])
              have a5 := HV.out.cell (i := 5) (by simp [S8.l])
              have a6 := HV.out.cell (i := 6) (by simp [S8.l])
              have a7 := HV.out.cell (i := 7) (by simp [S8.l])
              simp [S8.l] at a0 a1 a2 a3 a4 a5 a6 a7
              obtain ⟨o10, o11⟩ := o1
              obtain ⟨o50, o51⟩ := o5
              clear o2 o3 o4 o6 o7 o8
              go_wp2_with fail
              go_quiet (fail)
              go_wp2_with fail
              obtain ⟨n1, rfl⟩ : ∃ n1 : Nat, n1 = nq := ⟨_, rfl⟩
              go_quiet ((go_at_call 34; with_reducible exact quiet_add_same (turn_any ve _ _ UE.out (by decide))))
              simp only [World.drewN_drewN]
              generalize n1 + nq = n2
              go_wp2_with fail
              go_quiet ((go_at_call 34; with_reducible exact quiet_add_same (turn_any va _ _ UA.out (by decide))))
              simp only [World.drewN_drewN]
              generalize n2 + nq = n3
              have f0 := HV.out.frozen 0
              have f1 := HV.out.frozen 1
              have f2 := HV.out.frozen 2
              have f3 := HV.out.frozen 3
              have f4 := HV.out.frozen 4
              have f5 := HV.out.frozen 5
              have f6 := HV.out.frozen 6
              have f7 := HV.out.frozen 7
              go_wp2_with fail
              go_roundw
              case rel =>
                refine ⟨k + 1, by omega, by go_num, Lib.hid ?_, Lib.hid ?_⟩
                · rw [HNX.out, rnd_l]
                  apply Arr.cast
                  · (repeat (first | with_reducible exact Arr.drewN HV.out n3 | with_reducible apply Arr.set))
                  · simp only [S8.l, List.set]
                    simp only [ad, wrapu32, bs1, bs0, chz, maj, xr, an, not_u32 UE.out]
                    simp only [List.cons.injEq, and_true, true_and]
                    exact ⟨by omega, by omega⟩
                · (repeat (first | with_reducible exact below_drewN HC.out n3 | (with_reducible refine Below.setCell ?_ (by simp) _)))
              case measure => simp [intOf]; omega
            · have hk64 : k = 64 := by omega
              obtain ⟨k3, rfl⟩ : ∃ k3 : Nat, k3 = k := ⟨_, rfl⟩
              rw [hk64] at HV
              have hk3 : ¬ k3 < 64 := hlt
              clear hlt hk hk64
              obtain ⟨w5, rfl⟩ : ∃ w5 : World, w5 = wr := ⟨_, rfl⟩
              have HBw := Lib.hid (HB.out.trans (HC.out.mono HB.out.size))
              have HSw := Lib.hid (HS.out.below HBw.out hgl)
              have HCM := Lib.hid (comp_eq s L)
              generalize rnds s (wordsL L) 64 = v at *
              have hgw : g < w2.heap.size := by have := HB.out.size; omega
              clear HA2 HA3 HK3 HB HC hw3
              go_wp2_with fail
              go_loopw [183] (fun i wx => ∃ k : Nat, k ≤ 8 ∧ i = .int .i64 k ∧ Hid (Arr wx g 77 .u32 (mixL s.l (addS s v).l k)) ∧ Hid (Arr wx w2.heap.size 77 .u32 v.l) ∧ Hid (w.grownBy wx (some g))) (fun i _ => 8 - (intOf i).toNat)
              case atStart => exact ⟨0, by omega, rfl, Lib.hid (by rw [mix_zero]; exact HSw.out), HV, Lib.hid (only_of_below HBw.out _)⟩
              case round =>
                clear HSw HV HBw
                obtain ⟨k, hk, rfl, HM, HV, HG⟩ := hrel
                by_cases hlt : k < 8
                · have hml : Hid ((mixL s.l (addS s v).l k).length = 8) := Lib.hid (mix_len rfl (by simp [S8.l]; omega))
                  have c0 := HM.out.cell (i := k) (by rw [hml.out]; omega)
                  rw [mix_get (xs := s.l) (ys := (addS s v).l) rfl (Nat.le_refl _)] at c0
                  have f0 := HM.out.frozen k
                  have d0 := HV.out.cell (i := k) (by simp [S8.l]; omega)
                  have HX := Lib.hid (addS_get s v hlt)
                  have HMS := Lib.hid (mix_set (xs := s.l) (ys := (addS s v).l) (k := k) rfl (by simp [S8.l]; omega))
                  generalize s.l.getD k 0 = x at *
                  generalize v.l.getD k 0 = y at *
                  go_wp2_with fail
                  refine wp_region_drawn_tail 11 (by kernel_rfl) (by kernel_rfl) ?_
                  simp only [List.take_succ_cons, List.take_zero, List.drop_succ_cons, List.drop_zero]
                  repeat (go_big_quiet_step (fail))
                  refine wpQuiet_nil ?_
                  intro _ hw'
                  obtain ⟨nq, rfl⟩ := hw'
                  go_wp2_with fail
                  go_roundw
                  case rel => exact ⟨k + 1, by omega, by go_num, Lib.hid (Arr.cast ((HM.out.drewN nq).set k _) (by rw [← HMS.out, HX.out]; rfl)), Lib.hid (Arr.far (HV.out.drewN nq) (by simp; omega) _), Lib.hid (only_setCell (only_drewN HG.out nq) (.inl rfl) _)⟩
                  case measure => simp [intOf]; omega
                · have hk8 : k = 8 := by omega
                  subst hk8
                  have HF : Hid (Arr wr g 77 .u32 (comp s L).l) := Lib.hid (Arr.cast HM.out (by rw [HCM.out]; exact mix_full (xs := s.l) (ys := (addS s v).l) rfl))
                  go_wp2_with fail
                  go_end0
                  exact ⟨rfl, HF.out, HG.out⟩
end Go.Proofs.Ytibjafkclojimaa
