/- Contract of gcm: block.times. Conditions: as each theorem states them. -/
import Derived.Test.YtepkbllcaeceeaaG4
namespace Go.Proofs.Ytepkbllcaeceeaa
open Go.RowKit
def TF (w : World) (x v o : Nat) (wr : World) : Prop :=
  Arr wr w.heap.size 93 .u64 (hl x) ∧ Arr wr (w.heap.size + 1) 93 .u64 (hl v) ∧ Arr wr (w.heap.size + 1 + 1) 93 .u64 [0, 0] ∧ Arr wr (w.heap.size + 1 + 1 + 1) 93 .u64 (hl o) ∧ Below w.heap.size w wr
theorem hl_xor {a b : Nat} (ha : G128 a) (hb : G128 b) : hl (a ^^^ b) = [bits .xor .u64 ((a / 18446744073709551616 : Nat) : Int) ((b / 18446744073709551616 : Nat) : Int), bits .xor .u64 ((a % 18446744073709551616 : Nat) : Int) ((b % 18446744073709551616 : Nat) : Int)] := by
  unfold G128 at ha hb
  have h1 := Nat.xor_div_two_pow (n := 64) (a := a) (b := b)
  have h2 := Nat.xor_mod_two_pow (n := 64) (a := a) (b := b)
  rw [two64] at h1 h2
  unfold hl
  rw [bits_xor_u64' _ _ (by omega) (by omega) (by omega) (by omega), bits_xor_u64' _ _ (by omega) (by omega) (by omega) (by omega), h1, h2]
  rfl
theorem TF.sum {w wr : World} {x v o : Nat} (h : TF w x v o wr) (ho : G128 o) (hv : G128 v) :
    TF w x v (o ^^^ v) ((wr.setCell ⟨w.heap.size + 1 + 1 + 1, 0, none⟩ (.int .u64 (bits .xor .u64 ((o / 18446744073709551616 : Nat) : Int) ((v / 18446744073709551616 : Nat) : Int)))).setCell ⟨w.heap.size + 1 + 1 + 1, 1, none⟩ (.int .u64 (bits .xor .u64 ((o % 18446744073709551616 : Nat) : Int) ((v % 18446744073709551616 : Nat) : Int)))) :=
  ⟨(h.1.far (by simp <;> omega) _).far (by simp <;> omega) _, (h.2.1.far (by simp <;> omega) _).far (by simp <;> omega) _, (h.2.2.1.far (by simp <;> omega) _).far (by simp <;> omega) _, Arr.cast ((h.2.2.2.1.set 0 _).set 1 _) (by rw [hl_xor ho hv]; rfl), (h.2.2.2.2.setCell (by simp <;> omega) _).setCell (by simp <;> omega) _⟩
theorem half_hl (v : Nat) : [(((v / 18446744073709551616 : Nat) : Int) / 2), bits .or .u64 (((v % 18446744073709551616 : Nat) : Int) / 2) (IntKind.u64.wrap (((v / 18446744073709551616 : Nat) : Int) * 9223372036854775808))] = hl (v / 2) := by
  unfold hl
  rw [wrapu64]
  have e1 : (((v / 18446744073709551616 : Nat) : Int) * 9223372036854775808) % 18446744073709551616 = ((9223372036854775808 * ((v / 18446744073709551616) % 2) : Nat) : Int) := by omega
  rw [e1, bits_or_u64' _ _ (by omega) (by omega) (by omega) (by omega), Int.toNat_natCast]
  have e2 : (((v % 18446744073709551616 : Nat) : Int) / 2).toNat = v % 18446744073709551616 / 2 := by omega
  have hb : v % 18446744073709551616 / 2 < 2 ^ 63 := by rw [show (2 : Nat) ^ 63 = 9223372036854775808 by decide]; omega
  have h3 := Nat.two_pow_add_eq_or_of_lt hb ((v / 18446744073709551616) % 2)
  rw [show (2 : Nat) ^ 63 = 9223372036854775808 by decide] at h3
  rw [e2, Nat.or_comm, ← h3]
  congr 1
  · omega
  · congr 1
    omega
theorem TF.half {w wr : World} {x v o : Nat} (h : TF w x v o wr) :
    TF w x (v / 2) o ((wr.setCell ⟨w.heap.size + 1, 1, none⟩ (.int .u64 (bits .or .u64 (((v % 18446744073709551616 : Nat) : Int) / 2) (IntKind.u64.wrap (((v / 18446744073709551616 : Nat) : Int) * 9223372036854775808))))).setCell ⟨w.heap.size + 1, 0, none⟩ (.int .u64 (((v / 18446744073709551616 : Nat) : Int) / 2))) :=
  ⟨(h.1.far (by simp <;> omega) _).far (by simp <;> omega) _, Arr.cast ((h.2.1.set 1 _).set 0 _) (by rw [← half_hl]; rfl), (h.2.2.1.far (by simp <;> omega) _).far (by simp <;> omega) _, (h.2.2.2.1.far (by simp <;> omega) _).far (by simp <;> omega) _, (h.2.2.2.2.setCell (by simp <;> omega) _).setCell (by simp <;> omega) _⟩
theorem top_ok : G128 299076299051606071403356588563077529600 := by unfold G128; decide
theorem TF.top {w wr : World} {x v o : Nat} {t : Int} (h : TF w x v o wr) (hv : G128 v) (ht : t = ((v / 18446744073709551616 : Nat) : Int)) :
    TF w x (v ^^^ 299076299051606071403356588563077529600) o (wr.setCell ⟨w.heap.size + 1, 0, none⟩ (.int .u64 (bits .xor .u64 t 16212958658533785600))) :=
  ⟨h.1.far (by simp <;> omega) _, Arr.cast (h.2.1.set 0 _) (by
    rw [hl_xor hv top_ok, ht]
    show [_, _] = [_, _]
    congr 1
    congr 1
    have h0 : bits .xor .u64 ((v % 18446744073709551616 : Nat) : Int) ((299076299051606071403356588563077529600 % 18446744073709551616 : Nat) : Int) = ((v % 18446744073709551616 : Nat) : Int) := by
      rw [bits_xor_u64' _ _ (by omega) (by omega) (by omega) (by omega)]
      rw [show ((299076299051606071403356588563077529600 % 18446744073709551616 : Nat) : Int).toNat = 0 by decide, Nat.xor_zero, Int.toNat_natCast]
    exact h0.symm), h.2.2.1.far (by simp <;> omega) _, h.2.2.2.1.far (by simp <;> omega) _, h.2.2.2.2.setCell (by simp <;> omega) _⟩
theorem and1 {n : Nat} (h : n < 18446744073709551616) : (bits .and .u64 (n : Int) 1 != 0) = decide (n % 2 = 1) := by
  rw [bits_and_u64' _ _ (by omega) (by omega) (by decide) (by decide), Int.toNat_natCast, show (1 : Int).toNat = 1 from rfl, Nat.and_one_is_mod]
  rcases Nat.mod_two_eq_zero_or_one n with h | h <;> rw [h] <;> decide
theorem castdiv (a n : Nat) : ((a : Nat) : Int) / 2 ^ n = ((a / 2 ^ n : Nat) : Int) := by rw [Int.natCast_ediv, Int.natCast_pow]; rfl
theorem bit_hi {x k : Nat} (hx : G128 x) (hk : k < 64) : (bits .and .u64 (((x / 18446744073709551616 : Nat) : Int) / 2 ^ (63 - k % 64)) 1 != 0) = x.testBit (127 - k) := by
  unfold G128 at hx
  have hle : x / 18446744073709551616 / 2 ^ (63 - k % 64) ≤ x / 18446744073709551616 := Nat.div_le_self _ _
  rw [castdiv, and1 (by omega), Nat.testBit_eq_decide_div_mod_eq, Nat.div_div_eq_div_mul, ← two64, ← Nat.pow_add]
  rw [show 64 + (63 - k % 64) = 127 - k by omega]
theorem bit_lo {x k : Nat} (hk : 64 ≤ k) (hk2 : k < 128) : (bits .and .u64 (((x % 18446744073709551616 : Nat) : Int) / 2 ^ (63 - k % 64)) 1 != 0) = x.testBit (127 - k) := by
  have hle : x % 18446744073709551616 / 2 ^ (63 - k % 64) ≤ x % 18446744073709551616 := Nat.div_le_self _ _
  rw [castdiv, and1 (by omega), ← Nat.testBit_eq_decide_div_mod_eq, ← two64, show 63 - k % 64 = 127 - k by omega, Nat.testBit_mod_two_pow]
  rw [show decide (127 - k < 64) = true from decide_eq_true (by omega), Bool.true_and]
theorem bit_over {v : Nat} : (bits .and .u64 ((v % 18446744073709551616 : Nat) : Int) 1 != 0) = decide (v % 2 = 1) := by
  rw [and1 (Nat.mod_lt _ (by decide)), show v % 18446744073709551616 % 2 = v % 2 by omega]
set_option maxRecDepth 100000 in
set_option maxHeartbeats 4000000 in
theorem times_any (x h : Nat) (w : World) (hx : G128 x) (hh : G128 h) :
    Calls Try.prog 67 #[.agg (cellsL .u64 (hl x)), .agg (cellsL .u64 (hl h))] w (RetV (.agg (cellsL .u64 (hl (tm x h)))) w) := by
  have HX := Lib.hid hx
  have F0 : Hid (TF w x (vN h 0) (oN x h 0) ((((w.alloc (.cells (cellsL .u64 (hl x)) 93)).alloc (.cells (cellsL .u64 (hl h)) 93)).alloc (.cells #[.int .u64 0, .int .u64 0] 93)).alloc (.cells #[.int .u64 0, .int .u64 0] 93))) := Lib.hid
    ⟨(((Arr.newAt rfl rfl).alloc _).alloc _).alloc _, ((Arr.newAt (by simp) rfl).alloc _).alloc _, (Arr.newAt (xs := [0, 0]) (by simp) rfl).alloc _, Arr.cast (Arr.newAt (xs := [0, 0]) (by simp) rfl) (by simp [hl, oN]), ((((Below.refl _ _).alloc (Nat.le_refl _) _).alloc (by simp) _).alloc (by simp <;> omega) _).alloc (by simp <;> omega) _⟩
  go_enter Try.func67, Try.ntmps67
  go_wp2_with fail
  go_loopw [9] (fun ii wr => ∃ k : Nat, k ≤ 128 ∧ ii = .int .i64 k ∧ Hid (TF w x (vN h k) (oN x h k) wr)) (fun ii _ => 128 - (intOf ii).toNat)
  case atStart => exact ⟨0, by omega, rfl, F0⟩
  case round =>
    clear F0
    obtain ⟨k, hk, rfl, HF⟩ := hrel
    by_cases hlt : k < 128
    · obtain ⟨v, hv⟩ : ∃ v, vN h k = v := ⟨_, rfl⟩
      obtain ⟨o, ho⟩ : ∃ o, oN x h k = o := ⟨_, rfl⟩
      rw [hv, ho] at HF
      obtain ⟨xh, hxh⟩ : ∃ n : Nat, x / 18446744073709551616 = n := ⟨_, rfl⟩
      obtain ⟨xl, hxl⟩ : ∃ n : Nat, x % 18446744073709551616 = n := ⟨_, rfl⟩
      obtain ⟨vh, hvh⟩ : ∃ n : Nat, v / 18446744073709551616 = n := ⟨_, rfl⟩
      obtain ⟨vl, hvl⟩ : ∃ n : Nat, v % 18446744073709551616 = n := ⟨_, rfl⟩
      obtain ⟨oh, hoh⟩ : ∃ n : Nat, o / 18446744073709551616 = n := ⟨_, rfl⟩
      obtain ⟨ol, hol⟩ : ∃ n : Nat, o % 18446744073709551616 = n := ⟨_, rfl⟩
      have c1 : wr.cell? ⟨w.heap.size, 0, none⟩ = some (.int .u64 (xh : Int)) := by rw [← hxh]; exact HF.out.1.cell (i := 0) (by simp [hl])
      have c2 : wr.cell? ⟨w.heap.size, 1, none⟩ = some (.int .u64 (xl : Int)) := by rw [← hxl]; exact HF.out.1.cell (i := 1) (by simp [hl])
      have c3 : wr.cell? ⟨w.heap.size + 1, 0, none⟩ = some (.int .u64 (vh : Int)) := by rw [← hvh]; exact HF.out.2.1.cell (i := 0) (by simp [hl])
      have c4 : wr.cell? ⟨w.heap.size + 1, 1, none⟩ = some (.int .u64 (vl : Int)) := by rw [← hvl]; exact HF.out.2.1.cell (i := 1) (by simp [hl])
      have c5 : wr.cell? ⟨w.heap.size + 1 + 1 + 1, 0, none⟩ = some (.int .u64 (oh : Int)) := by rw [← hoh]; exact HF.out.2.2.2.1.cell (i := 0) (by simp [hl])
      have c6 : wr.cell? ⟨w.heap.size + 1 + 1 + 1, 1, none⟩ = some (.int .u64 (ol : Int)) := by rw [← hol]; exact HF.out.2.2.2.1.cell (i := 1) (by simp [hl])
      have f3 := HF.out.2.1.frozen 0
      have f4 := HF.out.2.1.frozen 1
      have f5 := HF.out.2.2.2.1.frozen 0
      have f6 := HF.out.2.2.2.1.frozen 1
      have HXH := Lib.hid hxh
      have HXL := Lib.hid hxl
      have HVH := Lib.hid hvh
      have HVL := Lib.hid hvl
      have HOH := Lib.hid hoh
      have HOL := Lib.hid hol
      have HOK : Hid (G128 o) := Lib.hid (by rw [← ho]; exact oN_ok x hh k)
      have HVK : Hid (G128 v) := Lib.hid (by rw [← hv]; exact vN_ok hh k)
      have HV1 : Hid (vN h (k + 1) = v / 2 ^^^ (if v % 2 = 1 then 299076299051606071403356588563077529600 else 0)) := Lib.hid (by rw [← hv]; rfl)
      have HO1 : Hid (oN x h (k + 1) = o ^^^ (if x.testBit (127 - k) = true then v else 0)) := Lib.hid (by rw [← ho, ← hv]; rfl)
      have HVH2 : Hid (G128 (v / 2)) := Lib.hid (by have := HVK.out; unfold G128 at *; omega)
      have b2 := bit_over (v := v)
      rw [hvl] at b2
      have b1 : if k < 64 then (bits .and .u64 ((xh : Int) / 2 ^ (63 - k % 64)) 1 != 0) = x.testBit (127 - k) else (bits .and .u64 ((xl : Int) / 2 ^ (63 - k % 64)) 1 != 0) = x.testBit (127 - k) := by
        split
        · rw [← hxh]; exact bit_hi HX.out (by assumption)
        · rw [← hxl]; exact bit_lo (by omega) hlt
      generalize hbb : x.testBit (127 - k) = bb at *
      generalize hov : decide (v % 2 = 1) = ov at *
      have HBB := Lib.hid hbb
      have HOV := Lib.hid hov
      clear hxh hxl hvh hvl hoh hol hv ho hbb hov
      by_cases h64 : k < 64
      case' pos => rw [if_pos h64] at b1
      case' neg => rw [if_neg h64] at b1
      all_goals
        rcases bb with _ | _
        all_goals
          rcases ov with _ | _
          all_goals
            go_wp2_with fail
            go_roundw
            case measure => simp [intOf]; omega
            case rel =>
              have hv1 := HV1.out
              have ho1 := HO1.out
              have hov := HOV.out
              first | rw [if_pos (of_decide_eq_true hov)] at hv1 | rw [if_neg (of_decide_eq_false hov), Nat.xor_zero] at hv1
              first | rw [if_pos rfl] at ho1 | rw [if_neg (by decide), Nat.xor_zero] at ho1
              refine ⟨k + 1, by omega, by go_num, Lib.hid ?_⟩
              rw [hv1, ho1]
              obtain rfl := HOH.out
              obtain rfl := HOL.out
              obtain rfl := HVH.out
              obtain rfl := HVL.out
              first
                | with_reducible exact HF.out.half
                | with_reducible exact (HF.out.sum HOK.out HVK.out).half
                | with_reducible exact HF.out.half.top HVH2.out (by omega)
                | with_reducible exact (HF.out.sum HOK.out HVK.out).half.top HVH2.out (by omega)
    · have hk128 : k = 128 := by omega
      have HA5 : Hid (Arr wr (w.heap.size + 1 + 1 + 1) 93 .u64 (hl (tm x h))) := Lib.hid (by have h1 := HF.out.2.2.2.1; rw [hk128] at h1; unfold tm; exact h1)
      have L1 := Lib.hid (blk_load (P := Try.prog) HA5.out Try.underlying93 rfl sizeBl)
      obtain ⟨w8, hs8, hz8, hg8⟩ := blk_storeAll (P := Try.prog) (ty := 93) (vs := iv .u64 (hl (tm x h))) HF.out.2.2.1 rfl (iv_one _ _) sizeBl
      have S8 := Lib.hid hs8
      have Z8 := Lib.hid hz8
      have B8 := Lib.hid (HF.out.2.2.2.2.trans (below_of_only hg8 (by omega) HF.out.2.2.2.2.size))
      clear hs8 hz8 hg8 hk128 HF
      go_wp2_with (first
        | ((with_reducible (show wpList _ _ _ (⟨some 63, .load _ _, _, _, _, _⟩ :: _) _ _)); refine wpList_loadV (o := ⟨some 63, .load _ _, _, _, _, _⟩) rfl _ rfl rfl (L1.out) ?_)
        | ((with_reducible (show wpList _ _ _ (⟨none, .store 93 _ _, _, _, _, _⟩ :: _) _ _)); refine wpList_storeV (o := ⟨none, .store 93 _ _, _, _, _, _⟩) rfl _ _ rfl rfl rfl (S8.out) ?_))
      refine ret_row rfl rfl Z8.out Try.underlying93 rfl sizeBl rfl ⟨rfl, B8.out⟩
end Go.Proofs.Ytepkbllcaeceeaa
