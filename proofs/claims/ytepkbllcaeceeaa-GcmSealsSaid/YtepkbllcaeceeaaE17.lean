/- Contract of layer 8's reference: Seal. Conditions: as each theorem states them. -/
import Derived.Test.YtepkbllcaeceeaaE16
import Derived.Test.YtepkbllcaeceeaaMK
namespace Go.Proofs.Ytepkbllcaeceeaa
open Go.RowKit
theorem times_3 {c : Int} (hc : B8 c) : times 3 c = xb (tw c) c := by
  have h := List.all_eq_true.1 times_two c (allE_mem hc)
  simp only [Bool.and_eq_true, beq_iff_eq] at h
  exact h.2
theorem times_2l {c : Int} (hc : B8 c) : times 2 c = tw c := by
  have h := List.all_eq_true.1 times_two c (allE_mem hc)
  simp only [Bool.and_eq_true, beq_iff_eq] at h
  exact h.1.1
theorem col0 {a b c d : Int} (ha : B8 a) (hb : B8 b) (hc : B8 c) (hd : B8 d) : xb (xb (xb (times 2 a) (times 3 b)) c) d = mcolB a b (allX a b c d) := by
  rw [times_2l ha, times_3 hb]
  unfold mcolB allX
  rw [tw_lin ha hb]
  have hta := tw_u ha
  have htb := tw_u hb
  refine nat_eq (xb_u _ _) (xb_u _ _) ?_
  rw [xb_toNat (xb_u _ _) hd, xb_toNat (xb_u _ _) hc, xb_toNat hta (xb_u _ _), xb_toNat htb hb, xb_toNat ha (xb_u _ _), xb_toNat (xb_u _ _) (xb_u _ _), xb_toNat hta htb, xb_toNat (xb_u _ _) hd, xb_toNat (xb_u _ _) hc, xb_toNat ha hb]
  generalize (tw a).toNat = p, (tw b).toNat = q, a.toNat = x, b.toNat = y, c.toNat = z, d.toNat = u
  apply Nat.eq_of_testBit_eq
  intro i
  simp only [Nat.testBit_xor]
  generalize p.testBit i = p, q.testBit i = q, x.testBit i = x, y.testBit i = y, z.testBit i = z, u.testBit i = u
  revert p q x y z u
  decide
theorem col1 {a b c d : Int} (ha : B8 a) (hb : B8 b) (hc : B8 c) (hd : B8 d) : xb (xb (xb a (times 2 b)) (times 3 c)) d = mcolB b c (allX a b c d) := by
  rw [times_2l hb, times_3 hc]
  unfold mcolB allX
  rw [tw_lin hb hc]
  have hta := tw_u hb
  have htb := tw_u hc
  refine nat_eq (xb_u _ _) (xb_u _ _) ?_
  rw [xb_toNat (xb_u _ _) hd, xb_toNat (xb_u _ _) (xb_u _ _), xb_toNat ha hta, xb_toNat htb hc, xb_toNat hb (xb_u _ _), xb_toNat (xb_u _ _) (xb_u _ _), xb_toNat hta htb, xb_toNat (xb_u _ _) hd, xb_toNat (xb_u _ _) hc, xb_toNat ha hb]
  generalize (tw b).toNat = p, (tw c).toNat = q, a.toNat = x, b.toNat = y, c.toNat = z, d.toNat = u
  apply Nat.eq_of_testBit_eq
  intro i
  simp only [Nat.testBit_xor]
  generalize p.testBit i = p, q.testBit i = q, x.testBit i = x, y.testBit i = y, z.testBit i = z, u.testBit i = u
  revert p q x y z u
  decide
theorem col2 {a b c d : Int} (ha : B8 a) (hb : B8 b) (hc : B8 c) (hd : B8 d) : xb (xb (xb a b) (times 2 c)) (times 3 d) = mcolB c d (allX a b c d) := by
  rw [times_2l hc, times_3 hd]
  unfold mcolB allX
  rw [tw_lin hc hd]
  have hta := tw_u hc
  have htb := tw_u hd
  refine nat_eq (xb_u _ _) (xb_u _ _) ?_
  rw [xb_toNat (xb_u _ _) (xb_u _ _), xb_toNat (xb_u _ _) hta, xb_toNat ha hb, xb_toNat htb hd, xb_toNat hc (xb_u _ _), xb_toNat (xb_u _ _) (xb_u _ _), xb_toNat hta htb, xb_toNat (xb_u _ _) hd, xb_toNat (xb_u _ _) hc, xb_toNat ha hb]
  generalize (tw c).toNat = p, (tw d).toNat = q, a.toNat = x, b.toNat = y, c.toNat = z, d.toNat = u
  apply Nat.eq_of_testBit_eq
  intro i
  simp only [Nat.testBit_xor]
  generalize p.testBit i = p, q.testBit i = q, x.testBit i = x, y.testBit i = y, z.testBit i = z, u.testBit i = u
  revert p q x y z u
  decide
theorem col3 {a b c d : Int} (ha : B8 a) (hb : B8 b) (hc : B8 c) (hd : B8 d) : xb (xb (xb (times 3 a) b) c) (times 2 d) = mcolB d a (allX a b c d) := by
  rw [times_2l hd, times_3 ha]
  unfold mcolB allX
  rw [tw_lin hd ha]
  have hta := tw_u hd
  have htb := tw_u ha
  refine nat_eq (xb_u _ _) (xb_u _ _) ?_
  rw [xb_toNat (xb_u _ _) hta, xb_toNat (xb_u _ _) hc, xb_toNat (xb_u _ _) hb, xb_toNat htb ha, xb_toNat hd (xb_u _ _), xb_toNat (xb_u _ _) (xb_u _ _), xb_toNat hta htb, xb_toNat (xb_u _ _) hd, xb_toNat (xb_u _ _) hc, xb_toNat ha hb]
  generalize (tw d).toNat = p, (tw a).toNat = q, a.toNat = x, b.toNat = y, c.toNat = z, d.toNat = u
  apply Nat.eq_of_testBit_eq
  intro i
  simp only [Nat.testBit_xor]
  generalize p.testBit i = p, q.testBit i = q, x.testBit i = x, y.testBit i = y, z.testBit i = z, u.testBit i = u
  revert p q x y z u
  decide
theorem mixAt_cols {s : List Int} (hs : Byt s) (i : Nat) {a b c d : Int} (h0 : s.getD i 0 = a) (h1 : s.getD (i + 1) 0 = b) (h2 : s.getD (i + 2) 0 = c) (h3 : s.getD (i + 3) 0 = d) :
    (((s.set i (xb (xb (xb (times 2 a) (times 3 b)) c) d)).set (i + 1) (xb (xb (xb a (times 2 b)) (times 3 c)) d)).set (i + 2) (xb (xb (xb a b) (times 2 c)) (times 3 d))).set (i + 3) (xb (xb (xb (times 3 a) b) c) (times 2 d)) = mixAt s i := by
  subst h0; subst h1; subst h2; subst h3
  rw [col0 (byt_getD8 hs _) (byt_getD8 hs _) (byt_getD8 hs _) (byt_getD8 hs _), col1 (byt_getD8 hs _) (byt_getD8 hs _) (byt_getD8 hs _) (byt_getD8 hs _), col2 (byt_getD8 hs _) (byt_getD8 hs _) (byt_getD8 hs _) (byt_getD8 hs _), col3 (byt_getD8 hs _) (byt_getD8 hs _) (byt_getD8 hs _) (byt_getD8 hs _)]
  rfl
def Z16 : List Int := List.replicate 16 0
theorem make16E (w : World) : (Instr.makeSlice 28 (.int .i64 16) (.int .i64 16)).run Try.prog w = .ok (.slice (some ⟨w.heap.size, 0, none⟩) 16 16) (w.alloc (.cells (Z16.map (Value.int .u8)).toArray 5)) := make_any elB8 16 (by omega) w
attribute [irreducible] Z16
/-- the state of the reference's sealing -/
def RSt (w : World) (gs cs : Nat) (S : List Int) (wr : World) : Prop := Own w.heap.size 5 .u8 wr (some ⟨gs, 0, none⟩) 16 cs S ∧ Below w.heap.size w wr
/-- and the next one besides -/
def RSt2 (w : World) (gs cs gt : Nat) (S T : List Int) (wr : World) : Prop := RSt w gs cs S wr ∧ Own w.heap.size 5 .u8 wr (some ⟨gt, 0, none⟩) 16 16 T
theorem RSt.set {w wr : World} {gs cs : Nat} {S S' : List Int} (h : RSt w gs cs S wr) (i : Nat) (z : Int) (e : S.set i z = S') : RSt w gs cs S' (wr.drew.setCell ⟨gs, i, none⟩ (.int .u8 z)) :=
  ⟨((Own.set_ (w := wr.drew) h.1 i z)).cast e, h.2.drew.setCell (p := ⟨gs, i, none⟩) (h.1.block _ rfl).1 _⟩
theorem RSt2.setS {w wr : World} {gs cs gt : Nat} {S S' T : List Int} (h : RSt2 w gs cs gt S T wr) (hne : gs ≠ gt) (i : Nat) (z : Int) (e : S.set i z = S') : RSt2 w gs cs gt S' T (wr.drew.setCell ⟨gs, i, none⟩ (.int .u8 z)) :=
  ⟨h.1.set i z e, Own.far (w := wr.drew) h.2 (Ne.symm hne) _⟩
theorem RSt2.setT {w wr : World} {gs cs gt : Nat} {S T T' : List Int} (h : RSt2 w gs cs gt S T wr) (hne : gs ≠ gt) (i : Nat) (z : Int) (e : T.set i z = T') : RSt2 w gs cs gt S T' (wr.drew.setCell ⟨gt, i, none⟩ (.int .u8 z)) :=
  ⟨⟨Own.far (w := wr.drew) h.1.1 hne _, h.1.2.drew.setCell (p := ⟨gt, i, none⟩) (h.2.block _ rfl).1 _⟩, (Own.set_ (w := wr.drew) h.2 i z).cast e⟩
theorem RSt2.setT0 {w wr : World} {gs cs gt : Nat} {S T T' : List Int} (h : RSt2 w gs cs gt S T wr) (hne : gs ≠ gt) (i : Nat) (z : Int) (e : T.set i z = T') : RSt2 w gs cs gt S T' (wr.setCell ⟨gt, i, none⟩ (.int .u8 z)) :=
  ⟨⟨Own.far h.1.1 hne _, h.1.2.setCell (p := ⟨gt, i, none⟩) (h.2.block _ rfl).1 _⟩, (Own.set_ h.2 i z).cast e⟩
theorem RSt2.drew {w wr : World} {gs cs gt : Nat} {S T : List Int} (h : RSt2 w gs cs gt S T wr) : RSt2 w gs cs gt S T wr.drew := ⟨⟨h.1.1, h.1.2.drew⟩, h.2⟩
attribute [local irreducible] arnd times
theorem ixr2 (m r : Nat) : (4 * (((m : Int) + (r : Int)) % 4) + (r : Int)).toNat = 4 * ((m + r) % 4) + r := by
  have h : (((m + r) % 4 : Nat) : Int) = ((m : Int) + (r : Int)) % 4 := by rw [Int.natCast_emod, Int.natCast_add]; rfl
  rw [← h]
  omega
theorem ixr : ∀ {m r : Nat}, m < 4 → r < 4 → (4 * m + r + 4 * ((4 * m + r) % 4)) % 16 = 4 * ((m + r) % 4) + r := by
  intro m r hm hr
  rcases (show m = 0 ∨ m = 1 ∨ m = 2 ∨ m = 3 by omega) with rfl | rfl | rfl | rfl <;> rcases (show r = 0 ∨ r = 1 ∨ r = 2 ∨ r = 3 by omega) with rfl | rfl | rfl | rfl <;> rfl
set_option maxRecDepth 100000 in
set_option maxHeartbeats 8000000 in
theorem rseal_any (A0 A1 A2 : Option Addr) (c0 c1 c2 : Nat) (W s : List Int) (w : World) (hW : W.length = 176) (hWb : Byt W) (hs : Blk16 s) (hb : Rd w.heap.size .u8 w A0 boxL) (hw : Rd w.heap.size .u8 w A1 W) (hr : Rd w.heap.size .u8 w A2 s) :
    Calls Try.prog 25 #[.slice A0 256 c0, .slice A1 176 c1, .slice A2 16 c2] w (RetOwn 5 .u8 (sealL W s) w) := by
  have HS := Lib.hid hs
  have HSL := Lib.hid hs.1
  have HWL := Lib.hid hW
  have HBL := Lib.hid boxL_len
  obtain ⟨ad0, rfl, had0⟩ := hb.isSome (by rw [HBL.out]; decide)
  obtain ⟨ad1, rfl, had1⟩ := hw.isSome (by rw [HWL.out]; decide)
  have HB := Lib.hid hb
  have HWR := Lib.hid hw
  have HR := Lib.hid hr
  have HR0 : Hid (∀ n, n < 11 → Blk16 (arnd W s n)) := Lib.hid (fun n hn => arnd_ok hW hWb hs n hn)
  have HRK : Hid (∀ n, n < 11 → Blk16 (rkey W n)) := Lib.hid (fun n hn => rkey_ok hW hWb hn)
  have HRG : Hid (∀ n i, i < 16 → (rkey W n).getD i 0 = W.getD (16 * n + i) 0) := Lib.hid (fun n i hi => rkey_getD W n hi)
  have HMK := make16E
  clear hs hW hWb hb hw hr
  have O0 : Hid (Own w.heap.size 5 .u8 (w.alloc (.cells #[] 5)) (some ⟨w.heap.size, 0, none⟩) 0 0 []) := Lib.hid (Own.litAt rfl rfl rfl (Nat.le_refl _) (Nat.zero_le _))
  have HR1 := Lib.hid (HR.out.alloc (Nat.le_refl _) (.cells #[] 5))
  go_enter Try.func25, Try.ntmps25
  go_wp2_with (at_builtin; refine wpList_app (o := ⟨some 21, _, _, _, _, _⟩) elB8 rfl _ _ rfl rfl rfl O0.out HR1.out HSL.out.symm ?_ ?_ ?_; (rw [HSL.out]; decide); (simp); intro A2 n2 c2 w2 q2; obtain ⟨gs, rfl, hgs, hgs'⟩ := Own.addr q2.1 (by rw [q2.1.len, List.nil_append, HSL.out]; decide); obtain rfl := (show n2 = 16 by rw [q2.1.len, List.nil_append, HSL.out]); have H2 : Hid (RSt w gs c2 s w2) := Lib.hid ⟨q2.1, ((Below.refl w.heap.size w).alloc (Nat.le_refl _) _).trans q2.2.2.1⟩; clear q2)
  have HA0 : Hid (Blk16 (addL s (rkey W 0))) := Lib.hid (addL_ok HS.out (HRK.out 0 (by decide)))
  have HAG : Hid (∀ k, k < 16 → (addL s (rkey W 0)).getD k 0 = xb (s.getD k 0) (W.getD k 0)) := Lib.hid (fun k hk => by rw [addL_getD HSL.out (HRK.out 0 (by decide)).1 hk, HRG.out 0 k hk]; rw [Nat.mul_zero, Nat.zero_add])
  have HAZ : Hid (addL s (rkey W 0) = arnd W s 0) := Lib.hid (arnd_zero W s).symm
  generalize addL s (rkey W 0) = A at *
  go_loopw [8] (fun ii wr => ∃ k : Nat, k ≤ 16 ∧ ii = .int .i64 k ∧ Hid (RSt w gs c2 (mixL s A k) wr)) (fun ii _ => 16 - (intOf ii).toNat)
  case atStart => exact ⟨0, by omega, rfl, Lib.hid (by rw [mix_zero]; exact H2.out)⟩
  case round =>
    clear H2
    obtain ⟨k, hk, rfl, HT⟩ := hrel
    by_cases hlt : k < 16
    · have hml : Hid ((mixL s A k).length = 16) := Lib.hid (by rw [mix_len (by rw [HSL.out, HA0.out.1]) (by rw [HSL.out]; omega), HSL.out])
      have p1 : ∀ r : BW wr.heap.size wr, r.world.cell? ⟨gs, k, none⟩ = some (.int .u8 (s.getD k 0)) := fun r => by
        have := (HT.out.1.below r.below).cell0 (i := k) (by rw [hml.out]; exact hlt)
        rwa [mix_get (by rw [HSL.out, HA0.out.1]) (Nat.le_refl _)] at this
      have p2 : ∀ r : BW wr.heap.size wr, r.world.cell? (ad1.add k) = some (.int .u8 (W.getD k 0)) := fun r => ((HWR.out.below HT.out.2 (Nat.le_refl _)).below r.below HT.out.2.size).at_ (by rw [HWL.out]; omega)
      have f1 := HT.out.1.frozen k
      have q1 : wr.cell? ⟨gs, k, none⟩ = some (.int .u8 (s.getD k 0)) := p1 ⟨wr, Below.refl _ _⟩
      have HE := Lib.hid (HAG.out k hlt)
      have HMS := Lib.hid (mix_set (xs := s) (ys := A) (k := k) (by rw [HSL.out, HA0.out.1]) (by rw [HSL.out]; exact hlt))
      rw [HE.out] at HMS
      generalize s.getD k 0 = x at *
      generalize W.getD k 0 = y at *
      go_wp2_with fail
      refine wp_region_mixOB wr.heap.size [([0, 1, 2, 3, 4, 5, 6, 7, 8, 9, 10, 11], 12)] (by kernel_rfl) (by kernel_rfl) (by kernel_rfl) (by kernel_rfl) (by kernel_rfl) ?_
      try (rw [put_none])
      simp only [pickL, List.map_cons, List.map_nil, List.filterMap_cons, List.filterMap_nil, List.getElem?_cons_succ, List.getElem?_cons_zero]
      refine mixO_cons ?_
      repeat (show wpQuiet _ _ _ _ (_ :: _) _; go_big_quiet_step (fail))
      refine wpQuiet_nil ?_
      show wpList _ _ _ [_] _ _
      go_wp2_with fail
      refine MixO.last ?_
      refine mixO_nil ?_
      refine wpQuiet_nil ?_
      refine NoPanic.normal ?_
      have HT9 : Hid (RSt w gs c2 (mixL s A (k + 1)) (wr.drew.setCell ⟨gs, k, none⟩ (.int .u8 (bits .xor .u8 x y)))) := Lib.hid (HT.out.set k _ HMS.out)
      clear p1 p2 f1 q1 HE HMS hml
      go_wp2_with fail
      go_roundw
      case rel => exact ⟨k + 1, by omega, by go_num, HT9⟩
      case measure => simp [intOf]; omega
    · have HF : Hid (RSt w gs c2 (arnd W s (1 - 1)) wr) := Lib.hid (by
        have h := HT.out
        rw [show k = A.length by rw [HA0.out.1]; omega, mix_full (by rw [HSL.out, HA0.out.1]), HAZ.out] at h
        exact h)
      clear HT HA0 HAG HAZ
      obtain ⟨wo, rfl⟩ : ∃ wo : World, wo = wr := ⟨_, rfl⟩
      go_wp2_with fail
      clear hk hlt
      go_loopw [9] (fun ii wr => ∃ n : Nat, 1 ≤ n ∧ n ≤ 11 ∧ ii = .int .i64 n ∧ Hid (RSt w gs c2 (arnd W s (n - 1)) wr)) (fun ii _ => 11 - (intOf ii).toNat)
      case atStart => exact ⟨1, by omega, by omega, rfl, HF⟩
      case round =>
        clear HF
        obtain ⟨n, hn1, hn, rfl, HF⟩ := hrel
        by_cases hlt : n < 11
        · have HSO := Lib.hid (HR0.out (n - 1) (by omega))
          have HAS : Hid (arnd W s n = addL (if n < 10 then mcolL (rowsL (arnd W s (n - 1))) else rowsL (arnd W s (n - 1))) (rkey W n)) := Lib.hid (by
            have := arnd_succ W s (n - 1)
            rwa [show n - 1 + 1 = n by omega] at this)
          generalize arnd W s (n - 1) = S at *
          have HRO := Lib.hid (rowsL_ok HSO.out)
          have HRG2 : Hid (∀ k, k < 16 → (rowsL S).getD k 0 = sub (S.getD ((k + 4 * (k % 4)) % 16) 0)) := Lib.hid (fun k hk => rowsL_getD S hk)
          generalize rowsL S = R at *
          obtain ⟨gt, hgt⟩ : ∃ gt, wr.heap.size = gt := ⟨_, rfl⟩
          have hne : gs ≠ gt := by have := (HF.out.1.block _ rfl).2; simp at this; omega
          have HT0 : Hid (RSt2 w gs c2 gt S (fil R (4 * 0)) (wr.alloc (.cells (Z16.map (Value.int .u8)).toArray 5))) := Lib.hid (by
            refine ⟨⟨HF.out.1.alloc _, HF.out.2.alloc HF.out.2.size _⟩, ?_⟩
            rw [Nat.mul_zero, fil_zero, HRO.out.1]
            exact Own.litAt hgt (by unfold Z16; rfl) (by simp) (by rw [← hgt]; exact HF.out.2.size) (by simp [maxLen]))
          clear HF
          go_wp2_with fail
          generalize wr.alloc (.cells (Z16.map (Value.int .u8)).toArray 5) = wt at *
          clear hgt
          go_loopw [11] (fun ii wr => ∃ m : Nat, m ≤ 4 ∧ ii = .int .i64 m ∧ Hid (RSt2 w gs c2 gt S (fil R (4 * m)) wr)) (fun ii _ => 4 - (intOf ii).toNat)
          case atStart => exact ⟨0, by omega, rfl, HT0⟩
          case round =>
            clear HT0
            obtain ⟨m, hm, rfl, HM⟩ := hrel
            by_cases hlt2 : m < 4
            · have HM0 : Hid (RSt2 w gs c2 gt S (fil R (4 * m + 0)) wr) := Lib.hid HM.out
              clear HM
              go_wp2_with fail
              go_loopw [12] (fun ii wr => ∃ r : Nat, r ≤ 4 ∧ ii = .int .i64 r ∧ Hid (RSt2 w gs c2 gt S (fil R (4 * m + r)) wr)) (fun ii _ => 4 - (intOf ii).toNat)
              case atStart => exact ⟨0, by omega, rfl, HM0⟩
              case round =>
                clear HM0
                obtain ⟨r, hr, rfl, HI⟩ := hrel
                have hfl : Hid ((fil R (4 * m + r)).length = 16) := Lib.hid (by rw [fil_len, HRO.out.1])
                by_cases hlt3 : r < 4
                · have hmm : (m + r) % 4 < 4 := Nat.mod_lt _ (by decide)
                  have hix : (4 * m + r + 4 * ((4 * m + r) % 4)) % 16 = 4 * ((m + r) % 4) + r := ixr hlt2 hlt3
                  have p1 : wr.cell? ⟨gs, 4 * ((m + r) % 4) + r, none⟩ = some (.int .u8 (S.getD (4 * ((m + r) % 4) + r) 0)) := HI.out.1.1.cell0 (by rw [HSO.out.1]; omega)
                  have hx := HSO.out.2.getD (4 * ((m + r) % 4) + r)
                  have p2 : wr.cell? (ad0.add (S.getD (4 * ((m + r) % 4) + r) 0).toNat) = some (.int .u8 (sub (S.getD (4 * ((m + r) % 4) + r) 0))) := (HB.out.below HI.out.1.2 (Nat.le_refl _)).at_ (by rw [HBL.out]; omega)
                  have f1 := HI.out.2.frozen (4 * m + r)
                  have q1 := HI.out.2.cell0 (i := 4 * m + r) (by rw [hfl.out]; omega)
                  have HMS := Lib.hid (fil_set (xs := R) (k := 4 * m + r) (by rw [HRO.out.1]; omega))
                  rw [HRG2.out (4 * m + r) (by omega), hix] at HMS
                  have e0 := ixr2 m r
                  have e1 : (4 * (m : Int) + (r : Int)).toNat = 4 * m + r := by omega
                  generalize S.getD (4 * ((m + r) % 4) + r) 0 = x at *
                  obtain ⟨hx0, hx1⟩ := hx
                  generalize sub x = y at *
                  generalize (fil R (4 * m + r)).getD (4 * m + r) 0 = old at *
                  have HI9 : Hid (RSt2 w gs c2 gt S (fil R (4 * m + (r + 1))) (wr.setCell ⟨gt, 4 * m + r, none⟩ (.int .u8 y))) := Lib.hid (HI.out.setT0 hne _ y HMS.out)
                  clear hix HMS hfl HI
                  go_wp2_with fail
                  clear p1 p2 f1 q1
                  go_roundw
                  case rel => exact ⟨r + 1, by omega, by go_num, HI9⟩
                  case measure => simp [intOf]; omega
                · have HI9 : Hid (RSt2 w gs c2 gt S (fil R (4 * (m + 1))) wr) := Lib.hid (by have h := HI.out; rw [show 4 * m + r = 4 * (m + 1) by omega] at h; exact h)
                  clear HI
                  go_wp2_with fail
                  go_roundw
                  case rel => exact ⟨m + 1, by omega, by go_num, HI9⟩
                  case measure => simp [intOf]; omega
            · have HM9 : Hid (RSt2 w gs c2 gt S (mcs R 0) wr) := Lib.hid (by have h := HM.out; rw [show 4 * m = R.length by rw [HRO.out.1]; omega, fil_full] at h; rw [mcs_zero]; exact h)
              have HMC : Hid (∀ q, q ≤ 4 → Blk16 (mcs R q)) := Lib.hid (fun q hq => mcs_ok HRO.out q hq)
              have HMC2 := Lib.hid (mcs_succ R)
              clear HM HRG2
              go_wp2_with fail
              clear hm hlt2
              generalize hbn : decide ((n : Int) < 11) = bn
              clear hbn
              go_loopw [13] (fun ii wr => ∃ m : Nat, m ≤ 4 ∧ (m = 0 ∨ n < 10) ∧ ii = .int .i64 m ∧ Hid (RSt2 w gs c2 gt S (mcs R m) wr)) (fun ii _ => 4 - (intOf ii).toNat)
              case atStart => exact ⟨0, by omega, .inl rfl, rfl, HM9⟩
              case round =>
                clear HM9
                obtain ⟨m, hm, hm0, rfl, HM⟩ := hrel
                by_cases hgo : m < 4 ∧ n < 10
                · obtain ⟨hlt2, hn10⟩ := hgo
                  have HT8 := Lib.hid (HMC.out m (by omega))
                  have HSU := Lib.hid (HMC2.out m)
                  clear hm0
                  generalize mcs R m = T at *
                  have p0 : wr.cell? ⟨gt, 4 * m, none⟩ = some (.int .u8 (T.getD (4 * m) 0)) := HM.out.2.cell0 (by rw [HT8.out.1]; omega)
                  have e0 : (4 * (m : Int) : Int).toNat = 4 * m := by omega
                  have p1 : wr.cell? ⟨gt, 4 * m + 1, none⟩ = some (.int .u8 (T.getD (4 * m + 1) 0)) := HM.out.2.cell0 (by rw [HT8.out.1]; omega)
                  have e1 : (4 * (m : Int) + 1 : Int).toNat = 4 * m + 1 := by omega
                  have p2 : wr.cell? ⟨gt, 4 * m + 2, none⟩ = some (.int .u8 (T.getD (4 * m + 2) 0)) := HM.out.2.cell0 (by rw [HT8.out.1]; omega)
                  have e2 : (4 * (m : Int) + 2 : Int).toNat = 4 * m + 2 := by omega
                  have p3 : wr.cell? ⟨gt, 4 * m + 3, none⟩ = some (.int .u8 (T.getD (4 * m + 3) 0)) := HM.out.2.cell0 (by rw [HT8.out.1]; omega)
                  have e3 : (4 * (m : Int) + 3 : Int).toNat = 4 * m + 3 := by omega
                  have HX0 := Lib.hid (byt_getD8 HT8.out.2 (4 * m))
                  have HX1 := Lib.hid (byt_getD8 HT8.out.2 (4 * m + 1))
                  have HX2 := Lib.hid (byt_getD8 HT8.out.2 (4 * m + 2))
                  have HX3 := Lib.hid (byt_getD8 HT8.out.2 (4 * m + 3))
                  have HMX := Lib.hid (fun a b c d => mixAt_cols HT8.out.2 (4 * m) (a := a) (b := b) (c := c) (d := d))
                  obtain ⟨x0, hx0⟩ : ∃ x, T.getD (4 * m) 0 = x := ⟨_, rfl⟩
                  obtain ⟨x1, hx1⟩ : ∃ x, T.getD (4 * m + 1) 0 = x := ⟨_, rfl⟩
                  obtain ⟨x2, hx2⟩ : ∃ x, T.getD (4 * m + 2) 0 = x := ⟨_, rfl⟩
                  obtain ⟨x3, hx3⟩ : ∃ x, T.getD (4 * m + 3) 0 = x := ⟨_, rfl⟩
                  have HMY := Lib.hid (HMX.out x0 x1 x2 x3 hx0 hx1 hx2 hx3)
                  simp only [hx0, hx1, hx2, hx3] at p0 p1 p2 p3 HX0 HX1 HX2 HX3
                  clear hx0 hx1 hx2 hx3 HMX
                  go_wp2_with fail
                  go_quiet (fail)
                  go_wp2_with fail
                  clear p0 p1 p2 p3
                  have HMD : Hid (RSt2 w gs c2 gt S T (wr.drewN nq)) := Lib.hid ⟨⟨HM.out.1.1.drewN nq, below_drewN HM.out.1.2 nq⟩, HM.out.2.drewN nq⟩
                  generalize wr.drewN nq = wq0 at *
                  clear HM
                  have HMX : ∀ a b c d, xb (xb (xb (times 2 x0) (times 3 x1)) x2) x3 = a → xb (xb (xb x0 (times 2 x1)) (times 3 x2)) x3 = b → xb (xb (xb x0 x1) (times 2 x2)) (times 3 x3) = c → xb (xb (xb (times 3 x0) x1) x2) (times 2 x3) = d → (((T.set (4 * m) a).set (4 * m + 1) b).set (4 * m + 2) c).set (4 * m + 3) d = mixAt T (4 * m) := fun a b c d ha hb hc hd => by subst ha; subst hb; subst hc; subst hd; exact HMY.out
                  have HMZ := Lib.hid HMX
                  have HTL : Hid (T.length = 16) := Lib.hid HT8.out.1
                  clear HMX HMY
                  refine Calls.mono (rtimes_any 2 x0 _ ⟨by decide, by decide⟩ HX0.out) ?_
                  rintro e w4 ⟨rfl, rfl⟩
                  go_wp2_with fail
                  refine Calls.mono (rtimes_any 3 x1 _ ⟨by decide, by decide⟩ HX1.out) ?_
                  rintro e w4 ⟨rfl, rfl⟩
                  have f0 := HMD.out.2.frozen (4 * m)
                  have q0 := HMD.out.2.cell0 (i := 4 * m) (by rw [HTL.out]; omega)
                  go_wp2_with fail
                  obtain ⟨y0, hy0⟩ : ∃ y, bits .xor .u8 (bits .xor .u8 (bits .xor .u8 (times 2 x0) (times 3 x1)) x2) x3 = y := ⟨_, rfl⟩
                  rw [hy0]
                  have HY0 := Lib.hid hy0
                  have HMD1 := Lib.hid (HMD.out.setT0 hne (4 * m) y0 rfl)
                  have HTL1 : Hid ((T.set (4 * m) y0).length = 16) := Lib.hid (by rw [List.length_set, HTL.out])
                  clear f0 q0 HMD HTL hy0
                  have HMD := HMD1
                  have HTL := HTL1
                  clear HMD1 HTL1
                  generalize wq0.setCell ⟨gt, 4 * m, none⟩ (.int .u8 y0) = wq1 at *
                  refine Calls.mono (rtimes_any 2 x1 _ ⟨by decide, by decide⟩ HX1.out) ?_
                  rintro e w4 ⟨rfl, rfl⟩
                  go_wp2_with fail
                  refine Calls.mono (rtimes_any 3 x2 _ ⟨by decide, by decide⟩ HX2.out) ?_
                  rintro e w4 ⟨rfl, rfl⟩
                  have f0 := HMD.out.2.frozen (4 * m + 1)
                  have q0 := HMD.out.2.cell0 (i := 4 * m + 1) (by rw [HTL.out]; omega)
                  go_wp2_with fail
                  obtain ⟨y1, hy1⟩ : ∃ y, bits .xor .u8 (bits .xor .u8 (bits .xor .u8 x0 (times 2 x1)) (times 3 x2)) x3 = y := ⟨_, rfl⟩
                  rw [hy1]
                  have HY1 := Lib.hid hy1
                  have HMD1 := Lib.hid (HMD.out.setT0 hne (4 * m + 1) y1 rfl)
                  have HTL1 : Hid (((T.set (4 * m) y0).set (4 * m + 1) y1).length = 16) := Lib.hid (by rw [List.length_set, HTL.out])
                  clear f0 q0 HMD HTL hy1
                  have HMD := HMD1
                  have HTL := HTL1
                  clear HMD1 HTL1
                  generalize wq1.setCell ⟨gt, 4 * m + 1, none⟩ (.int .u8 y1) = wq2 at *
                  refine Calls.mono (rtimes_any 2 x2 _ ⟨by decide, by decide⟩ HX2.out) ?_
                  rintro e w4 ⟨rfl, rfl⟩
                  go_wp2_with fail
                  refine Calls.mono (rtimes_any 3 x3 _ ⟨by decide, by decide⟩ HX3.out) ?_
                  rintro e w4 ⟨rfl, rfl⟩
                  have f0 := HMD.out.2.frozen (4 * m + 2)
                  have q0 := HMD.out.2.cell0 (i := 4 * m + 2) (by rw [HTL.out]; omega)
                  go_wp2_with fail
                  obtain ⟨y2, hy2⟩ : ∃ y, bits .xor .u8 (bits .xor .u8 (bits .xor .u8 x0 x1) (times 2 x2)) (times 3 x3) = y := ⟨_, rfl⟩
                  rw [hy2]
                  have HY2 := Lib.hid hy2
                  have HMD1 := Lib.hid (HMD.out.setT0 hne (4 * m + 2) y2 rfl)
                  have HTL1 : Hid ((((T.set (4 * m) y0).set (4 * m + 1) y1).set (4 * m + 2) y2).length = 16) := Lib.hid (by rw [List.length_set, HTL.out])
                  clear f0 q0 HMD HTL hy2
                  have HMD := HMD1
                  have HTL := HTL1
                  clear HMD1 HTL1
                  generalize wq2.setCell ⟨gt, 4 * m + 2, none⟩ (.int .u8 y2) = wq3 at *
                  refine Calls.mono (rtimes_any 3 x0 _ ⟨by decide, by decide⟩ HX0.out) ?_
                  rintro e w4 ⟨rfl, rfl⟩
                  go_wp2_with fail
                  refine Calls.mono (rtimes_any 2 x3 _ ⟨by decide, by decide⟩ HX3.out) ?_
                  rintro e w4 ⟨rfl, rfl⟩
                  have f0 := HMD.out.2.frozen (4 * m + 3)
                  have q0 := HMD.out.2.cell0 (i := 4 * m + 3) (by rw [HTL.out]; omega)
                  go_wp2_with fail
                  obtain ⟨y3, hy3⟩ : ∃ y, bits .xor .u8 (bits .xor .u8 (bits .xor .u8 (times 3 x0) x1) x2) (times 2 x3) = y := ⟨_, rfl⟩
                  rw [hy3]
                  have HY3 := Lib.hid hy3
                  have HMD1 := Lib.hid (HMD.out.setT0 hne (4 * m + 3) y3 rfl)
                  have HTL1 : Hid (((((T.set (4 * m) y0).set (4 * m + 1) y1).set (4 * m + 2) y2).set (4 * m + 3) y3).length = 16) := Lib.hid (by rw [List.length_set, HTL.out])
                  clear f0 q0 HMD HTL hy3
                  have HMD := HMD1
                  have HTL := HTL1
                  clear HMD1 HTL1
                  generalize wq3.setCell ⟨gt, 4 * m + 3, none⟩ (.int .u8 y3) = wq4 at *
                  have HM9 : Hid (RSt2 w gs c2 gt S (mcs R (m + 1)) wq4) := Lib.hid (by rw [HSU.out, ← HMZ.out y0 y1 y2 y3 HY0.out HY1.out HY2.out HY3.out]; exact HMD.out)
                  clear HMD HTL HMZ HSU
                  go_wp2_with fail
                  go_roundw
                  case rel => exact ⟨m + 1, by omega, .inr hn10, by go_num, HM9⟩
                  case measure => simp [intOf]; omega
                · by_cases hm4 : m = 4
                  case' pos =>
                    have hn10 : n < 10 := by omega
                    have HMF : Hid (RSt2 w gs c2 gt S (mcolL R) wr) := Lib.hid (by have h := HM.out; rw [hm4, mcs_all] at h; exact h)
                    have HTF := Lib.hid (mcolL_ok HRO.out)
                    rw [if_pos hn10] at HAS
                    clear HM HMC HMC2
                    go_wp2_with fail
                    generalize mcolL R = TF at *
                  case' neg =>
                    have hn10 : ¬ n < 10 := by omega
                    have hm00 : m = 0 := by omega
                    have HMF : Hid (RSt2 w gs c2 gt S R wr) := Lib.hid (by have h := HM.out; rw [hm00, mcs_zero] at h; exact h)
                    have HTF := Lib.hid HRO.out
                    rw [if_neg hn10] at HAS
                    have hm44 : m < 4 := by omega
                    clear HM HMC HMC2 hm00
                    go_wp2_with fail
                    generalize R = TF at *
                  all_goals
                    have HA1 : Hid (Blk16 (addL TF (rkey W n))) := Lib.hid (addL_ok HTF.out (HRK.out n hlt))
                    have HAG : Hid (∀ k, k < 16 → (addL TF (rkey W n)).getD k 0 = xb (TF.getD k 0) (W.getD (16 * n + k) 0)) := Lib.hid (fun k hk => by rw [addL_getD HTF.out.1 (HRK.out n hlt).1 hk, HRG.out n k hk])
                    generalize addL TF (rkey W n) = A1 at *
                    go_loopw [18] (fun ii wr => ∃ k : Nat, k ≤ 16 ∧ ii = .int .i64 k ∧ Hid (RSt2 w gs c2 gt (mixL S A1 k) TF wr)) (fun ii _ => 16 - (intOf ii).toNat)
                    case atStart => exact ⟨0, by omega, rfl, Lib.hid (by rw [mix_zero]; exact HMF.out)⟩
                    case round =>
                      clear HMF hgo hm0 hm4 hn10
                      obtain ⟨k, hk, rfl, HT⟩ := hrel
                      by_cases hlt3 : k < 16
                      · have hml : Hid ((mixL S A1 k).length = 16) := Lib.hid (by rw [mix_len (by rw [HSO.out.1, HA1.out.1]) (by rw [HSO.out.1]; omega), HSO.out.1])
                        have p1 : ∀ r : BW wr.heap.size wr, r.world.cell? ⟨gt, k, none⟩ = some (.int .u8 (TF.getD k 0)) := fun r => (HT.out.2.below r.below).cell0 (by rw [HTF.out.1]; exact hlt3)
                        have p2 : ∀ r : BW wr.heap.size wr, r.world.cell? ⟨ad1.block, ad1.off + (16 * n + k), none⟩ = some (.int .u8 (W.getD (16 * n + k) 0)) := fun r => ((HWR.out.below HT.out.1.2 (Nat.le_refl _)).below r.below HT.out.1.2.size).atN _ (by rw [HWL.out]; omega) (by omega)
                        have p3 : ∀ r : BW wr.heap.size wr, r.world.cell? (ad1.add (16 * n + k)) = some (.int .u8 (W.getD (16 * n + k) 0)) := fun r => ((HWR.out.below HT.out.1.2 (Nat.le_refl _)).below r.below HT.out.1.2.size).at_ (by rw [HWL.out]; omega)
                        have f1 := HT.out.1.1.frozen k
                        have q1 := HT.out.1.1.cell0 (i := k) (by rw [hml.out]; exact hlt3)
                        have HMS := Lib.hid (mix_set (xs := S) (ys := A1) (k := k) (by rw [HSO.out.1, HA1.out.1]) (by rw [HSO.out.1]; exact hlt3))
                        rw [HAG.out k hlt3] at HMS
                        have e1 : (16 * (n : Int) + (k : Int)).toNat = 16 * n + k := by omega
                        generalize (mixL S A1 k).getD k 0 = old at *
                        generalize TF.getD k 0 = x at *
                        generalize W.getD (16 * n + k) 0 = y at *
                        go_wp2_with fail
                        refine wp_region_mixOB wr.heap.size [([0, 1, 2, 3, 4, 5, 6, 7, 8, 9, 10, 11, 12, 13, 14], 15)] (by kernel_rfl) (by kernel_rfl) (by kernel_rfl) (by kernel_rfl) (by kernel_rfl) ?_
                        try (rw [put_none])
                        simp only [pickL, List.map_cons, List.map_nil, List.filterMap_cons, List.filterMap_nil, List.getElem?_cons_succ, List.getElem?_cons_zero]
                        refine mixO_cons ?_
                        repeat (show wpQuiet _ _ _ _ (_ :: _) _; go_big_quiet_step (fail))
                        refine wpQuiet_nil ?_
                        show wpList _ _ _ [_] _ _
                        go_wp2_with fail
                        refine MixO.last ?_
                        refine mixO_nil ?_
                        refine wpQuiet_nil ?_
                        refine NoPanic.normal ?_
                        have HT9 : Hid (RSt2 w gs c2 gt (mixL S A1 (k + 1)) TF (wr.drew.setCell ⟨gs, k, none⟩ (.int .u8 (bits .xor .u8 x y)))) := Lib.hid (HT.out.setS hne k _ HMS.out)
                        clear p1 p2 p3 f1 q1 HMS hml HT e1
                        go_wp2_with fail
                        go_roundw
                        case rel => exact ⟨k + 1, by omega, by go_num, HT9⟩
                        case measure => simp [intOf]; omega
                      · have HF9 : Hid (RSt w gs c2 (arnd W s (n + 1 - 1)) wr) := Lib.hid (by
                          have h := HT.out.1
                          rw [show k = A1.length by rw [HA1.out.1]; omega, mix_full (by rw [HSO.out.1, HA1.out.1]), ← HAS.out] at h
                          exact h)
                        clear HT HAG HA1 HAS
                        go_wp2_with fail
                        go_roundw
                        case rel => exact ⟨n + 1, by omega, by omega, by go_num, HF9⟩
                        case measure => simp [intOf]; omega
        · have hn11 : n = 11 := by omega
          have HF2 : Hid (RSt w gs c2 (sealL W s) wr) := Lib.hid (by have h := HF.out; rw [hn11] at h; exact h)
          clear HF hn11
          go_wp2_with fail
          go_ret
          exact ⟨_, _, _, rfl, HF2.out.1, HF2.out.2⟩
end Go.Proofs.Ytepkbllcaeceeaa
