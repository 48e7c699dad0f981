/- Layer 9's reference: contracts. Conditions: as each theorem states them. -/
import Derived.Test.YtieabfifaigjdaaJGa
import Derived.Test.YtieabfifaigjdaaJEb
import Derived.Test.YtieabfifaigjdaaLV
/- Layer 9's reference: a bit of a block; the plain half of its product: a block, halved byte by byte. Conditions: as each theorem states them. -/
namespace Go.Proofs.Ytieabfifaigjdaa
open Go.RowKit
/-- halved, so often -/
def hfN : Nat → Int → Int
  | 0, c => c
  | n + 1, c => hfN n (c / 2)
theorem hfN_zero (c : Int) : hfN 0 c = c := by rw [hfN]
theorem hfN_succ (n : Nat) (c : Int) : hfN (n + 1) c = hfN n (c / 2) := by rw [hfN]
theorem hfN_nat : ∀ (n m : Nat), hfN n (m : Int) = ((m / 2 ^ n : Nat) : Int)
  | 0, m => by rw [hfN_zero, Nat.pow_zero, Nat.div_one]
  | n + 1, m => by
    rw [hfN_succ, show (m : Int) / 2 = ((m / 2 : Nat) : Int) by omega, hfN_nat n, Nat.div_div_eq_div_mul, Nat.pow_succ, Nat.mul_comm 2]
/-- a bit of a list of bytes, the highest first -/
def bitL (l : List Int) (i : Nat) : Int := hfN (7 - i % 8) (l.getD (i / 8) 0) % 2
theorem bit_of (n i : Nat) (hi : i < 128) : bitL (b16 n) i = if n.testBit (127 - i) = true then 1 else 0 := by
  unfold bitL
  have h1 : (b16 n).getD (i / 8) 0 = ((n / 256 ^ (16 - 1 - i / 8) % 256 : Nat) : Int) := by
    unfold b16
    exact byk_getD 16 n (i / 8) (by omega)
  rw [h1, hfN_nat]
  have h2 : (n / 256 ^ (16 - 1 - i / 8) % 256 / 2 ^ (7 - i % 8)) % 2 = n / 2 ^ (127 - i) % 2 := by
    rw [show (256 : Nat) ^ (16 - 1 - i / 8) = 2 ^ (8 * (15 - i / 8)) from by rw [pow256]]
    rw [show 127 - i = 8 * (15 - i / 8) + (7 - i % 8) by omega, Nat.pow_add, ← Nat.div_div_eq_div_mul]
    generalize n / 2 ^ (8 * (15 - i / 8)) = q
    rcases (show i % 8 = 0 ∨ i % 8 = 1 ∨ i % 8 = 2 ∨ i % 8 = 3 ∨ i % 8 = 4 ∨ i % 8 = 5 ∨ i % 8 = 6 ∨ i % 8 = 7 by omega) with h | h | h | h | h | h | h | h <;> rw [h] <;> simp <;> omega
  have h3 : n.testBit (127 - i) = decide (n / 2 ^ (127 - i) % 2 = 1) := Nat.testBit_eq_decide_div_mod_eq
  rw [h3]
  have h4 : (((n / 256 ^ (16 - 1 - i / 8) % 256 / 2 ^ (7 - i % 8) : Nat) : Int) % 2) = ((n / 2 ^ (127 - i) % 2 : Nat) : Int) := by rw [← h2]; omega
  rw [h4]
  rcases Nat.mod_two_eq_zero_or_one (n / 2 ^ (127 - i)) with h | h <;> rw [h] <;> rfl
/-- halved byte by byte -/
def hvL (v : List Int) : List Int := (List.range 16).map fun k => v.getD k 0 / 2 + (if 0 < k then 128 * (v.getD (k - 1) 0 % 2) else 0)
theorem hvL_len (v : List Int) : (hvL v).length = 16 := by simp [hvL]
theorem hvL_getD (v : List Int) {k : Nat} (hk : k < 16) : (hvL v).getD k 0 = v.getD k 0 / 2 + (if 0 < k then 128 * (v.getD (k - 1) 0 % 2) else 0) := by
  unfold hvL
  rw [getD_el (by simpa using hk), List.getElem_map, List.getElem_range]
theorem b16_getD (n : Nat) {k : Nat} (hk : k < 16) : (b16 n).getD k 0 = ((n / 256 ^ (15 - k) % 256 : Nat) : Int) := by
  unfold b16
  exact byk_getD 16 n k hk
theorem hv_b16 {n : Nat} (hn : G128 n) : hvL (b16 n) = b16 (n / 2) := by
  refine ext16' (hvL_len _) (b16_len _) fun k hk => ?_
  rw [hvL_getD _ hk, b16_getD _ hk, b16_getD _ hk]
  have e1 : n / 2 / 256 ^ (15 - k) = n / 256 ^ (15 - k) / 2 := by rw [Nat.div_div_eq_div_mul, Nat.div_div_eq_div_mul, Nat.mul_comm]
  rw [e1]
  rcases Nat.eq_zero_or_pos k with h0 | h0
  · subst h0
    rw [if_neg (by decide)]
    have : n / 256 ^ (15 - 0) < 256 := by
      rw [Nat.div_lt_iff_lt_mul (by decide)]
      unfold G128 at hn
      have e2 : (256 : Nat) * 256 ^ (15 - 0) = 340282366920938463463374607431768211456 := by decide +kernel
      omega
    generalize n / 256 ^ (15 - 0) = q at *
    omega
  · rw [if_pos h0, b16_getD _ (show k - 1 < 16 by omega)]
    have e2 : n / 256 ^ (15 - (k - 1)) = n / 256 ^ (15 - k) / 256 := by rw [Nat.div_div_eq_div_mul, show 15 - (k - 1) = (15 - k) + 1 by omega, Nat.pow_succ]
    rw [e2]
    generalize n / 256 ^ (15 - k) = q
    omega
theorem b16_225 : b16 299076299051606071403356588563077529600 = 225 :: List.replicate 15 0 := by unfold b16; decide +kernel
theorem b16_last {n : Nat} : (b16 n).getD 15 0 % 2 = ((n % 2 : Nat) : Int) := by
  rw [b16_getD _ (by decide), Nat.sub_self, Nat.pow_zero, Nat.div_one]
  omega
/-- a step of the product's second block -/
theorem mx_b16 {n : Nat} (hn : G128 n) : b16 (mxN n) = if (b16 n).getD 15 0 % 2 = 1 then (hvL (b16 n)).set 0 (xb ((hvL (b16 n)).getD 0 0) 225) else hvL (b16 n) := by
  rw [b16_last, hv_b16 hn]
  unfold mxN
  rcases Nat.mod_two_eq_zero_or_one n with h | h
  · rw [h, if_neg (by decide), if_neg (by decide), Nat.xor_zero]
  · rw [h, if_pos rfl, if_pos (by decide), b16_xor, b16_225]
    generalize hl : b16 (n / 2) = l
    have hb : Byt l := by rw [← hl]; exact b16_byt _
    have hl' : l.length = 16 := by rw [← hl]; exact b16_len _
    refine ext16' (by rw [xaL_len (by rw [hl']; decide), hl']) (by rw [List.length_set, hl']) fun i hi => ?_
    rw [xaL_getD (by rw [hl']; decide)]
    rcases Nat.eq_zero_or_pos i with h0 | h0
    · subst h0
      rw [(set_getD _ _ _).2 (by omega)]
      rfl
    · rw [(set_getD _ _ _).1 i (by omega)]
      obtain ⟨j, rfl⟩ : ∃ j, i = j + 1 := ⟨i - 1, by omega⟩
      rw [List.getD_cons_succ, List.getD_eq_getElem?_getD (l := List.replicate 15 (0 : Int)), List.getElem?_replicate, if_pos (by omega)]
      exact xb_zero (hb.getD _)
theorem b16_zero : b16 0 = Z16 := by unfold b16 Z16; decide +kernel
/-- from the back: what is turned already, and what is still to come -/
theorem mix_back {xs ys : List Int} {k : Nat} (h : xs.length = ys.length) (hk : k < xs.length) : (mixL ys xs (k + 1)).set k (ys.getD k 0) = mixL ys xs k := by
  refine ext_getD (by rw [List.length_set, mix_len h.symm (by omega), mix_len h.symm (by omega)]) fun i hi => ?_
  rw [List.length_set, mix_len h.symm (by omega)] at hi
  unfold mixL
  by_cases hik : i = k
  · subst hik
    rw [(set_getD _ _ _).2 (by simp; omega), append_getD, if_neg (by simp; omega), List.length_take, Nat.min_eq_left (by omega)]
    simp [List.getD_eq_getElem?_getD]
  · rw [(set_getD _ _ _).1 i hik, append_getD, append_getD, List.length_take, List.length_take, Nat.min_eq_left (by omega), Nat.min_eq_left (by omega)]
    simp only [List.getD_eq_getElem?_getD, List.getElem?_take, List.getElem?_drop]
    by_cases h1 : i < k
    · rw [if_pos h1, if_pos (by omega), if_pos (by omega), if_pos h1]
    · rw [if_neg h1, if_neg (by omega)]
      rw [show k + 1 + (i - (k + 1)) = i by omega, show k + (i - k) = i by omega]
theorem mix_lo {xs ys : List Int} {k i : Nat} (hi : i < k) (hk : k ≤ xs.length) : (mixL ys xs k).getD i 0 = xs.getD i 0 := by
  unfold mixL
  rw [append_getD, List.length_take, Nat.min_eq_left hk, if_pos hi, getD_take hi]
attribute [irreducible] hfN
set_option maxRecDepth 100000 in
set_option maxHeartbeats 2000000 in
theorem rbit_any (A : Option Addr) (n c : Nat) (l : List Int) (i : Nat) (w : World) (hl : l.length = n) (hi : i < 8 * n) (hn : n < 65536) (hb : Byt l) (hr : RdE .u8 A l w) :
    Calls Try.prog 75 #[.slice A n c, .int .i64 i] w fun e w' => e = .returned (.int .i64 (bitL l i)) ∧ w = w' := by
  obtain ⟨ad, rfl⟩ : ∃ ad, A = some ad := by obtain ⟨B, h⟩ := hr; obtain ⟨ad, h, _⟩ := h.isSome (by omega); exact ⟨ad, h⟩
  have hj : i / 8 < n := by omega
  have h0 := hr.at_ (i := i / 8) (by omega)
  have h0' : w.cell? ⟨ad.block, ad.off + i / 8, none⟩ = some (.int .u8 (l.getD (i / 8) 0)) ∨ i / 8 = 0 := by
    rcases Nat.eq_zero_or_pos (i / 8) with h | h
    · exact .inr h
    · exact .inl (hr.atN _ (by omega) (by omega))
  have hx := hb.getD (i / 8)
  have e0 : ((i : Int) / 8).toNat = i / 8 := by omega
  have HB : Hid (bitL l i = hfN (7 - i % 8) (l.getD (i / 8) 0) % 2) := Lib.hid rfl
  have hq : (0 : Int) ≤ (i : Int) / 8 := by omega
  have hq2 : (i : Int) / 8 < (n : Int) := by omega
  generalize l.getD (i / 8) 0 = x at *
  obtain ⟨hx0, hx1⟩ := hx
  have HN := Lib.hid hfN_succ
  obtain ⟨m, hm, hm8⟩ : ∃ m, i % 8 = m ∧ m < 8 := ⟨_, rfl, by omega⟩
  have hm' : (i : Int) % 8 = (m : Int) := by omega
  rw [hm] at HB
  clear hr hb hl h0'
  go_enter Try.func75, Try.ntmps75
  go_wp2_with fail
  clear hm
  go_loop [5, 6] (fun cc kk => ∃ (k : Nat) (y : Int), k ≤ 7 ∧ kk = .int .i64 k ∧ cc = .int .i64 y ∧ 0 ≤ y ∧ y < 256 ∧ Hid (hfN (7 - k) y = hfN (7 - m) x)) (fun _ kk => 7 - (intOf kk).toNat)
  case atStart => exact ⟨m, x, by omega, by rw [← hm'], rfl, hx0, hx1, Lib.hid rfl⟩
  case round =>
    obtain ⟨k, y, hk, rfl, rfl, hy0, hy1, HY⟩ := hrel
    by_cases hlt : k < 7
    · have HY2 : Hid (hfN (7 - (k + 1)) (y / 2) = hfN (7 - m) x) := Lib.hid (by rw [← HY.out, show 7 - k = (7 - (k + 1)) + 1 by omega, HN.out])
      clear HY
      go_wp2_with fail
      go_round
      case rel => exact ⟨k + 1, _, by omega, by go_num, rfl, by omega, by omega, HY2⟩
      case measure => simp [intOf]; omega
    · have hk7 : k = 7 := by omega
      have HF : Hid (bitL l i = y % 2) := Lib.hid (by rw [HB.out, ← HY.out, hk7, Nat.sub_self, hfN_zero])
      clear HY hk7
      go_wp2_with fail
      go_ret
      exact ⟨ret_int HF.out.symm, rfl⟩
end Go.Proofs.Ytieabfifaigjdaa
/- Layer 9's reference: Times. Conditions: as each theorem states them. -/
namespace Go.Proofs.Ytieabfifaigjdaa
open Go.RowKit
theorem RSt2.setS0 {w wr : World} {gs cs gt : Nat} {S S' T : List Int} (h : RSt2 w gs cs gt S T wr) (hne : gs ≠ gt) (i : Nat) (z : Int) (e : S.set i z = S') : RSt2 w gs cs gt S' T (wr.setCell ⟨gs, i, none⟩ (.int .u8 z)) :=
  ⟨⟨(Own.set_ h.1.1 i z).cast e, h.1.2.setCell (p := ⟨gs, i, none⟩) (h.1.1.block _ rfl).1 _⟩, Own.far h.2 (Ne.symm hne) _⟩
theorem oN_succ (x h i : Nat) : oN x h (i + 1) = oN x h i ^^^ (if x.testBit (127 - i) = true then vN h i else 0) := rfl
theorem vN_succ (h i : Nat) : vN h (i + 1) = mxN (vN h i) := rfl
theorem vN_z (h : Nat) : vN h 0 = h := rfl
theorem oN_z (x h : Nat) : oN x h 0 = 0 := rfl
theorem tm_is (x h : Nat) : tm x h = oN x h 128 := by unfold tm; rfl
attribute [local irreducible] bitL hvL oN vN mxN
set_option maxRecDepth 100000 in
set_option maxHeartbeats 8000000 in
theorem rgtimes_any (A0 A1 : Option Addr) (c0 c1 : Nat) (a b : List Int) (w : World) (ha : Blk16 a) (hb : Blk16 b) (r0 : Rd w.heap.size .u8 w A0 a) (r1 : Rd w.heap.size .u8 w A1 b) :
    Calls Try.prog 64 #[.slice A0 16 c0, .slice A1 16 c1] w (RetOwn 5 .u8 (b16 (tm (beN a) (beN b))) w) := by
  have HA := Lib.hid ha
  have HBL := Lib.hid hb.1
  have HR := Lib.hid r0
  have HR1 := Lib.hid ((r1.alloc (Nat.le_refl _) (.cells (Z16.map (Value.int .u8)).toArray 5)).alloc (by simp) (.cells #[] 5))
  have HG : Hid (G128 (beN b)) := Lib.hid (beN_ok hb.1 hb.2)
  have HV : Hid (∀ i, G128 (vN (beN b) i)) := Lib.hid (fun i => vN_ok (beN_ok hb.1 hb.2) i)
  have HO : Hid (∀ i, G128 (oN (beN a) (beN b) i)) := Lib.hid (fun i => oN_ok (beN a) (beN_ok hb.1 hb.2) i)
  have HV0 : Hid (b16 (vN (beN b) 0) = b) := Lib.hid (by rw [vN_z]; exact b16_beN hb.1 hb.2)
  have HO0 : Hid (b16 (oN (beN a) (beN b) 0) = Z16) := Lib.hid (by rw [oN_z]; exact b16_zero)
  have HBT : Hid (∀ i, i < 128 → bitL a i = if (beN a).testBit (127 - i) = true then 1 else 0) := Lib.hid (fun i hi => by have := bit_of (beN a) i hi; rwa [b16_beN ha.1 ha.2] at this)
  have HMX : Hid (∀ i, b16 (vN (beN b) (i + 1)) = if (b16 (vN (beN b) i)).getD 15 0 % 2 = 1 then (hvL (b16 (vN (beN b) i))).set 0 (xb ((hvL (b16 (vN (beN b) i))).getD 0 0) 225) else hvL (b16 (vN (beN b) i))) := Lib.hid (fun i => by rw [vN_succ]; exact mx_b16 (HV.out i))
  have HOS : Hid (∀ i, b16 (oN (beN a) (beN b) (i + 1)) = if (beN a).testBit (127 - i) = true then xaL (b16 (oN (beN a) (beN b) i)) (b16 (vN (beN b) i)) else b16 (oN (beN a) (beN b) i)) := Lib.hid (fun i => by
    rw [oN_succ]
    split
    · exact b16_xor _ _
    · rw [Nat.xor_zero])
  have HT : Hid (tm (beN a) (beN b) = oN (beN a) (beN b) 128) := Lib.hid (tm_is _ _)
  have HMK := make16E
  have hg1 : (w.alloc (.cells (Z16.map (Value.int .u8)).toArray 5)).heap.size = w.heap.size + 1 := by simp
  have O0 : Hid (Own (w.heap.size + 1) 5 .u8 ((w.alloc (.cells (Z16.map (Value.int .u8)).toArray 5)).alloc (.cells #[] 5)) (some ⟨w.heap.size + 1, 0, none⟩) 0 0 []) := Lib.hid (Own.litAt hg1 rfl rfl (Nat.le_refl _) (Nat.zero_le _))
  have OZ : Hid (Own w.heap.size 5 .u8 (w.alloc (.cells (Z16.map (Value.int .u8)).toArray 5)) (some ⟨w.heap.size, 0, none⟩) 16 16 Z16) := Lib.hid (Own.litAt rfl rfl (by unfold Z16; rfl) (Nat.le_refl _) (by simp [maxLen, Z16]))
  have BZ : Hid (Below w.heap.size w (w.alloc (.cells (Z16.map (Value.int .u8)).toArray 5))) := Lib.hid ((Below.refl w.heap.size w).alloc (Nat.le_refl _) _)
  clear ha hb r0 r1
  go_enter Try.func64, Try.ntmps64
  go_wp2_with (at_builtin; go_loud (refine wpList_app (o := ⟨some 15, _, _, _, _, _⟩) elB8 rfl _ _ rfl rfl rfl O0.out HR1.out HBL.out.symm ?_ ?_ ?_; (rw [HBL.out]; decide); (simp); intro A2 n2 c2 w2 q2; obtain ⟨gv, rfl, hgv, hgv'⟩ := Own.addr q2.1 (by rw [q2.1.len, List.nil_append, HBL.out]; decide); obtain rfl := (show n2 = 16 by rw [q2.1.len, List.nil_append, HBL.out]); have H2 : Hid (RSt2 w gv c2 w.heap.size b Z16 w2) := Lib.hid ⟨⟨q2.1.mono (by omega), (BZ.out.alloc (by simp) _).trans (q2.2.2.1.mono (by omega))⟩, OZ.out.below (((Below.refl _ _).alloc (Nat.le_refl _) _).trans (by rw [hg1]; exact q2.2.2.1))⟩; clear q2))
  obtain ⟨gu, hgu⟩ : ∃ gu, w.heap.size = gu := ⟨_, rfl⟩
  have hne : gv ≠ gu := by omega
  have H3 : Hid (RSt2 w gv c2 gu (b16 (vN (beN b) 0)) (b16 (oN (beN a) (beN b) 0)) w2) := Lib.hid (by rw [HV0.out, HO0.out, ← hgu]; exact H2.out)
  rw [hgu]
  clear H2 O0 OZ BZ HV0 HO0 hgv hgv' hg1 hgu HR1
  go_loopw [7] (fun ii wr => ∃ k : Nat, k ≤ 128 ∧ ii = .int .i64 k ∧ Hid (RSt2 w gv c2 gu (b16 (vN (beN b) k)) (b16 (oN (beN a) (beN b) k)) wr)) (fun ii _ => 128 - (intOf ii).toNat)
  case atStart => exact ⟨0, by omega, rfl, H3⟩
  case round =>
    clear H3
    obtain ⟨k, hk, rfl, HS⟩ := hrel
    by_cases hlt : k < 128
    · have HVK := Lib.hid (⟨b16_len (vN (beN b) k), b16_byt _⟩ : Blk16 _)
      have HOK := Lib.hid (⟨b16_len (oN (beN a) (beN b) k), b16_byt _⟩ : Blk16 _)
      have HVN := Lib.hid (HMX.out k)
      have HON := Lib.hid (HOS.out k)
      have HBK := Lib.hid (HBT.out k hlt)
      generalize b16 (vN (beN b) k) = V at *
      generalize b16 (oN (beN a) (beN b) k) = O at *
      go_wp2_with fail
      refine Calls.mono (rbit_any A0 16 c0 a k _ HA.out.1 (by omega) (by decide) HA.out.2 ⟨_, HR.out.below HS.out.1.2 (Nat.le_refl _)⟩) ?_
      rintro e w4 ⟨rfl, rfl⟩
      rw [HBK.out]
      obtain ⟨hx0, hx1⟩ := HVK.out.2.getD 15
      have HV15 : Hid (∀ T v, RSt2 w gv c2 gu V T v → v.cell? ⟨gv, 15, none⟩ = some (.int .u8 (V.getD 15 0))) := Lib.hid (fun T v h => h.1.1.cell0 (by rw [HVK.out.1]; decide))
      generalize V.getD 15 0 = x15 at *
      by_cases ht : (beN a).testBit (127 - k) = true
      case' pos =>
        rw [if_pos ht]
        rw [if_pos ht] at HON
        have HXG : Hid (∀ q, q < 16 → (xaL O V).getD q 0 = xb (O.getD q 0) (V.getD q 0)) := Lib.hid (fun q _ => xaL_getD (by rw [HOK.out.1, HVK.out.1]) q)
        have HXL : Hid ((xaL O V).length = 16) := Lib.hid (by rw [xaL_len (by rw [HOK.out.1, HVK.out.1]), HOK.out.1])
        have HS0 : Hid (RSt2 w gv c2 gu V (mixL O (xaL O V) 0) wr) := Lib.hid (by rw [mix_zero]; exact HS.out)
        generalize xaL O V = X at *
        clear HS ht
        go_wp2_with fail
        go_loopw [8] (fun ii wr => ∃ q : Nat, q ≤ 16 ∧ ii = .int .i64 q ∧ Hid (RSt2 w gv c2 gu V (mixL O X q) wr)) (fun ii _ => 16 - (intOf ii).toNat)
        case atStart => exact ⟨0, by omega, rfl, HS0⟩
        case' round =>
          clear HS0
          obtain ⟨q, hq, rfl, HQ⟩ := hrel
          by_cases hlt2 : q < 16
          case pos =>
            have hml : Hid ((mixL O X q).length = 16) := Lib.hid (by rw [mix_len (by rw [HOK.out.1, HXL.out]) (by rw [HOK.out.1]; omega), HOK.out.1])
            have p1 : ∀ r : BW wr.heap.size wr, r.world.cell? ⟨gu, q, none⟩ = some (.int .u8 (O.getD q 0)) := fun r => by
              have := (HQ.out.2.below r.below).cell0 (i := q) (by rw [hml.out]; exact hlt2)
              rwa [mix_get (by rw [HOK.out.1, HXL.out]) (Nat.le_refl _)] at this
            have p2 : ∀ r : BW wr.heap.size wr, r.world.cell? ⟨gv, q, none⟩ = some (.int .u8 (V.getD q 0)) := fun r => (HQ.out.1.1.below r.below).cell0 (by rw [HVK.out.1]; exact hlt2)
            have f1 := HQ.out.2.frozen q
            have q1 : wr.cell? ⟨gu, q, none⟩ = some (.int .u8 (O.getD q 0)) := p1 ⟨wr, Below.refl _ _⟩
            have HMS := Lib.hid (mix_set (xs := O) (ys := X) (k := q) (by rw [HOK.out.1, HXL.out]) (by rw [HOK.out.1]; exact hlt2))
            rw [HXG.out q hlt2] at HMS
            generalize O.getD q 0 = x at *
            generalize V.getD q 0 = y at *
            go_wp2_with fail
            refine wp_region_mixOB wr.heap.size [([0, 1, 2, 3, 4, 5, 6, 7, 8, 9, 10, 11], 12)] (by kernel_rfl) (by kernel_rfl) (by kernel_rfl) (by kernel_rfl) (by kernel_rfl) ?_
            try (rw [put_none])
            simp only [pickL, List.map_cons, List.map_nil, List.filterMap_cons, List.filterMap_nil, List.getElem?_cons_succ, List.getElem?_cons_zero]
            refine mixO_cons ?_
            repeat (show wpQuiet _ _ _ _ (_ :: _) _; go_big_quiet_step (fail))
            refine wpQuiet_nil ?_
            show wpList _ _ _ [_] _ _
            go_wp2_with fail
            refine MixO.last ?_
            refine mixO_nil ?_
            refine wpQuiet_nil ?_
            refine NoPanic.normal ?_
            have HT9 : Hid (RSt2 w gv c2 gu V (mixL O X (q + 1)) (wr.drew.setCell ⟨gu, q, none⟩ (.int .u8 (bits .xor .u8 x y)))) := Lib.hid (HQ.out.setT hne q _ HMS.out)
            clear p1 p2 f1 q1 HMS hml
            go_wp2_with fail
            go_roundw
            case rel => exact ⟨q + 1, by omega, by go_num, HT9⟩
            case measure => simp [intOf]; omega
          case' neg =>
            have HH : Hid (RSt2 w gv c2 gu V (b16 (oN (beN a) (beN b) (k + 1))) wr) := Lib.hid (by
              have h := HQ.out
              rw [show q = X.length by rw [HXL.out]; omega, mix_full (by rw [HOK.out.1, HXL.out])] at h
              rw [HON.out]
              exact h)
            clear HQ HXG HXL
            have p15 := HV15.out _ _ HH.out
            go_wp2_with fail
            clear hlt2 hq
      case' neg =>
        rw [if_neg ht]
        rw [if_neg ht] at HON
        have HH : Hid (RSt2 w gv c2 gu V (b16 (oN (beN a) (beN b) (k + 1))) wr) := Lib.hid (by rw [HON.out]; exact HS.out)
        clear HS ht
        have p15 := HV15.out _ _ HH.out
        go_wp2_with fail
      all_goals
        have HVG : Hid (∀ q, q < 16 → (hvL V).getD q 0 = V.getD q 0 / 2 + (if 0 < q then 128 * (V.getD (q - 1) 0 % 2) else 0)) := Lib.hid (fun q hq => hvL_getD V hq)
        have HVL := Lib.hid (hvL_len V)
        have HHV : Hid (RSt2 w gv c2 gu (mixL (hvL V) V 16) (b16 (oN (beN a) (beN b) (k + 1))) wr) := Lib.hid (by
          have h := mix_full (xs := hvL V) (ys := V) (by rw [HVL.out, HVK.out.1])
          rw [HVK.out.1] at h
          rw [h]
          exact HH.out)
        have HVB := Lib.hid HVK.out.2.getD
        generalize hvL V = U at *
        clear HH p15 HBK HV15
        go_loopw [10] (fun ii wr => ∃ (m : Nat) (z : Int), m ≤ 16 ∧ z = (m : Int) - 1 ∧ ii = .int .i64 z ∧ Hid (RSt2 w gv c2 gu (mixL U V m) (b16 (oN (beN a) (beN b) (k + 1))) wr)) (fun ii _ => (intOf ii + 1).toNat)
        case atStart => exact ⟨16, 15, by omega, by omega, rfl, HHV⟩
        case round =>
          clear HHV
          obtain ⟨m, z, hm, hz, rfl, HM⟩ := hrel
          by_cases hm0 : 0 < m
          · obtain ⟨q, rfl⟩ : ∃ q, m = q + 1 := ⟨m - 1, by omega⟩
            have hml : Hid ((mixL U V (q + 1)).length = 16) := Lib.hid (by rw [mix_len (by rw [HVL.out, HVK.out.1]) (by rw [HVL.out]; omega), HVL.out])
            have HMS := Lib.hid (mix_back (xs := V) (ys := U) (k := q) (by rw [HVL.out, HVK.out.1]) (by rw [HVK.out.1]; omega))
            have HLO : Hid (∀ i, i ≤ q → (mixL U V (q + 1)).getD i 0 = V.getD i 0) := Lib.hid (fun i hi => mix_lo (xs := V) (ys := U) (by omega) (by rw [HVK.out.1]; omega))
            rw [HVG.out q (by omega)] at HMS
            by_cases hq0 : 0 < q
            · obtain rfl : z = (q : Int) := by omega
              rw [if_pos hq0] at HMS
              have f1 := HM.out.1.1.frozen q
              have q1 : wr.cell? ⟨gv, q, none⟩ = some (.int .u8 (V.getD q 0)) := by have := HM.out.1.1.cell0 (i := q) (by rw [hml.out]; omega); rwa [HLO.out q (by omega)] at this
              have q2 : wr.cell? ⟨gv, q - 1, none⟩ = some (.int .u8 (V.getD (q - 1) 0)) := by have := HM.out.1.1.cell0 (i := q - 1) (by rw [hml.out]; omega); rwa [HLO.out (q - 1) (by omega)] at this
              have e0 : ((q : Int) - 1).toNat = q - 1 := by omega
              obtain ⟨x0, x1⟩ := HVB.out q
              obtain ⟨y0, y1⟩ := HVB.out (q - 1)
              generalize V.getD q 0 = x at *
              generalize V.getD (q - 1) 0 = y at *
              have HI9 : Hid (RSt2 w gv c2 gu (mixL U V q) (b16 (oN (beN a) (beN b) (k + 1))) (wr.setCell ⟨gv, q, none⟩ (.int .u8 (x / 2 + 128 * (y % 2))))) := Lib.hid (HM.out.setS0 hne q _ HMS.out)
              clear HMS hml HM hz
              go_wp2_with fail
              clear q1 q2 f1
              go_roundw
              case rel => exact ⟨q, (q : Int) - 1, by omega, by omega, rfl, HI9⟩
              case measure => simp [intOf] <;> omega
            · obtain rfl : q = 0 := by omega
              obtain rfl : z = 0 := by omega
              rw [if_neg (by decide)] at HMS
              have f1 := HM.out.1.1.frozen 0
              have q1 : wr.cell? ⟨gv, 0, none⟩ = some (.int .u8 (V.getD 0 0)) := by have := HM.out.1.1.cell0 (i := 0) (by rw [hml.out]; omega); rwa [HLO.out 0 (by omega)] at this
              obtain ⟨x0, x1⟩ := HVB.out 0
              generalize V.getD 0 0 = x at *
              rw [Int.add_zero] at HMS
              have HI9 : Hid (RSt2 w gv c2 gu (mixL U V 0) (b16 (oN (beN a) (beN b) (k + 1))) (wr.setCell ⟨gv, 0, none⟩ (.int .u8 (x / 2)))) := Lib.hid (HM.out.setS0 hne 0 _ HMS.out)
              clear HMS hml HM hz
              go_wp2_with fail
              clear q1 f1
              go_roundw
              case rel => exact ⟨0, -1, by omega, by omega, rfl, HI9⟩
              case measure => simp [intOf]
          · obtain rfl : m = 0 := by omega
            obtain rfl : z = -1 := by omega
            have HM9 : Hid (RSt2 w gv c2 gu U (b16 (oN (beN a) (beN b) (k + 1))) wr) := Lib.hid (by have h := HM.out; rwa [mix_zero] at h)
            have f1 := HM9.out.1.1.frozen 0
            have q1 := HM9.out.1.1.cell0 (i := 0) (by rw [HVL.out]; decide)
            by_cases hb1 : x15 % 2 = 1
            · rw [if_pos hb1] at HVN
              have hb2 : (x15 % 2 == 1) = true := by simpa using hb1
              generalize U.getD 0 0 = x at *
              have HS9 : Hid (RSt2 w gv c2 gu (b16 (vN (beN b) (k + 1))) (b16 (oN (beN a) (beN b) (k + 1))) (wr.setCell ⟨gv, 0, none⟩ (.int .u8 (bits .xor .u8 x 225)))) := Lib.hid (HM9.out.setS0 hne 0 _ HVN.out.symm)
              clear HM HM9 HVN hz hb1
              go_wp2_with fail
              clear q1 f1
              go_roundw
              case rel => exact ⟨k + 1, by omega, by go_num, HS9⟩
              case measure => simp [intOf]; omega
            · rw [if_neg hb1] at HVN
              have hb2 : (x15 % 2 == 1) = false := by simpa using hb1
              have HS9 : Hid (RSt2 w gv c2 gu (b16 (vN (beN b) (k + 1))) (b16 (oN (beN a) (beN b) (k + 1))) wr) := Lib.hid (by rw [HVN.out]; exact HM9.out)
              clear HM HM9 HVN hz hb1 q1 f1
              go_wp2_with fail
              go_roundw
              case rel => exact ⟨k + 1, by omega, by go_num, HS9⟩
              case measure => simp [intOf]; omega
    · have hk8 : k = 128 := by omega
      have HF : Hid (RSt2 w gv c2 gu (b16 (vN (beN b) 128)) (b16 (tm (beN a) (beN b))) wr) := Lib.hid (by rw [HT.out]; have h := HS.out; rwa [hk8] at h)
      clear HS hk8
      go_wp2_with fail
      go_ret
      exact ⟨_, _, _, rfl, HF.out.2, HF.out.1.2⟩
end Go.Proofs.Ytieabfifaigjdaa
/- Layer 9's reference: Hash. Conditions: as each theorem states them. -/
namespace Go.Proofs.Ytieabfifaigjdaa
open Go.RowKit
theorem ghK_zero (h : Nat) (b : List Int) : ghK h b 0 = 0 := by unfold ghK; rfl
theorem ghK_succ (h : Nat) (b : List Int) (k : Nat) : ghK h b (k + 1) = tm (ghK h b k ^^^ beN (pc b k)) h := by rw [ghK]
theorem xa_pc {Y b : List Int} (hY : Y.length = 16) (k : Nat) : (xaL Y (pc b k)).length = 16 ∧ ∀ q, q < 16 → (xaL Y (pc b k)).getD q 0 = xb (Y.getD q 0) (b.getD (16 * k + q) 0) :=
  ⟨by rw [xaL_len (by rw [hY, pc_len]), hY], fun q hq => by rw [xaL_getD (by rw [hY, pc_len]), pc_getD _ _ hq]⟩
theorem xa_end {Y b : List Int} (hY : Blk16 Y) {k q : Nat} (hq : q ≤ 16) (he : q = 16 ∨ b.length ≤ 16 * k + q) : mixL Y (xaL Y (pc b k)) q = xaL Y (pc b k) := by
  obtain ⟨h1, h2⟩ := xa_pc (b := b) hY.1 k
  refine ext16' (by rw [mix_len (by rw [hY.1, h1]) (by rw [hY.1]; exact hq), hY.1]) h1 fun i hi => ?_
  rcases Nat.lt_or_ge i q with hlt | hge
  · exact mix_lo hlt (by rw [h1]; exact hq)
  · rw [mix_get (by rw [hY.1, h1]) hge, h2 i hi, List.getD_eq_getElem?_getD (l := b), List.getElem?_eq_none (by omega)]
    exact (xb_zero (hY.2.getD i)).symm
theorem xa_step {h k : Nat} {b : List Int} (hh : G128 h) (hb : Byt b) : b16 (tm (beN (xaL (b16 (ghK h b k)) (pc b k))) h) = b16 (ghK h b (k + 1)) := by
  have h1 : pc b k = b16 (beN (pc b k)) := (b16_beN (pc_len b k) (pc_byt hb k)).symm
  have h2 : xaL (b16 (ghK h b k)) (pc b k) = b16 (ghK h b k ^^^ beN (pc b k)) := by rw [b16_xor, ← h1]
  rw [h2, beN_b16 ((ghK_ok hh b k).xor (beN_ok (pc_len b k) (pc_byt hb k))), ghK_succ]
attribute [local irreducible] pc xaL hashL
set_option maxRecDepth 100000 in
set_option maxHeartbeats 8000000 in
theorem rghash_any (A0 A1 : Option Addr) (c0 n c1 : Nat) (h b : List Int) (w : World) (hh : Blk16 h) (hb : Byt b) (hn : b.length = n) (hn2 : n < 65536) (r0 : Rd w.heap.size .u8 w A0 h) (r1 : Rd w.heap.size .u8 w A1 b) :
    Calls Try.prog 48 #[.slice A0 16 c0, .slice A1 n c1] w (RetOwn 5 .u8 (hashL h b) w) := by
  have HH := Lib.hid hh
  have HN := Lib.hid hn
  have HR0 := Lib.hid r0
  have HR1 := Lib.hid r1
  have HA : Hid (∀ n0, n0 = n → (0 : Nat) < n0 → ∃ ad, A1 = some ad) := Lib.hid (fun n0 e hp => by obtain ⟨ad, h, _⟩ := r1.isSome (by omega); exact ⟨ad, h⟩)
  have HB8 := Lib.hid hb.getD
  have HST : Hid (∀ k, b16 (tm (beN (xaL (b16 (ghK (beN h) b k)) (pc b k))) (beN h)) = b16 (ghK (beN h) b (k + 1))) := Lib.hid (fun k => xa_step (beN_ok hh.1 hh.2) hb)
  have HXP : Hid (∀ Y k, Blk16 Y → (xaL Y (pc b k)).length = 16 ∧ (∀ q, q < 16 → (xaL Y (pc b k)).getD q 0 = xb (Y.getD q 0) (b.getD (16 * k + q) 0)) ∧ (∀ q, q ≤ 16 → (q = 16 ∨ n ≤ 16 * k + q) → mixL Y (xaL Y (pc b k)) q = xaL Y (pc b k)) ∧ Byt (xaL Y (pc b k))) := Lib.hid (fun Y k hY => ⟨(xa_pc hY.1 k).1, (xa_pc hY.1 k).2, fun q hq he => xa_end hY hq (by omega), xaL_byt _ _⟩)
  have HF : Hid (∀ k, n ≤ 16 * k → 16 * k < n + 16 → b16 (ghK (beN h) b k) = hashL h b) := Lib.hid (fun k h1 h2 => by unfold hashL nBlk; rw [hn, show (n + 15) / 16 = k by omega])
  have HMK := make16E
  have OZ : Hid (RSt w w.heap.size 16 (b16 (ghK (beN h) b 0)) (w.alloc (.cells (Z16.map (Value.int .u8)).toArray 5))) := Lib.hid (by
    rw [ghK_zero, b16_zero]
    exact ⟨Own.litAt rfl rfl (by unfold Z16; rfl) (Nat.le_refl _) (by simp [maxLen, Z16]), (Below.refl w.heap.size w).alloc (Nat.le_refl _) _⟩)
  clear hh hb hn r0 r1
  go_enter Try.func48, Try.ntmps48
  go_wp2_with fail
  go_loopw [5, 6] (fun yy ii wr => ∃ (k p g c : Nat), Hid (p = 16 * k) ∧ p < n + 16 ∧ ii = .int .i64 p ∧ yy = .slice (some ⟨g, 0, none⟩) 16 c ∧ Hid (RSt w g c (b16 (ghK (beN h) b k)) wr)) (fun _ ii _ => n + 16 - (intOf ii).toNat)
  case atStart => exact ⟨0, 0, w.heap.size, 16, Lib.hid (by omega), by omega, rfl, rfl, OZ⟩
  case round =>
    clear OZ
    obtain ⟨k, p, g, c, HP, hpn, rfl, rfl, HS⟩ := hrel
    by_cases hlt : p < n
    · have HYK : Hid (Blk16 (b16 (ghK (beN h) b k))) := Lib.hid ⟨b16_len _, b16_byt _⟩
      have HSK := Lib.hid (HST.out k)
      have HXK := Lib.hid (HXP.out _ k HYK.out)
      obtain ⟨ad, rfl⟩ := HA.out n rfl (by omega)
      generalize b16 (ghK (beN h) b k) = Y at *
      generalize xaL Y (pc b k) = X at *
      have HS0 : Hid (RSt w g c (mixL Y X 0) wr) := Lib.hid (by rw [mix_zero]; exact HS.out)
      clear HS
      go_wp2_with fail
      go_loopw [7] (fun ii wr => ∃ q : Nat, q ≤ 16 ∧ ii = .int .i64 q ∧ Hid (RSt w g c (mixL Y X q) wr)) (fun ii _ => 16 - (intOf ii).toNat)
      case atStart => exact ⟨0, by omega, rfl, HS0⟩
      case round =>
        clear HS0
        obtain ⟨q, hq, rfl, HQ⟩ := hrel
        by_cases hgo : q < 16 ∧ p + q < n
        · obtain ⟨hlt2, hlt3⟩ := hgo
          have hml : Hid ((mixL Y X q).length = 16) := Lib.hid (by rw [mix_len (by rw [HYK.out.1, HXK.out.1]) (by rw [HYK.out.1]; omega), HYK.out.1])
          have p1 : ∀ r : BW wr.heap.size wr, r.world.cell? ⟨g, q, none⟩ = some (.int .u8 (Y.getD q 0)) := fun r => by
            have := (HQ.out.1.below r.below).cell0 (i := q) (by rw [hml.out]; exact hlt2)
            rwa [mix_get (by rw [HYK.out.1, HXK.out.1]) (Nat.le_refl _)] at this
          have p2 : ∀ r : BW wr.heap.size wr, r.world.cell? (ad.add (p + q)) = some (.int .u8 (b.getD (p + q) 0)) := fun r => ((HR1.out.below HQ.out.2 (Nat.le_refl _)).below r.below HQ.out.2.size).at_ (by rw [HN.out]; omega)
          have f1 := HQ.out.1.frozen q
          have q1 : wr.cell? ⟨g, q, none⟩ = some (.int .u8 (Y.getD q 0)) := p1 ⟨wr, Below.refl _ _⟩
          have HMS := Lib.hid (mix_set (xs := Y) (ys := X) (k := q) (by rw [HYK.out.1, HXK.out.1]) (by rw [HYK.out.1]; exact hlt2))
          rw [HXK.out.2.1 q hlt2, ← HP.out] at HMS
          have e1 : ((p : Int) + (q : Int)).toNat = p + q := by omega
          generalize Y.getD q 0 = x at *
          generalize b.getD (p + q) 0 = y at *
          go_wp2_with fail
          refine wp_region_mixOB wr.heap.size [([0, 1, 2, 3, 4, 5, 6, 7, 8, 9, 10, 11, 12, 13], 14)] (by kernel_rfl) (by kernel_rfl) (by kernel_rfl) (by kernel_rfl) (by kernel_rfl) ?_
          try (rw [put_none])
          simp only [pickL, List.map_cons, List.map_nil, List.filterMap_cons, List.filterMap_nil, List.getElem?_cons_succ, List.getElem?_cons_zero]
          refine mixO_cons ?_
          repeat (show wpQuiet _ _ _ _ (_ :: _) _; go_big_quiet_step (fail))
          refine wpQuiet_nil ?_
          show wpList _ _ _ [_] _ _
          go_wp2_with fail
          refine MixO.last ?_
          refine mixO_nil ?_
          refine wpQuiet_nil ?_
          refine NoPanic.normal ?_
          have HT9 : Hid (RSt w g c (mixL Y X (q + 1)) (wr.drew.setCell ⟨g, q, none⟩ (.int .u8 (bits .xor .u8 x y)))) := Lib.hid (HQ.out.set q _ HMS.out)
          clear p1 p2 f1 q1 HMS hml
          go_wp2_with fail
          go_roundw
          case rel => exact ⟨q + 1, by omega, by go_num, HT9⟩
          case measure => simp [intOf]; omega
        · have HQF : Hid (RSt w g c X wr) := Lib.hid (by
            have h := HQ.out
            rwa [HXK.out.2.2.1 q hq (by rw [← HP.out]; omega)] at h)
          have hXB : Hid (Blk16 X) := Lib.hid ⟨HXK.out.1, HXK.out.2.2.2⟩
          clear HQ HXK HYK
          by_cases hq16 : q < 16
          case' pos =>
            have hpq : ¬ p + q < n := by omega
            clear hgo
            go_wp2_with fail
          case' neg =>
            clear hgo
            go_wp2_with fail
          all_goals
            refine Calls.mono (rgtimes_any (some ⟨g, 0, none⟩) A0 c c0 X h _ hXB.out HH.out HQF.out.1.rd ((HR0.out.below HQF.out.2 (Nat.le_refl _)).mono HQF.out.2.size)) ?_
            rintro e w4 ⟨A4, n4, c4, rfl, o4, b4⟩
            obtain ⟨g4, rfl, _, _⟩ := o4.addr (by rw [o4.len, b16_len]; decide)
            obtain rfl : n4 = 16 := by rw [o4.len, b16_len]
            rw [HSK.out] at o4
            have HS9 : Hid (RSt w g4 c4 (b16 (ghK (beN h) b (k + 1))) w4) := Lib.hid ⟨o4.mono HQF.out.2.size, HQF.out.2.trans (b4.mono HQF.out.2.size)⟩
            clear o4 b4 HQF
            go_wp2_with fail
            go_roundw
            case rel => exact ⟨k + 1, p + 16, g4, c4, Lib.hid (by rw [HP.out]; omega), by omega, by go_num, rfl, HS9⟩
            case measure => simp [intOf]; omega
    · have HF9 : Hid (RSt w g c (hashL h b) wr) := Lib.hid (by rw [← HF.out k (by rw [← HP.out]; omega) (by rw [← HP.out]; omega)]; exact HS.out)
      clear HS
      go_wp2_with fail
      go_ret
      exact ⟨_, _, _, rfl, HF9.out.1, HF9.out.2⟩
end Go.Proofs.Ytieabfifaigjdaa
/- Layer 9's reference: New, Block, stream. Conditions: as each theorem states them. -/
namespace Go.Proofs.Ytieabfifaigjdaa
open Go.RowKit
/-- a key of the reference: a box, and a key's columns -/
def keyV (A0 : Option Addr) (c0 : Nat) (A1 : Option Addr) (c1 : Nat) : Value := .agg #[.slice A0 256 c0, .slice A1 176 c1]
theorem sizeRKey : (Try.prog.info? 52).map (·.size) = some 2 := by kernel_rfl
theorem rkey_fine : Try.prog.underlying 52 = some (.struct (Try.prog.fieldsOf 52)) := by kernel_rfl
theorem Rd.farB {B : Nat} {k : IntKind} {w : World} {A : Option Addr} {xs : List Int} {p : Addr} (h : Rd B k w A xs) (hp : ∀ ad, A = some ad → p.block ≠ ad.block) (u : Value) : Rd B k (w.setCell p u) A xs := fun i hi => by
  obtain ⟨ad, e, hb, hc⟩ := h i hi
  refine ⟨ad, e, hb, ?_⟩
  have hne : (ad.add i).block ≠ p.block := by rw [block_of_add]; exact (hp ad e).symm
  exact (World.cell?_of_block (Below.heap_setCell w p u _ hne)).trans hc
set_option maxRecDepth 100000 in
set_option maxHeartbeats 2000000 in
theorem rnew_any (A : Option Addr) (c : Nat) (K : List Int) (w : World) (hK : Blk16 K) (hr : Rd w.heap.size .u8 w A K) :
    Calls Try.prog 21 #[.slice A 16 c] w fun e w' => ∃ A0 c0 A1 c1, e = .returned (.agg #[.slice A0 256 c0, .slice A1 176 c1]) ∧ Rd w'.heap.size .u8 w' A0 boxL ∧ Rd w'.heap.size .u8 w' A1 (wkL K) ∧ Below w.heap.size w w' := by
  have HK := Lib.hid hK
  have HR := Lib.hid hr
  clear hK hr
  go_enter Try.func21, Try.ntmps21
  go_wp2_with fail
  refine Calls.mono (rbox_any _) ?_
  rintro e w2 ⟨A2, n2, c2, rfl, o2, b2⟩
  obtain rfl : n2 = 256 := by rw [o2.len, boxL_len]
  have B2 := Lib.hid (((Below.refl w.heap.size w).alloc (Nat.le_refl _) (.cells #[Value.slice none 0 0, Value.slice none 0 0] 52)).trans (b2.mono (by simp)))
  have O2 := Lib.hid o2.rd
  have HA2 : Hid (∀ ad, A2 = some ad → w.heap.size ≠ ad.block) := Lib.hid (fun ad h => by have := (o2.block ad h).1; simp at this; omega)
  have K2 : Hid (Blk w2 w.heap.size 52 #[Value.slice none 0 0, Value.slice none 0 0]) := Lib.hid ((Blk.new w _ _).below b2 (by simp))
  clear o2 b2
  go_wp2_with fail
  refine Calls.mono (rcols_any A2 c2 A c K _ HK.out O2.out ((HR.out.below B2.out (Nat.le_refl _)).mono B2.out.size)) ?_
  rintro e w3 ⟨A3, n3, c3, rfl, o3, b3⟩
  obtain rfl : n3 = 176 := by rw [o3.len, wkL_len HK.out]
  have h2 : w.heap.size < w2.heap.size := K2.out.lt
  have K3 := K2.out.below b3 h2
  have B3 := Lib.hid (B2.out.trans (b3.mono (Nat.le_of_lt h2)))
  have R3 := Lib.hid ((O2.out.below b3 (Nat.le_refl _)).mono b3.size)
  have R4 := Lib.hid o3.rd
  have hne2 : Hid (∀ ad, A2 = some ad → w.heap.size ≠ ad.block) := HA2
  have hne3 : Hid (∀ ad, A3 = some ad → w.heap.size ≠ ad.block) := Lib.hid (fun ad h => by have := (o3.block ad h).1; omega)
  generalize hg : w.heap.size = g at *
  have q0 : w3.cell? ⟨g, 0, none⟩ = some (.slice none 0 0) := K3.cell 0
  have f0 := K3.frozen 0
  have K4 := K3.set_ 0 (.slice A2 256 c2)
  have q1 : (w3.setCell ⟨g, 0, none⟩ (.slice A2 256 c2)).cell? ⟨g, 1, none⟩ = some (.slice none 0 0) := K4.cell 1
  have f1 := K4.frozen 1
  have K5 := K4.set_ 1 (.slice A3 176 c3)
  have HF : Hid (Rd ((w3.setCell ⟨g, 0, none⟩ (.slice A2 256 c2)).setCell ⟨g, 1, none⟩ (.slice A3 176 c3)).heap.size .u8 ((w3.setCell ⟨g, 0, none⟩ (.slice A2 256 c2)).setCell ⟨g, 1, none⟩ (.slice A3 176 c3)) A2 boxL ∧ Rd ((w3.setCell ⟨g, 0, none⟩ (.slice A2 256 c2)).setCell ⟨g, 1, none⟩ (.slice A3 176 c3)).heap.size .u8 ((w3.setCell ⟨g, 0, none⟩ (.slice A2 256 c2)).setCell ⟨g, 1, none⟩ (.slice A3 176 c3)) A3 (wkL K) ∧ Below g w ((w3.setCell ⟨g, 0, none⟩ (.slice A2 256 c2)).setCell ⟨g, 1, none⟩ (.slice A3 176 c3))) := Lib.hid (by
    have hs : ((w3.setCell ⟨g, 0, none⟩ (.slice A2 256 c2)).setCell ⟨g, 1, none⟩ (.slice A3 176 c3)).heap.size = w3.heap.size := by simp [World.setCell]
    rw [hs]
    exact ⟨(R3.out.farB hne2.out _ ).farB hne2.out _, (R4.out.farB hne3.out _).farB hne3.out _, (B3.out.setCell (p := ⟨g, 0, none⟩) (Nat.le_refl _) _).setCell (p := ⟨g, 1, none⟩) (Nat.le_refl _) _⟩)
  have K6 := Lib.hid (K5.cast (cs' := #[.slice A2 256 c2, .slice A3 176 c3]) (by simp))
  clear K3 K4 K5 b3 o3 R3 R4 B3 B2 O2 hne2 hne3 HR HA2
  go_wp2_with fail
  exact ret_row rfl rfl K6.out rkey_fine rfl sizeRKey rfl ⟨_, _, _, _, rfl, by rw [hg]; exact HF.out⟩
set_option maxRecDepth 100000 in
set_option maxHeartbeats 2000000 in
theorem rblock_any (A0 A1 A2 : Option Addr) (c0 c1 c2 : Nat) (K s : List Int) (w : World) (hK : Blk16 K) (hs : Blk16 s) (hb : Rd w.heap.size .u8 w A0 boxL) (hw : Rd w.heap.size .u8 w A1 (wkL K)) (hr : Rd w.heap.size .u8 w A2 s) :
    Calls Try.prog 49 #[.agg #[.slice A0 256 c0, .slice A1 176 c1], .slice A2 16 c2] w (RetOwn 5 .u8 (aesL K s) w) := by
  go_enter Try.func49, Try.ntmps49
  go_wp2_with fail
  have hx : w.heap.size ≤ (w.alloc (.cells #[Value.slice A0 256 c0, Value.slice A1 176 c1] 52)).heap.size := by simp
  refine Calls.mono (rseal_any A0 A1 A2 c0 c1 c2 (wkL K) s _ (wkL_len hK) (wkL_byt hK) hs ((hb.alloc (Nat.le_refl _) _).mono hx) ((hw.alloc (Nat.le_refl _) _).mono hx) ((hr.alloc (Nat.le_refl _) _).mono hx)) ?_
  rintro e w2 ⟨A4, n4, c4, rfl, o4, b4⟩
  rw [sealL_aes] at o4
  have hR : RetOwn 5 .u8 (aesL K s) w (.returned (.slice A4 n4 c4)) w2 := ⟨_, _, _, rfl, o4.mono hx, ((Below.refl w.heap.size w).alloc (Nat.le_refl _) _).trans (b4.mono hx)⟩
  have HRR := Lib.hid hR
  clear hR o4 b4 hb hw hr hK hs
  go_wp2_with fail
  go_ret
  exact HRR.out
end Go.Proofs.Ytieabfifaigjdaa
/- Layer 9's reference: stream. Conditions: as each theorem states them. -/
namespace Go.Proofs.Ytieabfifaigjdaa
open Go.RowKit
/-- a key's cells -/
def kcs (A0 : Option Addr) (c0 : Nat) (A1 : Option Addr) (c1 : Nat) : Array Value := #[.slice A0 256 c0, .slice A1 176 c1]
theorem rkey_load {w : World} {g : Nat} {A0 A1 : Option Addr} {c0 c1 : Nat} (h : Blk w g 52 #[.slice A0 256 c0, .slice A1 176 c1]) :
    (Instr.loadAt 52 (.pointer (some ⟨g, 0, none⟩))).run Try.prog w = .ok (.agg #[.slice A0 256 c0, .slice A1 176 c1]) w := blk_load h rkey_fine rfl sizeRKey
theorem byk4 (i : Nat) (hi : i < 4294967296) : byk 4 i = [(i : Int) / 16777216, (i : Int) / 65536 % 256, (i : Int) / 256 % 256, (i : Int) % 256] := by
  unfold byk byk byk byk byk
  simp only [List.nil_append, List.cons_append]
  rw [Nat.div_div_eq_div_mul, Nat.div_div_eq_div_mul]
  simp only [Nat.reduceMul]
  refine List.cons_eq_cons.2 ⟨by omega, List.cons_eq_cons.2 ⟨by omega, List.cons_eq_cons.2 ⟨by omega, ?_⟩⟩⟩
  rw [Int.natCast_emod]
  rfl
set_option maxRecDepth 100000 in
set_option maxHeartbeats 4000000 in
theorem rstream_any (A0 A1 A2 : Option Addr) (c0 c1 c2 : Nat) (K nonce : List Int) (i : Nat) (w : World) (hK : Blk16 K) (hn : nonce.length = 12) (hnb : Byt nonce) (hi : i < 4294967296) (hb : Rd w.heap.size .u8 w A0 boxL) (hw : Rd w.heap.size .u8 w A1 (wkL K)) (hr : Rd w.heap.size .u8 w A2 nonce) :
    Calls Try.prog 45 #[.agg #[.slice A0 256 c0, .slice A1 176 c1], .slice A2 12 c2, .int .u32 i] w (RetOwn 5 .u8 (ctrL K nonce i) w) := by
  have HK := Lib.hid hK
  have HN := Lib.hid hn
  have HNB := Lib.hid hnb
  have HB0 := Lib.hid hb
  have HW0 := Lib.hid hw
  have HR1 := Lib.hid ((hr.alloc (Nat.le_refl _) (.cells #[.slice A0 256 c0, .slice A1 176 c1] 52)).alloc (by simp) (.cells #[] 5))
  have HCT : Hid (ctrL K nonce i = aesL K (nonce ++ [(i : Int) / 16777216, (i : Int) / 65536 % 256, (i : Int) / 256 % 256, (i : Int) % 256])) := Lib.hid (by unfold ctrL; rw [byk4 i hi])
  have HIN : Hid (Blk16 (nonce ++ [(i : Int) / 16777216, (i : Int) / 65536 % 256, (i : Int) / 256 % 256, (i : Int) % 256])) := Lib.hid (by rw [← byk4 i hi]; exact ctr_in hn hnb i)
  have hg1 : (w.alloc (.cells #[.slice A0 256 c0, .slice A1 176 c1] 52)).heap.size = w.heap.size + 1 := by simp
  have O0 : Hid (Own (w.heap.size + 1) 5 .u8 ((w.alloc (.cells #[.slice A0 256 c0, .slice A1 176 c1] 52)).alloc (.cells #[] 5)) (some ⟨w.heap.size + 1, 0, none⟩) 0 0 []) := Lib.hid (Own.litAt hg1 rfl rfl (Nat.le_refl _) (Nat.zero_le _))
  clear hK hn hnb hb hw hr
  go_enter Try.func45, Try.ntmps45
  go_wp2_with (at_builtin; refine wpList_app (o := ⟨some 10, _, _, _, _, _⟩) elB8 rfl _ _ rfl rfl rfl O0.out HR1.out HN.out.symm ?_ ?_ ?_; (rw [HN.out]; decide); (simp); intro A3 n3 c3 w3 q3; obtain ⟨g3, rfl, hg3, hg3'⟩ := Own.addr q3.1 (by rw [q3.1.len, List.nil_append, HN.out]; decide); obtain rfl := (show n3 = 12 by rw [q3.1.len, List.nil_append, HN.out]); have H3 : Hid (Own (w.heap.size + 1) 5 .u8 w3 (some ⟨g3, 0, none⟩) 12 c3 nonce) := Lib.hid q3.1; have B3 := Lib.hid (Below.trans ((Below.refl (w.heap.size + 1) (w.alloc (.cells #[.slice A0 256 c0, .slice A1 176 c1] 52))).alloc (by simp) _) q3.2.2.1); clear q3)
  have K3 := Lib.hid ((Blk.new w 52 #[.slice A0 256 c0, .slice A1 176 c1]).below B3.out (by omega))
  have W3 := Lib.hid (((Below.refl w.heap.size w).alloc (Nat.le_refl _) (.cells #[.slice A0 256 c0, .slice A1 176 c1] 52)).trans (B3.out.mono (by omega)))
  obtain ⟨gk, hgk⟩ : ∃ gk, w.heap.size = gk := ⟨_, rfl⟩
  rw [hgk]
  rw [hgk] at K3
  have HL : ∀ r : CW (fun v : World => Blk v gk 52 #[.slice A0 256 c0, .slice A1 176 c1]), (Instr.loadAt 52 (.pointer (some ⟨gk, 0, none⟩))).run Try.prog r.world = .ok (.agg #[.slice A0 256 c0, .slice A1 176 c1]) r.world := fun r => rkey_load r.holds
  have hne2 : Nonempty (CW (fun v : World => Blk v gk 52 #[.slice A0 256 c0, .slice A1 176 c1])) := CW.inh K3.out
  refine wp_region_mix_class (fun v : World => Blk v gk 52 #[.slice A0 256 c0, .slice A1 176 c1]) [([0, 1, 2, 3, 4, 5, 6, 7, 8, 9, 10, 11, 12], 13), ([], 14), ([], 15)] [16] (by kernel_rfl) (by kernel_rfl) (by kernel_rfl) (by kernel_rfl) K3.out.drew ?_
  simp only [pickL, List.map_cons, List.map_nil, List.filterMap_cons, List.filterMap_nil, List.getElem?_cons_succ, List.getElem?_cons_zero]
  refine mixS_cons ?_
  show wpQuiet _ _ _ _ (_ :: _) _
  refine wpQuiet_loadV (o := ⟨some 11, _, _, _, _, _⟩) rfl _ rfl rfl (fun w' hw' => by obtain ⟨r, rfl⟩ := hw'; exact HL r) ?_
  simp only [Act.put, List.setIfInBounds_toArray, List.set_cons_zero, List.set_cons_succ]
  repeat (show wpQuiet _ _ _ _ (_ :: _) _; go_big_quiet_step (fail))
  refine wpQuiet_nil ?_
  show wpList _ _ _ [_] _ _
  go_wp2_with fail
  have B4 : Hid (Below w3.heap.size w3 (w3.alloc (.cells #[.int .u8 ((i : Int) / 16777216), .int .u8 ((i : Int) / 65536 % 256), .int .u8 ((i : Int) / 256 % 256), .int .u8 ((i : Int) % 256)] 5)).drew) := Lib.hid (((Below.refl _ _).alloc (Nat.le_refl _) _).drew)
  have K4 := Lib.hid (K3.out.below B4.out K3.out.lt)
  refine MixQ.class K4.out ?_
  refine mixS_cons ?_
  refine wpQuiet_nil ?_
  show wpList _ _ _ [_] _ _
  go_wp2_with (at_builtin; go_loud (refine wpList_app (o := ⟨some 25, _, _, _, _, _⟩) elB8 rfl _ _ rfl rfl rfl ((H3.out.alloc _).drew) (Rd.drew (Rd.newAt (xs := [(i : Int) / 16777216, (i : Int) / 65536 % 256, (i : Int) / 256 % 256, (i : Int) % 256]) rfl rfl)) rfl ?_ ?_ ?_; (simp [HN.out]); (simp <;> omega); intro A5 n5 c5 w5 q5; obtain ⟨g5, rfl, hg5, hg5'⟩ := Own.addr q5.1 (by rw [q5.1.len, List.length_append, HN.out]; simp); obtain rfl := (show n5 = 16 by rw [q5.1.len, List.length_append, HN.out]; rfl); have H5 := Lib.hid q5.1; have B5 := Lib.hid ((B4.out.mono (show w.heap.size + 1 ≤ w3.heap.size by omega)).trans q5.2.2.1); clear q5))
  have K5 := Lib.hid (K3.out.below B5.out (by omega))
  have W5 := Lib.hid (W3.out.trans (B5.out.mono (by omega)))
  refine MixQ.class K5.out ?_
  refine mixS_cons ?_
  refine wpQuiet_nil ?_
  show wpList _ _ _ [_] _ _
  go_wp2_with fail
  refine Calls.mono (rblock_any A0 A1 (some ⟨g5, 0, none⟩) c0 c1 c5 K _ _ HK.out HIN.out ((HB0.out.below W5.out (Nat.le_refl _)).mono W5.out.size) ((HW0.out.below W5.out (Nat.le_refl _)).mono W5.out.size) H5.out.rd) ?_
  rintro e w6 ⟨A6, n6, c6, rfl, o6, b6⟩
  rw [← HCT.out] at o6
  have K6 := Lib.hid (K5.out.below b6 K5.out.lt)
  have HF : Hid (RetOwn 5 .u8 (ctrL K nonce i) w (.returned (.slice A6 n6 c6)) w6) := Lib.hid ⟨_, _, _, rfl, o6.mono W5.out.size, W5.out.trans (b6.mono W5.out.size)⟩
  clear o6 b6
  go_wp2_with fail
  refine MixQ.class K6.out ?_
  refine mixS_nil ?_
  repeat (show wpQuiet _ _ _ _ (_ :: _) _; go_big_quiet_step (fail))
  refine wpQuiet_nil ?_
  refine NoPanic.normal ?_
  go_wp2_with fail
  go_ret
  exact HF.out
end Go.Proofs.Ytieabfifaigjdaa
/- Layer 9's reference: turn. Conditions: as each theorem states them. -/
namespace Go.Proofs.Ytieabfifaigjdaa
open Go.RowKit
theorem turn_take (K nonce b : List Int) {p q : Nat} (hp : p % 16 = 0) (hq : q < 16) (hn : p + q < b.length) :
    (turnL K nonce b).take (p + (q + 1)) = (turnL K nonce b).take (p + q) ++ [xb (b.getD (p + q) 0) ((ctrL K nonce (2 + p / 16)).getD q 0)] := by
  rw [show p + (q + 1) = (p + q) + 1 by omega, take_snoc_getD (by rw [turnL_len]; exact hn), turnL_getD _ _ _ hn, show (p + q) / 16 = p / 16 by omega, show (p + q) % 16 = q by omega]
attribute [local irreducible] turnL ctrL
set_option maxRecDepth 100000 in
set_option maxHeartbeats 4000000 in
theorem rgturn_any (A0 A1 A2 A3 : Option Addr) (c0 c1 c2 n c3 : Nat) (K nonce b : List Int) (w : World) (hK : Blk16 K) (hn : nonce.length = 12) (hnb : Byt nonce) (hbn : b.length = n) (hbb : Byt b) (hn2 : n < 65536) (hb : Rd w.heap.size .u8 w A0 boxL) (hw : Rd w.heap.size .u8 w A1 (wkL K)) (hr : Rd w.heap.size .u8 w A2 nonce) (hr3 : Rd w.heap.size .u8 w A3 b) :
    Calls Try.prog 35 #[.agg #[.slice A0 256 c0, .slice A1 176 c1], .slice A2 12 c2, .slice A3 n c3] w (RetOwn 5 .u8 (turnL K nonce b) w) := by
  have HK := Lib.hid hK
  have HN := Lib.hid hn
  have HNB := Lib.hid hnb
  have HBN := Lib.hid hbn
  have HB8 := Lib.hid hbb.getD
  have HA : Hid (∀ n0, n0 = n → (0 : Nat) < n0 → ∃ ad, A3 = some ad ∧ ad.block < w.heap.size) := Lib.hid (fun n0 e hp => hr3.isSome (by omega))
  have HTT : Hid (∀ p q, p % 16 = 0 → q < 16 → p + q < n → (turnL K nonce b).take (p + (q + 1)) = (turnL K nonce b).take (p + q) ++ [xb (b.getD (p + q) 0) ((ctrL K nonce (2 + p / 16)).getD q 0)]) := Lib.hid (fun p q h1 h2 h3 => turn_take K nonce b h1 h2 (by omega))
  have HTL : Hid ((turnL K nonce b).length = n) := Lib.hid (by rw [turnL_len, hbn])
  have HCO : Hid (∀ i, Blk16 (ctrL K nonce i)) := Lib.hid (fun i => ctrL_ok hK hn hnb i)
  have HB0 := Lib.hid (hb.alloc (Nat.le_refl _) (.cells #[.slice A0 256 c0, .slice A1 176 c1] 52))
  have HW0 := Lib.hid (hw.alloc (Nat.le_refl _) (.cells #[.slice A0 256 c0, .slice A1 176 c1] 52))
  have HR2 := Lib.hid (hr.alloc (Nat.le_refl _) (.cells #[.slice A0 256 c0, .slice A1 176 c1] 52))
  have HR3 := Lib.hid (hr3.alloc (Nat.le_refl _) (.cells #[.slice A0 256 c0, .slice A1 176 c1] 52))
  have KB := Lib.hid (Blk.new w 52 #[.slice A0 256 c0, .slice A1 176 c1])
  have W1 := Lib.hid ((Below.refl w.heap.size w).alloc (Nat.le_refl _) (.cells #[.slice A0 256 c0, .slice A1 176 c1] 52))
  have hg1 : w.heap.size + 1 = (w.alloc (.cells #[.slice A0 256 c0, .slice A1 176 c1] 52)).heap.size := by simp
  clear hK hn hnb hb hw hr hr3 hbn hbb
  go_enter Try.func35, Try.ntmps35
  go_wp2_with fail
  obtain ⟨gk, hgk⟩ : ∃ gk, w.heap.size = gk := ⟨_, rfl⟩
  generalize w.alloc (.cells #[.slice A0 256 c0, .slice A1 176 c1] 52) = w1 at *
  rw [hgk]
  rw [hgk] at KB hg1 HA
  go_loopw [7, 8] (fun oo ii wr => ∃ (p m c : Nat) (A : Option Addr), Hid (p % 16 = 0) ∧ p < n + 16 ∧ ii = .int .i64 p ∧ oo = .slice A m c ∧ Hid (Own w1.heap.size 5 .u8 wr A m c ((turnL K nonce b).take p)) ∧ Hid (Below w1.heap.size w1 wr)) (fun _ ii _ => n + 16 - (intOf ii).toNat)
  case atStart => exact ⟨0, 0, 0, none, Lib.hid rfl, by omega, rfl, rfl, Lib.hid (by rw [List.take_zero]; exact Own.nil _ _ _ _), Lib.hid (Below.refl _ _)⟩
  case round =>
    obtain ⟨p, m, c, A, HP, hpn, rfl, rfl, HO, HW⟩ := hrel
    by_cases hlt : p < n
    · obtain ⟨ad, rfl, had⟩ := HA.out n rfl (by omega)
      have hsz := HW.out.size
      have L17 := Lib.hid (rkey_load (KB.out.below HW.out (by omega)))
      go_wp2_with ((with_reducible (show wpList _ _ _ (⟨some 17, .load _ _, _, _, _, _⟩ :: _) _ _)); refine wpList_loadV (o := ⟨some 17, .load _ _, _, _, _, _⟩) rfl _ rfl rfl (L17.out) ?_)
      rw [show (2 : Int) + (p : Int) / 16 = ((2 + p / 16 : Nat) : Int) by omega]
      refine Calls.mono (rstream_any A0 A1 A2 c0 c1 c2 K nonce (2 + p / 16) _ HK.out HN.out HNB.out (by omega) ((HB0.out.mono (by omega)).below HW.out (Nat.le_refl _) |>.mono hsz) ((HW0.out.mono (by omega)).below HW.out (Nat.le_refl _) |>.mono hsz) ((HR2.out.mono (by omega)).below HW.out (Nat.le_refl _) |>.mono hsz)) ?_
      rintro e w4 ⟨A4, n4, c4, rfl, o4, b4⟩
      obtain ⟨g4, rfl, hg4, hg4'⟩ := o4.addr (by rw [o4.len, (HCO.out _).1]; decide)
      obtain rfl : n4 = 16 := by rw [o4.len, (HCO.out _).1]
      have HTP := Lib.hid (fun q => HTT.out p q HP.out)
      have HS8 := Lib.hid (HCO.out (2 + p / 16))
      have HS4 := Lib.hid o4.rd
      have HO4 := Lib.hid (HO.out.below b4)
      have HW4 := Lib.hid (HW.out.trans (b4.mono hsz))
      have hfar : Hid (∀ ad, A = some ad → ad.block ≠ g4) := Lib.hid (fun ad h => by have := (HO.out.block ad h).2; omega)
      generalize ctrL K nonce (2 + p / 16) = S at *
      clear o4 b4 HO HW L17
      have hp0 : p + 0 = p := rfl
      go_wp2_with fail
      go_loopw [7, 10] (fun oo jj wi => ∃ (q m c : Nat) (A : Option Addr), q ≤ 16 ∧ jj = .int .i64 q ∧ oo = .slice A m c ∧ w4.heap.size ≤ wi.heap.size ∧ Hid (∀ ad, A = some ad → ad.block ≠ g4) ∧ Hid (Own w1.heap.size 5 .u8 wi A m c ((turnL K nonce b).take (p + q))) ∧ Hid (Rd w4.heap.size .u8 wi (some ⟨g4, 0, none⟩) S) ∧ Hid (Below w1.heap.size w1 wi)) (fun _ jj _ => 16 - (intOf jj).toNat)
      case atStart => exact ⟨0, m, c, A, by omega, rfl, rfl, Nat.le_refl _, hfar, HO4, HS4, HW4⟩
      case round =>
        clear HO4 HS4 HW4 hfar
        obtain ⟨q, m, c, A, hq, rfl, rfl, hsi, HFA, HO, HS, HW⟩ := hrel
        by_cases hgo : q < 16 ∧ p + q < n
        · obtain ⟨hlt2, hlt3⟩ := hgo
          have HTN := Lib.hid (HTP.out q hlt2 hlt3)
          have P0 : Hid (wr.cell? (ad.add (p + q)) = some (.int .u8 (b.getD (p + q) 0))) := Lib.hid (((HR3.out.mono (show w.heap.size ≤ w1.heap.size by omega)).below HW.out (Nat.le_refl _)).at_ (by rw [HBN.out]; exact hlt3))
          have Q0 : Hid (wr.cell? ⟨g4, q, none⟩ = some (.int .u8 (S.getD q 0))) := Lib.hid (HS.out.cell0 (by rw [HS8.out.1]; exact hlt2))
          have e1 : ((p : Int) + (q : Int)).toNat = p + q := by omega
          obtain ⟨x0, x1⟩ := HB8.out (p + q)
          obtain ⟨y0, y1⟩ := HS8.out.2.getD q
          have HSY : Hid (∀ v, Rd w4.heap.size .u8 v (some ⟨g4, 0, none⟩) S → v.cell? ⟨g4, q, none⟩ = some (.int .u8 (S.getD q 0))) := Lib.hid (fun v h => h.cell0 (by rw [HS8.out.1]; exact hlt2))
          have hbl : (ad.add (p + q)).block < w1.heap.size := by rw [block_of_add]; omega
          generalize b.getD (p + q) 0 = x at *
          generalize S.getD q 0 = y at *
          have p1 := fun r : CW (fun v : World => v.cell? (ad.add (p + q)) = some (.int .u8 x) ∧ v.cell? ⟨g4, q, none⟩ = some (.int .u8 y)) => r.holds.1
          have p2 := fun r : CW (fun v : World => v.cell? (ad.add (p + q)) = some (.int .u8 x) ∧ v.cell? ⟨g4, q, none⟩ = some (.int .u8 y)) => r.holds.2
          have hne2 : Nonempty (CW (fun v : World => v.cell? (ad.add (p + q)) = some (.int .u8 x) ∧ v.cell? ⟨g4, q, none⟩ = some (.int .u8 y))) := CW.inh ⟨P0.out, Q0.out⟩
          go_wp2_with fail
          refine wp_region_mix_class (fun v : World => v.cell? (ad.add (p + q)) = some (.int .u8 x) ∧ v.cell? ⟨g4, q, none⟩ = some (.int .u8 y)) [([0, 1, 2, 3, 4, 5, 6, 7, 8, 9, 10, 11], 12), ([], 13)] [14] (by kernel_rfl) (by kernel_rfl) (by kernel_rfl) (by kernel_rfl) ⟨P0.out, Q0.out⟩ ?_
          simp only [pickL, List.map_cons, List.map_nil, List.filterMap_cons, List.filterMap_nil, List.getElem?_cons_succ, List.getElem?_cons_zero]
          refine mixS_cons ?_
          repeat (show wpQuiet _ _ _ _ (_ :: _) _; go_big_quiet_step (fail))
          refine wpQuiet_nil ?_
          show wpList _ _ _ [_] _ _
          go_wp2_with fail
          have B1 : Hid (Below wr.heap.size wr (wr.alloc (.cells #[.int .u8 (bits .xor .u8 x y)] 5)).drew) := Lib.hid (((Below.refl _ _).alloc (Nat.le_refl _) _).drew)
          have hW1 := HW.out.size
          have HS1 := Lib.hid (HS.out.below B1.out hsi)
          refine MixQ.class ⟨Below.cell_some B1.out P0.out (by omega), Below.cell_some B1.out Q0.out (show g4 < wr.heap.size by omega)⟩ ?_
          refine mixS_cons ?_
          refine wpQuiet_nil ?_
          show wpList _ _ _ [_] _ _
          go_wp2_with (at_builtin; go_loud (refine wpList_app (o := ⟨some 49, _, _, _, _, _⟩) elB8 rfl _ _ rfl rfl rfl ((HO.out.alloc _).drew) (Rd.drew (Rd.newAt (xs := [_]) rfl rfl)) rfl ?_ ?_ ?_; (rw [List.length_take, HTL.out]; simp; omega); (simp <;> omega); intro A9 n9 c9 w9 q9; have H9 := Lib.hid q9.1; have G9 := Lib.hid q9.2.1; have BB9 := Lib.hid ((HW.out.trans (B1.out.mono hW1)).trans q9.2.2.1); have D9 := Lib.hid q9.2.2.2; have Z9 := q9.2.1.size; clear q9))
          have hs1 : wr.heap.size ≤ (wr.alloc (.cells #[.int .u8 (bits .xor .u8 x y)] 5)).drew.heap.size := B1.out.size
          have HS9 : Hid (Rd w4.heap.size .u8 w9 (some ⟨g4, 0, none⟩) S) := Lib.hid (by
            rcases A with _ | a
            · exact HS1.out.grown G9.out (by omega) (fun g h => by cases h)
            · exact HS1.out.far G9.out (by omega) (fun ad' h => by cases h; exact fun h2 => HFA.out a rfl h2.symm))
          have HF9 : Hid (∀ ad, A9 = some ad → ad.block ≠ g4) := Lib.hid (by
            rcases D9.out with h | ⟨b', h, hb'⟩
            · rw [h]; exact HFA.out
            · rw [h]; intro ad' h2; cases h2; omega)
          have k1 : w9.cell? (ad.add (p + q)) = some (.int .u8 x) := by
            have h2 := G9.out
            have h1 := Below.cell_some BB9.out (p := ad.add (p + q)) (v := .int .u8 x) ?_ hbl
            · exact h1
            · exact (HW.out.cell hbl).symm.trans P0.out
          refine MixQ.class ⟨k1, HSY.out _ HS9.out⟩ ?_
          refine mixS_nil ?_
          repeat (show wpQuiet _ _ _ _ (_ :: _) _; go_big_quiet_step (fail))
          refine wpQuiet_nil ?_
          refine NoPanic.normal ?_
          have HN9 : Hid (Own w1.heap.size 5 .u8 w9 A9 n9 c9 ((turnL K nonce b).take (p + (q + 1)))) := Lib.hid (by rw [HTN.out]; exact H9.out)
          have hs9 : w4.heap.size ≤ w9.heap.size := by omega
          clear p1 p2 k1 hne2 H9 G9 D9 HS1 B1 P0 Q0 HSY
          go_wp2_with fail
          go_roundw
          case rel => exact ⟨q + 1, n9, c9, A9, by omega, by go_num, rfl, hs9, HF9, HN9, HS9, BB9⟩
          case measure => simp [intOf]; omega
        · have HO9 : Hid (Own w1.heap.size 5 .u8 wr A m c ((turnL K nonce b).take (p + 16))) := Lib.hid (by
            have h := HO.out
            rcases Nat.lt_or_ge q 16 with h1 | h1
            · rw [List.take_of_length_le (by rw [HTL.out]; omega)] at h ⊢
              exact h
            · rwa [show q = 16 by omega] at h)
          have HP9 : Hid ((p + 16) % 16 = 0) := Lib.hid (by have := HP.out; omega)
          by_cases hq16 : q < 16
          case' pos =>
            have hpq : ¬ p + q < n := by omega
            clear hgo HO HS
            go_wp2_with fail
          case' neg =>
            clear hgo HO HS
            go_wp2_with fail
          all_goals
            go_roundw
            case rel => exact ⟨p + 16, m, c, A, HP9, by omega, by go_num, rfl, HO9, HW⟩
            case measure => simp [intOf]; omega
    · have HF : Hid (RetOwn 5 .u8 (turnL K nonce b) w (.returned (.slice A m c)) wr) := Lib.hid (by
        have h := HO.out
        rw [List.take_of_length_le (by rw [HTL.out]; omega)] at h
        exact ⟨_, _, _, rfl, h.mono (by omega), W1.out.trans (HW.out.mono (by omega))⟩)
      clear HO HW
      go_wp2_with fail
      go_ret
      exact HF.out
end Go.Proofs.Ytieabfifaigjdaa
/- Layer 9's reference: whole, eight. Conditions: as each theorem states them. -/
namespace Go.Proofs.Ytieabfifaigjdaa
open Go.RowKit
/-- a slice's length -/
def lenW : Value → Nat
  | .slice _ n _ => n
  | _ => 0
theorem rep_snoc (m : Nat) : List.replicate (m + 1) (0 : Int) = List.replicate m 0 ++ [0] := by rw [List.replicate_succ']
theorem wh_step (b : List Int) (m : Nat) : b ++ List.replicate (m + 1) (0 : Int) = b ++ List.replicate m 0 ++ [0] := by rw [rep_snoc, List.append_assoc]
set_option maxRecDepth 100000 in
set_option maxHeartbeats 4000000 in
theorem rwhole_any (A : Option Addr) (n c : Nat) (b : List Int) (w : World) (hbn : b.length = n) (hn2 : n < 65536) (hr : Rd w.heap.size .u8 w A b) :
    Calls Try.prog 46 #[.slice A n c] w (RetOwn 5 .u8 (whL b) w) := by
  have HBN := Lib.hid hbn
  have HR1 := Lib.hid (hr.alloc (Nat.le_refl _) (.cells #[] 5))
  have O0 : Hid (Own w.heap.size 5 .u8 (w.alloc (.cells #[] 5)) (some ⟨w.heap.size, 0, none⟩) 0 0 []) := Lib.hid (Own.litAt rfl rfl rfl (Nat.le_refl _) (Nat.zero_le _))
  clear hr hbn
  go_enter Try.func46, Try.ntmps46
  go_wp2_with (at_builtin; refine wpList_app (o := ⟨some 6, _, _, _, _, _⟩) elB8 rfl _ _ rfl rfl rfl O0.out HR1.out HBN.out.symm ?_ ?_ ?_; (rw [HBN.out]; simp <;> omega); (simp); intro A2 n2 c2 w2 q2; have H2 : Hid (Own w.heap.size 5 .u8 w2 A2 n2 c2 b) := Lib.hid q2.1; have B2 := Lib.hid (((Below.refl w.heap.size w).alloc (Nat.le_refl _) _).trans q2.2.2.1); clear q2)
  have HN2 : Hid (n2 = n + 0) := Lib.hid (by rw [H2.out.len, HBN.out]; rfl)
  have H20 : Hid (Own w.heap.size 5 .u8 w2 A2 n2 c2 (b ++ List.replicate 0 0)) := Lib.hid (by rw [List.replicate_zero, List.append_nil]; exact H2.out)
  clear H2
  go_loopw [3] (fun oo wr => ∃ (m k c : Nat) (A : Option Addr), m ≤ (16 - n % 16) % 16 ∧ k = n + m ∧ oo = .slice A k c ∧ Hid (Own w.heap.size 5 .u8 wr A k c (b ++ List.replicate m 0)) ∧ Hid (Below w.heap.size w wr)) (fun oo _ => n + 16 - lenW oo)
  case atStart => exact ⟨0, n2, c2, A2, by omega, HN2.out, rfl, H20, B2⟩
  case round =>
    clear HN2 H20 B2
    obtain ⟨m, k, c, A, hm, hk, rfl, HO, HW⟩ := hrel
    by_cases hlt : m < (16 - n % 16) % 16
    · have hne : (k : Int) % 16 ≠ 0 := by omega
      have hk2 : k < 70000 := by omega
      have hsz := HW.out.size
      have HBL := Lib.hid ((Below.refl w.heap.size w).trans HW.out)
      go_wp2_with (at_builtin; go_loud (refine wpList_app (o := ⟨some 13, _, _, _, _, _⟩) elB8 rfl _ _ rfl rfl rfl (HO.out.alloc _) (Rd.newAt (xs := [0]) rfl rfl) rfl ?_ ?_ ?_; (rw [List.length_append, List.length_replicate, HBN.out]; simp <;> omega); (simp <;> omega); intro A9 n9 c9 w9 q9; have H9 := Lib.hid q9.1; have B9 := Lib.hid ((HW.out.alloc hsz _).trans q9.2.2.1); clear q9))
      have hn9 : n9 = n + (m + 1) := by rw [H9.out.len]; simp [HBN.out]
      have HN9 : Hid (Own w.heap.size 5 .u8 w9 A9 n9 c9 (b ++ List.replicate (m + 1) 0)) := Lib.hid (by rw [wh_step]; exact H9.out)
      clear H9 HO HW
      go_wp2_with fail
      go_roundw
      case rel => exact ⟨m + 1, n9, c9, A9, by omega, hn9, rfl, HN9, B9⟩
      case measure => simp [lenW]; omega
    · have hne : (k : Int) % 16 = 0 := by omega
      have hk2 : k < 70000 := by omega
      have HF : Hid (RetOwn 5 .u8 (whL b) w (.returned (.slice A k c)) wr) := Lib.hid (by
        have h := HO.out
        rw [show m = (16 - b.length % 16) % 16 by rw [HBN.out]; omega] at h
        exact ⟨_, _, _, rfl, h, HW.out⟩)
      clear HO HW
      go_wp2_with fail
      go_ret
      exact HF.out
def Z8 : List Int := List.replicate 8 0
theorem make8E (w : World) : (Instr.makeSlice 22 (.int .i64 8) (.int .i64 8)).run Try.prog w = .ok (.slice (some ⟨w.heap.size, 0, none⟩) 8 8) (w.alloc (.cells (Z8.map (Value.int .u8)).toArray 5)) := make_any elB8 8 (by omega) w
attribute [irreducible] Z8
theorem bak8_zero (N : Nat) : bak (byk 8 N) 0 = Z8 := by rw [bak_zero, byk_len]; unfold Z8; rfl
theorem bak8_full (N : Nat) : bak (byk 8 N) 8 = byk 8 N := by have := bak_full (byk 8 N); rwa [byk_len] at this
set_option maxRecDepth 100000 in
set_option maxHeartbeats 4000000 in
theorem reight_any (n : Nat) (w : World) (hn : n < 65536) : Calls Try.prog 47 #[.int .i64 n] w (RetOwn 5 .u8 (byk 8 (8 * n)) w) := by
  obtain ⟨N, hN⟩ : ∃ N, 8 * n = N := ⟨_, rfl⟩
  have hN2 : N < 600000 := by omega
  have hNi : 8 * (n : Int) = (N : Int) := by omega
  have HMK := make8E
  have HL : Hid ((byk 8 N).length = 8) := Lib.hid (byk_len 8 N)
  have HG : Hid (∀ q j, q + j = 7 → (byk 8 N).getD q 0 = ((N / 256 ^ j % 256 : Nat) : Int)) := Lib.hid (fun q j h => by rw [byk_getD 8 N q (by omega), show 8 - 1 - q = j by omega])
  have HP : Hid (∀ j, N / 256 ^ (j + 1) = N / 256 ^ j / 256) := Lib.hid (fun j => by rw [Nat.pow_succ, Nat.div_div_eq_div_mul])
  have OZ : Hid (Own w.heap.size 5 .u8 (w.alloc (.cells (Z8.map (Value.int .u8)).toArray 5)) (some ⟨w.heap.size, 0, none⟩) 8 8 (bak (byk 8 N) 0)) := Lib.hid (by rw [bak8_zero]; exact Own.litAt rfl rfl (by unfold Z8; rfl) (Nat.le_refl _) (by simp [maxLen, Z8]))
  have BZ : Hid (Below w.heap.size w (w.alloc (.cells (Z8.map (Value.int .u8)).toArray 5))) := Lib.hid ((Below.refl w.heap.size w).alloc (Nat.le_refl _) _)
  have HF8 := Lib.hid (bak8_full N)
  have HBS : Hid (∀ q j, q + j = 7 → (bak (byk 8 N) j).set q ((N / 256 ^ j % 256 : Nat) : Int) = bak (byk 8 N) (j + 1)) := Lib.hid (fun q j h => by rw [← HG.out q j h]; exact bak_set (by rw [HL.out]; omega))
  have HBL : Hid (∀ j, j ≤ 8 → (bak (byk 8 N) j).length = 8) := Lib.hid (fun j hj => by rw [bak_len _ (by rw [HL.out]; exact hj), HL.out])
  rw [hN]
  generalize byk 8 N = T at *
  go_enter Try.func47, Try.ntmps47
  go_wp2_with fail
  obtain ⟨g, hg⟩ : ∃ g, w.heap.size = g := ⟨_, rfl⟩
  rw [hg]
  have OZ2 : Hid (Own w.heap.size 5 .u8 (w.alloc (.cells (Z8.map (Value.int .u8)).toArray 5)) (some ⟨g, 0, none⟩) 8 8 (bak T 0)) := Lib.hid (by rw [← hg]; exact OZ.out)
  clear OZ
  go_loopw [4, 5] (fun xx ii wr => ∃ (j y : Nat) (z : Int), j ≤ 8 ∧ z = 7 - (j : Int) ∧ y < 600000 ∧ ii = .int .i64 z ∧ xx = .int .u64 y ∧ Hid (y = N / 256 ^ j) ∧ Hid (Own w.heap.size 5 .u8 wr (some ⟨g, 0, none⟩) 8 8 (bak T j)) ∧ Hid (Below w.heap.size w wr)) (fun _ ii _ => (intOf ii + 1).toNat)
  case atStart => exact ⟨0, N, 7, by omega, by omega, hN2, rfl, by first | rfl | rw [hNi], Lib.hid (by rw [Nat.pow_zero, Nat.div_one]), OZ2, BZ⟩
  case round =>
    clear OZ2 BZ
    obtain ⟨j, y, z, hj, hz, hy, rfl, rfl, HY, HO, HW⟩ := hrel
    by_cases hlt : j < 8
    · obtain ⟨q, hq⟩ : ∃ q : Nat, q + j = 7 := ⟨7 - j, by omega⟩
      obtain rfl : z = (q : Int) := by omega
      have f1 := HO.out.frozen q
      have q1 := HO.out.cell0 (i := q) (by rw [HBL.out j hj]; omega)
      have HS := Lib.hid (HBS.out q j hq)
      rw [← HY.out] at HS
      have hyc : ((y % 256 : Nat) : Int) = (y : Int) % 256 := by omega
      rw [hyc] at HS
      have HY9 : Hid (y / 256 = N / 256 ^ (j + 1)) := Lib.hid (by rw [HP.out, ← HY.out])
      have HO9 : Hid (Own w.heap.size 5 .u8 (wr.setCell ⟨g, q, none⟩ (.int .u8 ((y : Int) % 256))) (some ⟨g, 0, none⟩) 8 8 (bak T (j + 1))) := Lib.hid ((HO.out.set_ q _).cast HS.out)
      have HW9 : Hid (Below w.heap.size w (wr.setCell ⟨g, q, none⟩ (.int .u8 ((y : Int) % 256)))) := Lib.hid (HW.out.setCell (p := ⟨g, q, none⟩) (HO.out.block _ rfl).1 _)
      generalize (bak T j).getD q 0 = old at *
      clear HO HW HS HY hyc hz
      go_wp2_with fail
      clear f1 q1
      go_roundw
      case rel => exact ⟨j + 1, y / 256, (q : Int) - 1, by omega, by omega, by omega, rfl, by go_num, HY9, HO9, HW9⟩
      case measure => simp [intOf] <;> omega
    · obtain rfl : j = 8 := by omega
      obtain rfl : z = -1 := by omega
      have HF : Hid (RetOwn 5 .u8 T w (.returned (.slice (some ⟨g, 0, none⟩) 8 8)) wr) := Lib.hid ⟨_, _, _, rfl, by rw [← HF8.out]; exact HO.out, HW.out⟩
      clear HO HW
      go_wp2_with fail
      go_ret
      exact HF.out
end Go.Proofs.Ytieabfifaigjdaa
/- Layer 9's reference: Tag. Conditions: as each theorem states them. -/
namespace Go.Proofs.Ytieabfifaigjdaa
open Go.RowKit
theorem z16_is : Z16 = z16 := by unfold Z16 z16; rfl
theorem whL_lt (b : List Int) : (whL b).length < b.length + 16 := by unfold whL; rw [List.length_append, List.length_replicate]; omega
theorem fll_is (aad text : List Int) : ((whL aad ++ whL text) ++ byk 8 (8 * aad.length)) ++ byk 8 (8 * text.length) = fllL aad text := by unfold fllL; simp only [List.append_assoc]
theorem tag_is (K nonce aad text : List Int) : tagL K nonce aad text = xaL (hashL (aesL K z16) (fllL aad text)) (ctrL K nonce 1) := rfl
theorem fll_len (aad text : List Int) : (fllL aad text).length < aad.length + text.length + 48 := by
  have h1 := whL_lt aad
  have h2 := whL_lt text
  unfold fllL
  simp only [List.length_append, byk_len]
  omega
attribute [local irreducible] turnL ctrL hashL xaL whL fllL
set_option maxRecDepth 100000 in
set_option maxHeartbeats 4000000 in
theorem rtag_any (A0 A1 A2 A3 A4 : Option Addr) (c0 c1 c2 n c3 m c4 : Nat) (K nonce aad b : List Int) (w : World) (hK : Blk16 K) (hn : nonce.length = 12) (hnb : Byt nonce) (han : aad.length = n) (hab : Byt aad) (hbn : b.length = m) (hbb : Byt b) (hn2 : n < 32000) (hm2 : m < 32000) (hb : Rd w.heap.size .u8 w A0 boxL) (hw : Rd w.heap.size .u8 w A1 (wkL K)) (hr : Rd w.heap.size .u8 w A2 nonce) (hr3 : Rd w.heap.size .u8 w A3 aad) (hr4 : Rd w.heap.size .u8 w A4 b) :
    Calls Try.prog 36 #[.agg #[.slice A0 256 c0, .slice A1 176 c1], .slice A2 12 c2, .slice A3 n c3, .slice A4 m c4] w (RetOwn 5 .u8 (tagL K nonce aad b) w) := by
  have HK := Lib.hid hK
  have HN := Lib.hid hn
  have HNB := Lib.hid hnb
  have HAN := Lib.hid han
  have HBN := Lib.hid hbn
  have HFB := Lib.hid (fllL_byt hab hbb)
  have HFI := Lib.hid (fll_is aad b)
  have HFN := Lib.hid (fll_len aad b)
  have HW1 := Lib.hid (whL_lt aad)
  have HW2 := Lib.hid (whL_lt b)
  have HT := Lib.hid (tag_is K nonce aad b)
  have HC8 : Hid (Blk16 (ctrL K nonce 1)) := Lib.hid (ctrL_ok hK hn hnb 1)
  have HZ8 : Hid (Blk16 (aesL K z16)) := Lib.hid (aesL_ok hK z16_ok)
  have HMK := make16E
  have HB0 := Lib.hid (hb.alloc (Nat.le_refl _) (.cells #[.slice A0 256 c0, .slice A1 176 c1] 52))
  have HW0 := Lib.hid (hw.alloc (Nat.le_refl _) (.cells #[.slice A0 256 c0, .slice A1 176 c1] 52))
  have HR2 := Lib.hid (hr.alloc (Nat.le_refl _) (.cells #[.slice A0 256 c0, .slice A1 176 c1] 52))
  have HR3 := Lib.hid (hr3.alloc (Nat.le_refl _) (.cells #[.slice A0 256 c0, .slice A1 176 c1] 52))
  have HR4 := Lib.hid (hr4.alloc (Nat.le_refl _) (.cells #[.slice A0 256 c0, .slice A1 176 c1] 52))
  have KB := Lib.hid (Blk.new w 52 #[.slice A0 256 c0, .slice A1 176 c1])
  have W1 := Lib.hid ((Below.refl w.heap.size w).alloc (Nat.le_refl _) (.cells #[.slice A0 256 c0, .slice A1 176 c1] 52))
  have hg1 : w.heap.size + 1 = (w.alloc (.cells #[.slice A0 256 c0, .slice A1 176 c1] 52)).heap.size := by simp
  clear hK hn hnb hb hw hr hr3 hr4 hbn hbb han hab
  go_enter Try.func36, Try.ntmps36
  go_wp2_with fail
  obtain ⟨gk, hgk⟩ : ∃ gk, w.heap.size = gk := ⟨_, rfl⟩
  generalize w.alloc (.cells #[.slice A0 256 c0, .slice A1 176 c1] 52) = w1 at *
  rw [hgk]
  rw [hgk] at KB hg1
  refine Calls.mono (rwhole_any A3 n c3 aad _ HAN.out (by omega) (HR3.out.mono (by omega))) ?_
  rintro e w2 ⟨A5, n5, c5, rfl, o5, b5⟩
  have O5 := Lib.hid o5
  have B5 := Lib.hid b5
  clear o5 b5
  go_wp2_with fail
  refine Calls.mono (rwhole_any A4 m c4 b _ HBN.out (by omega) ((HR4.out.mono (by omega)).below B5.out (Nat.le_refl _) |>.mono B5.out.size)) ?_
  rintro e w3 ⟨A6, n6, c6, rfl, o6, b6⟩
  have O5 := Lib.hid (O5.out.below b6)
  have O6 := Lib.hid o6
  have B6 := Lib.hid (B5.out.trans (b6.mono B5.out.size))
  clear o6 b6
  go_wp2_with (at_builtin; go_loud (refine wpList_app (o := ⟨some 17, _, _, _, _, _⟩) elB8 rfl _ _ rfl rfl rfl O5.out O6.out.rd O6.out.len ?_ ?_ ?_; (have h1 := HW1.out; have h2 := HW2.out; rw [HAN.out] at h1; rw [HBN.out] at h2; omega); (exact B6.out.size); intro A7 n7 c7 w7 q7; have O7 := Lib.hid q7.1; have B7 := Lib.hid (B6.out.trans q7.2.2.1); clear q7))
  refine Calls.mono (reight_any n _ (by omega)) ?_
  rintro e w8 ⟨A8, n8, c8, rfl, o8, b8⟩
  have O7 := Lib.hid (O7.out.below b8)
  have O8 := Lib.hid o8
  have B8 := Lib.hid (B7.out.trans (b8.mono B7.out.size))
  have HL8 : Hid ((byk 8 (8 * n)).length = 8) := Lib.hid (byk_len _ _)
  have HL9 : Hid ((byk 8 (8 * m)).length = 8) := Lib.hid (byk_len _ _)
  clear o8 b8
  go_wp2_with (at_builtin; go_loud (refine wpList_app (o := ⟨some 22, _, _, _, _, _⟩) elB8 rfl _ _ rfl rfl rfl O7.out O8.out.rd O8.out.len ?_ ?_ ?_; (have h1 := HW1.out; have h2 := HW2.out; rw [HAN.out] at h1; rw [HBN.out] at h2; rw [List.length_append, HL8.out]; omega); (exact B8.out.size); intro A9 n9 c9 w9 q9; have O9 := Lib.hid q9.1; have B9 := Lib.hid (B8.out.trans q9.2.2.1); clear q9))
  refine Calls.mono (reight_any m _ (by omega)) ?_
  rintro e w10 ⟨A10, n10, c10, rfl, o10, b10⟩
  have O9 := Lib.hid (O9.out.below b10)
  have O10 := Lib.hid o10
  have B10 := Lib.hid (B9.out.trans (b10.mono B9.out.size))
  clear o10 b10
  go_wp2_with (at_builtin; go_loud (refine wpList_app (o := ⟨some 26, _, _, _, _, _⟩) elB8 rfl _ _ rfl rfl rfl O9.out O10.out.rd O10.out.len ?_ ?_ ?_; (have h1 := HW1.out; have h2 := HW2.out; rw [HAN.out] at h1; rw [HBN.out] at h2; rw [List.length_append, List.length_append, HL8.out, HL9.out]; omega); (exact B10.out.size); intro A11 n11 c11 w11 q11; have O11 := Lib.hid q11.1; have B11 := Lib.hid (B10.out.trans q11.2.2.1); clear q11))
  have O12 : Hid (Own w1.heap.size 5 .u8 w11 A11 n11 c11 (fllL aad b)) := Lib.hid (by have h := O11.out; rwa [← HAN.out, ← HBN.out, HFI.out] at h)
  have HN11 : Hid (n11 = (fllL aad b).length) := Lib.hid O12.out.len
  have hsz11 := B11.out.size
  have hn11' : n11 < 65000 := by have := HFN.out; rw [HAN.out, HBN.out, ← HN11.out] at this; omega
  have KL := Lib.hid (KB.out.below B11.out (by omega))
  have HL : ∀ r : BW w11.heap.size w11, (Instr.loadAt 52 (.pointer (some ⟨gk, 0, none⟩))).run Try.prog r.world = .ok (.agg #[.slice A0 256 c0, .slice A1 176 c1]) r.world := fun r => rkey_load (KL.out.below r.below KL.out.lt)
  clear O5 O6 B5 B6 O7 B7 O8 B8 O9 B9 O10 B10 O11
  refine wp_region_mixN w11.heap.size [([0, 3], 1), ([], 2), ([], 4)] [5] (by kernel_rfl) (by kernel_rfl) (by kernel_rfl) (by kernel_rfl) ?_
  try (rw [put_none])
  simp only [pickL, List.map_cons, List.map_nil, List.filterMap_cons, List.filterMap_nil, List.getElem?_cons_succ, List.getElem?_cons_zero]
  refine mixN_cons ?_
  show wpQuiet _ _ _ _ (_ :: _) _
  refine wpQuiet_loadV (o := ⟨some 27, _, _, _, _, _⟩) rfl _ rfl rfl (fun w' hw' => by obtain ⟨r, rfl⟩ := hw'; exact HL r) ?_
  simp only [Act.put, List.setIfInBounds_toArray, List.set_cons_zero, List.set_cons_succ]
  repeat (show wpQuiet _ _ _ _ (_ :: _) _; go_big_quiet_step (fail))
  refine wpQuiet_nil ?_
  show wpList _ _ _ [_] _ _
  go_wp2_with fail
  have B12 : Hid (Below w11.heap.size w11 (w11.alloc (.cells (Z16.map (Value.int .u8)).toArray 5)).drew) := Lib.hid (((Below.refl _ _).alloc (Nat.le_refl _) _).drew)
  have R12 : Hid (Rd (w11.alloc (.cells (Z16.map (Value.int .u8)).toArray 5)).drew.heap.size .u8 (w11.alloc (.cells (Z16.map (Value.int .u8)).toArray 5)).drew (some ⟨w11.heap.size, 0, none⟩) z16) := Lib.hid (by
    rw [← z16_is]
    exact (Rd.new w11 _ _ _).mono (by simp [World.drew]))
  refine MixN.narrow B12.out B12.out.size ?_
  refine mixN_cons ?_
  repeat (show wpQuiet _ _ _ _ (_ :: _) _; go_big_quiet_step (fail))
  refine wpQuiet_nil ?_
  show wpList _ _ _ [_] _ _
  go_wp2_with fail
  have W12 := Lib.hid (B11.out.trans (B12.out.mono hsz11))
  generalize (w11.alloc (.cells (Z16.map (Value.int .u8)).toArray 5)).drew = w12 at *
  refine Calls.mono (rblock_any A0 A1 (some ⟨w11.heap.size, 0, none⟩) c0 c1 16 K _ _ HK.out z16_ok ((HB0.out.mono (by omega)).below W12.out (Nat.le_refl _) |>.mono W12.out.size) ((HW0.out.mono (by omega)).below W12.out (Nat.le_refl _) |>.mono W12.out.size) R12.out) ?_
  rintro e w13 ⟨A13, n13, c13, rfl, o13, b13⟩
  obtain rfl : n13 = 16 := by rw [o13.len, HZ8.out.1]
  have B13 := Lib.hid b13
  have O13 := Lib.hid (o13.mono B12.out.size)
  clear o13 b13 R12
  go_wp2_with fail
  refine MixN.narrow B13.out B13.out.size ?_
  refine mixN_cons ?_
  refine wpQuiet_nil ?_
  show wpList _ _ _ [_] _ _
  go_wp2_with fail
  have hz12 := B12.out.size
  have hz13 := B13.out.size
  have W13 := Lib.hid (W12.out.trans (B13.out.mono W12.out.size))
  refine Calls.mono (rghash_any A13 A11 c13 n11 c11 (aesL K z16) (fllL aad b) _ HZ8.out HFB.out HN11.out.symm (by omega) O13.out.rd ((O12.out.rd.below B12.out (Nat.le_refl _)).mono hz12 |>.below B13.out (Nat.le_refl _) |>.mono hz13)) ?_
  rintro e w14 ⟨A14, n14, c14, rfl, o14, b14⟩
  obtain ⟨g14, rfl, hg14, hg14'⟩ := o14.addr (by rw [o14.len, hashL_len]; decide)
  obtain rfl : n14 = 16 := by rw [o14.len, hashL_len]
  have O14 := Lib.hid (o14.mono (show w1.heap.size ≤ w13.heap.size by omega))
  have B14 := Lib.hid b14
  have W14 := Lib.hid (W13.out.trans (b14.mono W13.out.size))
  have hz14 := b14.size
  clear o14 b14
  go_wp2_with fail
  refine MixN.narrow B14.out B14.out.size ?_
  refine mixN_nil ?_
  repeat (show wpQuiet _ _ _ _ (_ :: _) _; go_big_quiet_step (fail))
  refine wpQuiet_nil ?_
  refine NoPanic.normal ?_
  clear B12 B13 B14 W12 W13 O12 O13 HL KL
  have L32 := Lib.hid (rkey_load (KB.out.below W14.out (by omega)))
  go_wp2_with ((with_reducible (show wpList _ _ _ (⟨some 32, .load _ _, _, _, _, _⟩ :: _) _ _)); refine wpList_loadV (o := ⟨some 32, .load _ _, _, _, _, _⟩) rfl _ rfl rfl (L32.out) ?_)
  refine Calls.mono (rstream_any A0 A1 A2 c0 c1 c2 K nonce 1 _ HK.out HN.out HNB.out (by decide) ((HB0.out.mono (by omega)).below W14.out (Nat.le_refl _) |>.mono W14.out.size) ((HW0.out.mono (by omega)).below W14.out (Nat.le_refl _) |>.mono W14.out.size) ((HR2.out.mono (by omega)).below W14.out (Nat.le_refl _) |>.mono W14.out.size)) ?_
  rintro e w15 ⟨A15, n15, c15, rfl, o15, b15⟩
  obtain ⟨g15, rfl, hg15, hg15'⟩ := o15.addr (by rw [o15.len, HC8.out.1]; decide)
  obtain rfl : n15 = 16 := by rw [o15.len, HC8.out.1]
  have hne : g14 ≠ g15 := by omega
  have HH8 : Hid (Blk16 (hashL (aesL K z16) (fllL aad b))) := Lib.hid ⟨hashL_len _ _, hashL_byt _ _⟩
  generalize hashL (aesL K z16) (fllL aad b) = Y at *
  generalize ctrL K nonce 1 = S at *
  have HXG : Hid (∀ q, (xaL Y S).getD q 0 = xb (Y.getD q 0) (S.getD q 0)) := Lib.hid (fun q => xaL_getD (by rw [HH8.out.1, HC8.out.1]) q)
  have HXL : Hid ((xaL Y S).length = 16) := Lib.hid (by rw [xaL_len (by rw [HH8.out.1, HC8.out.1]), HH8.out.1])
  generalize xaL Y S = X at *
  have HO0 : Hid (Own w1.heap.size 5 .u8 w15 (some ⟨g14, 0, none⟩) 16 c14 (mixL Y X 0)) := Lib.hid (by rw [mix_zero]; exact O14.out.below b15)
  have HS0 : Hid (Own w1.heap.size 5 .u8 w15 (some ⟨g15, 0, none⟩) 16 c15 S) := Lib.hid (o15.mono W14.out.size)
  have HW0' : Hid (Below w1.heap.size w1 w15) := Lib.hid (W14.out.trans (b15.mono W14.out.size))
  clear o15 b15 O14 W14 L32
  go_wp2_with fail
  go_loopw [12] (fun ii wr => ∃ q : Nat, q ≤ 16 ∧ ii = .int .i64 q ∧ Hid (Own w1.heap.size 5 .u8 wr (some ⟨g14, 0, none⟩) 16 c14 (mixL Y X q)) ∧ Hid (Own w1.heap.size 5 .u8 wr (some ⟨g15, 0, none⟩) 16 c15 S) ∧ Hid (Below w1.heap.size w1 wr)) (fun ii _ => 16 - (intOf ii).toNat)
  case atStart => exact ⟨0, by omega, rfl, HO0, HS0, HW0'⟩
  case round =>
    clear HO0 HS0 HW0'
    obtain ⟨q, hq, rfl, HO, HS, HWr⟩ := hrel
    by_cases hlt2 : q < 16
    · have hml : Hid ((mixL Y X q).length = 16) := Lib.hid (by rw [mix_len (by rw [HH8.out.1, HXL.out]) (by rw [HH8.out.1]; omega), HH8.out.1])
      have p1 : ∀ r : BW wr.heap.size wr, r.world.cell? ⟨g14, q, none⟩ = some (.int .u8 (Y.getD q 0)) := fun r => by
        have := (HO.out.below r.below).cell0 (i := q) (by rw [hml.out]; exact hlt2)
        rwa [mix_get (by rw [HH8.out.1, HXL.out]) (Nat.le_refl _)] at this
      have p2 : ∀ r : BW wr.heap.size wr, r.world.cell? ⟨g15, q, none⟩ = some (.int .u8 (S.getD q 0)) := fun r => (HS.out.below r.below).cell0 (by rw [HC8.out.1]; exact hlt2)
      have f1 := HO.out.frozen q
      have q1 : wr.cell? ⟨g14, q, none⟩ = some (.int .u8 (Y.getD q 0)) := p1 ⟨wr, Below.refl _ _⟩
      have HMS := Lib.hid (mix_set (xs := Y) (ys := X) (k := q) (by rw [HH8.out.1, HXL.out]) (by rw [HH8.out.1]; exact hlt2))
      rw [HXG.out q] at HMS
      generalize Y.getD q 0 = x at *
      generalize S.getD q 0 = y at *
      go_wp2_with fail
      refine wp_region_mixOB wr.heap.size [([0, 1, 2, 3, 4, 5, 6, 7, 8, 9, 10, 11], 12)] (by kernel_rfl) (by kernel_rfl) (by kernel_rfl) (by kernel_rfl) (by kernel_rfl) ?_
      try (rw [put_none])
      simp only [pickL, List.map_cons, List.map_nil, List.filterMap_cons, List.filterMap_nil, List.getElem?_cons_succ, List.getElem?_cons_zero]
      refine mixO_cons ?_
      repeat (show wpQuiet _ _ _ _ (_ :: _) _; go_big_quiet_step (fail))
      refine wpQuiet_nil ?_
      show wpList _ _ _ [_] _ _
      go_wp2_with fail
      refine MixO.last ?_
      refine mixO_nil ?_
      refine wpQuiet_nil ?_
      refine NoPanic.normal ?_
      have HO9 : Hid (Own w1.heap.size 5 .u8 (wr.drew.setCell ⟨g14, q, none⟩ (.int .u8 (bits .xor .u8 x y))) (some ⟨g14, 0, none⟩) 16 c14 (mixL Y X (q + 1))) := Lib.hid ((Own.set_ (w := wr.drew) HO.out q _).cast HMS.out)
      have HS9 : Hid (Own w1.heap.size 5 .u8 (wr.drew.setCell ⟨g14, q, none⟩ (.int .u8 (bits .xor .u8 x y))) (some ⟨g15, 0, none⟩) 16 c15 S) := Lib.hid (Own.far (w := wr.drew) HS.out (Ne.symm hne) _)
      have HW9 : Hid (Below w1.heap.size w1 (wr.drew.setCell ⟨g14, q, none⟩ (.int .u8 (bits .xor .u8 x y)))) := Lib.hid (HWr.out.drew.setCell (p := ⟨g14, q, none⟩) (HO.out.block _ rfl).1 _)
      clear p1 p2 f1 q1 HMS hml
      go_wp2_with fail
      go_roundw
      case rel => exact ⟨q + 1, by omega, by go_num, HO9, HS9, HW9⟩
      case measure => simp [intOf]; omega
    · have HF : Hid (RetOwn 5 .u8 X w (.returned (.slice (some ⟨g14, 0, none⟩) 16 c14)) wr) := Lib.hid (by
        have h := HO.out
        rw [show q = X.length by rw [HXL.out]; omega, mix_full (by rw [HH8.out.1, HXL.out])] at h
        exact ⟨_, _, _, rfl, h.mono (by omega), W1.out.trans (HWr.out.mono (by omega))⟩)
      clear HO HS HWr
      go_wp2_with fail
      go_ret
      rw [HT.out]
      exact HF.out
end Go.Proofs.Ytieabfifaigjdaa
/- Layer 9's reference: Seal, Open. Conditions: as each theorem states them. -/
namespace Go.Proofs.Ytieabfifaigjdaa
open Go.RowKit
theorem gseal_is (K nonce aad b : List Int) : gsealL K nonce aad b = turnL K nonce b ++ tagL K nonce aad (turnL K nonce b) := rfl
theorem str_same (X : List Int) : ((strOfNums X).toList == (strOfNums X).toList) = true := by simp
theorem str_other {X Y : List Int} (hX : Byt X) (hY : Byt Y) (h : X ≠ Y) : ((strOfNums X).toList == (strOfNums Y).toList) = false := by rw [str_eq hX hY]; simpa using h
attribute [local irreducible] turnL tagL gopenL
set_option maxRecDepth 100000 in
set_option maxHeartbeats 4000000 in
theorem rgseal_any (A0 A1 A2 A3 A4 : Option Addr) (c0 c1 c2 n c3 m c4 : Nat) (K nonce aad b : List Int) (w : World) (hK : Blk16 K) (hn : nonce.length = 12) (hnb : Byt nonce) (han : aad.length = n) (hab : Byt aad) (hbn : b.length = m) (hbb : Byt b) (hn2 : n < 32000) (hm2 : m < 32000) (hb : Rd w.heap.size .u8 w A0 boxL) (hw : Rd w.heap.size .u8 w A1 (wkL K)) (hr : Rd w.heap.size .u8 w A2 nonce) (hr3 : Rd w.heap.size .u8 w A3 aad) (hr4 : Rd w.heap.size .u8 w A4 b) :
    Calls Try.prog 22 #[.agg #[.slice A0 256 c0, .slice A1 176 c1], .slice A2 12 c2, .slice A3 n c3, .slice A4 m c4] w (RetOwn 5 .u8 (gsealL K nonce aad b) w) := by
  have HK := Lib.hid hK
  have HN := Lib.hid hn
  have HNB := Lib.hid hnb
  have HAN := Lib.hid han
  have HAB := Lib.hid hab
  have HBN := Lib.hid hbn
  have HBB := Lib.hid hbb
  have HG := Lib.hid (gseal_is K nonce aad b)
  have HTL : Hid ((turnL K nonce b).length = m) := Lib.hid (by rw [turnL_len, hbn])
  have HTB := Lib.hid (turnL_byt K nonce b)
  have HGL : Hid ((tagL K nonce aad (turnL K nonce b)).length = 16) := Lib.hid (tagL_len hK hn hnb _ _)
  have HB0 := Lib.hid (hb.alloc (Nat.le_refl _) (.cells #[.slice A0 256 c0, .slice A1 176 c1] 52))
  have HW0 := Lib.hid (hw.alloc (Nat.le_refl _) (.cells #[.slice A0 256 c0, .slice A1 176 c1] 52))
  have HR2 := Lib.hid (hr.alloc (Nat.le_refl _) (.cells #[.slice A0 256 c0, .slice A1 176 c1] 52))
  have HR3 := Lib.hid (hr3.alloc (Nat.le_refl _) (.cells #[.slice A0 256 c0, .slice A1 176 c1] 52))
  have HR4 := Lib.hid (hr4.alloc (Nat.le_refl _) (.cells #[.slice A0 256 c0, .slice A1 176 c1] 52))
  have KB := Lib.hid (Blk.new w 52 #[.slice A0 256 c0, .slice A1 176 c1])
  have W1 := Lib.hid ((Below.refl w.heap.size w).alloc (Nat.le_refl _) (.cells #[.slice A0 256 c0, .slice A1 176 c1] 52))
  have hg1 : w.heap.size + 1 = (w.alloc (.cells #[.slice A0 256 c0, .slice A1 176 c1] 52)).heap.size := by simp
  clear hK hn hnb hb hw hr hr3 hr4 hbn hbb han hab
  go_enter Try.func22, Try.ntmps22
  go_wp2_with ((with_reducible (show wpList _ _ _ (⟨some 10, .load _ _, _, _, _, _⟩ :: _) _ _)); refine wpList_loadV (o := ⟨some 10, .load _ _, _, _, _, _⟩) rfl _ rfl rfl (rkey_load KB.out) ?_)
  obtain ⟨gk, hgk⟩ : ∃ gk, w.heap.size = gk := ⟨_, rfl⟩
  generalize w.alloc (.cells #[.slice A0 256 c0, .slice A1 176 c1] 52) = w1 at *
  rw [hgk]
  rw [hgk] at KB hg1
  refine Calls.mono (rgturn_any A0 A1 A2 A4 c0 c1 c2 m c4 K nonce b _ HK.out HN.out HNB.out HBN.out HBB.out (by omega) (HB0.out.mono (by omega)) (HW0.out.mono (by omega)) (HR2.out.mono (by omega)) (HR4.out.mono (by omega))) ?_
  rintro e w2 ⟨A5, n5, c5, rfl, o5, b5⟩
  obtain rfl : n5 = m := by rw [o5.len, HTL.out]
  have O5 := Lib.hid o5
  have B5 := Lib.hid b5
  have K5 := Lib.hid (KB.out.below b5 (by omega))
  have hz5 := b5.size
  clear o5 b5
  go_wp2_with fail
  have HL : ∀ r : CW (fun v : World => Blk v gk 52 #[.slice A0 256 c0, .slice A1 176 c1]), (Instr.loadAt 52 (.pointer (some ⟨gk, 0, none⟩))).run Try.prog r.world = .ok (.agg #[.slice A0 256 c0, .slice A1 176 c1]) r.world := fun r => rkey_load r.holds
  have hne2 : Nonempty (CW (fun v : World => Blk v gk 52 #[.slice A0 256 c0, .slice A1 176 c1])) := CW.inh K5.out
  refine wp_region_mix_class (fun v : World => Blk v gk 52 #[.slice A0 256 c0, .slice A1 176 c1]) [([1, 3, 4, 5, 6], 0), ([], 2), ([], 7), ([], 8)] [9] (by kernel_rfl) (by kernel_rfl) (by kernel_rfl) (by kernel_rfl) K5.out.drew ?_
  simp only [pickL, List.map_cons, List.map_nil, List.filterMap_cons, List.filterMap_nil, List.getElem?_cons_succ, List.getElem?_cons_zero]
  refine mixS_cons ?_
  show wpQuiet _ _ _ _ (_ :: _) _
  go_big_quiet_step (fail)
  show wpQuiet _ _ _ _ (_ :: _) _
  refine wpQuiet_loadV (o := ⟨some 17, _, _, _, _, _⟩) rfl _ rfl rfl (fun w' hw' => by obtain ⟨r, rfl⟩ := hw'; exact HL r) ?_
  simp only [Act.put, List.setIfInBounds_toArray, List.set_cons_zero, List.set_cons_succ]
  repeat (show wpQuiet _ _ _ _ (_ :: _) _; go_big_quiet_step (fail))
  refine wpQuiet_nil ?_
  show wpList _ _ _ [_] _ _
  go_wp2_with fail
  have B6 : Hid (Below w2.heap.size w2 (w2.alloc (.cells #[] 5)).drew) := Lib.hid (((Below.refl _ _).alloc (Nat.le_refl _) _).drew)
  have O6 : Hid (Own w2.heap.size 5 .u8 (w2.alloc (.cells #[] 5)).drew (some ⟨w2.heap.size, 0, none⟩) 0 0 []) := Lib.hid (Own.drew (Own.litAt rfl rfl rfl (Nat.le_refl _) (Nat.zero_le _)))
  have R6 := Lib.hid ((O5.out.below B6.out).rd)
  refine MixQ.class (K5.out.below B6.out K5.out.lt) ?_
  refine mixS_cons ?_
  refine wpQuiet_nil ?_
  show wpList _ _ _ [_] _ _
  go_wp2_with (at_builtin; go_loud (refine wpList_app (o := ⟨some 16, _, _, _, _, _⟩) elB8 rfl _ _ rfl rfl rfl O6.out R6.out HTL.out.symm ?_ ?_ ?_; (rw [HTL.out]; simp <;> omega); (simp); intro A7 n7 c7 w7 q7; have O7 := Lib.hid q7.1; have B7 := Lib.hid (B6.out.trans q7.2.2.1); clear q7))
  have W7 := Lib.hid (B5.out.trans (B7.out.mono hz5))
  have hz7 := B7.out.size
  have K7 := Lib.hid (K5.out.below B7.out K5.out.lt)
  have R7 := Lib.hid ((O5.out.below B7.out).rd)
  refine MixQ.class K7.out ?_
  refine mixS_cons ?_
  refine wpQuiet_nil ?_
  show wpList _ _ _ [_] _ _
  go_wp2_with fail
  refine Calls.mono (rtag_any A0 A1 A2 A3 A5 c0 c1 c2 n c3 _ c5 K nonce aad (turnL K nonce b) _ HK.out HN.out HNB.out HAN.out HAB.out HTL.out HTB.out hn2 (by omega) ((HB0.out.mono (by omega)).below W7.out (Nat.le_refl _) |>.mono W7.out.size) ((HW0.out.mono (by omega)).below W7.out (Nat.le_refl _) |>.mono W7.out.size) ((HR2.out.mono (by omega)).below W7.out (Nat.le_refl _) |>.mono W7.out.size) ((HR3.out.mono (by omega)).below W7.out (Nat.le_refl _) |>.mono W7.out.size) R7.out) ?_
  rintro e w8 ⟨A8, n8, c8, rfl, o8, b8⟩
  have O8 := Lib.hid o8
  have O7 := Lib.hid (O7.out.below b8)
  have B8 := Lib.hid (B7.out.trans (b8.mono hz7))
  have K8 := Lib.hid (K7.out.below b8 K7.out.lt)
  have hz8 := b8.size
  clear o8 b8
  go_wp2_with fail
  refine MixQ.class K8.out ?_
  refine mixS_cons ?_
  refine wpQuiet_nil ?_
  show wpList _ _ _ [_] _ _
  go_wp2_with (at_builtin; go_loud (refine wpList_app (o := ⟨some 22, _, _, _, _, _⟩) elB8 rfl _ _ rfl rfl rfl O7.out O8.out.rd O8.out.len ?_ ?_ ?_; (rw [List.nil_append, HTL.out, HGL.out]; omega); (exact B8.out.size); intro A9 n9 c9 w9 q9; have O9 := Lib.hid q9.1; have B9 := Lib.hid (B8.out.trans q9.2.2.1); clear q9))
  have K9 := Lib.hid (K5.out.below B9.out K5.out.lt)
  refine MixQ.class K9.out ?_
  refine mixS_nil ?_
  repeat (show wpQuiet _ _ _ _ (_ :: _) _; go_big_quiet_step (fail))
  refine wpQuiet_nil ?_
  refine NoPanic.normal ?_
  have HF : Hid (RetOwn 5 .u8 (gsealL K nonce aad b) w (.returned (.slice A9 n9 c9)) w9) := Lib.hid (by
    rw [HG.out]
    exact ⟨_, _, _, rfl, by have h := O9.out; rw [List.nil_append] at h; exact h.mono (by omega), W1.out.trans ((B5.out.trans (B9.out.mono hz5)).mono (by omega))⟩)
  clear O5 O6 R6 O7 O8 O9 hne2 HL
  go_wp2_with fail
  go_ret
  exact HF.out
end Go.Proofs.Ytieabfifaigjdaa
