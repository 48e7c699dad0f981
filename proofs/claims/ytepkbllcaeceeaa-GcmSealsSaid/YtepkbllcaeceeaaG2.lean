/- Blocks of sixteen bytes as numbers; the hash of layer 9 as a plain function on lists of bytes: it is a sum. Conditions: as each theorem states them. -/
import Derived.Test.YtepkbllcaeceeaaE1
import Derived.Test.YtepkbllcaeceeaaG1
namespace Go.Proofs.Ytepkbllcaeceeaa
open Go.RowKit
/-- the number of a list of bytes, the highest first -/
def beF (n : Nat) : List Int → Nat
  | [] => n
  | x :: r => beF (256 * n + x.toNat) r
def beN (l : List Int) : Nat := beF 0 l
/-- the k lowest bytes of a number, the highest first -/
def byk : Nat → Nat → List Int
  | 0, _ => []
  | k + 1, n => byk k (n / 256) ++ [((n % 256 : Nat) : Int)]
theorem beF_append (l m : List Int) : ∀ n, beF n (l ++ m) = beF (beF n l) m := by
  induction l with
  | nil => intro n; rfl
  | cons x r ih => intro n; exact ih _
theorem beF_eq (l : List Int) : ∀ n, beF n l = n * 256 ^ l.length + beF 0 l := by
  induction l with
  | nil => intro n; simp [beF]
  | cons x r ih =>
    intro n
    rw [beF, beF, ih, ih (256 * 0 + x.toNat), List.length_cons, Nat.pow_succ, Nat.mul_zero, Nat.zero_add, Nat.add_mul]
    rw [Nat.mul_comm 256 n, Nat.mul_assoc, Nat.mul_comm 256 (256 ^ r.length), Nat.add_assoc]
theorem beN_append (l m : List Int) : beN (l ++ m) = beN l * 256 ^ m.length + beN m := by unfold beN; rw [beF_append, beF_eq]
theorem beN_snoc (l : List Int) (x : Int) : beN (l ++ [x]) = 256 * beN l + x.toNat := by unfold beN; rw [beF_append]; rfl
theorem beN_nil : beN [] = 0 := rfl
theorem byk_len : ∀ (k n : Nat), (byk k n).length = k
  | 0, _ => rfl
  | k + 1, n => by rw [byk, List.length_append, byk_len k]; rfl
theorem byk_byt : ∀ (k n : Nat), Byt (byk k n)
  | 0, _ => Byt.nil
  | k + 1, n => (byk_byt k _).append (fun x hx => by rw [List.mem_singleton] at hx; omega)
theorem beN_byk : ∀ (k n : Nat), beN (byk k n) = n % 256 ^ k
  | 0, n => by rw [Nat.pow_zero, Nat.mod_one]; rfl
  | k + 1, n => by
    rw [byk, beN_snoc, beN_byk k, Int.toNat_natCast, Nat.pow_succ, Nat.mul_comm (256 ^ k) 256, Nat.mod_mul]
    omega
theorem snoc_of {α : Type} (l : List α) {n : Nat} (h : l.length = n + 1) : ∃ (m : List α) (x : α), l = m ++ [x] ∧ m.length = n := by
  rcases List.eq_nil_or_concat l with h0 | ⟨m, x, h0⟩
  · subst h0; cases h
  · exact ⟨m, x, by simpa using h0, by subst h0; simpa using h⟩
theorem byk_beN : ∀ (k : Nat) (l : List Int), l.length = k → Byt l → byk k (beN l) = l
  | 0, l, h, _ => by rw [List.eq_nil_of_length_eq_zero h]; rfl
  | k + 1, l, h, hb => by
    obtain ⟨m, x, rfl, hm⟩ := snoc_of l h
    have hx := hb x (by simp)
    have hmb : Byt m := fun y hy => hb y (by simp [hy])
    rw [beN_snoc, byk, show (256 * beN m + x.toNat) / 256 = beN m by omega, show (256 * beN m + x.toNat) % 256 = x.toNat by omega, byk_beN k m hm hmb]
    congr 1
    rw [Int.toNat_of_nonneg hx.1]
theorem beN_lt : ∀ (k : Nat) (l : List Int), l.length = k → Byt l → beN l < 256 ^ k
  | 0, l, h, _ => by rw [List.eq_nil_of_length_eq_zero h]; decide
  | k + 1, l, h, hb => by
    obtain ⟨m, x, rfl, hm⟩ := snoc_of l h
    have hx := hb x (by simp)
    have := beN_lt k m hm (fun y hy => hb y (by simp [hy]))
    rw [beN_snoc, Nat.pow_succ]
    omega
theorem beN_inj {k : Nat} {l m : List Int} (hl : l.length = k) (hm : m.length = k) (hbl : Byt l) (hbm : Byt m) (h : beN l = beN m) : l = m := by
  rw [← byk_beN k l hl hbl, h, byk_beN k m hm hbm]
theorem byk_getD : ∀ (k n i : Nat), i < k → (byk k n).getD i 0 = ((n / 256 ^ (k - 1 - i) % 256 : Nat) : Int)
  | 0, _, _, h => absurd h (by omega)
  | k + 1, n, i, h => by
    rw [byk, List.getD_eq_getElem?_getD]
    rcases Nat.lt_or_ge i k with hi | hi
    · rw [List.getElem?_append_left (by rw [byk_len]; exact hi), ← List.getD_eq_getElem?_getD, byk_getD k _ i hi, Nat.div_div_eq_div_mul]
      rw [show k + 1 - 1 - i = (k - 1 - i) + 1 by omega, Nat.pow_succ, Nat.mul_comm]
    · have : i = k := by omega
      subst this
      rw [List.getElem?_append_right (by rw [byk_len]; exact Nat.le_refl _), byk_len, Nat.sub_self]
      rw [show i + 1 - 1 - i = 0 by omega, Nat.pow_zero, Nat.div_one]
      rfl
theorem xor_256 (a b : Nat) : (a ^^^ b) / 256 = a / 256 ^^^ b / 256 ∧ (a ^^^ b) % 256 = (a % 256 ^^^ b % 256) :=
  ⟨Nat.xor_div_two_pow (n := 8), Nat.xor_mod_two_pow (n := 8)⟩
theorem xb_cast {a b : Nat} (ha : a < 256) (hb : b < 256) : xb (a : Int) (b : Int) = ((a ^^^ b : Nat) : Int) := by
  rw [xb_nat ⟨by omega, by omega⟩ ⟨by omega, by omega⟩]; rfl
/-- bytes, added one by one -/
def xaL (l m : List Int) : List Int := l.zipWith xb m
theorem xaL_len {l m : List Int} (h : l.length = m.length) : (xaL l m).length = l.length := by unfold xaL; rw [List.length_zipWith, h, Nat.min_self]
theorem xaL_byt (l m : List Int) : Byt (xaL l m) := fun x hx => by
  unfold xaL at hx
  obtain ⟨i, hi, rfl⟩ := List.mem_iff_getElem.1 hx
  rw [List.getElem_zipWith]
  exact xb_u _ _
theorem byk_xor : ∀ (k a b : Nat), byk k (a ^^^ b) = xaL (byk k a) (byk k b)
  | 0, _, _ => rfl
  | k + 1, a, b => by
    unfold xaL
    rw [byk, byk, byk, (xor_256 a b).1, (xor_256 a b).2, byk_xor k, List.zipWith_append (by rw [byk_len, byk_len])]
    show xaL _ _ ++ _ = xaL _ _ ++ _
    congr 1
    show [_] = [_]
    rw [xb_cast (Nat.mod_lt _ (by decide)) (Nat.mod_lt _ (by decide))]
theorem pow256 (k : Nat) : 256 ^ k = 2 ^ (8 * k) := by rw [Nat.pow_mul]
theorem xor_lt256 {k a b : Nat} (ha : a < 256 ^ k) (hb : b < 256 ^ k) : a ^^^ b < 256 ^ k := by rw [pow256] at *; exact Nat.xor_lt_two_pow ha hb
theorem beN_xor {l m : List Int} (h : l.length = m.length) (hl : Byt l) (hm : Byt m) : beN (xaL l m) = beN l ^^^ beN m := by
  have h1 := byk_beN l.length l rfl hl
  have h2 := byk_beN l.length m h.symm hm
  have h3 := byk_xor l.length (beN l) (beN m)
  rw [h1, h2] at h3
  rw [← h3, beN_byk, Nat.mod_eq_of_lt]
  exact xor_lt256 (beN_lt _ l rfl hl) (beN_lt _ m h.symm hm)
/-- sixteen bytes -/
def b16 (n : Nat) : List Int := byk 16 n
theorem b16_len (n : Nat) : (b16 n).length = 16 := byk_len 16 n
theorem b16_byt (n : Nat) : Byt (b16 n) := byk_byt 16 n
theorem p16 : 256 ^ 16 = 340282366920938463463374607431768211456 := by decide +kernel
theorem beN_b16 {n : Nat} (h : G128 n) : beN (b16 n) = n := by unfold b16; rw [beN_byk]; unfold G128 at h; rw [p16]; exact Nat.mod_eq_of_lt h
theorem b16_beN {l : List Int} (h : l.length = 16) (hb : Byt l) : b16 (beN l) = l := byk_beN 16 l h hb
theorem beN_ok {l : List Int} (h : l.length = 16) (hb : Byt l) : G128 (beN l) := by have := beN_lt 16 l h hb; rw [p16] at this; exact this
theorem b16_xor (a b : Nat) : b16 (a ^^^ b) = xaL (b16 a) (b16 b) := byk_xor 16 a b
theorem b16_inj {a b : Nat} (ha : G128 a) (hb : G128 b) (h : b16 a = b16 b) : a = b := by rw [← beN_b16 ha, h, beN_b16 hb]
/-- noughts behind -/
def pad16 (l : List Int) : List Int := l ++ List.replicate (16 - l.length) 0
theorem pad16_len {l : List Int} (h : l.length ≤ 16) : (pad16 l).length = 16 := by unfold pad16; simp; omega
theorem pad16_byt {l : List Int} (h : Byt l) : Byt (pad16 l) := h.append fun x hx => by have := (List.mem_replicate.1 hx).2; omega
/-- the k-th piece of sixteen bytes -/
def pc (b : List Int) (k : Nat) : List Int := pad16 ((b.drop (16 * k)).take 16)
theorem pc_len (b : List Int) (k : Nat) : (pc b k).length = 16 := pad16_len (by rw [List.length_take]; omega)
theorem pc_byt {b : List Int} (h : Byt b) (k : Nat) : Byt (pc b k) := pad16_byt ((h.drop _).take _)
theorem pc_getD (b : List Int) (k : Nat) {i : Nat} (hi : i < 16) : (pc b k).getD i 0 = b.getD (16 * k + i) 0 := by
  unfold pc pad16
  simp only [List.getD_eq_getElem?_getD]
  rcases Nat.lt_or_ge i ((b.drop (16 * k)).take 16).length with h | h
  · rw [List.getElem?_append_left h, List.getElem?_take, if_pos hi, List.getElem?_drop]
  · rw [List.getElem?_append_right h, List.getElem?_replicate]
    rw [List.length_take, List.length_drop] at h
    rw [List.getElem?_eq_none (l := b) (by omega)]
    split <;> rfl
theorem ext16' {s t : List Int} (hs : s.length = 16) (ht : t.length = 16) (h : ∀ i, i < 16 → s.getD i 0 = t.getD i 0) : s = t := by
  apply List.ext_getElem (by omega)
  intro i h1 h2
  have := h i (by omega)
  simpa [List.getD_eq_getElem?_getD, List.getElem?_eq_getElem h1, List.getElem?_eq_getElem h2] using this
theorem xaL_getD {l m : List Int} (h : l.length = m.length) (i : Nat) : (xaL l m).getD i 0 = xb (l.getD i 0) (m.getD i 0) := by
  unfold xaL
  rcases Nat.lt_or_ge i l.length with hi | hi
  · simp only [List.getD_eq_getElem?_getD]
    rw [List.getElem?_eq_getElem (by rw [List.length_zipWith]; omega), List.getElem_zipWith, List.getElem?_eq_getElem hi, List.getElem?_eq_getElem (by omega)]
    rfl
  · simp only [List.getD_eq_getElem?_getD]
    rw [List.getElem?_eq_none (by rw [List.length_zipWith]; omega), List.getElem?_eq_none hi, List.getElem?_eq_none (by omega)]
    rfl
theorem pc_xor {a b : List Int} (h : a.length = b.length) (k : Nat) : pc (xaL a b) k = xaL (pc a k) (pc b k) := by
  refine ext16' (pc_len _ _) (by rw [xaL_len (by rw [pc_len, pc_len]), pc_len]) fun i hi => ?_
  rw [pc_getD _ _ hi, xaL_getD h, xaL_getD (by rw [pc_len, pc_len]), pc_getD _ _ hi, pc_getD _ _ hi]
/-- the hash behind k pieces -/
def ghK (h : Nat) (b : List Int) : Nat → Nat
  | 0 => 0
  | k + 1 => tm (ghK h b k ^^^ beN (pc b k)) h
def nBlk (n : Nat) : Nat := (n + 15) / 16
def hashL (h b : List Int) : List Int := b16 (ghK (beN h) b (nBlk b.length))
theorem ghK_ok {h : Nat} (hh : G128 h) (b : List Int) : ∀ k, G128 (ghK h b k)
  | 0 => G128.zero
  | _ + 1 => tm_ok hh
theorem ghK_xor {h : Nat} {a b : List Int} (hl : a.length = b.length) (ha : Byt a) (hb : Byt b) : ∀ k, ghK h (xaL a b) k = ghK h a k ^^^ ghK h b k
  | 0 => by simp [ghK]
  | k + 1 => by
    rw [ghK, ghK_xor hl ha hb k, pc_xor hl, beN_xor (by rw [pc_len, pc_len]) (pc_byt ha k) (pc_byt hb k), xsw, tm_l]
    rfl
theorem hashL_len (h b : List Int) : (hashL h b).length = 16 := b16_len _
theorem hashL_byt (h b : List Int) : Byt (hashL h b) := b16_byt _
/-- the hash is a sum -/
theorem hashL_xor {h a b : List Int} (hl : a.length = b.length) (ha : Byt a) (hb : Byt b) : hashL h (xaL a b) = xaL (hashL h a) (hashL h b) := by
  unfold hashL
  rw [xaL_len hl, ghK_xor hl ha hb, b16_xor, hl]
/-- the hash tells two texts of one length apart that differ in one piece alone -/
theorem ghK_apart {h : Nat} (hh : G128 h) (h0 : h ≠ 0) {a b : List Int} (ha : Byt a) (hb : Byt b) {j : Nat} (hs : ∀ k, k ≠ j → pc a k = pc b k) (hd : pc a j ≠ pc b j) : ∀ k, (k ≤ j → ghK h a k = ghK h b k) ∧ (j < k → ghK h a k ≠ ghK h b k)
  | 0 => ⟨fun _ => rfl, fun h => absurd h (by omega)⟩
  | k + 1 => by
    obtain ⟨i1, i2⟩ := ghK_apart hh h0 ha hb hs hd k
    have ga := ghK_ok hh a k
    have gb := ghK_ok hh b k
    have pa := beN_ok (pc_len a k) (pc_byt ha k)
    have pb := beN_ok (pc_len b k) (pc_byt hb k)
    refine ⟨fun hk => ?_, fun hk e => ?_⟩
    · rw [ghK, ghK, i1 (by omega), hs k (by omega)]
    · rw [ghK, ghK] at e
      have e2 := tm_inj (ga.xor pa) (gb.xor pb) hh h0 e
      rcases Nat.lt_or_ge j k with hjk | hjk
      · rw [hs k (by omega)] at e2
        have e3 := congrArg (· ^^^ beN (pc b k)) e2
        simp only [Nat.xor_assoc, Nat.xor_self, Nat.xor_zero] at e3
        exact i2 hjk e3
      · have : k = j := by omega
        subst this
        rw [i1 (Nat.le_refl _)] at e2
        have e3 := congrArg (ghK h b k ^^^ ·) e2
        simp only [xclN] at e3
        exact hd (beN_inj (pc_len a k) (pc_len b k) (pc_byt ha k) (pc_byt hb k) e3)
theorem hashL_apart {h a b : List Int} (hl : h.length = 16) (hh : Byt h) (h0 : beN h ≠ 0) (hab : a.length = b.length) (ha : Byt a) (hb : Byt b) {j : Nat} (hj : j < nBlk a.length) (hs : ∀ k, k ≠ j → pc a k = pc b k) (hd : pc a j ≠ pc b j) : hashL h a ≠ hashL h b := fun e => by
  unfold hashL at e
  have hg := beN_ok hl hh
  have e2 := b16_inj (ghK_ok hg a _) (ghK_ok hg b _) e
  rw [← hab] at e2
  exact (ghK_apart hg h0 ha hb hs hd (nBlk a.length)).2 hj e2
attribute [irreducible] byk b16 beN ghK
end Go.Proofs.Ytepkbllcaeceeaa
