
/- The sum of layer 6 as a plain function on lists of bytes: words, rounds, blocks, padding. Conditions: as each theorem states them. -/
import Derived.Test.YtibjafkclojimaaB
import Derived.Test.YtibjafkclojimaaN
namespace Go.Proofs.Ytibjafkclojimaa
open Go.RowKit

def ad (a b : Int) : Int := IntKind.u32.wrap (a + b)
def rotr (n : Nat) (x : Int) : Int := x / (2 ^ n : Nat) + x % (2 ^ n : Nat) * (2 ^ (32 - n) : Nat)
def xr (a b : Int) : Int := bits .xor .u32 a b
def an (a b : Int) : Int := bits .and .u32 a b
def sg0 (x : Int) : Int := xr (xr (rotr 7 x) (rotr 18 x)) (x / 8)
def sg1 (x : Int) : Int := xr (xr (rotr 17 x) (rotr 19 x)) (x / 1024)
def bs0 (a : Int) : Int := xr (xr (rotr 2 a) (rotr 13 a)) (rotr 22 a)
def bs1 (e : Int) : Int := xr (xr (rotr 6 e) (rotr 11 e)) (rotr 25 e)
def chz (e f g : Int) : Int := xr (an e f) (an (4294967295 - e) g)
def maj (a b c : Int) : Int := xr (xr (an a b) (an a c)) (an b c)
/-- a word -/
def U32 (x : Int) : Prop := 0 ≤ x ∧ x < 4294967296
theorem ad_u (a b : Int) : U32 (ad a b) := by unfold U32 ad; rw [wrapu32]; omega
theorem xr_u (a b : Int) : U32 (xr a b) := by have h1 := bits_lo_u32 .xor a b; have h2 := bits_hi_u32 .xor a b; unfold U32 xr; omega
theorem an_u (a b : Int) : U32 (an a b) := by have h1 := bits_lo_u32 .and a b; have h2 := bits_hi_u32 .and a b; unfold U32 an; omega
theorem rotr_u {n : Nat} {x : Int} (hn : n ≤ 32) (h : U32 x) : U32 (rotr n x) := by
  unfold U32 rotr at *
  obtain ⟨m, rfl⟩ := Int.eq_ofNat_of_zero_le h.1
  have hp : (2 ^ n) * (2 ^ (32 - n)) = 4294967296 := by rw [← Nat.pow_add, show n + (32 - n) = 32 by omega]
  have h1 : m / 2 ^ n < 2 ^ (32 - n) := Nat.div_lt_of_lt_mul (by rw [hp]; omega)
  have h2 : m % 2 ^ n < 2 ^ n := Nat.mod_lt _ (Nat.pos_of_ne_zero (by simp))
  have h3 : m % 2 ^ n * 2 ^ (32 - n) + 2 ^ (32 - n) ≤ 2 ^ n * 2 ^ (32 - n) := by
    have := Nat.mul_le_mul_right (2 ^ (32 - n)) h2
    rw [Nat.succ_mul] at this
    exact this
  rw [hp] at h3
  rw [← Int.natCast_ediv, ← Int.natCast_emod, ← Int.natCast_mul, ← Int.natCast_add]
  generalize m % 2 ^ n * 2 ^ (32 - n) = C at *
  generalize m / 2 ^ n = A at *
  generalize 2 ^ (32 - n) = E at *
  clear hp h2
  omega

/-- the t-th word of a block -/
def be4 (bs : List Int) (t : Nat) : Int := bs.getD (4 * t) 0 * 16777216 + bs.getD (4 * t + 1) 0 * 65536 + bs.getD (4 * t + 2) 0 * 256 + bs.getD (4 * t + 3) 0
theorem be4_u {bs : List Int} (h : Byt bs) (t : Nat) : U32 (be4 bs t) := by
  unfold be4 U32
  have := h.getD (4 * t)
  have := h.getD (4 * t + 1)
  have := h.getD (4 * t + 2)
  have := h.getD (4 * t + 3)
  omega
def nxt (w : List Int) (n : Nat) : Int := ad (ad (ad (w.getD n 0) (sg0 (w.getD (n + 1) 0))) (w.getD (n + 9) 0)) (sg1 (w.getD (n + 14) 0))
def sch (bs : List Int) : Nat → List Int
  | 0 => (List.range 16).map (be4 bs)
  | n + 1 => sch bs n ++ [nxt (sch bs n) n]
theorem sch_len (bs : List Int) (n : Nat) : (sch bs n).length = 16 + n := by
  induction n with
  | zero => simp [sch]
  | succ n ih => simp [sch, ih]; omega
theorem getD_append_lt {xs ys : List Int} {i : Nat} (h : i < xs.length) : (xs ++ ys).getD i 0 = xs.getD i 0 := by
  rw [List.getD_eq_getElem?_getD, List.getElem?_append_left h, List.getD_eq_getElem?_getD]
theorem sch_pre (bs : List Int) (n m i : Nat) (h : i < 16 + n) : (sch bs (n + m)).getD i 0 = (sch bs n).getD i 0 := by
  induction m with
  | zero => rfl
  | succ m ih =>
    rw [show n + (m + 1) = (n + m) + 1 by omega]
    show (sch bs (n + m) ++ [_]).getD i 0 = _
    rw [getD_append_lt (by rw [sch_len]; omega), ih]
/-- all 64 words -/
def wordsL (bs : List Int) : List Int := sch bs 48
theorem words_len (bs : List Int) : (wordsL bs).length = 64 := sch_len bs 48
theorem words_lo (bs : List Int) {t : Nat} (h : t < 16) : (wordsL bs).getD t 0 = be4 bs t := by
  have := sch_pre bs 0 48 t (by omega)
  unfold wordsL
  rw [show 0 + 48 = 48 from rfl] at this
  rw [this]
  simp [sch, List.getD_eq_getElem?_getD, h]
theorem words_hi (bs : List Int) {t : Nat} (h1 : 16 ≤ t) (h2 : t < 64) :
    (wordsL bs).getD t 0 = ad (ad (ad ((wordsL bs).getD (t - 16) 0) (sg0 ((wordsL bs).getD (t - 15) 0))) ((wordsL bs).getD (t - 7) 0)) (sg1 ((wordsL bs).getD (t - 2) 0)) := by
  obtain ⟨n, rfl⟩ : ∃ n, t = 16 + n := ⟨t - 16, by omega⟩
  have e : ∀ i, i < 16 + n → (wordsL bs).getD i 0 = (sch bs n).getD i 0 := fun i hi => by
    have := sch_pre bs n (48 - n) i hi
    rwa [show n + (48 - n) = 48 by omega] at this
  have e2 : (wordsL bs).getD (16 + n) 0 = (sch bs (n + 1)).getD (16 + n) 0 := by
    have := sch_pre bs (n + 1) (48 - (n + 1)) (16 + n) (by omega)
    rwa [show n + 1 + (48 - (n + 1)) = 48 by omega] at this
  rw [e2, e _ (by omega), e _ (by omega), e _ (by omega), e _ (by omega)]
  show (sch bs n ++ [nxt (sch bs n) n]).getD (16 + n) 0 = _
  rw [List.getD_eq_getElem?_getD, List.getElem?_append_right (by rw [sch_len]; omega), sch_len]
  simp only [Nat.sub_self, List.getElem?_cons_zero, Option.getD_some, nxt]
  rw [show 16 + n - 16 = n by omega, show 16 + n - 15 = n + 1 by omega, show 16 + n - 7 = n + 9 by omega, show 16 + n - 2 = n + 14 by omega]
theorem words_u {bs : List Int} (h : Byt bs) (t : Nat) : U32 ((wordsL bs).getD t 0) := by
  by_cases h1 : t < 16
  · rw [words_lo bs h1]; exact be4_u h t
  · by_cases h2 : t < 64
    · rw [words_hi bs (by omega) h2]; exact ad_u _ _
    · rw [List.getD_eq_getElem?_getD, List.getElem?_eq_none (by rw [words_len]; omega)]; simp [U32]

/-- eight words -/
structure S8 where
  a : Int
  b : Int
  c : Int
  d : Int
  e : Int
  f : Int
  g : Int
  h : Int
def S8.l (s : S8) : List Int := [s.a, s.b, s.c, s.d, s.e, s.f, s.g, s.h]
def S8.Ok (s : S8) : Prop := U32 s.a ∧ U32 s.b ∧ U32 s.c ∧ U32 s.d ∧ U32 s.e ∧ U32 s.f ∧ U32 s.g ∧ U32 s.h
def rnd (s : S8) (k w : Int) : S8 :=
  ⟨ad (ad (ad (ad (ad s.h (bs1 s.e)) (chz s.e s.f s.g)) k) w) (ad (bs0 s.a) (maj s.a s.b s.c)), s.a, s.b, s.c, ad s.d (ad (ad (ad (ad s.h (bs1 s.e)) (chz s.e s.f s.g)) k) w), s.e, s.f, s.g⟩
theorem rnd_ok {s : S8} (h : s.Ok) (k w : Int) : (rnd s k w).Ok := by
  unfold S8.Ok at *
  exact ⟨ad_u _ _, h.1, h.2.1, h.2.2.1, ad_u _ _, h.2.2.2.2.1, h.2.2.2.2.2.1, h.2.2.2.2.2.2.1⟩
def kL : List Int := [1116352408, 1899447441, 3049323471, 3921009573, 961987163, 1508970993, 2453635748, 2870763221, 3624381080, 310598401, 607225278, 1426881987, 1925078388, 2162078206, 2614888103, 3248222580, 3835390401, 4022224774, 264347078, 604807628, 770255983, 1249150122, 1555081692, 1996064986, 2554220882, 2821834349, 2952996808, 3210313671, 3336571891, 3584528711, 113926993, 338241895, 666307205, 773529912, 1294757372, 1396182291, 1695183700, 1986661051, 2177026350, 2456956037, 2730485921, 2820302411, 3259730800, 3345764771, 3516065817, 3600352804, 4094571909, 275423344, 430227734, 506948616, 659060556, 883997877, 958139571, 1322822218, 1537002063, 1747873779, 1955562222, 2024104815, 2227730452, 2361852424, 2428436474, 2756734187, 3204031479, 3329325298]
def hL : S8 := ⟨1779033703, 3144134277, 1013904242, 2773480762, 1359893119, 2600822924, 528734635, 1541459225⟩
theorem kL_len : kL.length = 64 := by decide
theorem kL_u (t : Nat) : U32 (kL.getD t 0) := by
  have h : ∀ x ∈ kL, 0 ≤ x ∧ x < 4294967296 := by decide +kernel
  exact Wrd.getD h t
def rnds (s : S8) (w : List Int) : Nat → S8
  | 0 => s
  | n + 1 => rnd (rnds s w n) (kL.getD n 0) (w.getD n 0)
theorem rnds_ok {s : S8} (h : s.Ok) (w : List Int) (n : Nat) : (rnds s w n).Ok := by
  induction n with
  | zero => exact h
  | succ n ih => exact rnd_ok ih _ _
def addS (s v : S8) : S8 := ⟨ad s.a v.a, ad s.b v.b, ad s.c v.c, ad s.d v.d, ad s.e v.e, ad s.f v.f, ad s.g v.g, ad s.h v.h⟩
theorem addS_ok (s v : S8) : (addS s v).Ok := ⟨ad_u _ _, ad_u _ _, ad_u _ _, ad_u _ _, ad_u _ _, ad_u _ _, ad_u _ _, ad_u _ _⟩
/-- a block taken in -/
def comp (s : S8) (bs : List Int) : S8 := addS s (rnds s (wordsL bs) 64)
def comps : Nat → S8 → List Int → S8
  | 0, s, _ => s
  | n + 1, s, bs => comps n (comp s (bs.take 64)) (bs.drop 64)
theorem comps_ok {s : S8} (h : s.Ok) (n : Nat) (bs : List Int) : (comps n s bs).Ok := by
  induction n generalizing s bs with
  | zero => exact h
  | succ n ih => exact ih (addS_ok _ _) _
theorem comps_add (m n : Nat) (s : S8) (bs : List Int) : comps (m + n) s bs = comps n (comps m s bs) (bs.drop (64 * m)) := by
  induction m generalizing s bs with
  | zero => simp [comps]
  | succ m ih =>
    rw [show m + 1 + n = (m + n) + 1 by omega]
    simp only [comps]
    rw [ih, List.drop_drop, show 64 + 64 * m = 64 * (m + 1) by omega]
theorem comps_one (s : S8) (bs : List Int) : comps 1 s bs = comp s (bs.take 64) := rfl
theorem comps_append (n : Nat) (s : S8) (bs cs : List Int) (h : 64 * n ≤ bs.length) : comps n s (bs ++ cs) = comps n s bs := by
  induction n generalizing s bs with
  | zero => rfl
  | succ n ih =>
    simp only [comps]
    rw [List.take_append_of_le_length (by omega), List.drop_append_of_le_length (by omega), ih _ _ (by simp; omega)]
theorem hL_ok : hL.Ok := by simp [S8.Ok, hL, U32]
/-- eight bytes of a number -/
def be8 (n : Nat) : List Int := [((n / 72057594037927936 % 256 : Nat) : Int), ((n / 281474976710656 % 256 : Nat) : Int), ((n / 1099511627776 % 256 : Nat) : Int), ((n / 4294967296 % 256 : Nat) : Int), ((n / 16777216 % 256 : Nat) : Int), ((n / 65536 % 256 : Nat) : Int), ((n / 256 % 256 : Nat) : Int), ((n % 256 : Nat) : Int)]
def padN (n : Nat) : Nat := (119 - n % 64) % 64
def padL (n : Nat) : List Int := 128 :: List.replicate (padN n) 0 ++ be8 (8 * n)
theorem padL_len (n : Nat) : (padL n).length = 9 + padN n := by simp [padL, be8]; omega
theorem byt_be8 (n : Nat) : Byt (be8 n) := by
  intro x hx
  simp only [be8, List.mem_cons, List.not_mem_nil, or_false] at hx
  omega
theorem byt_pad (n : Nat) : Byt (padL n) := by
  unfold padL
  refine Byt.append (Byt.cons (by omega) ?_) (byt_be8 _)
  intro x hx
  have := (List.mem_replicate.1 hx).2
  omega
/-- the words' bytes -/
def b4 (x : Int) : List Int := [x / 16777216, x / 65536 % 256, x / 256 % 256, x % 256]
def outL (s : S8) : List Int := s.l.flatMap b4
theorem outL_len (s : S8) : (outL s).length = 32 := rfl
theorem outL_byt {s : S8} (h : s.Ok) : Byt (outL s) := by
  unfold S8.Ok U32 at h
  intro x hx
  simp only [outL, S8.l, List.flatMap_cons, List.flatMap_nil, b4, List.mem_append, List.mem_cons, List.not_mem_nil, or_false] at hx
  omega
/-- the sum -/
def shaN (L : List Int) : Nat := (L.length + 9 + padN L.length) / 64
def shaL (L : List Int) : List Int := outL (comps (shaN L) hL (L ++ padL L.length))
theorem shaL_len (L : List Int) : (shaL L).length = 32 := rfl
theorem shaL_byt (L : List Int) : Byt (shaL L) := outL_byt (comps_ok hL_ok _ _)
theorem outL_get (s : S8) {i j : Nat} (hi : i < 8) (hj : j < 4) : (outL s).getD (4 * i + j) 0 = (b4 (s.l.getD i 0)).getD j 0 := by
  match i, hi with
  | 0, _ | 1, _ | 2, _ | 3, _ | 4, _ | 5, _ | 6, _ | 7, _ =>
    match j, hj with
    | 0, _ | 1, _ | 2, _ | 3, _ => rfl
theorem padL_eq (n : Nat) : padL n = (128 :: List.replicate (padN n) 0) ++ be8 (8 * n) := rfl
theorem be8_len (n : Nat) : (be8 n).length = 8 := rfl
theorem be8_get (n : Nat) {j : Nat} (hj : j < 8) : (be8 n).getD j 0 = ((n / 256 ^ (7 - j) % 256 : Nat) : Int) := by
  match j, hj with
  | 0, _ | 1, _ | 2, _ | 3, _ | 4, _ | 5, _ | 6, _ | 7, _ => simp [be8]
theorem comps_zero (s : S8) (bs : List Int) : comps 0 s bs = s := rfl
theorem rnds_zero (s : S8) (w : List Int) : rnds s w 0 = s := rfl
theorem rnds_succ (s : S8) (w : List Int) (n : Nat) : rnds s w (n + 1) = rnd (rnds s w n) (kL.getD n 0) (w.getD n 0) := rfl
theorem rnd_l (a b c d e f g h k w : Int) : (rnd ⟨a, b, c, d, e, f, g, h⟩ k w).l = [ad (ad (ad (ad (ad h (bs1 e)) (chz e f g)) k) w) (ad (bs0 a) (maj a b c)), a, b, c, ad d (ad (ad (ad (ad h (bs1 e)) (chz e f g)) k) w), e, f, g] := rfl
theorem addS_get (s v : S8) {k : Nat} (hk : k < 8) : (addS s v).l.getD k 0 = ad (s.l.getD k 0) (v.l.getD k 0) := by
  match k, hk with
  | 0, _ | 1, _ | 2, _ | 3, _ | 4, _ | 5, _ | 6, _ | 7, _ => rfl
theorem comp_eq (s : S8) (bs : List Int) : comp s bs = addS s (rnds s (wordsL bs) 64) := rfl
theorem S8.u {s : S8} (h : s.Ok) (k : Nat) : U32 (s.l.getD k 0) := by
  unfold S8.Ok at h
  match k with
  | 0 => exact h.1
  | 1 => exact h.2.1
  | 2 => exact h.2.2.1
  | 3 => exact h.2.2.2.1
  | 4 => exact h.2.2.2.2.1
  | 5 => exact h.2.2.2.2.2.1
  | 6 => exact h.2.2.2.2.2.2.1
  | 7 => exact h.2.2.2.2.2.2.2
  | n + 8 => simp [S8.l, U32]
attribute [irreducible] sch wordsL rnds comp comps shaL outL kL padL be8 rnd addS
end Go.Proofs.Ytibjafkclojimaa
