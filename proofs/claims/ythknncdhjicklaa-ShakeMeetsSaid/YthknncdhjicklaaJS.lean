/- The sum of layer 6 and its reference: contracts. Conditions: as each theorem states them. -/
import Derived.Test.YthknncdhjicklaaB
import Derived.Test.YthknncdhjicklaaN
import Derived.Test.YthknncdhjicklaaRows
import Derived.Test.YthknncdhjicklaaA
import Derived.Test.YthknncdhjicklaaAV
import Derived.Lib.SmallJoins
import Derived.Test.YthknncdhjicklaaBO
import Derived.Deep.Matrix
import Derived.Test.YthknncdhjicklaaB2
import Derived.Test.YthknncdhjicklaaQM
import Derived.IntWalk
/- The sum of layer 6 as a plain function on lists of bytes: words, rounds, blocks, padding. Conditions: as each theorem states them. -/
namespace Go.Proofs.Ythknncdhjicklaa
open Go.RowKit

def ad (a b : Int) : Int := IntKind.u32.wrap (a + b)
def rotr (n : Nat) (x : Int) : Int := x / (2 ^ n : Nat) + x % (2 ^ n : Nat) * (2 ^ (32 - n) : Nat)
def xr (a b : Int) : Int := bits .xor .u32 a b
def an (a b : Int) : Int := bits .and .u32 a b
def sg0 (x : Int) : Int := xr (xr (rotr 7 x) (rotr 18 x)) (x / 8)
def sg1 (x : Int) : Int := xr (xr (rotr 17 x) (rotr 19 x)) (x / 1024)
def bs0 (a : Int) : Int := xr (xr (rotr 2 a) (rotr 13 a)) (rotr 22 a)
def bs1 (e : Int) : Int := xr (xr (rotr 6 e) (rotr 11 e)) (rotr 25 e)
def chz (e f g : Int) : Int := xr (an e f) (an (4294967295 - e) g)
def maj (a b c : Int) : Int := xr (xr (an a b) (an a c)) (an b c)
/-- a word -/
def U32 (x : Int) : Prop := 0 ≤ x ∧ x < 4294967296
theorem ad_u (a b : Int) : U32 (ad a b) := by unfold U32 ad; rw [wrapu32]; omega
theorem xr_u (a b : Int) : U32 (xr a b) := by have h1 := bits_lo_u32 .xor a b; have h2 := bits_hi_u32 .xor a b; unfold U32 xr; omega
theorem an_u (a b : Int) : U32 (an a b) := by have h1 := bits_lo_u32 .and a b; have h2 := bits_hi_u32 .and a b; unfold U32 an; omega
theorem rotr_u {n : Nat} {x : Int} (hn : n ≤ 32) (h : U32 x) : U32 (rotr n x) := by
  unfold U32 rotr at *
  obtain ⟨m, rfl⟩ := Int.eq_ofNat_of_zero_le h.1
  have hp : (2 ^ n) * (2 ^ (32 - n)) = 4294967296 := by rw [← Nat.pow_add, show n + (32 - n) = 32 by omega]
  have h1 : m / 2 ^ n < 2 ^ (32 - n) := Nat.div_lt_of_lt_mul (by rw [hp]; omega)
  have h2 : m % 2 ^ n < 2 ^ n := Nat.mod_lt _ (Nat.pos_of_ne_zero (by simp))
  have h3 : m % 2 ^ n * 2 ^ (32 - n) + 2 ^ (32 - n) ≤ 2 ^ n * 2 ^ (32 - n) := by
    have := Nat.mul_le_mul_right (2 ^ (32 - n)) h2
    rw [Nat.succ_mul] at this
    exact this
  rw [hp] at h3
  rw [← Int.natCast_ediv, ← Int.natCast_emod, ← Int.natCast_mul, ← Int.natCast_add]
  generalize m % 2 ^ n * 2 ^ (32 - n) = C at *
  generalize m / 2 ^ n = A at *
  generalize 2 ^ (32 - n) = E at *
  clear hp h2
  omega

/-- the t-th word of a block -/
def be4 (bs : List Int) (t : Nat) : Int := bs.getD (4 * t) 0 * 16777216 + bs.getD (4 * t + 1) 0 * 65536 + bs.getD (4 * t + 2) 0 * 256 + bs.getD (4 * t + 3) 0
theorem be4_u {bs : List Int} (h : Byt bs) (t : Nat) : U32 (be4 bs t) := by
  unfold be4 U32
  have := h.getD (4 * t)
  have := h.getD (4 * t + 1)
  have := h.getD (4 * t + 2)
  have := h.getD (4 * t + 3)
  omega
def nxt (w : List Int) (n : Nat) : Int := ad (ad (ad (w.getD n 0) (sg0 (w.getD (n + 1) 0))) (w.getD (n + 9) 0)) (sg1 (w.getD (n + 14) 0))
def sch (bs : List Int) : Nat → List Int
  | 0 => (List.range 16).map (be4 bs)
  | n + 1 => sch bs n ++ [nxt (sch bs n) n]
theorem sch_len (bs : List Int) (n : Nat) : (sch bs n).length = 16 + n := by
  induction n with
  | zero => simp [sch]
  | succ n ih => simp [sch, ih]; omega
theorem getD_append_lt {xs ys : List Int} {i : Nat} (h : i < xs.length) : (xs ++ ys).getD i 0 = xs.getD i 0 := by
  rw [List.getD_eq_getElem?_getD, List.getElem?_append_left h, List.getD_eq_getElem?_getD]
theorem sch_pre (bs : List Int) (n m i : Nat) (h : i < 16 + n) : (sch bs (n + m)).getD i 0 = (sch bs n).getD i 0 := by
  induction m with
  | zero => rfl
  | succ m ih =>
    rw [show n + (m + 1) = (n + m) + 1 by omega]
    show (sch bs (n + m) ++ [_]).getD i 0 = _
    rw [getD_append_lt (by rw [sch_len]; omega), ih]
/-- all 64 words -/
def wordsL (bs : List Int) : List Int := sch bs 48
theorem words_len (bs : List Int) : (wordsL bs).length = 64 := sch_len bs 48
theorem words_lo (bs : List Int) {t : Nat} (h : t < 16) : (wordsL bs).getD t 0 = be4 bs t := by
  have := sch_pre bs 0 48 t (by omega)
  unfold wordsL
  rw [show 0 + 48 = 48 from rfl] at this
  rw [this]
  simp [sch, List.getD_eq_getElem?_getD, h]
theorem words_hi (bs : List Int) {t : Nat} (h1 : 16 ≤ t) (h2 : t < 64) :
    (wordsL bs).getD t 0 = ad (ad (ad ((wordsL bs).getD (t - 16) 0) (sg0 ((wordsL bs).getD (t - 15) 0))) ((wordsL bs).getD (t - 7) 0)) (sg1 ((wordsL bs).getD (t - 2) 0)) := by
  obtain ⟨n, rfl⟩ : ∃ n, t = 16 + n := ⟨t - 16, by omega⟩
  have e : ∀ i, i < 16 + n → (wordsL bs).getD i 0 = (sch bs n).getD i 0 := fun i hi => by
    have := sch_pre bs n (48 - n) i hi
    rwa [show n + (48 - n) = 48 by omega] at this
  have e2 : (wordsL bs).getD (16 + n) 0 = (sch bs (n + 1)).getD (16 + n) 0 := by
    have := sch_pre bs (n + 1) (48 - (n + 1)) (16 + n) (by omega)
    rwa [show n + 1 + (48 - (n + 1)) = 48 by omega] at this
  rw [e2, e _ (by omega), e _ (by omega), e _ (by omega), e _ (by omega)]
  show (sch bs n ++ [nxt (sch bs n) n]).getD (16 + n) 0 = _
  rw [List.getD_eq_getElem?_getD, List.getElem?_append_right (by rw [sch_len]; omega), sch_len]
  simp only [Nat.sub_self, List.getElem?_cons_zero, Option.getD_some, nxt]
  rw [show 16 + n - 16 = n by omega, show 16 + n - 15 = n + 1 by omega, show 16 + n - 7 = n + 9 by omega, show 16 + n - 2 = n + 14 by omega]
theorem words_u {bs : List Int} (h : Byt bs) (t : Nat) : U32 ((wordsL bs).getD t 0) := by
  by_cases h1 : t < 16
  · rw [words_lo bs h1]; exact be4_u h t
  · by_cases h2 : t < 64
    · rw [words_hi bs (by omega) h2]; exact ad_u _ _
    · rw [List.getD_eq_getElem?_getD, List.getElem?_eq_none (by rw [words_len]; omega)]; simp [U32]

/-- eight words -/
structure S8 where
  a : Int
  b : Int
  c : Int
  d : Int
  e : Int
  f : Int
  g : Int
  h : Int
def S8.l (s : S8) : List Int := [s.a, s.b, s.c, s.d, s.e, s.f, s.g, s.h]
def S8.Ok (s : S8) : Prop := U32 s.a ∧ U32 s.b ∧ U32 s.c ∧ U32 s.d ∧ U32 s.e ∧ U32 s.f ∧ U32 s.g ∧ U32 s.h
def rnd (s : S8) (k w : Int) : S8 :=
  ⟨ad (ad (ad (ad (ad s.h (bs1 s.e)) (chz s.e s.f s.g)) k) w) (ad (bs0 s.a) (maj s.a s.b s.c)), s.a, s.b, s.c, ad s.d (ad (ad (ad (ad s.h (bs1 s.e)) (chz s.e s.f s.g)) k) w), s.e, s.f, s.g⟩
theorem rnd_ok {s : S8} (h : s.Ok) (k w : Int) : (rnd s k w).Ok := by
  unfold S8.Ok at *
  exact ⟨ad_u _ _, h.1, h.2.1, h.2.2.1, ad_u _ _, h.2.2.2.2.1, h.2.2.2.2.2.1, h.2.2.2.2.2.2.1⟩
def kL : List Int := [1116352408, 1899447441, 3049323471, 3921009573, 961987163, 1508970993, 2453635748, 2870763221, 3624381080, 310598401, 607225278, 1426881987, 1925078388, 2162078206, 2614888103, 3248222580, 3835390401, 4022224774, 264347078, 604807628, 770255983, 1249150122, 1555081692, 1996064986, 2554220882, 2821834349, 2952996808, 3210313671, 3336571891, 3584528711, 113926993, 338241895, 666307205, 773529912, 1294757372, 1396182291, 1695183700, 1986661051, 2177026350, 2456956037, 2730485921, 2820302411, 3259730800, 3345764771, 3516065817, 3600352804, 4094571909, 275423344, 430227734, 506948616, 659060556, 883997877, 958139571, 1322822218, 1537002063, 1747873779, 1955562222, 2024104815, 2227730452, 2361852424, 2428436474, 2756734187, 3204031479, 3329325298]
def hL : S8 := ⟨1779033703, 3144134277, 1013904242, 2773480762, 1359893119, 2600822924, 528734635, 1541459225⟩
theorem kL_len : kL.length = 64 := by decide
theorem kL_u (t : Nat) : U32 (kL.getD t 0) := by
  have h : ∀ x ∈ kL, 0 ≤ x ∧ x < 4294967296 := by decide +kernel
  exact Wrd.getD h t
def rnds (s : S8) (w : List Int) : Nat → S8
  | 0 => s
  | n + 1 => rnd (rnds s w n) (kL.getD n 0) (w.getD n 0)
theorem rnds_ok {s : S8} (h : s.Ok) (w : List Int) (n : Nat) : (rnds s w n).Ok := by
  induction n with
  | zero => exact h
  | succ n ih => exact rnd_ok ih _ _
def addS (s v : S8) : S8 := ⟨ad s.a v.a, ad s.b v.b, ad s.c v.c, ad s.d v.d, ad s.e v.e, ad s.f v.f, ad s.g v.g, ad s.h v.h⟩
theorem addS_ok (s v : S8) : (addS s v).Ok := ⟨ad_u _ _, ad_u _ _, ad_u _ _, ad_u _ _, ad_u _ _, ad_u _ _, ad_u _ _, ad_u _ _⟩
/-- a block taken in -/
def comp (s : S8) (bs : List Int) : S8 := addS s (rnds s (wordsL bs) 64)
def comps : Nat → S8 → List Int → S8
  | 0, s, _ => s
  | n + 1, s, bs => comps n (comp s (bs.take 64)) (bs.drop 64)
theorem comps_ok {s : S8} (h : s.Ok) (n : Nat) (bs : List Int) : (comps n s bs).Ok := by
  induction n generalizing s bs with
  | zero => exact h
  | succ n ih => exact ih (addS_ok _ _) _
theorem comps_add (m n : Nat) (s : S8) (bs : List Int) : comps (m + n) s bs = comps n (comps m s bs) (bs.drop (64 * m)) := by
  induction m generalizing s bs with
  | zero => simp [comps]
  | succ m ih =>
    rw [show m + 1 + n = (m + n) + 1 by omega]
    simp only [comps]
    rw [ih, List.drop_drop, show 64 + 64 * m = 64 * (m + 1) by omega]
theorem comps_one (s : S8) (bs : List Int) : comps 1 s bs = comp s (bs.take 64) := rfl
theorem comps_append (n : Nat) (s : S8) (bs cs : List Int) (h : 64 * n ≤ bs.length) : comps n s (bs ++ cs) = comps n s bs := by
  induction n generalizing s bs with
  | zero => rfl
  | succ n ih =>
    simp only [comps]
    rw [List.take_append_of_le_length (by omega), List.drop_append_of_le_length (by omega), ih _ _ (by simp; omega)]
theorem hL_ok : hL.Ok := by simp [S8.Ok, hL, U32]
/-- eight bytes of a number -/
def be8 (n : Nat) : List Int := [((n / 72057594037927936 % 256 : Nat) : Int), ((n / 281474976710656 % 256 : Nat) : Int), ((n / 1099511627776 % 256 : Nat) : Int), ((n / 4294967296 % 256 : Nat) : Int), ((n / 16777216 % 256 : Nat) : Int), ((n / 65536 % 256 : Nat) : Int), ((n / 256 % 256 : Nat) : Int), ((n % 256 : Nat) : Int)]
def padN (n : Nat) : Nat := (119 - n % 64) % 64
def padL (n : Nat) : List Int := 128 :: List.replicate (padN n) 0 ++ be8 (8 * n)
theorem padL_len (n : Nat) : (padL n).length = 9 + padN n := by simp [padL, be8]; omega
theorem byt_be8 (n : Nat) : Byt (be8 n) := by
  intro x hx
  simp only [be8, List.mem_cons, List.not_mem_nil, or_false] at hx
  omega
theorem byt_pad (n : Nat) : Byt (padL n) := by
  unfold padL
  refine Byt.append (Byt.cons (by omega) ?_) (byt_be8 _)
  intro x hx
  have := (List.mem_replicate.1 hx).2
  omega
/-- the words' bytes -/
def b4 (x : Int) : List Int := [x / 16777216, x / 65536 % 256, x / 256 % 256, x % 256]
def outL (s : S8) : List Int := s.l.flatMap b4
theorem outL_len (s : S8) : (outL s).length = 32 := rfl
theorem outL_byt {s : S8} (h : s.Ok) : Byt (outL s) := by
  unfold S8.Ok U32 at h
  intro x hx
  simp only [outL, S8.l, List.flatMap_cons, List.flatMap_nil, b4, List.mem_append, List.mem_cons, List.not_mem_nil, or_false] at hx
  omega
/-- the sum -/
def shaN (L : List Int) : Nat := (L.length + 9 + padN L.length) / 64
def shaL (L : List Int) : List Int := outL (comps (shaN L) hL (L ++ padL L.length))
theorem shaL_len (L : List Int) : (shaL L).length = 32 := rfl
theorem shaL_byt (L : List Int) : Byt (shaL L) := outL_byt (comps_ok hL_ok _ _)
theorem outL_get (s : S8) {i j : Nat} (hi : i < 8) (hj : j < 4) : (outL s).getD (4 * i + j) 0 = (b4 (s.l.getD i 0)).getD j 0 := by
  match i, hi with
  | 0, _ | 1, _ | 2, _ | 3, _ | 4, _ | 5, _ | 6, _ | 7, _ =>
    match j, hj with
    | 0, _ | 1, _ | 2, _ | 3, _ => rfl
theorem padL_eq (n : Nat) : padL n = (128 :: List.replicate (padN n) 0) ++ be8 (8 * n) := rfl
theorem be8_len (n : Nat) : (be8 n).length = 8 := rfl
theorem be8_get (n : Nat) {j : Nat} (hj : j < 8) : (be8 n).getD j 0 = ((n / 256 ^ (7 - j) % 256 : Nat) : Int) := by
  match j, hj with
  | 0, _ | 1, _ | 2, _ | 3, _ | 4, _ | 5, _ | 6, _ | 7, _ => simp [be8]
theorem comps_zero (s : S8) (bs : List Int) : comps 0 s bs = s := rfl
theorem rnds_zero (s : S8) (w : List Int) : rnds s w 0 = s := rfl
theorem rnds_succ (s : S8) (w : List Int) (n : Nat) : rnds s w (n + 1) = rnd (rnds s w n) (kL.getD n 0) (w.getD n 0) := rfl
theorem rnd_l (a b c d e f g h k w : Int) : (rnd ⟨a, b, c, d, e, f, g, h⟩ k w).l = [ad (ad (ad (ad (ad h (bs1 e)) (chz e f g)) k) w) (ad (bs0 a) (maj a b c)), a, b, c, ad d (ad (ad (ad (ad h (bs1 e)) (chz e f g)) k) w), e, f, g] := rfl
theorem addS_get (s v : S8) {k : Nat} (hk : k < 8) : (addS s v).l.getD k 0 = ad (s.l.getD k 0) (v.l.getD k 0) := by
  match k, hk with
  | 0, _ | 1, _ | 2, _ | 3, _ | 4, _ | 5, _ | 6, _ | 7, _ => rfl
theorem comp_eq (s : S8) (bs : List Int) : comp s bs = addS s (rnds s (wordsL bs) 64) := rfl
theorem S8.u {s : S8} (h : s.Ok) (k : Nat) : U32 (s.l.getD k 0) := by
  unfold S8.Ok at h
  match k with
  | 0 => exact h.1
  | 1 => exact h.2.1
  | 2 => exact h.2.2.1
  | 3 => exact h.2.2.2.1
  | 4 => exact h.2.2.2.2.1
  | 5 => exact h.2.2.2.2.2.1
  | 6 => exact h.2.2.2.2.2.2.1
  | 7 => exact h.2.2.2.2.2.2.2
  | n + 8 => simp [S8.l, U32]
attribute [irreducible] sch wordsL rnds comp comps shaL outL kL padL be8 rnd addS
end Go.Proofs.Ythknncdhjicklaa
/- The sums that the law's own known names. Conditions: none. -/
namespace Go.Proofs.Ythknncdhjicklaa
theorem sha_abc : shaL [97, 98, 99] = [186, 120, 22, 191, 143, 1, 207, 234, 65, 65, 64, 222, 93, 174, 34, 35, 176, 3, 97, 163, 150, 23, 122, 156, 180, 16, 255, 97, 242, 0, 21, 173] := by decide +kernel
theorem sha_nil : shaL [] = [227, 176, 196, 66, 152, 252, 28, 20, 154, 251, 244, 200, 153, 111, 185, 36, 39, 174, 65, 228, 100, 155, 147, 76, 164, 149, 153, 27, 120, 82, 184, 85] := by decide +kernel
end Go.Proofs.Ythknncdhjicklaa
/- Contracts: math/bits.RotateLeft32 and sha.turn, the reference's shift and turn. Conditions: as each theorem states them. -/
namespace Go.Proofs.Ythknncdhjicklaa
open Go.RowKit

theorem rot_or (n : Nat) (hn : n ≤ 32) (x : Int) (hx : U32 x) : bits .or .u32 (IntKind.u32.wrap (x * (2 ^ (32 - n) : Nat))) (x / (2 ^ n : Nat)) = rotr n x := by
  obtain ⟨m, rfl⟩ := Int.eq_ofNat_of_zero_le hx.1
  have hp : (2 ^ n) * (2 ^ (32 - n)) = 4294967296 := by rw [← Nat.pow_add, show n + (32 - n) = 32 by omega]
  have hm : m < 4294967296 := by have := hx.2; omega
  have h1 : m / 2 ^ n < 2 ^ (32 - n) := Nat.div_lt_of_lt_mul (by rw [hp]; omega)
  have h0 : 2 ^ (32 - n) ≤ 4294967296 := Nat.pow_le_pow_right (n := 2) (by omega) (show 32 - n ≤ 32 by omega)
  have e1 : IntKind.u32.wrap ((m : Int) * (2 ^ (32 - n) : Nat)) = ((m % 2 ^ n * 2 ^ (32 - n) : Nat) : Int) := by
    rw [wrapu32, ← Int.natCast_mul, show (4294967296 : Int) = ((4294967296 : Nat) : Int) from rfl, ← Int.natCast_emod]
    congr 1
    rw [← hp, Nat.mul_mod_mul_right]
  have h2 : m % 2 ^ n * 2 ^ (32 - n) < 4294967296 := by
    rw [← hp]
    exact Nat.mul_lt_mul_of_pos_right (Nat.mod_lt _ (Nat.pos_of_ne_zero (by simp))) (Nat.pos_of_ne_zero (by simp))
  rw [e1, ← Int.natCast_ediv, bits_or_u32_nat _ _ h2 (by omega), or_add h1]
  unfold rotr
  rw [← Int.natCast_ediv, ← Int.natCast_emod, ← Int.natCast_mul, ← Int.natCast_add, Nat.add_comm]

-- GENERATED
theorem rotl_2 (x : Int) (w : World) (hx : U32 x) : Calls Try.prog 41 #[.int .u32 x, .int .i64 (-2)] w fun e w' => e = .returned (.int .u32 (rotr 2 x)) ∧ w = w' := by
  have HR := Lib.hid (rot_or 2 (by decide) x hx)
  have hb : bits .and .u64 (IntKind.u64.wrap (-2)) 31 = 30 := by decide +kernel
  unfold U32 at hx
  obtain ⟨h0, h1⟩ := hx
  go_enter Try.func41, Try.ntmps41
  go_wp2_with fail
  go_ret
  exact ⟨ret_int HR.out, rfl⟩
theorem turn_2 (x : Int) (w : World) (hx : U32 x) : Calls Try.prog 40 #[.int .u32 x, .int .i64 2] w fun e w' => e = .returned (.int .u32 (rotr 2 x)) ∧ w' = w := by
  go_enter Try.func40, Try.ntmps40
  go_wp2_with (go_at_call 41; refine (rotl_2 x _ hx).mono ?_; rintro e w' ⟨rfl, rfl⟩)
  go_ret
  exact ⟨rfl, rfl⟩
theorem rotl_6 (x : Int) (w : World) (hx : U32 x) : Calls Try.prog 41 #[.int .u32 x, .int .i64 (-6)] w fun e w' => e = .returned (.int .u32 (rotr 6 x)) ∧ w = w' := by
  have HR := Lib.hid (rot_or 6 (by decide) x hx)
  have hb : bits .and .u64 (IntKind.u64.wrap (-6)) 31 = 26 := by decide +kernel
  unfold U32 at hx
  obtain ⟨h0, h1⟩ := hx
  go_enter Try.func41, Try.ntmps41
  go_wp2_with fail
  go_ret
  exact ⟨ret_int HR.out, rfl⟩
theorem turn_6 (x : Int) (w : World) (hx : U32 x) : Calls Try.prog 40 #[.int .u32 x, .int .i64 6] w fun e w' => e = .returned (.int .u32 (rotr 6 x)) ∧ w' = w := by
  go_enter Try.func40, Try.ntmps40
  go_wp2_with (go_at_call 41; refine (rotl_6 x _ hx).mono ?_; rintro e w' ⟨rfl, rfl⟩)
  go_ret
  exact ⟨rfl, rfl⟩
theorem rotl_7 (x : Int) (w : World) (hx : U32 x) : Calls Try.prog 41 #[.int .u32 x, .int .i64 (-7)] w fun e w' => e = .returned (.int .u32 (rotr 7 x)) ∧ w = w' := by
  have HR := Lib.hid (rot_or 7 (by decide) x hx)
  have hb : bits .and .u64 (IntKind.u64.wrap (-7)) 31 = 25 := by decide +kernel
  unfold U32 at hx
  obtain ⟨h0, h1⟩ := hx
  go_enter Try.func41, Try.ntmps41
  go_wp2_with fail
  go_ret
  exact ⟨ret_int HR.out, rfl⟩
theorem turn_7 (x : Int) (w : World) (hx : U32 x) : Calls Try.prog 40 #[.int .u32 x, .int .i64 7] w fun e w' => e = .returned (.int .u32 (rotr 7 x)) ∧ w' = w := by
  go_enter Try.func40, Try.ntmps40
  go_wp2_with (go_at_call 41; refine (rotl_7 x _ hx).mono ?_; rintro e w' ⟨rfl, rfl⟩)
  go_ret
  exact ⟨rfl, rfl⟩
theorem rotl_11 (x : Int) (w : World) (hx : U32 x) : Calls Try.prog 41 #[.int .u32 x, .int .i64 (-11)] w fun e w' => e = .returned (.int .u32 (rotr 11 x)) ∧ w = w' := by
  have HR := Lib.hid (rot_or 11 (by decide) x hx)
  have hb : bits .and .u64 (IntKind.u64.wrap (-11)) 31 = 21 := by decide +kernel
  unfold U32 at hx
  obtain ⟨h0, h1⟩ := hx
  go_enter Try.func41, Try.ntmps41
  go_wp2_with fail
  go_ret
  exact ⟨ret_int HR.out, rfl⟩
theorem turn_11 (x : Int) (w : World) (hx : U32 x) : Calls Try.prog 40 #[.int .u32 x, .int .i64 11] w fun e w' => e = .returned (.int .u32 (rotr 11 x)) ∧ w' = w := by
  go_enter Try.func40, Try.ntmps40
  go_wp2_with (go_at_call 41; refine (rotl_11 x _ hx).mono ?_; rintro e w' ⟨rfl, rfl⟩)
  go_ret
  exact ⟨rfl, rfl⟩
theorem rotl_13 (x : Int) (w : World) (hx : U32 x) : Calls Try.prog 41 #[.int .u32 x, .int .i64 (-13)] w fun e w' => e = .returned (.int .u32 (rotr 13 x)) ∧ w = w' := by
  have HR := Lib.hid (rot_or 13 (by decide) x hx)
  have hb : bits .and .u64 (IntKind.u64.wrap (-13)) 31 = 19 := by decide +kernel
  unfold U32 at hx
  obtain ⟨h0, h1⟩ := hx
  go_enter Try.func41, Try.ntmps41
  go_wp2_with fail
  go_ret
  exact ⟨ret_int HR.out, rfl⟩
theorem turn_13 (x : Int) (w : World) (hx : U32 x) : Calls Try.prog 40 #[.int .u32 x, .int .i64 13] w fun e w' => e = .returned (.int .u32 (rotr 13 x)) ∧ w' = w := by
  go_enter Try.func40, Try.ntmps40
  go_wp2_with (go_at_call 41; refine (rotl_13 x _ hx).mono ?_; rintro e w' ⟨rfl, rfl⟩)
  go_ret
  exact ⟨rfl, rfl⟩
theorem rotl_17 (x : Int) (w : World) (hx : U32 x) : Calls Try.prog 41 #[.int .u32 x, .int .i64 (-17)] w fun e w' => e = .returned (.int .u32 (rotr 17 x)) ∧ w = w' := by
  have HR := Lib.hid (rot_or 17 (by decide) x hx)
  have hb : bits .and .u64 (IntKind.u64.wrap (-17)) 31 = 15 := by decide +kernel
  unfold U32 at hx
  obtain ⟨h0, h1⟩ := hx
  go_enter Try.func41, Try.ntmps41
  go_wp2_with fail
  go_ret
  exact ⟨ret_int HR.out, rfl⟩
theorem turn_17 (x : Int) (w : World) (hx : U32 x) : Calls Try.prog 40 #[.int .u32 x, .int .i64 17] w fun e w' => e = .returned (.int .u32 (rotr 17 x)) ∧ w' = w := by
  go_enter Try.func40, Try.ntmps40
  go_wp2_with (go_at_call 41; refine (rotl_17 x _ hx).mono ?_; rintro e w' ⟨rfl, rfl⟩)
  go_ret
  exact ⟨rfl, rfl⟩
theorem rotl_18 (x : Int) (w : World) (hx : U32 x) : Calls Try.prog 41 #[.int .u32 x, .int .i64 (-18)] w fun e w' => e = .returned (.int .u32 (rotr 18 x)) ∧ w = w' := by
  have HR := Lib.hid (rot_or 18 (by decide) x hx)
  have hb : bits .and .u64 (IntKind.u64.wrap (-18)) 31 = 14 := by decide +kernel
  unfold U32 at hx
  obtain ⟨h0, h1⟩ := hx
  go_enter Try.func41, Try.ntmps41
  go_wp2_with fail
  go_ret
  exact ⟨ret_int HR.out, rfl⟩
theorem turn_18 (x : Int) (w : World) (hx : U32 x) : Calls Try.prog 40 #[.int .u32 x, .int .i64 18] w fun e w' => e = .returned (.int .u32 (rotr 18 x)) ∧ w' = w := by
  go_enter Try.func40, Try.ntmps40
  go_wp2_with (go_at_call 41; refine (rotl_18 x _ hx).mono ?_; rintro e w' ⟨rfl, rfl⟩)
  go_ret
  exact ⟨rfl, rfl⟩
theorem rotl_19 (x : Int) (w : World) (hx : U32 x) : Calls Try.prog 41 #[.int .u32 x, .int .i64 (-19)] w fun e w' => e = .returned (.int .u32 (rotr 19 x)) ∧ w = w' := by
  have HR := Lib.hid (rot_or 19 (by decide) x hx)
  have hb : bits .and .u64 (IntKind.u64.wrap (-19)) 31 = 13 := by decide +kernel
  unfold U32 at hx
  obtain ⟨h0, h1⟩ := hx
  go_enter Try.func41, Try.ntmps41
  go_wp2_with fail
  go_ret
  exact ⟨ret_int HR.out, rfl⟩
theorem turn_19 (x : Int) (w : World) (hx : U32 x) : Calls Try.prog 40 #[.int .u32 x, .int .i64 19] w fun e w' => e = .returned (.int .u32 (rotr 19 x)) ∧ w' = w := by
  go_enter Try.func40, Try.ntmps40
  go_wp2_with (go_at_call 41; refine (rotl_19 x _ hx).mono ?_; rintro e w' ⟨rfl, rfl⟩)
  go_ret
  exact ⟨rfl, rfl⟩
theorem rotl_22 (x : Int) (w : World) (hx : U32 x) : Calls Try.prog 41 #[.int .u32 x, .int .i64 (-22)] w fun e w' => e = .returned (.int .u32 (rotr 22 x)) ∧ w = w' := by
  have HR := Lib.hid (rot_or 22 (by decide) x hx)
  have hb : bits .and .u64 (IntKind.u64.wrap (-22)) 31 = 10 := by decide +kernel
  unfold U32 at hx
  obtain ⟨h0, h1⟩ := hx
  go_enter Try.func41, Try.ntmps41
  go_wp2_with fail
  go_ret
  exact ⟨ret_int HR.out, rfl⟩
theorem turn_22 (x : Int) (w : World) (hx : U32 x) : Calls Try.prog 40 #[.int .u32 x, .int .i64 22] w fun e w' => e = .returned (.int .u32 (rotr 22 x)) ∧ w' = w := by
  go_enter Try.func40, Try.ntmps40
  go_wp2_with (go_at_call 41; refine (rotl_22 x _ hx).mono ?_; rintro e w' ⟨rfl, rfl⟩)
  go_ret
  exact ⟨rfl, rfl⟩
theorem rotl_25 (x : Int) (w : World) (hx : U32 x) : Calls Try.prog 41 #[.int .u32 x, .int .i64 (-25)] w fun e w' => e = .returned (.int .u32 (rotr 25 x)) ∧ w = w' := by
  have HR := Lib.hid (rot_or 25 (by decide) x hx)
  have hb : bits .and .u64 (IntKind.u64.wrap (-25)) 31 = 7 := by decide +kernel
  unfold U32 at hx
  obtain ⟨h0, h1⟩ := hx
  go_enter Try.func41, Try.ntmps41
  go_wp2_with fail
  go_ret
  exact ⟨ret_int HR.out, rfl⟩
theorem turn_25 (x : Int) (w : World) (hx : U32 x) : Calls Try.prog 40 #[.int .u32 x, .int .i64 25] w fun e w' => e = .returned (.int .u32 (rotr 25 x)) ∧ w' = w := by
  go_enter Try.func40, Try.ntmps40
  go_wp2_with (go_at_call 41; refine (rotl_25 x _ hx).mono ?_; rintro e w' ⟨rfl, rfl⟩)
  go_ret
  exact ⟨rfl, rfl⟩
theorem turn_any (x n : Int) (w : World) (hx : U32 x) (hn : n = 2 ∨ n = 6 ∨ n = 7 ∨ n = 11 ∨ n = 13 ∨ n = 17 ∨ n = 18 ∨ n = 19 ∨ n = 22 ∨ n = 25) : Calls Try.prog 40 #[.int .u32 x, .int .i64 n] w fun e w' => e = .returned (.int .u32 (rotr n.toNat x)) ∧ w' = w := by
  rcases hn with rfl | rfl | rfl | rfl | rfl | rfl | rfl | rfl | rfl | rfl
  · exact turn_2 x w hx
  · exact turn_6 x w hx
  · exact turn_7 x w hx
  · exact turn_11 x w hx
  · exact turn_13 x w hx
  · exact turn_17 x w hx
  · exact turn_18 x w hx
  · exact turn_19 x w hx
  · exact turn_22 x w hx
  · exact turn_25 x w hx

/-- shift: a word divided by a power of two -/
def hlf (n : Nat) (x : Int) : Int := x / (2 ^ n : Nat)
theorem hlf_succ {x : Int} (h0 : 0 ≤ x) (k : Nat) : hlf k x / 2 = hlf (k + 1) x := by
  obtain ⟨m, rfl⟩ := Int.eq_ofNat_of_zero_le h0
  unfold hlf
  rw [← Int.natCast_ediv, ← Int.natCast_ediv, show (2 : Int) = ((2 : Nat) : Int) from rfl, ← Int.natCast_ediv, Nat.div_div_eq_div_mul, Nat.pow_succ]
end Go.Proofs.Ythknncdhjicklaa
/- Contract: (*sha.state).take. Conditions: as each theorem states them. -/
namespace Go.Proofs.Ythknncdhjicklaa
open Go.RowKit

theorem elU8 : ElT Try.prog 23 5 .u8 1 := ⟨Try.underlying23, Try.underlying5, by kernel_rfl, by decide⟩
theorem or4 (a b c d : Int) (ha : 0 ≤ a ∧ a < 256) (hb : 0 ≤ b ∧ b < 256) (hc : 0 ≤ c ∧ c < 256) (hd : 0 ≤ d ∧ d < 256) :
    bits .or .u32 (bits .or .u32 (bits .or .u32 (a * 16777216) (b * 65536)) (c * 256)) d = a * 16777216 + b * 65536 + c * 256 + d := by
  obtain ⟨a, rfl⟩ := Int.eq_ofNat_of_zero_le ha.1
  obtain ⟨b, rfl⟩ := Int.eq_ofNat_of_zero_le hb.1
  obtain ⟨c, rfl⟩ := Int.eq_ofNat_of_zero_le hc.1
  obtain ⟨d, rfl⟩ := Int.eq_ofNat_of_zero_le hd.1
  have e1 : bits .or .u32 ((a : Int) * 16777216) ((b : Int) * 65536) = ((a * 16777216 + b * 65536 : Nat) : Int) := by
    have h := bits_or_u32_nat (a * 16777216) (b * 65536) (by omega) (by omega)
    have h2 : (a * 16777216 ||| b * 65536) = a * 16777216 + b * 65536 := by
      have := or_add (n := 24) (a := b * 65536) (b := a) (by omega)
      simpa using this
    rw [h2] at h
    simpa using h
  have e2 : bits .or .u32 ((a * 16777216 + b * 65536 : Nat) : Int) ((c : Int) * 256) = ((a * 16777216 + b * 65536 + c * 256 : Nat) : Int) := by
    have h := bits_or_u32_nat (a * 16777216 + b * 65536) (c * 256) (by omega) (by omega)
    have h2 : (a * 16777216 + b * 65536 ||| c * 256) = a * 16777216 + b * 65536 + c * 256 := by
      have := or_add (n := 16) (a := c * 256) (b := a * 256 + b) (by omega)
      rw [show (a * 256 + b) * 2 ^ 16 = a * 16777216 + b * 65536 by omega] at this
      exact this
    rw [h2] at h
    simpa using h
  have e3 : bits .or .u32 ((a * 16777216 + b * 65536 + c * 256 : Nat) : Int) (d : Int) = ((a * 16777216 + b * 65536 + c * 256 + d : Nat) : Int) := by
    have h := bits_or_u32_nat (a * 16777216 + b * 65536 + c * 256) d (by omega) (by omega)
    have h2 : (a * 16777216 + b * 65536 + c * 256 ||| d) = a * 16777216 + b * 65536 + c * 256 + d := by
      have := or_add (n := 8) (a := d) (b := a * 65536 + b * 256 + c) (by omega)
      rw [show (a * 65536 + b * 256 + c) * 2 ^ 8 = a * 16777216 + b * 65536 + c * 256 by omega] at this
      exact this
    rw [h2] at h
    simpa using h
  rw [e1, e2, e3]
  omega

theorem not_u32 {x : Int} (h : U32 x) : bits .xor .u32 IntKind.u32.max x = 4294967295 - x := by
  obtain ⟨n, rfl⟩ := Int.eq_ofNat_of_zero_le h.1
  have hn : n < 2 ^ 32 := by have := h.2; omega
  have e := bits_xor_u32_nat 4294967295 n (by omega) hn
  have e2 : 4294967295 ^^^ n = 4294967295 - n := by
    have h1 := congrArg BitVec.toNat (BitVec.allOnes_xor (x := BitVec.ofNat 32 n))
    simp only [BitVec.toNat_xor, BitVec.toNat_not, BitVec.toNat_allOnes, BitVec.toNat_ofNat, Nat.mod_eq_of_lt hn] at h1
    exact h1
  rw [show IntKind.u32.max = ((4294967295 : Nat) : Int) from rfl, e, e2]
  omega
/-- what take leaves -/
def TakePost (g : Nat) (s : S8) (w : World) (e : Ending) (w' : World) : Prop := e = .returned (.tuple #[]) ∧ Arr w' g 75 .u32 s.l ∧ w.grownBy w' (some g)

set_option maxRecDepth 100000 in
set_option maxHeartbeats 8000000 in
theorem take_any (g gk : Nat) (s : S8) (A : Option Addr) (c : Nat) (L : List Int) (w : World) (hs : Arr w g 75 .u32 s.l) (hk : Arr w gk 77 .u32 kL) (hr : Rd w.heap.size .u8 w A L) (hb : Byt L) (hl : L.length = 64) (hok : s.Ok) :
    Calls Try.prog 39 #[.pointer (some ⟨g, 0, none⟩), .pointer (some ⟨gk, 0, none⟩), .slice A 64 c] w (TakePost g (comp s L) w) := by
  have HS := Lib.hid hs
  have HK := Lib.hid hk
  have HR := Lib.hid hr
  have HBY := Lib.hid hb
  have HL := Lib.hid hl
  have HOK := Lib.hid hok
  have hgl := Arr.lt hs
  have hkl := Arr.lt hk
  obtain ⟨pa, rfl, hab⟩ := hr.isSome (by omega)
  have HW := Lib.hid (words_len L)
  clear hs hk hr hb hl hok
  go_enter Try.func39, Try.ntmps39
  go_wp2_with fail
  go_loopw [18] (fun i wr => ∃ k : Nat, k ≤ 16 ∧ i = .int .i64 k ∧ Hid (Arr wr w.heap.size 77 .u32 (fil (wordsL L) k)) ∧ Hid (Below w.heap.size w wr)) (fun i _ => 16 - (intOf i).toNat)
  case atStart => exact ⟨0, by omega, rfl, Lib.hid (Arr.newAt rfl (by rw [fil_zero, HW.out]; rfl)), Lib.hid ((Below.refl _ _).alloc (Nat.le_refl _) _)⟩
  case round =>
    obtain ⟨k, hk, rfl, HA, HB⟩ := hrel
    by_cases hlt : k < 16
    · have HRk := Lib.hid (HR.out.below HB.out (Nat.le_refl _))
      have c0 := HRk.out.at_ (i := 4 * k) (by have := HL.out; omega)
      have c1 := HRk.out.atN (4 * k + 1) (by have := HL.out; omega) (by omega)
      have c2 := HRk.out.atN (4 * k + 2) (by have := HL.out; omega) (by omega)
      have c3 := HRk.out.atN (4 * k + 3) (by have := HL.out; omega) (by omega)
      have e0 : (4 * (k : Int)).toNat = 4 * k := by omega
      have e1 : (4 * (k : Int) + 1).toNat = 4 * k + 1 := by omega
      have e2 : (4 * (k : Int) + 2).toNat = 4 * k + 2 := by omega
      have e3 : (4 * (k : Int) + 3).toNat = 4 * k + 3 := by omega
      obtain ⟨b00, b01⟩ := HBY.out.getD (4 * k)
      obtain ⟨b10, b11⟩ := HBY.out.getD (4 * k + 1)
      obtain ⟨b20, b21⟩ := HBY.out.getD (4 * k + 2)
      obtain ⟨b30, b31⟩ := HBY.out.getD (4 * k + 3)
      have HV : Hid (bits .or .u32 (bits .or .u32 (bits .or .u32 (L.getD (4 * k) 0 * 16777216) (L.getD (4 * k + 1) 0 * 65536)) (L.getD (4 * k + 2) 0 * 256)) (L.getD (4 * k + 3) 0) = (wordsL L).getD k 0) := Lib.hid (by
        rw [or4 _ _ _ _ ⟨b00, b01⟩ ⟨b10, b11⟩ ⟨b20, b21⟩ ⟨b30, b31⟩, words_lo L hlt]; rfl)
      generalize L.getD (4 * k) 0 = x0 at *
      generalize L.getD (4 * k + 1) 0 = x1 at *
      generalize L.getD (4 * k + 2) 0 = x2 at *
      generalize L.getD (4 * k + 3) 0 = x3 at *
      have d0 := HA.out.cellAdd (i := k) (by rw [fil_len, HW.out]; omega)
      have f0 := HA.out.frozenAdd k
      have d0' := HA.out.cell (i := k) (by rw [fil_len, HW.out]; omega)
      have f0' := HA.out.frozen k
      generalize (fil (wordsL L) k).getD k 0 = old at d0 d0'
      go_wp2_with fail
      refine wp_region_drawn_tail 35 (by kernel_rfl) (by kernel_rfl) ?_
      simp only [List.take_succ_cons, List.take_zero, List.drop_succ_cons, List.drop_zero]
      repeat (go_big_quiet_step (fail))
      refine wpQuiet_nil ?_
      intro _ hw'
      obtain ⟨nq, rfl⟩ := hw'
      go_wp2_with fail
      go_roundw
      case rel => exact ⟨k + 1, by omega, by go_num, Lib.hid (Arr.cast ((HA.out.drewN nq).set k _) (by rw [HV.out]; exact fil_set (by rw [HW.out]; omega))), Lib.hid ((below_drewN HB.out nq).setCell (by simp) _)⟩
      case measure => simp [intOf]; omega
    · have hk16 : k = 16 := by omega
      obtain ⟨k1, rfl⟩ : ∃ k1 : Nat, k1 = k := ⟨_, rfl⟩
      rw [hk16] at HA
      have hk1 : ¬ k1 < 16 := hlt
      clear hlt hk hk16
      obtain ⟨w1, rfl⟩ : ∃ w1 : World, w1 = wr := ⟨_, rfl⟩
      go_wp2_with fail
      go_loopw [8] (fun i wr => ∃ k : Nat, 16 ≤ k ∧ k ≤ 64 ∧ i = .int .i64 k ∧ Hid (Arr wr w.heap.size 77 .u32 (fil (wordsL L) k)) ∧ Hid (Below w.heap.size w wr)) (fun i _ => 64 - (intOf i).toNat)
      case atStart => exact ⟨16, by omega, by omega, rfl, HA, HB⟩
      case round =>
        clear HA HB
        obtain ⟨k, hk0, hk, rfl, HA, HB⟩ := hrel
        by_cases hlt : k < 64
        · have hfl : Hid ((fil (wordsL L) k).length = 64) := Lib.hid (by rw [fil_len, HW.out])
          have c15 := HA.out.cell (i := k - 15) (by rw [hfl.out]; omega)
          have c2 := HA.out.cell (i := k - 2) (by rw [hfl.out]; omega)
          have c16 := HA.out.cell (i := k - 16) (by rw [hfl.out]; omega)
          have c7 := HA.out.cell (i := k - 7) (by rw [hfl.out]; omega)
          have d0 := HA.out.cell (i := k) (by rw [hfl.out]; omega)
          have f0 := HA.out.frozen k
          rw [fil_get (by omega) (by rw [HW.out]; omega)] at c15 c2 c16 c7
          have HV := Lib.hid (words_hi L hk0 hlt)
          have u15 := words_u HBY.out (k - 15)
          have u2 := words_u HBY.out (k - 2)
          have U15 := Lib.hid u15
          have U2 := Lib.hid u2
          unfold U32 at u15 u2
          obtain ⟨u150, u151⟩ := u15
          obtain ⟨u20, u21⟩ := u2
          obtain ⟨x15, X15⟩ : ∃ x, Hid ((wordsL L).getD (k - 15) 0 = x) := ⟨_, Lib.hid rfl⟩
          obtain ⟨x2, X2⟩ : ∃ x, Hid ((wordsL L).getD (k - 2) 0 = x) := ⟨_, Lib.hid rfl⟩
          obtain ⟨x16, X16⟩ : ∃ x, Hid ((wordsL L).getD (k - 16) 0 = x) := ⟨_, Lib.hid rfl⟩
          obtain ⟨x7, X7⟩ : ∃ x, Hid ((wordsL L).getD (k - 7) 0 = x) := ⟨_, Lib.hid rfl⟩
          rw [X15.out] at c15 U15 u150 u151 HV
          rw [X2.out] at c2 U2 u20 u21 HV
          rw [X16.out] at c16 HV
          rw [X7.out] at c7 HV
          generalize (fil (wordsL L) k).getD k 0 = old at d0
          have e15 : ((k : Int) - 15).toNat = k - 15 := by omega
          have e2 : ((k : Int) - 2).toNat = k - 2 := by omega
          have e16 : ((k : Int) - 16).toNat = k - 16 := by omega
          have e7 : ((k : Int) - 7).toNat = k - 7 := by omega
          go_wp2_with fail
          go_quiet (fail)
          clear c15 c2 c16 c7 d0 f0
          have HA3 := Lib.hid (HA.out.drewN nq)
          have HB3 := Lib.hid (below_drewN HB.out nq)
          generalize wr.drewN nq = w3 at *
          have c16 := HA3.out.cell (i := k - 16) (by rw [hfl.out]; omega)
          have c7 := HA3.out.cell (i := k - 7) (by rw [hfl.out]; omega)
          have d0 := HA3.out.cell (i := k) (by rw [hfl.out]; omega)
          have f0 := HA3.out.frozen k
          rw [fil_get (by omega) (by rw [HW.out]; omega)] at c16 c7
          rw [X16.out] at c16
          rw [X7.out] at c7
          generalize (fil (wordsL L) k).getD k 0 = old at d0
          go_wp2_with fail
          refine wp_region_drawn_tail 29 (by kernel_rfl) (by kernel_rfl) ?_
          simp only [List.take_succ_cons, List.take_zero, List.drop_succ_cons, List.drop_zero]
          repeat (go_big_quiet_step ((go_at_call 40; first | (with_reducible exact Calls.quiet_of_same (turn_any x15 _ _ U15.out (by decide))) | (with_reducible exact Calls.quiet_of_same (turn_any x2 _ _ U2.out (by decide))))))
          refine wpQuiet_nil ?_
          intro _ hw'
          obtain ⟨nq', rfl⟩ := hw'
          clear e15 e2 e16 e7
          go_wp2_with fail
          go_roundw
          case rel => exact ⟨k + 1, by omega, by omega, by go_num, Lib.hid (Arr.cast ((HA3.out.drewN nq').set k _) (by rw [← fil_set (by rw [HW.out]; omega), HV.out]; congr 1; simp only [ad, wrapu32, sg0, sg1, xr]; omega)), Lib.hid ((below_drewN HB3.out nq').setCell (by simp) _)⟩
          case measure => simp [intOf]; omega
        · have hk64 : k = 64 := by omega
          obtain ⟨k2, rfl⟩ : ∃ k2 : Nat, k2 = k := ⟨_, rfl⟩
          rw [hk64] at HA
          have hk2 : ¬ k2 < 64 := hlt
          clear hlt hk hk0 hk64
          have HA2 : Hid (Arr wr w.heap.size 77 .u32 (wordsL L)) := Lib.hid (Arr.cast HA.out (by have := fil_full (wordsL L); rwa [HW.out] at this))
          clear HA
          obtain ⟨w2, rfl⟩ : ∃ w2 : World, w2 = wr := ⟨_, rfl⟩
          have HS2 := Lib.hid (HS.out.below HB.out hgl)
          have a0 := HS2.out.cell (i := 0) (by simp [S8.l])
          have a1 := HS2.out.cell (i := 1) (by simp [S8.l])
          have a2 := HS2.out.cell (i := 2) (by simp [S8.l])
          have a3 := HS2.out.cell (i := 3) (by simp [S8.l])
          have a4 := HS2.out.cell (i := 4) (by simp [S8.l])
          have a5 := HS2.out.cell (i := 5) (by simp [S8.l])
          have a6 := HS2.out.cell (i := 6) (by simp [S8.l])
          have a7 := HS2.out.cell (i := 7) (by simp [S8.l])
          simp [S8.l] at a0 a1 a2 a3 a4 a5 a6 a7
          go_wp2_with fail
          clear a0 a1 a2 a3 a4 a5 a6 a7
          have hw2 : w.heap.size < w2.heap.size := Arr.lt HA2.out
          go_loopw [101] (fun i w3 => ∃ k : Nat, k ≤ 64 ∧ i = .int .i64 k ∧ Hid (Arr w3 w2.heap.size 75 .u32 (rnds s (wordsL L) k).l) ∧ Hid (Below w2.heap.size w2 w3)) (fun i _ => 64 - (intOf i).toNat)
          case atStart => exact ⟨0, by omega, rfl, Lib.hid (Arr.newAt rfl (by rw [rnds_zero]; rfl)), Lib.hid ((Below.refl _ _).alloc (Nat.le_refl _) _)⟩
          case round =>
            clear HS2
            obtain ⟨k, hk, rfl, HV, HC⟩ := hrel
            have hw3 := HC.out.size
            have HA3 := Lib.hid (HA2.out.belowAll HC.out)
            have HK3 := Lib.hid ((HK.out.below HB.out hkl).below HC.out (by have := HB.out.size; omega))
            by_cases hlt : k < 64
            · have HOk := Lib.hid (rnds_ok HOK.out (wordsL L) k)
              have HNX := Lib.hid (rnds_succ s (wordsL L) k)
              have ck := HK3.out.cell (i := k) (by rw [kL_len]; omega)
              have cw := HA3.out.cell (i := k) (by rw [HW.out]; omega)
              generalize rnds s (wordsL L) k = v at *
              generalize (wordsL L).getD k 0 = xw at *
              generalize kL.getD k 0 = xk at *
              obtain ⟨va, vb, vc, vd, ve, vf, vg, vh⟩ := v
              have hou := HOk.out
              unfold S8.Ok at hou
              simp only at hou
              obtain ⟨o1, o2, o3, o4, o5, o6, o7, o8⟩ := hou
              have UA := Lib.hid o1
              have UE := Lib.hid o5
              unfold U32 at o1 o5
              have a0 := HV.out.cell (i := 0) (by simp [S8.l])
              have a1 := HV.out.cell (i := 1) (by simp [S8.l])
              have a2 := HV.out.cell (i := 2) (by simp [S8.l])
              have a3 := HV.out.cell (i := 3) (by simp [S8.l])
              have a4 := HV.out.cell (i := 4) (by simp [S8.l])
              have a5 := HV.out.cell (i := 5) (by simp [S8.l])
              have a6 := HV.out.cell (i := 6) (by simp [S8.l])
              have a7 := HV.out.cell (i := 7) (by simp [S8.l])
              simp [S8.l] at a0 a1 a2 a3 a4 a5 a6 a7
              obtain ⟨o10, o11⟩ := o1
              obtain ⟨o50, o51⟩ := o5
              clear o2 o3 o4 o6 o7 o8
              go_wp2_with fail
              go_quiet (fail)
              go_wp2_with fail
              obtain ⟨n1, rfl⟩ : ∃ n1 : Nat, n1 = nq := ⟨_, rfl⟩
              go_quiet ((go_at_call 40; with_reducible exact quiet_add_same (turn_any ve _ _ UE.out (by decide))))
              simp only [World.drewN_drewN]
              generalize n1 + nq = n2
              go_wp2_with fail
              go_quiet ((go_at_call 40; with_reducible exact quiet_add_same (turn_any va _ _ UA.out (by decide))))
              simp only [World.drewN_drewN]
              generalize n2 + nq = n3
              have f0 := HV.out.frozen 0
              have f1 := HV.out.frozen 1
              have f2 := HV.out.frozen 2
              have f3 := HV.out.frozen 3
              have f4 := HV.out.frozen 4
              have f5 := HV.out.frozen 5
              have f6 := HV.out.frozen 6
              have f7 := HV.out.frozen 7
              go_wp2_with fail
              go_roundw
              case rel =>
                refine ⟨k + 1, by omega, by go_num, Lib.hid ?_, Lib.hid ?_⟩
                · rw [HNX.out, rnd_l]
                  apply Arr.cast
                  · (repeat (first | with_reducible exact Arr.drewN HV.out n3 | with_reducible apply Arr.set))
                  · simp only [S8.l, List.set]
                    simp only [ad, wrapu32, bs1, bs0, chz, maj, xr, an, not_u32 UE.out]
                    simp only [List.cons.injEq, and_true, true_and]
                    exact ⟨by omega, by omega⟩
                · (repeat (first | with_reducible exact below_drewN HC.out n3 | (with_reducible refine Below.setCell ?_ (by simp) _)))
              case measure => simp [intOf]; omega
            · have hk64 : k = 64 := by omega
              obtain ⟨k3, rfl⟩ : ∃ k3 : Nat, k3 = k := ⟨_, rfl⟩
              rw [hk64] at HV
              have hk3 : ¬ k3 < 64 := hlt
              clear hlt hk hk64
              obtain ⟨w5, rfl⟩ : ∃ w5 : World, w5 = wr := ⟨_, rfl⟩
              have HBw := Lib.hid (HB.out.trans (HC.out.mono HB.out.size))
              have HSw := Lib.hid (HS.out.below HBw.out hgl)
              have HCM := Lib.hid (comp_eq s L)
              generalize rnds s (wordsL L) 64 = v at *
              have hgw : g < w2.heap.size := by have := HB.out.size; omega
              clear HA2 HA3 HK3 HB HC hw3
              go_wp2_with fail
              go_loopw [183] (fun i wx => ∃ k : Nat, k ≤ 8 ∧ i = .int .i64 k ∧ Hid (Arr wx g 75 .u32 (mixL s.l (addS s v).l k)) ∧ Hid (Arr wx w2.heap.size 75 .u32 v.l) ∧ Hid (w.grownBy wx (some g))) (fun i _ => 8 - (intOf i).toNat)
              case atStart => exact ⟨0, by omega, rfl, Lib.hid (by rw [mix_zero]; exact HSw.out), HV, Lib.hid (only_of_below HBw.out _)⟩
              case round =>
                clear HSw HV HBw
                obtain ⟨k, hk, rfl, HM, HV, HG⟩ := hrel
                by_cases hlt : k < 8
                · have hml : Hid ((mixL s.l (addS s v).l k).length = 8) := Lib.hid (mix_len rfl (by simp [S8.l]; omega))
                  have c0 := HM.out.cell (i := k) (by rw [hml.out]; omega)
                  rw [mix_get (xs := s.l) (ys := (addS s v).l) rfl (Nat.le_refl _)] at c0
                  have f0 := HM.out.frozen k
                  have d0 := HV.out.cell (i := k) (by simp [S8.l]; omega)
                  have HX := Lib.hid (addS_get s v hlt)
                  have HMS := Lib.hid (mix_set (xs := s.l) (ys := (addS s v).l) (k := k) rfl (by simp [S8.l]; omega))
                  generalize s.l.getD k 0 = x at *
                  generalize v.l.getD k 0 = y at *
                  go_wp2_with fail
                  refine wp_region_drawn_tail 11 (by kernel_rfl) (by kernel_rfl) ?_
                  simp only [List.take_succ_cons, List.take_zero, List.drop_succ_cons, List.drop_zero]
                  repeat (go_big_quiet_step (fail))
                  refine wpQuiet_nil ?_
                  intro _ hw'
                  obtain ⟨nq, rfl⟩ := hw'
                  go_wp2_with fail
                  go_roundw
                  case rel => exact ⟨k + 1, by omega, by go_num, Lib.hid (Arr.cast ((HM.out.drewN nq).set k _) (by rw [← HMS.out, HX.out]; rfl)), Lib.hid (Arr.far (HV.out.drewN nq) (by simp; omega) _), Lib.hid (only_setCell (only_drewN HG.out nq) (.inl rfl) _)⟩
                  case measure => simp [intOf]; omega
                · have hk8 : k = 8 := by omega
                  subst hk8
                  have HF : Hid (Arr wr g 75 .u32 (comp s L).l) := Lib.hid (Arr.cast HM.out (by rw [HCM.out]; exact mix_full (xs := s.l) (ys := (addS s v).l) rfl))
                  go_wp2_with fail
                  go_end0
                  exact ⟨rfl, HF.out, HG.out⟩
end Go.Proofs.Ythknncdhjicklaa
/- Contract: the closure of sha.Sum that feeds bytes. Conditions: as each theorem states them. -/
namespace Go.Proofs.Ythknncdhjicklaa
open Go.RowKit

theorem comps_step {k : Nat} {s : S8} {Y : List Int} : comps (k + 1) s Y = comp (comps k s Y) ((Y.drop (64 * k)).take 64) := by
  rw [comps_add k 1, comps_one]

/-- what a feeding leaves: the rest's variable in block br, the state in block g -/
def FeedPost (B br g gk : Nat) (s : S8) (Y : List Int) (w : World) (e : Ending) (w' : World) : Prop :=
  e = .returned (.tuple #[]) ∧ ∃ A n c, Blk w' br 23 #[.slice A n c] ∧ Own B 5 .u8 w' A n c (Y.drop (64 * (Y.length / 64))) ∧ Arr w' g 75 .u32 (comps (Y.length / 64) s Y).l ∧ Arr w' gk 77 .u32 kL ∧ Below (min br g) w w'

set_option maxHeartbeats 4000000 in
theorem feed_any (B br g gk : Nat) (s : S8) (A0 A : Option Addr) (n0 c0 c : Nat) (R X : List Int) (w : World) (hbr : Blk w br 23 #[.slice A0 n0 c0]) (ho : Own B 5 .u8 w A0 n0 c0 R) (hs : Arr w g 75 .u32 s.l) (hk : Arr w gk 77 .u32 kL)
    (hr : Rd w.heap.size .u8 w A X) (hb : Byt X) (hbR : Byt R) (hok : s.Ok) (h1 : br < B) (h2 : g < B) (h3 : gk < B) (hBs : B ≤ w.heap.size) (hne : br ≠ g) (hne2 : gk ≠ g) (hne3 : gk ≠ br) (hl : R.length + X.length ≤ 1099511627776) :
    Calls Try.prog 38 #[.slice A X.length c, .pointer (some ⟨br, 0, none⟩), .pointer (some ⟨g, 0, none⟩), .pointer (some ⟨gk, 0, none⟩)] w (FeedPost B br g gk s (R ++ X) w) := by
  have k0 := Blk.cell hbr 0
  have f0 := Blk.frozen hbr 0
  simp at k0
  have HBR := Lib.hid hbr
  have HO := Lib.hid ho
  have HS := Lib.hid hs
  have HK := Lib.hid hk
  have HR := Lib.hid hr
  have HOK := Lib.hid hok
  have HYB := Lib.hid (hbR.append hb)
  clear hbr ho hs hk hr hb hbR hok
  go_enter Try.func38, Try.ntmps38
  go_wp2_with (at_builtin; refine wpList_app (o := ⟨some 8, _, _, _, _, _⟩) elU8 rfl _ _ rfl rfl rfl HO.out HR.out rfl ?_ ?_ ?_; omega; exact hBs; intro A1 n1 c1 w1 q1; have H1 := Lib.hid q1; have k1 := Blk.cell (Blk.below HBR.out q1.2.2.1 h1) 0; have f1 := Blk.frozen (Blk.below HBR.out q1.2.2.1 h1) 0; simp at k1; clear q1)
  have O1 := Lib.hid H1.out.1
  have hO1 : ∀ ad, A1 = some ad → B ≤ ad.block := fun ad hA => (H1.out.1.block ad hA).1
  have T1 : Hid (Blk (w1.setCell ⟨br, 0, none⟩ (.slice A1 n1 c1)) br 23 #[.slice A1 n1 c1]) := Lib.hid (Blk.cast (Blk.set_ (Blk.below HBR.out H1.out.2.2.1 h1) 0 _) (by simp))
  have T2 : Hid (Own B 5 .u8 (w1.setCell ⟨br, 0, none⟩ (.slice A1 n1 c1)) A1 n1 c1 (R ++ X)) := Lib.hid (O1.out.same (fun ad hA => Below.heap_setCell _ _ _ _ (by have := hO1 ad hA; simp; omega)))
  have T3 : Hid (Arr (w1.setCell ⟨br, 0, none⟩ (.slice A1 n1 c1)) g 75 .u32 s.l) := Lib.hid (Arr.far (HS.out.below H1.out.2.2.1 h2) (by simp; omega) _)
  have T4 : Hid (Arr (w1.setCell ⟨br, 0, none⟩ (.slice A1 n1 c1)) gk 77 .u32 kL) := Lib.hid (Arr.far (HK.out.below H1.out.2.2.1 h3) (by simp; omega) _)
  have T5 : Hid (Below (min br g) w (w1.setCell ⟨br, 0, none⟩ (.slice A1 n1 c1))) := Lib.hid ((H1.out.2.2.1.mono (by omega)).setCell (by simp; omega) _)
  have T6 : B ≤ (w1.setCell ⟨br, 0, none⟩ (.slice A1 n1 c1)).heap.size := by have := H1.out.2.2.1.size; simp; omega
  have hYl : (R ++ X).length ≤ 1099511627776 := by rw [List.length_append]; exact hl
  generalize R ++ X = Y at *
  generalize w1.setCell ⟨br, 0, none⟩ (.slice A1 n1 c1) = w2 at *
  obtain rfl := T2.out.len
  clear H1 O1 hO1 k0 f0 k1 f1 HBR HO HS HK HR
  go_loopw [5] (fun a wr => ∃ p k : Nat, p ≤ Y.length ∧ a = .int .i64 p ∧ Hid (p = 64 * k) ∧ Hid (Blk wr br 23 #[.slice A1 Y.length c1]) ∧ Hid (Own B 5 .u8 wr A1 Y.length c1 Y) ∧ Hid (Arr wr g 75 .u32 (comps k s Y).l) ∧ Hid (Arr wr gk 77 .u32 kL) ∧ Hid (Below (min br g) w wr) ∧ B ≤ wr.heap.size) (fun a _ => Y.length - (intOf a).toNat)
  case atStart => exact ⟨0, 0, by omega, rfl, Lib.hid rfl, T1, T2, Lib.hid (by rw [comps_zero]; exact T3.out), T4, T5, T6⟩
  case round =>
    clear T1 T2 T3 T4 T5 T6
    obtain ⟨p, k, hp, rfl, HP, T1, T2, T3, T4, T5, T6⟩ := hrel
    have k1 := Blk.cell T1.out 0
    have f1 := Blk.frozen T1.out 0
    simp at k1
    by_cases hlt : p + 64 ≤ Y.length
    · obtain ⟨A', c', q1, q2, q3, q4, q5⟩ := slice_lh elU8 T2.out.rd T2.out.cap.1 (p : Int) ((p : Int) + 64) 64 (by omega) (by omega) (by omega) (by omega)
      rw [Int.toNat_natCast] at q3 q4
      have Q3 := Lib.hid q3
      have Q4 := Lib.hid q4
      have HBL := Lib.hid ((HYB.out.drop p).take 64)
      clear q3 q4
      go_wp2_with fail
      refine (take_any g gk (comps k s Y) A' c' _ _ T3.out T4.out Q3.out HBL.out Q4.out (comps_ok HOK.out _ _)).mono ?_
      rintro e w3 ⟨rfl, ha3, hg3⟩
      have U1 := Lib.hid (Blk.grown T1.out hg3 (by simp; omega))
      have U2 := Lib.hid (T2.out.kept hg3 (fun ad hA he => by have := (T2.out.block ad hA).1; simp at he; omega))
      have U3 : Hid (Arr w3 g 75 .u32 (comps (k + 1) s Y).l) := Lib.hid (by rw [comps_step, ← HP.out]; exact ha3)
      have U4 := Lib.hid (T4.out.grown hg3 (by simp; omega))
      have U5 := Lib.hid (T5.out.trans (below_of_only hg3 (by omega) (by omega)))
      have U6 : B ≤ w3.heap.size := Nat.le_trans T6 hg3.size
      clear ha3 hg3 k1 f1 q5
      go_wp2_with fail
      go_roundw
      case rel => exact ⟨p + 64, k + 1, by omega, by go_num, Lib.hid (by have := HP.out; omega), U1, U2, U3, U4, U5, U6⟩
      case measure => simp [intOf]; omega
    · have hk : Y.length / 64 = k := by have := HP.out; omega
      obtain ⟨A', c', q1, q2, q3, q4, q5⟩ := slice_l elU8 T2.out.rd T2.out.cap.1 (p : Int) (Y.length - p) (by omega) (by omega) (by omega)
      rw [Int.toNat_natCast] at q3 q4
      have Q3 := Lib.hid q3
      have Q4 := Lib.hid q4
      have HK2 := Lib.hid hk
      clear q3 q4 hk
      have hdl : (Y.drop p).length ≤ 17592186044416 := by rw [Q4.out]; omega
      go_wp2_with (at_builtin; refine wpList_app (o := ⟨some 25, _, _, _, _, _⟩) (B := B) elU8 rfl _ _ rfl rfl rfl (Own.nil _ _ _ _) Q3.out Q4.out.symm ?_ ?_ ?_; (simp only [List.length_nil, Nat.zero_add]; exact hdl); exact T6; intro A9 n9 c9 w9 q9; have H9 := Lib.hid q9; have k9 := Blk.cell (Blk.below T1.out q9.2.2.1 h1) 0; have f9 := Blk.frozen (Blk.below T1.out q9.2.2.1 h1) 0; simp at k9; clear q9)
      go_end0
      have hO9 : ∀ ad, A9 = some ad → B ≤ ad.block := fun ad hA => (H9.out.1.block ad hA).1
      refine ⟨rfl, A9, n9, c9, ?_, ?_, ?_, ?_, ?_⟩
      · exact Blk.cast (Blk.set_ (Blk.below T1.out H9.out.2.2.1 h1) 0 _) (by simp)
      · rw [HK2.out, ← HP.out]
        exact H9.out.1.same (fun ad hA => Below.heap_setCell _ _ _ _ (by have := hO9 ad hA; simp; omega))
      · rw [HK2.out]
        exact Arr.far (T3.out.below H9.out.2.2.1 h2) (by simp; omega) _
      · exact Arr.far (T4.out.below H9.out.2.2.1 h3) (by simp; omega) _
      · exact (T5.out.trans (H9.out.2.2.1.mono (by omega))).setCell (by simp; omega) _
end Go.Proofs.Ythknncdhjicklaa
/- Texts (a slice of slices of bytes), plain laws on feeding, contracts of sha.first and sha.constants. Conditions: as each theorem states them. -/
namespace Go.Proofs.Ythknncdhjicklaa
open Go.RowKit

/-- one text -/
structure Tx where
  A : Option Addr
  c : Nat
  xs : List Int
def Tx.none : Tx := ⟨Option.none, 0, []⟩
def Txs (B : Nat) (w : World) (A : Option Addr) (ts : List Tx) : Prop :=
  ∀ i, i < ts.length → ∃ ad, A = some ad ∧ ad.block < B ∧ w.cell? (ad.add i) = some (.slice (ts.getD i Tx.none).A (ts.getD i Tx.none).xs.length (ts.getD i Tx.none).c) ∧ Rd B .u8 w (ts.getD i Tx.none).A (ts.getD i Tx.none).xs ∧ (ts.getD i Tx.none).xs.length ≤ (ts.getD i Tx.none).c
def BytT (ts : List Tx) : Prop := ∀ t ∈ ts, Byt t.xs
def joinT (ts : List Tx) : List Int := ts.flatMap (·.xs)
theorem Txs.below {B N : Nat} {w w' : World} {A : Option Addr} {ts : List Tx} (h : Txs B w A ts) (hb : Below N w w') (hB : B ≤ N) : Txs B w' A ts := fun i hi => by
  obtain ⟨ad, e, h1, h2, h3, h4⟩ := h i hi
  exact ⟨ad, e, h1, Below.cell_some hb h2 (by rw [block_of_add]; omega), h3.below hb hB, h4⟩
theorem Txs.mono {B B' : Nat} {w : World} {A : Option Addr} {ts : List Tx} (h : Txs B w A ts) (hB : B ≤ B') : Txs B' w A ts := fun i hi => by
  obtain ⟨ad, e, h1, h2, h3, h4⟩ := h i hi
  exact ⟨ad, e, by omega, h2, h3.mono hB, h4⟩
theorem Txs.nil {B : Nat} {w : World} {A : Option Addr} : Txs B w A [] := fun i hi => by simp at hi
theorem getD_mem {α : Type} {xs : List α} {z : α} {i : Nat} (h : i < xs.length) : xs.getD i z ∈ xs := by
  rw [List.getD_eq_getElem?_getD, List.getElem?_eq_getElem h]; simp
theorem join_snoc {ts : List Tx} {k : Nat} (h : k < ts.length) : joinT (ts.take (k + 1)) = joinT (ts.take k) ++ (ts.getD k Tx.none).xs := by
  unfold joinT
  rw [List.take_succ_eq_append_getElem h, List.flatMap_append]
  simp [List.getD_eq_getElem?_getD, List.getElem?_eq_getElem h]
theorem join_take_le (ts : List Tx) (k : Nat) : (joinT (ts.take k)).length ≤ (joinT ts).length := by
  have : joinT ts = joinT (ts.take k) ++ joinT (ts.drop k) := by
    unfold joinT; rw [← List.flatMap_append, List.take_append_drop]
  rw [this, List.length_append]; omega
theorem byt_join {ts : List Tx} (h : BytT ts) : Byt (joinT ts) := fun x hx => by
  unfold joinT at hx
  obtain ⟨t, ht, hm⟩ := List.mem_flatMap.1 hx
  exact h t ht x hm
theorem BytT.take {ts : List Tx} (h : BytT ts) (k : Nat) : BytT (ts.take k) := fun t ht => h t (List.mem_of_mem_take ht)

/-- what was fed so far: whole blocks into the state, the rest kept -/
def fedS (Y : List Int) : S8 := comps (Y.length / 64) hL Y
def fedR (Y : List Int) : List Int := Y.drop (64 * (Y.length / 64))
theorem fed_len (Y : List Int) : (fedR Y).length = Y.length % 64 := by unfold fedR; rw [List.length_drop]; omega
theorem fed_ok (Y : List Int) : (fedS Y).Ok := comps_ok hL_ok _ _
theorem fed_more (Y X : List Int) : comps ((fedR Y ++ X).length / 64) (fedS Y) (fedR Y ++ X) = fedS (Y ++ X) ∧ (fedR Y ++ X).drop (64 * ((fedR Y ++ X).length / 64)) = fedR (Y ++ X) := by
  have hd : (Y ++ X).drop (64 * (Y.length / 64)) = fedR Y ++ X := by
    unfold fedR; rw [List.drop_append_of_le_length (by omega)]
  have hlen : (Y ++ X).length / 64 = Y.length / 64 + (fedR Y ++ X).length / 64 := by
    rw [List.length_append, List.length_append, fed_len]; omega
  constructor
  · unfold fedS
    rw [hlen, comps_add, hd, comps_append (Y.length / 64) hL Y X (by omega)]
  · conv => rhs; unfold fedR
    rw [hlen, Nat.mul_add, ← List.drop_drop, hd]
theorem byt_fedR {Y : List Int} (h : Byt Y) : Byt (fedR Y) := h.drop _
theorem shaL_fed (Y : List Int) : shaL Y = outL (fedS (Y ++ padL Y.length)) := by
  unfold shaL fedS shaN
  rw [List.length_append, padL_len, show Y.length + 9 + padN Y.length = Y.length + (9 + padN Y.length) by omega]
attribute [irreducible] fedS fedR joinT

theorem first_any (w : World) : Calls Try.prog 36 #[] w fun e w' => e = .returned (.agg (cellsL .u32 hL.l)) ∧ Below w.heap.size w w' := by
  go_enter Try.func36, Try.ntmps36
  go_wp2_with fail
  refine ret_arr (g := w.heap.size) (t := 75) (k := .u32) (xs := hL.l) rfl rfl (Arr.newAt rfl rfl) Try.underlying75 (by kernel_rfl) rfl rfl ⟨rfl, (Below.refl _ _).alloc (Nat.le_refl _) _⟩

set_option maxRecDepth 100000 in
set_option maxHeartbeats 4000000 in
theorem constants_any (w : World) : Calls Try.prog 37 #[] w fun e w' => e = .returned (.agg (cellsL .u32 kL)) ∧ Below w.heap.size w w' := by
  go_enter Try.func37, Try.ntmps37
  go_wp2_with (refine wpList_storeArr (o := ⟨none, .store _ _ _, _, _, _, _⟩) (k := .u32) (xs := kL) (n := 64) rfl _ _ rfl rfl (by unfold kL; rfl) (Blk.new _ _ _) (by kernel_rfl) (by rw [kL_len]) rfl ?_; intro w1 ha1 hg1)
  exact ret_arr (g := w.heap.size) (t := 77) (k := .u32) (xs := kL) rfl rfl ha1 Try.underlying77 (by kernel_rfl) (by rw [kL_len]) rfl ⟨rfl, ((Below.refl _ _).alloc (Nat.le_refl _) _).trans (below_of_only hg1 (Nat.le_refl _) (by simp))⟩
end Go.Proofs.Ythknncdhjicklaa
/- Contract: sha.Sum. Conditions: as each theorem states them. -/
namespace Go.Proofs.Ythknncdhjicklaa
open Go.RowKit

theorem size32 : (Try.prog.info? 22).map (·.size) = some 32 := by kernel_rfl
theorem index_k0 (s : S8) (w : World) : (Instr.index 75 (.agg (cellsL .u32 s.l)) (.int .i64 ((0 : Nat) : Int))).run Try.prog w = .ok (.int .u32 (s.l.getD 0 0)) w := by kernel_rfl
theorem index_k1 (s : S8) (w : World) : (Instr.index 75 (.agg (cellsL .u32 s.l)) (.int .i64 ((1 : Nat) : Int))).run Try.prog w = .ok (.int .u32 (s.l.getD 1 0)) w := by kernel_rfl
theorem index_k2 (s : S8) (w : World) : (Instr.index 75 (.agg (cellsL .u32 s.l)) (.int .i64 ((2 : Nat) : Int))).run Try.prog w = .ok (.int .u32 (s.l.getD 2 0)) w := by kernel_rfl
theorem index_k3 (s : S8) (w : World) : (Instr.index 75 (.agg (cellsL .u32 s.l)) (.int .i64 ((3 : Nat) : Int))).run Try.prog w = .ok (.int .u32 (s.l.getD 3 0)) w := by kernel_rfl
theorem index_k4 (s : S8) (w : World) : (Instr.index 75 (.agg (cellsL .u32 s.l)) (.int .i64 ((4 : Nat) : Int))).run Try.prog w = .ok (.int .u32 (s.l.getD 4 0)) w := by kernel_rfl
theorem index_k5 (s : S8) (w : World) : (Instr.index 75 (.agg (cellsL .u32 s.l)) (.int .i64 ((5 : Nat) : Int))).run Try.prog w = .ok (.int .u32 (s.l.getD 5 0)) w := by kernel_rfl
theorem index_k6 (s : S8) (w : World) : (Instr.index 75 (.agg (cellsL .u32 s.l)) (.int .i64 ((6 : Nat) : Int))).run Try.prog w = .ok (.int .u32 (s.l.getD 6 0)) w := by kernel_rfl
theorem index_k7 (s : S8) (w : World) : (Instr.index 75 (.agg (cellsL .u32 s.l)) (.int .i64 ((7 : Nat) : Int))).run Try.prog w = .ok (.int .u32 (s.l.getD 7 0)) w := by kernel_rfl
theorem index_s8 (s : S8) (k : Nat) (hk : k < 8) (w : World) : (Instr.index 75 (.agg (cellsL .u32 s.l)) (.int .i64 k)).run Try.prog w = .ok (.int .u32 (s.l.getD k 0)) w := by
  match k, hk with
  | 0, _ => exact index_k0 s w
  | 1, _ => exact index_k1 s w
  | 2, _ => exact index_k2 s w
  | 3, _ => exact index_k3 s w
  | 4, _ => exact index_k4 s w
  | 5, _ => exact index_k5 s w
  | 6, _ => exact index_k6 s w
  | 7, _ => exact index_k7 s w

theorem be8_snoc (n : Nat) {j : Nat} (h : j < 8) : (be8 n).take j ++ [(be8 n).getD j 0] = (be8 n).take (j + 1) := by
  rw [List.take_succ_eq_append_getElem (by rw [be8_len]; exact h), List.getD_eq_getElem?_getD, List.getElem?_eq_getElem (by rw [be8_len]; exact h)]; rfl
theorem own_snoc {B : Nat} {e : TypeId} {k : IntKind} {w : World} {A : Option Addr} {n c : Nat} {P Q Q' : List Int} {v z : Int} (h : Own B e k w A n c (P ++ Q ++ [v])) (hv : v = z) (ht : Q ++ [z] = Q') : Own B e k w A n c (P ++ Q') := by
  rw [List.append_assoc, hv, ht] at h; exact h

def ShaPost (L : List Int) (w : World) (e : Ending) (w' : World) : Prop := e = .returned (.agg (cellsL .u8 (shaL L))) ∧ Below w.heap.size w w'

set_option maxRecDepth 100000 in
set_option maxHeartbeats 8000000 in
theorem sum_any (A : Option Addr) (c : Nat) (ts : List Tx) (w : World) (ht : Txs w.heap.size w A ts) (hb : BytT ts) (hl : (joinT ts).length ≤ 1000000000000) (hn : ts.length ≤ 1000000000000) :
    Calls Try.prog 33 #[.slice A ts.length c] w (ShaPost (joinT ts) w) := by
  have HT := Lib.hid ht
  have HBT := Lib.hid hb
  clear ht hb
  go_enter Try.func33, Try.ntmps33
  go_wp2_with fail
  refine (first_any _).mono ?_
  rintro e w1 ⟨rfl, hb1⟩
  have RB1 := Lib.hid (Blk.below (Blk.new w 22 _) hb1 (by simp))
  have B1 := Lib.hid (((Below.refl w.heap.size w).alloc (Nat.le_refl _) _).trans (hb1.mono (by simp)))
  clear hb1
  go_wp2_with fail
  refine (constants_any _).mono ?_
  rintro e w2 ⟨rfl, hb2⟩
  have RB2 := Lib.hid (Blk.below RB1.out hb2 (Blk.lt RB1.out))
  have B2 := Lib.hid (B1.out.trans (hb2.mono B1.out.size))
  have z2 : w.heap.size < w2.heap.size := Blk.lt RB2.out
  clear hb2
  go_wp2_with (first
    | (refine wpList_storeArr (o := ⟨none, .store 75 _ _, _, _, _, _⟩) (k := .u32) (xs := hL.l) (n := 8) rfl _ _ rfl rfl rfl (Blk.alloc (Blk.new _ _ _) _) (by kernel_rfl) rfl rfl ?_; intro w3 ha3 hg3; have hk3 := blk_grown_new hg3 (g := w2.heap.size + 1) (by simp) (by simp))
    | (refine wpList_storeArr (o := ⟨none, .store 77 _ _, _, _, _, _⟩) (k := .u32) (xs := kL) (n := 64) rfl _ _ rfl rfl rfl hk3 (by kernel_rfl) (by rw [kL_len]) rfl ?_; intro w4 ha4 hg4))
  have hgA := fun (o : Obj) => only_alloc (World.grownBy.refl w2 none) o
  have RB4 := Lib.hid (Blk.grown (Blk.grown (Blk.alloc (Blk.alloc RB2.out _) _) hg3 (by simp; omega)) hg4 (by simp; omega))
  have S4 := Lib.hid (ha3.grown hg4 (by simp))
  have K4 := Lib.hid ha4
  have B4 := Lib.hid ((((B2.out.alloc B2.out.size _).alloc (by have := B2.out.size; simp; omega) _).trans (below_of_only hg3 (by omega) (by simp; omega))).trans (below_of_only hg4 (by omega) (by have := hg3.size; simp at this; omega)))
  have z4 : w2.heap.size + 2 ≤ w4.heap.size := by have h1 := hg3.size; have h2 := hg4.size; simp at h1; omega
  clear ha3 hg3 hk3 ha4 hg4 hgA RB1 B1 RB2 B2
  have RB := Lib.hid (Blk.alloc RB4.out (.cells #[.slice none 0 0] 23))
  have HS := Lib.hid (S4.out.alloc (.cells #[.slice none 0 0] 23))
  have HK := Lib.hid (K4.out.alloc (.cells #[.slice none 0 0] 23))
  have HR : Hid (Blk (w4.alloc (.cells #[.slice none 0 0] 23)) w4.heap.size 23 #[.slice none 0 0]) := Lib.hid (Blk.new _ _ _)
  have HB := Lib.hid (B4.out.alloc B4.out.size (.cells #[.slice none 0 0] 23))
  have HZ : Hid ((w4.alloc (.cells #[.slice none 0 0] 23)).heap.size = w4.heap.size + 1) := Lib.hid (by simp)
  generalize w4.alloc (.cells #[.slice none 0 0] 23) = w5 at *
  clear RB4 S4 K4 B4
  have z5 : w.heap.size < w2.heap.size := z2
  generalize w4.heap.size = br at *
  generalize w2.heap.size = g at *
  have f0 : fedS [] = hL := by unfold fedS; exact comps_zero _ _
  have f1 : fedR [] = [] := by unfold fedR; rfl
  have F0 := Lib.hid f0
  have F1 := Lib.hid f1
  clear f0 f1
  generalize hz32 : #[Value.int .u8 0, .int .u8 0, .int .u8 0, .int .u8 0, .int .u8 0, .int .u8 0, .int .u8 0, .int .u8 0, .int .u8 0, .int .u8 0, .int .u8 0, .int .u8 0, .int .u8 0, .int .u8 0, .int .u8 0, .int .u8 0, .int .u8 0, .int .u8 0, .int .u8 0, .int .u8 0, .int .u8 0, .int .u8 0, .int .u8 0, .int .u8 0, .int .u8 0, .int .u8 0, .int .u8 0, .int .u8 0, .int .u8 0, .int .u8 0, .int .u8 0, .int .u8 0] = zz at *
  have hzz : Hid (zz.size = 32) := Lib.hid (by rw [← hz32]; rfl)
  clear hz32
  go_loopw [6, 21] (fun n i wr => ∃ (k N : Nat) (A0 : Option Addr) (n0 c0 : Nat), k ≤ ts.length ∧ i = .int .i64 k ∧ n = .int .u64 N ∧ N ≤ 1000000000000 ∧ Hid (N = (joinT (ts.take k)).length) ∧ Hid (Blk wr br 23 #[.slice A0 n0 c0]) ∧ Hid (Own (br + 1) 5 .u8 wr A0 n0 c0 (fedR (joinT (ts.take k)))) ∧ Hid (Arr wr g 75 .u32 (fedS (joinT (ts.take k))).l) ∧ Hid (Arr wr (g + 1) 77 .u32 kL) ∧ Hid (Blk wr w.heap.size 22 zz) ∧ Hid (Below w.heap.size w wr) ∧ br < wr.heap.size) (fun _ i _ => ts.length - (intOf i).toNat)
  case atStart => exact ⟨0, 0, none, 0, 0, by omega, rfl, rfl, by omega, Lib.hid (by simp [joinT]), HR, Lib.hid (by rw [show joinT (ts.take 0) = [] by simp [joinT], F1.out]; exact Own.nil _ _ _ _), Lib.hid (by rw [show joinT (ts.take 0) = [] by simp [joinT], F0.out]; exact HS.out), HK, RB, HB, by have := HZ.out; omega⟩
  case round =>
    clear HR HS HK RB HB HZ
    obtain ⟨k, N, A0, n0, c0, hk, rfl, rfl, hN, HN, HR, HO, HS, HK, RB, HB, hbw⟩ := hrel
    by_cases hlt : k < ts.length
    · obtain ⟨pa, hA, p1, p2, p3, p4⟩ := HT.out k hlt
      have HJ := Lib.hid (join_snoc hlt)
      have HJl := Lib.hid (join_take_le ts (k + 1))
      have HBk := Lib.hid (HBT.out _ (getD_mem (z := Tx.none) hlt))
      have HBY := Lib.hid (byt_join (HBT.out.take k))
      generalize ts.getD k Tx.none = t at *
      obtain ⟨tA, tc, tx⟩ := t
      simp only at p2 p3 p4 HJ HBk
      generalize hY : joinT (ts.take k) = Y at *
      have hYl : (Y ++ tx).length ≤ 1000000000000 := by have h1 := HJl.out; rw [HJ.out] at h1; omega
      rw [List.length_append] at hYl
      have hNY : N = Y.length := HN.out
      have c1 := Below.cell_some HB.out p2 (by rw [block_of_add]; exact p1)
      have P3 := Lib.hid ((p3.below HB.out (Nat.le_refl _)).mono HB.out.size)
      subst hA
      have hxl : N + tx.length ≤ 1000000000000 := by omega
      have HNY := Lib.hid hNY
      have hY' := Lib.hid hY
      clear p2 p3 p4 hNY hY
      go_wp2_with fail
      refine (feed_any (br + 1) br g (g + 1) (fedS Y) A0 tA n0 c0 tc (fedR Y) tx _ HR.out HO.out HS.out HK.out P3.out HBk.out (byt_fedR HBY.out) (fed_ok Y) (by omega) (by omega) (by omega) (by omega) (by omega) (by omega) (by omega) (by rw [fed_len]; omega)).mono ?_
      rintro e w6 ⟨rfl, A1, n1, c1', hr6, ho6, hs6, hk6, hb6⟩
      obtain ⟨m1, m2⟩ := fed_more Y tx
      rw [m1] at hs6
      rw [m2] at ho6
      rw [← HJ.out] at hs6 ho6
      have HR6 := Lib.hid hr6
      have HO6 := Lib.hid ho6
      have HS6 := Lib.hid hs6
      have HK6 := Lib.hid hk6
      have RB6 := Lib.hid (Blk.below RB.out hb6 (by omega))
      have HB6 := Lib.hid (HB.out.trans (hb6.mono (by omega)))
      have hbw6 : br < w6.heap.size := Blk.lt hr6
      clear hr6 ho6 hs6 hk6 hb6 m1 m2 c1
      go_wp2_with fail
      go_roundw
      case rel => exact ⟨k + 1, N + tx.length, A1, n1, c1', by omega, by go_num, by go_num, by omega, Lib.hid (by rw [HJ.out, List.length_append, HNY.out]), HR6, HO6, HS6, HK6, RB6, HB6, hbw6⟩
      case measure => simp [intOf]; omega
    · have hkt : k = ts.length := by omega
      have HTK : Hid (ts.take k = ts) := Lib.hid (List.take_of_length_le (by omega))
      rw [HTK.out] at HN HO HS
      obtain ⟨k1, rfl⟩ : ∃ k1 : Nat, k1 = k := ⟨_, rfl⟩
      obtain ⟨w7, rfl⟩ : ∃ w7 : World, w7 = wr := ⟨_, rfl⟩
      have HYB := Lib.hid (byt_join HBT.out)
      clear hkt HTK HT HBT hl
      generalize hY : joinT ts = Y at *
      clear hY
      have hn0 : n0 = N % 64 := by have h1 := HO.out.len; rw [fed_len, ← HN.out] at h1; exact h1
      have HN0 := Lib.hid hn0
      have hn0' : n0 < 64 := by omega
      clear hn0
      go_wp2_with fail
      have hpn : padN N < 64 := by unfold padN; omega
      go_loopw [10] (fun b wr => ∃ (j : Nat) (A1 : Option Addr) (n1 c1 : Nat), j ≤ padN N ∧ b = .slice A1 n1 c1 ∧ Hid (Own w7.heap.size 5 .u8 wr A1 n1 c1 (128 :: List.replicate j 0)) ∧ Hid (Below w7.heap.size w7 wr)) (fun b _ => 64 - (match b with | .slice _ n _ => n | _ => 0))
      case atStart => exact ⟨0, some ⟨w7.heap.size, 0, none⟩, 1, 1, by omega, rfl, Lib.hid (Own.litAt (xs := [128]) rfl rfl rfl (Nat.le_refl _) (by simp [maxLen])), Lib.hid ((Below.refl _ _).alloc (Nat.le_refl _) _)⟩
      case round =>
        obtain ⟨j, A1, n1, c1, hj, rfl, HE, HX⟩ := hrel
        have hn1 : n1 = 1 + j := by have h1 := HE.out.len; rw [List.length_cons, List.length_replicate] at h1; omega
        have y1 := Blk.cell (Blk.below HR.out HX.out hbw) 0
        simp at y1
        by_cases hlt2 : j < padN N
        · have ht : (((n0 : Int) + (n1 : Int)) % 64 != 56) = true := by have h1 := HN0.out; rw [bne_iff_ne]; unfold padN at hlt2; omega
          have HN1 := Lib.hid hn1
          have hn1' : n1 ≤ 64 := by omega
          clear hn1
          go_wp2_with (at_builtin; refine wpList_app (o := ⟨some 44, _, _, _, _, _⟩) elU8 rfl _ _ rfl rfl rfl (HE.out.alloc _) (Rd.newAt (xs := [0]) rfl rfl) rfl ?_ ?_ ?_; (simp only [List.length_cons, List.length_replicate, List.length_nil]; omega); exact (HX.out.alloc HX.out.size _).size; intro A9 n9 c9 w9 q9; have H9 := Lib.hid q9; have B9 := Lib.hid ((HX.out.alloc HX.out.size _).trans q9.2.2.1); clear q9)
          go_roundw
          case rel => exact ⟨j + 1, A9, n9, c9, by omega, rfl, Lib.hid (by have := H9.out.1; rw [List.cons_append, ← List.replicate_succ'] at this; exact this), B9⟩
          case measure =>
            have h1 := H9.out.1.len
            rw [List.length_append, List.length_cons, List.length_replicate, List.length_cons, List.length_nil] at h1
            have h2 := HN1.out
            simp only
            omega
        · have hjp : j = padN N := by omega
          have ht : (((n0 : Int) + (n1 : Int)) % 64 != 56) = false := by have h1 := HN0.out; rw [bne_eq_false_iff_eq]; unfold padN at hjp; omega
          rw [hjp] at HE
          have HN1 := Lib.hid hn1
          have hn1' : n1 ≤ 64 := by omega
          clear hn1 hjp hlt2
          obtain ⟨w8, rfl⟩ : ∃ w8 : World, w8 = wr := ⟨_, rfl⟩
          go_wp2_with fail
          clear ht
          go_loopw [10, 11] (fun b i wr => ∃ (j : Nat) (A1 : Option Addr) (n1 c1 : Nat), j ≤ 8 ∧ i = .int .i64 (7 - (j : Int)) ∧ b = .slice A1 n1 c1 ∧ Hid (Own w7.heap.size 5 .u8 wr A1 n1 c1 ((128 :: List.replicate (padN N) 0) ++ (be8 (8 * N)).take j)) ∧ Hid (Below w7.heap.size w7 wr)) (fun _ i _ => (intOf i + 1).toNat)
          case atStart => exact ⟨0, A1, n1, c1, by omega, rfl, rfl, Lib.hid (by simpa using HE.out), HX⟩
          case round =>
            clear HE HX
            obtain ⟨j, A1, n1, c1, hj, rfl, rfl, HE, HX⟩ := hrel
            rcases (show j = 0 ∨ j = 1 ∨ j = 2 ∨ j = 3 ∨ j = 4 ∨ j = 5 ∨ j = 6 ∨ j = 7 ∨ j = 8 by omega) with rfl | rfl | rfl | rfl | rfl | rfl | rfl | rfl | rfl
            · go_wp2_with (at_builtin; refine wpList_app (o := ⟨some 57, _, _, _, _, _⟩) elU8 rfl _ _ rfl rfl rfl (HE.out.alloc _) (Rd.newAt (xs := [_]) rfl rfl) rfl ?_ ?_ ?_; (simp only [List.length_append, List.length_cons, List.length_replicate, List.length_take, List.length_nil]; omega); exact (HX.out.alloc HX.out.size _).size; intro A9 n9 c9 w9 q9; have H9 := Lib.hid q9; have B9 := Lib.hid ((HX.out.alloc HX.out.size _).trans q9.2.2.1); clear q9)
              go_roundw
              case rel => exact ⟨1, A9, n9, c9, by omega, by go_num, rfl, Lib.hid (own_snoc H9.out.1 (by rw [be8_get _ (by decide)]; simp only [Nat.reduceSub, Nat.reducePow]; omega) (be8_snoc _ (by decide))), B9⟩
              case measure => simp [intOf]
            · go_wp2_with (at_builtin; refine wpList_app (o := ⟨some 57, _, _, _, _, _⟩) elU8 rfl _ _ rfl rfl rfl (HE.out.alloc _) (Rd.newAt (xs := [_]) rfl rfl) rfl ?_ ?_ ?_; (simp only [List.length_append, List.length_cons, List.length_replicate, List.length_take, List.length_nil]; omega); exact (HX.out.alloc HX.out.size _).size; intro A9 n9 c9 w9 q9; have H9 := Lib.hid q9; have B9 := Lib.hid ((HX.out.alloc HX.out.size _).trans q9.2.2.1); clear q9)
              go_roundw
              case rel => exact ⟨2, A9, n9, c9, by omega, by go_num, rfl, Lib.hid (own_snoc H9.out.1 (by rw [be8_get _ (by decide)]; simp only [Nat.reduceSub, Nat.reducePow]; omega) (be8_snoc _ (by decide))), B9⟩
              case measure => simp [intOf]
            · go_wp2_with (at_builtin; refine wpList_app (o := ⟨some 57, _, _, _, _, _⟩) elU8 rfl _ _ rfl rfl rfl (HE.out.alloc _) (Rd.newAt (xs := [_]) rfl rfl) rfl ?_ ?_ ?_; (simp only [List.length_append, List.length_cons, List.length_replicate, List.length_take, List.length_nil]; omega); exact (HX.out.alloc HX.out.size _).size; intro A9 n9 c9 w9 q9; have H9 := Lib.hid q9; have B9 := Lib.hid ((HX.out.alloc HX.out.size _).trans q9.2.2.1); clear q9)
              go_roundw
              case rel => exact ⟨3, A9, n9, c9, by omega, by go_num, rfl, Lib.hid (own_snoc H9.out.1 (by rw [be8_get _ (by decide)]; simp only [Nat.reduceSub, Nat.reducePow]; omega) (be8_snoc _ (by decide))), B9⟩
              case measure => simp [intOf]
            · go_wp2_with (at_builtin; refine wpList_app (o := ⟨some 57, _, _, _, _, _⟩) elU8 rfl _ _ rfl rfl rfl (HE.out.alloc _) (Rd.newAt (xs := [_]) rfl rfl) rfl ?_ ?_ ?_; (simp only [List.length_append, List.length_cons, List.length_replicate, List.length_take, List.length_nil]; omega); exact (HX.out.alloc HX.out.size _).size; intro A9 n9 c9 w9 q9; have H9 := Lib.hid q9; have B9 := Lib.hid ((HX.out.alloc HX.out.size _).trans q9.2.2.1); clear q9)
              go_roundw
              case rel => exact ⟨4, A9, n9, c9, by omega, by go_num, rfl, Lib.hid (own_snoc H9.out.1 (by rw [be8_get _ (by decide)]; simp only [Nat.reduceSub, Nat.reducePow]; omega) (be8_snoc _ (by decide))), B9⟩
              case measure => simp [intOf]
            · go_wp2_with (at_builtin; refine wpList_app (o := ⟨some 57, _, _, _, _, _⟩) elU8 rfl _ _ rfl rfl rfl (HE.out.alloc _) (Rd.newAt (xs := [_]) rfl rfl) rfl ?_ ?_ ?_; (simp only [List.length_append, List.length_cons, List.length_replicate, List.length_take, List.length_nil]; omega); exact (HX.out.alloc HX.out.size _).size; intro A9 n9 c9 w9 q9; have H9 := Lib.hid q9; have B9 := Lib.hid ((HX.out.alloc HX.out.size _).trans q9.2.2.1); clear q9)
              go_roundw
              case rel => exact ⟨5, A9, n9, c9, by omega, by go_num, rfl, Lib.hid (own_snoc H9.out.1 (by rw [be8_get _ (by decide)]; simp only [Nat.reduceSub, Nat.reducePow]; omega) (be8_snoc _ (by decide))), B9⟩
              case measure => simp [intOf]
            · go_wp2_with (at_builtin; refine wpList_app (o := ⟨some 57, _, _, _, _, _⟩) elU8 rfl _ _ rfl rfl rfl (HE.out.alloc _) (Rd.newAt (xs := [_]) rfl rfl) rfl ?_ ?_ ?_; (simp only [List.length_append, List.length_cons, List.length_replicate, List.length_take, List.length_nil]; omega); exact (HX.out.alloc HX.out.size _).size; intro A9 n9 c9 w9 q9; have H9 := Lib.hid q9; have B9 := Lib.hid ((HX.out.alloc HX.out.size _).trans q9.2.2.1); clear q9)
              go_roundw
              case rel => exact ⟨6, A9, n9, c9, by omega, by go_num, rfl, Lib.hid (own_snoc H9.out.1 (by rw [be8_get _ (by decide)]; simp only [Nat.reduceSub, Nat.reducePow]; omega) (be8_snoc _ (by decide))), B9⟩
              case measure => simp [intOf]
            · go_wp2_with (at_builtin; refine wpList_app (o := ⟨some 57, _, _, _, _, _⟩) elU8 rfl _ _ rfl rfl rfl (HE.out.alloc _) (Rd.newAt (xs := [_]) rfl rfl) rfl ?_ ?_ ?_; (simp only [List.length_append, List.length_cons, List.length_replicate, List.length_take, List.length_nil]; omega); exact (HX.out.alloc HX.out.size _).size; intro A9 n9 c9 w9 q9; have H9 := Lib.hid q9; have B9 := Lib.hid ((HX.out.alloc HX.out.size _).trans q9.2.2.1); clear q9)
              go_roundw
              case rel => exact ⟨7, A9, n9, c9, by omega, by go_num, rfl, Lib.hid (own_snoc H9.out.1 (by rw [be8_get _ (by decide)]; simp only [Nat.reduceSub, Nat.reducePow]; omega) (be8_snoc _ (by decide))), B9⟩
              case measure => simp [intOf]
            · go_wp2_with (at_builtin; refine wpList_app (o := ⟨some 57, _, _, _, _, _⟩) elU8 rfl _ _ rfl rfl rfl (HE.out.alloc _) (Rd.newAt (xs := [_]) rfl rfl) rfl ?_ ?_ ?_; (simp only [List.length_append, List.length_cons, List.length_replicate, List.length_take, List.length_nil]; omega); exact (HX.out.alloc HX.out.size _).size; intro A9 n9 c9 w9 q9; have H9 := Lib.hid q9; have B9 := Lib.hid ((HX.out.alloc HX.out.size _).trans q9.2.2.1); clear q9)
              go_roundw
              case rel => exact ⟨8, A9, n9, c9, by omega, by go_num, rfl, Lib.hid (own_snoc H9.out.1 (by rw [be8_get _ (by decide)]; simp only [Nat.reduceSub, Nat.reducePow]; omega) (be8_snoc _ (by decide))), B9⟩
              case measure => simp [intOf]
            · have HE8 : Hid (Own w7.heap.size 5 .u8 wr A1 n1 c1 (padL N)) := Lib.hid (by have h := HE.out; rw [List.take_of_length_le (by rw [be8_len]; exact Nat.le_refl _), ← padL_eq] at h; exact h)
              clear HE
              obtain rfl := HE8.out.len
              have hpl : (padL N).length ≤ 73 := by rw [padL_len]; omega
              have hw7 := HX.out.size
              have HR9 := Lib.hid (Blk.below HR.out HX.out hbw)
              have HO9 := Lib.hid (HO.out.below HX.out)
              have HS9 := Lib.hid (HS.out.belowAll HX.out)
              have HK9 := Lib.hid (HK.out.belowAll HX.out)
              have RB9 := Lib.hid (Blk.below RB.out HX.out (Blk.lt RB.out))
              have HB9 := Lib.hid (HB.out.trans (HX.out.mono HB.out.size))
              obtain ⟨w9, rfl⟩ : ∃ w9 : World, w9 = wr := ⟨_, rfl⟩
              clear HR HO HS HK RB HB
              go_wp2_with fail
              refine (feed_any (br + 1) br g (g + 1) (fedS Y) A0 A1 n0 c0 c1 (fedR Y) (padL N) _ HR9.out HO9.out HS9.out HK9.out HE8.out.rd (byt_pad N) (byt_fedR HYB.out) (fed_ok Y) (by omega) (by omega) (by omega) (by omega) (by omega) (by omega) (by omega) (by rw [fed_len]; omega)).mono ?_
              rintro e w10 ⟨rfl, A2, n2, c2, -, -, hs10, -, hb10⟩
              rw [(fed_more Y (padL N)).1] at hs10
              have HSS := Lib.hid (fed_ok (Y ++ padL N))
              have HF := Lib.hid (show shaL Y = outL (fedS (Y ++ padL N)) by rw [HN.out]; exact shaL_fed Y)
              generalize fedS (Y ++ padL N) = S at *
              have HST := Lib.hid hs10
              have RBT := Lib.hid (Blk.below RB9.out hb10 (by omega))
              have HBT := Lib.hid (HB9.out.trans (hb10.mono (by omega)))
              clear hs10 hb10 HR9 HO9 HS9 HK9 RB9 HB9 HE8 HX HYB HN0 HN1
              go_wp2_with (refine wpList_loadArr (o := ⟨some 61, _, _, _, _, _⟩) (n := 8) rfl _ rfl rfl (Arr.alloc HST.out _) Try.underlying75 (by kernel_rfl) rfl ?_)
              have HOL := Lib.hid (outL_len S)
              have hbl : w.heap.size < w10.heap.size := Blk.lt RBT.out
              go_loopw [62] (fun i wr => ∃ k : Nat, k ≤ 8 ∧ i = .int .i64 k ∧ Hid (Arr wr w10.heap.size 22 .u8 (fil (outL S) (4 * k))) ∧ Hid (Below w10.heap.size w10 wr)) (fun i _ => 8 - (intOf i).toNat)
              case atStart => exact ⟨0, by omega, rfl, Lib.hid (Arr.newAt rfl (by rw [Nat.mul_zero, fil_zero, HOL.out]; rfl)), Lib.hid ((Below.refl _ _).alloc (Nat.le_refl _) _)⟩
              case round =>
                obtain ⟨k, hk, rfl, HA, HC⟩ := hrel
                by_cases hlt4 : k < 8
                · have q1 := index_s8 S k hlt4
                  have HU := Lib.hid (S8.u HSS.out k)
                  have HG := Lib.hid (fun (j : Nat) (hj : j < 4) => outL_get S hlt4 hj)
                  generalize S.l.getD k 0 = x at *
                  have hu := HU.out
                  unfold U32 at hu
                  obtain ⟨hu0, hu1⟩ := hu
                  obtain ⟨wk, rfl⟩ : ∃ wk : World, wk = wr := ⟨_, rfl⟩
                  go_wp2_with fail
                  clear q1
                  go_loopw [66] (fun i wr => ∃ j : Nat, j ≤ 4 ∧ i = .int .i64 j ∧ Hid (Arr wr w10.heap.size 22 .u8 (fil (outL S) (4 * k + j))) ∧ Hid (Below w10.heap.size w10 wr)) (fun i _ => 4 - (intOf i).toNat)
                  case atStart => exact ⟨0, by omega, rfl, HA, HC⟩
                  case round =>
                    clear HA HC
                    obtain ⟨j, hj, rfl, HA, HC⟩ := hrel
                    by_cases hlt5 : j < 4
                    · have d0 := HA.out.cell (i := 4 * k + j) (by rw [fil_len, HOL.out]; omega)
                      have f0 := HA.out.frozen (4 * k + j)
                      have HV := Lib.hid (HG.out j hlt5)
                      have HFS := Lib.hid (fil_set (xs := outL S) (k := 4 * k + j) (by rw [HOL.out]; omega))
                      generalize (fil (outL S) (4 * k + j)).getD (4 * k + j) 0 = old at d0
                      have e1 : (4 * (k : Int) + (j : Int)).toNat = 4 * k + j := by omega
                      rcases (show j = 0 ∨ j = 1 ∨ j = 2 ∨ j = 3 by omega) with rfl | rfl | rfl | rfl
                      · have d1 := HA.out.cellAdd (i := 4 * k) (by rw [fil_len, HOL.out]; omega)
                        have f1 := HA.out.frozenAdd (4 * k)
                        have e0 : (4 * (k : Int)).toNat = 4 * k := by omega
                        simp only [Nat.add_zero] at d0 f0 d1
                        generalize (fil (outL S) (4 * k)).getD (4 * k) 0 = old1 at d1
                        go_wp2_with fail
                        go_roundw
                        case rel => exact ⟨1, by omega, by go_num, Lib.hid (Arr.cast (HA.out.set _ _) (by rw [← HFS.out, HV.out] <;> (congr 1 <;> simp only [b4, wrapu8, List.getD_cons_zero, List.getD_cons_succ] <;> omega))), Lib.hid (HC.out.setCell (by simp) _)⟩
                        case measure => simp [intOf]
                      · go_wp2_with fail
                        go_roundw
                        case rel => exact ⟨2, by omega, by go_num, Lib.hid (Arr.cast (HA.out.set _ _) (by rw [← HFS.out, HV.out] <;> (congr 1 <;> simp only [b4, wrapu8, List.getD_cons_zero, List.getD_cons_succ] <;> omega))), Lib.hid (HC.out.setCell (by simp) _)⟩
                        case measure => simp [intOf]
                      · go_wp2_with fail
                        go_roundw
                        case rel => exact ⟨3, by omega, by go_num, Lib.hid (Arr.cast (HA.out.set _ _) (by rw [← HFS.out, HV.out] <;> (congr 1 <;> simp only [b4, wrapu8, List.getD_cons_zero, List.getD_cons_succ] <;> omega))), Lib.hid (HC.out.setCell (by simp) _)⟩
                        case measure => simp [intOf]
                      · go_wp2_with fail
                        go_roundw
                        case rel => exact ⟨4, by omega, by go_num, Lib.hid (Arr.cast (HA.out.set _ _) (by rw [← HFS.out, HV.out] <;> (congr 1 <;> simp only [b4, wrapu8, List.getD_cons_zero, List.getD_cons_succ] <;> omega))), Lib.hid (HC.out.setCell (by simp) _)⟩
                        case measure => simp [intOf]
                    · have hj4 : j = 4 := by omega
                      rw [hj4] at HA
                      clear hj4
                      go_wp2_with fail
                      go_roundw
                      case rel => exact ⟨k + 1, by omega, by go_num, Lib.hid (by rw [Nat.mul_succ]; exact HA.out), HC⟩
                      case measure => simp [intOf]; omega
                · have hk8 : k = 8 := by omega
                  rw [hk8] at HA
                  clear hk8
                  have HA8 : Hid (Arr wr w10.heap.size 22 .u8 (outL S)) := Lib.hid (Arr.cast HA.out (by have := fil_full (outL S); rwa [HOL.out] at this))
                  clear HA
                  have RB8 := Lib.hid (Blk.below RBT.out HC.out hbl)
                  go_wp2_with (first
                    | (with_reducible (show wpList _ _ _ (⟨some 82, _, _, _, _, _⟩ :: _) _ _); refine wpList_loadArr (o := ⟨some 82, _, _, _, _, _⟩) (g := w10.heap.size) (t := 22) (k := .u8) (xs := outL S) (n := 32) rfl _ rfl rfl HA8.out Try.underlying22 size32 HOL.out.symm ?_)
                    | (with_reducible (show wpList _ _ _ (⟨none, .store 22 _ _, _, _, _, _⟩ :: _) _ _); refine wpList_storeArr (o := ⟨none, .store 22 _ _, _, _, _, _⟩) (g := w.heap.size) (t := 22) (k := .u8) (xs := outL S) (n := 32) rfl _ _ rfl rfl rfl RB8.out size32 HOL.out.symm hzz.out ?_; intro w12 ha12 hg12))
                  exact ret_arr (g := w.heap.size) (t := 22) (k := .u8) (xs := outL S) rfl rfl ha12 Try.underlying22 size32 HOL.out.symm rfl ⟨by rw [HF.out], (HBT.out.trans (HC.out.mono HBT.out.size)).trans (below_of_only hg12 (Nat.le_refl _) (Nat.le_trans (Nat.le_of_lt hbl) HC.out.size))⟩
end Go.Proofs.Ythknncdhjicklaa
/- Texts that the call itself lays; contract: the law's own known. Conditions: as each theorem states them. -/
namespace Go.Proofs.Ythknncdhjicklaa
open Go.RowKit

theorem Rd.mark {w : World} {g : Nat} {e : TypeId} {k : IntKind} {cs : Array Value} {fr : Nat × Nat} {xs : List Int} (hg : w.heap.size = g) (hc : cs = (xs.map (Value.int k)).toArray) : Rd (g + 1) k (w.alloc (.cells cs e fr)) (some ⟨g, 0, none⟩) xs := fun i hi => by
  subst hg
  subst hc
  refine ⟨_, rfl, Nat.lt_succ_self _, ?_⟩
  rw [add_zero_addr, World.cell?_alloc_mark]
  simp [List.getElem?_map, List.getD_eq_getElem?_getD, List.getElem?_eq_getElem hi]
def txV (t : Tx) : Value := .slice t.A t.xs.length t.c
theorem Txs.newAt {w : World} {g : Nat} {e : TypeId} {cs : Array Value} {ts : List Tx} (hg : w.heap.size = g) (hc : cs = (ts.map txV).toArray) (ht : ∀ t ∈ ts, Rd g .u8 w t.A t.xs ∧ t.xs.length ≤ t.c) :
    Txs (w.alloc (.cells cs e)).heap.size (w.alloc (.cells cs e)) (some ⟨g, 0, none⟩) ts := fun i hi => by
  subst hg
  subst hc
  obtain ⟨h1, h2⟩ := ht _ (getD_mem (z := Tx.none) hi)
  refine ⟨_, rfl, by simp, ?_, (h1.alloc (Nat.le_refl _) _).mono (by simp), h2⟩
  rw [add_zero_addr, Blk.cell (Blk.new _ _ _) i]
  simp [List.getElem?_map, List.getElem?_eq_getElem hi, List.getD_eq_getElem?_getD, txV]
theorem join_one (A : Option Addr) (c : Nat) (xs : List Int) : joinT [⟨A, c, xs⟩] = xs := by unfold joinT; simp
theorem byt_abc : Byt [97, 98, 99] := by intro x hx; simp at hx; omega
theorem join_nil : joinT [] = [] := by unfold joinT; rfl

theorem conv_arr {w : World} {g : Nat} {t : TypeId} {xs : List Int} (h : Arr w g t .u8 xs) (n : Nat) (hn : n = xs.length) (c : Nat) :
    (convert 23 9 (.slice (some ⟨g, 0, none⟩) n c)).run Try.prog w = .ok (.string (strOfNums xs)) w := by
  subst hn; exact conv_rd elU8 Try.underlying9 h.rd c

theorem str_abc : strOfNums [186, 120, 22, 191, 143, 1, 207, 234, 65, 65, 64, 222, 93, 174, 34, 35, 176, 3, 97, 163, 150, 23, 122, 156, 180, 16, 255, 97, 242, 0, 21, 173] = ⟨#[186, 120, 22, 191, 143, 1, 207, 234, 65, 65, 64, 222, 93, 174, 34, 35, 176, 3, 97, 163, 150, 23, 122, 156, 180, 16, 255, 97, 242, 0, 21, 173]⟩ := by kernel_rfl
theorem conv_abc {w : World} {g : Nat} {t : TypeId} {X : List Int} (h : Arr w g t .u8 X) (hX : X = [186, 120, 22, 191, 143, 1, 207, 234, 65, 65, 64, 222, 93, 174, 34, 35, 176, 3, 97, 163, 150, 23, 122, 156, 180, 16, 255, 97, 242, 0, 21, 173]) :
    (convert 23 9 (.slice (some ⟨g, 0, none⟩) 32 32)).run Try.prog w = .ok (.string ⟨#[186, 120, 22, 191, 143, 1, 207, 234, 65, 65, 64, 222, 93, 174, 34, 35, 176, 3, 97, 163, 150, 23, 122, 156, 180, 16, 255, 97, 242, 0, 21, 173]⟩) w := by
  rw [conv_arr h 32 (by rw [hX]; rfl) 32, hX, str_abc]
theorem str_nil : strOfNums [227, 176, 196, 66, 152, 252, 28, 20, 154, 251, 244, 200, 153, 111, 185, 36, 39, 174, 65, 228, 100, 155, 147, 76, 164, 149, 153, 27, 120, 82, 184, 85] = ⟨#[227, 176, 196, 66, 152, 252, 28, 20, 154, 251, 244, 200, 153, 111, 185, 36, 39, 174, 65, 228, 100, 155, 147, 76, 164, 149, 153, 27, 120, 82, 184, 85]⟩ := by kernel_rfl
theorem conv_nil {w : World} {g : Nat} {t : TypeId} {X : List Int} (h : Arr w g t .u8 X) (hX : X = [227, 176, 196, 66, 152, 252, 28, 20, 154, 251, 244, 200, 153, 111, 185, 36, 39, 174, 65, 228, 100, 155, 147, 76, 164, 149, 153, 27, 120, 82, 184, 85]) :
    (convert 23 9 (.slice (some ⟨g, 0, none⟩) 32 32)).run Try.prog w = .ok (.string ⟨#[227, 176, 196, 66, 152, 252, 28, 20, 154, 251, 244, 200, 153, 111, 185, 36, 39, 174, 65, 228, 100, 155, 147, 76, 164, 149, 153, 27, 120, 82, 184, 85]⟩) w := by
  rw [conv_arr h 32 (by rw [hX]; rfl) 32, hX, str_nil]
end Go.Proofs.Ythknncdhjicklaa
/- Arguments that are slices of slices of bytes; contracts of the reference's First, Constants, Join, Great. Conditions: as each theorem states them. -/
namespace Go.Proofs.Ythknncdhjicklaa
open Go.Joins Go.ChangeShapes Go.WideShapes Go.RowKit Go.Deep

theorem reach_eq : reachBytes = 140737488351232 := by decide
theorem txs_open {H : Type} {enc : TypeId × Value → H} {P : Program} {w : World} {base : Nat} {held : Bool} {t e q : TypeId} {fuel : Nat} {v : Value} {x : DataW H × List MemPlace}
    (ht : P.underlying t = some (.slice e)) (he : P.underlying e = some (.slice q)) (hq : P.underlying q = some (.int .u8)) (ce : P.cellsOf e = 1) (cq : P.cellsOf q = 1) (be : 0 < P.bytesOf e) (bq : 0 < P.bytesOf q)
    (h : DataW.trod enc P w base (fun _ => true) held fuel t [v] = some x) (hL : Light P t x.1) :
    ∃ (A : Option Addr) (c : Nat) (ts : List Tx), v = .slice A ts.length c ∧ Txs w.heap.size w A ts ∧ BytT ts ∧ ts.length ≤ 140737488351232 ∧ ts.length ≤ c ∧ ∀ y ∈ ts, y.xs.length ≤ 140737488351232 := by
  rcases open_int_rows ht he hq ce cq h with ⟨hcs, _⟩ | ⟨a, len, cap, A, L, C, Z, hcs, _, hlc, _, hx, hr⟩
  · simp at hcs
    exact ⟨none, 0, [], by simpa using hcs, Txs.nil, (fun t ht => by cases ht), by simp, by simp, (fun y hy => by cases hy)⟩
  · simp at hcs
    subst hcs
    have hget : ∀ i, i < len → ((List.range len).map fun r => (⟨A r, C r, (Z r).take (L r)⟩ : Tx)).getD i Tx.none = ⟨A i, C i, (Z i).take (L i)⟩ := by
      intro i hi; simp [List.getD_eq_getElem?_getD, hi]
    have hlen : ∀ i, i < len → ((Z i).take (L i)).length = L i := by
      intro i hi; obtain ⟨_, h1, _, h2, _⟩ := hr i (by omega); rw [List.length_take]; omega
    rw [hx] at hL
    refine ⟨some a, cap, (List.range len).map fun r => ⟨A r, C r, (Z r).take (L r)⟩, by simp, ?_, ?_, ?_, by simpa using hlc, ?_⟩
    · intro i hi
      have hi' : i < len := by simpa using hi
      obtain ⟨h1, h2, h3, h4, h5, h6, h7⟩ := hr i (by omega)
      rw [hget i hi']
      have hb := cell_lt h1
      rw [block_of_add] at hb
      refine ⟨a, rfl, hb, by rw [hlen i hi']; exact h1, ?_, by rw [hlen i hi']; exact h2⟩
      intro j hj
      simp only at hj
      rw [hlen i hi'] at hj
      rcases hA : A i with _ | a'
      · have := h6 hA; omega
      · obtain ⟨_, h8⟩ := h7 a' hA
        have hc := h8 j (by omega)
        have hb := cell_lt hc
        rw [block_of_add] at hb
        refine ⟨a', rfl, hb, ?_⟩
        rw [hc, List.getD_eq_getElem?_getD, List.getD_eq_getElem?_getD, List.getElem?_take, if_pos hj]
    · intro y hy
      obtain ⟨i, hi, rfl⟩ := List.mem_map.1 hy
      obtain ⟨h1, h2, h3, h4, h5, h6, h7⟩ := hr i (by have := List.mem_range.1 hi; omega)
      exact byt_wf (fun z hz => h5 z (List.mem_of_mem_take hz))
    · have h1 := hL.len ht
      rw [reach_eq] at h1
      have h4 : len * 1 ≤ (((List.range len).map fun r => intRow (H := H) IntKind.u8 (A r) (L r) (Z r)).length + ((List.range (cap - len)).map fun j => intRow (H := H) IntKind.u8 (A (len + j)) (L (len + j)) (Z (len + j))).length) * P.bytesOf e := Nat.mul_le_mul (by simp) be
      simp only [List.length_map, List.length_range] at h4 ⊢
      simp only [List.length_map, List.length_range] at h1
      omega
    · intro y hy
      obtain ⟨i, hi, rfl⟩ := List.mem_map.1 hy
      have hi' := List.mem_range.1 hi
      obtain ⟨h1, h2, h3, h4, h5, h6, h7⟩ := hr i (by omega)
      have hE : Light P e (intRow (H := H) IntKind.u8 (A i) (L i) (Z i)) := hL.elem ht (List.mem_map.2 ⟨i, hi, rfl⟩)
      show ((Z i).take (L i)).length ≤ _
      rw [hlen i hi']
      rcases hA : A i with _ | a'
      · have := h6 hA; omega
      · rw [hA] at hE
        have h8 := Light.len hE he
        rw [reach_eq] at h8
        have h9 : L i * 1 ≤ ((lits IntKind.u8 ((Z i).take (L i)) : List (DataW H)).length + (lits IntKind.u8 ((Z i).drop (L i)) : List (DataW H)).length) * P.bytesOf q := Nat.mul_le_mul (by simp [lits]; omega) bq
        omega

theorem txs_at {B : Nat} {w : World} {A : Option Addr} {ts : List Tx} (h : Txs B w A ts) {k : Nat} (hk : k < ts.length) : ∃ pa tx, A = some pa ∧ pa.block < B ∧ Hid (ts.getD k Tx.none = tx) ∧ w.cell? (pa.add k) = some (.slice tx.A tx.xs.length tx.c) ∧ Rd B .u8 w tx.A tx.xs ∧ tx.xs.length ≤ tx.c := by
  obtain ⟨pa, hA, h1, h2, h3, h4⟩ := h k hk
  exact ⟨pa, _, hA, h1, Lib.hid rfl, h2, h3, h4⟩
end Go.Proofs.Ythknncdhjicklaa
/- Contracts of the reference's blocks and words. Conditions: as each theorem states them. -/
namespace Go.Proofs.Ythknncdhjicklaa
open Go.RowKit

theorem pow_step (m j : Nat) : m / 256 ^ j / 256 = m / 256 ^ (j + 1) := by rw [Nat.div_div_eq_div_mul, Nat.pow_succ]
end Go.Proofs.Ythknncdhjicklaa
/- Contract of the reference's words. Conditions: as each theorem states them. -/
namespace Go.Proofs.Ythknncdhjicklaa
open Go.RowKit

theorem sg0_spell (x : Int) : bits .xor .u32 (bits .xor .u32 (rotr 7 x) (rotr 18 x)) (hlf 3 x) = sg0 x := by unfold sg0 xr hlf; rfl
theorem sg1_spell (x : Int) : bits .xor .u32 (bits .xor .u32 (rotr 17 x) (rotr 19 x)) (hlf 10 x) = sg1 x := by unfold sg1 xr hlf; rfl
theorem sg0_u (x : Int) : U32 (sg0 x) := xr_u _ _
theorem sg1_u (x : Int) : U32 (sg1 x) := xr_u _ _

end Go.Proofs.Ythknncdhjicklaa
/- Contract of the reference's Sum. Conditions: as each theorem states them. -/
namespace Go.Proofs.Ythknncdhjicklaa
open Go.RowKit

theorem pad_div (L : List Int) : (L ++ padL L.length).length = 64 * shaN L := by
  rw [List.length_append, padL_len]
  unfold shaN padN
  omega
theorem shaL_eq (L : List Int) : shaL L = outL (comps (shaN L) hL (L ++ padL L.length)) := by unfold shaL; rfl
theorem b4_get {x : Int} (h : U32 x) {j : Nat} (hj : j < 4) : (b4 x).getD j 0 = hlf (24 - 8 * j) x % 256 := by
  unfold U32 at h
  match j, hj with
  | 0, _ | 1, _ | 2, _ | 3, _ => simp [b4, hlf]; try omega

end Go.Proofs.Ythknncdhjicklaa
