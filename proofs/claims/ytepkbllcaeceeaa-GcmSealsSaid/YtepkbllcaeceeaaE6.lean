/- The mix of a block's columns and the whole sealing are injective. Conditions: as each theorem states them. -/
import Derived.Test.YtepkbllcaeceeaaE5
namespace Go.Proofs.Ytepkbllcaeceeaa
/-- one mixed byte: of a byte, the next one, and the sum of all four -/
def mcolB (x y all : Int) : Int := xb x (xb all (tw (xb x y)))
def allX (a b c d : Int) : Int := xb (xb (xb a b) c) d
theorem allX_u (a b c d : Int) : B8 (allX a b c d) := xb_u _ _
theorem twN_tw {x : Int} (h : B8 x) : twN x.toNat = (tw x).toNat := by
  unfold twN
  have : ((x.toNat % 256 : Nat) : Int) = x := by have := h.1; have := h.2; omega
  rw [this]
theorem xb_toNat {a b : Int} (ha : B8 a) (hb : B8 b) : (xb a b).toNat = a.toNat ^^^ b.toNat := by rw [xb_nat ha hb, Int.toNat_natCast]
theorem mcolB_u (x y all : Int) : B8 (mcolB x y all) := xb_u _ _
theorem mcolB_toNat {x y all : Int} (hx : B8 x) (hy : B8 y) (ha : B8 all) : (mcolB x y all).toNat = x.toNat ^^^ (all.toNat ^^^ twN (x.toNat ^^^ y.toNat)) := by
  unfold mcolB
  rw [xb_toNat hx (xb_u _ _), xb_toNat ha (tw_u (xb_u _ _)), ← twN_tw (xb_u _ _), xb_toNat hx hy]
theorem allX_toNat {a b c d : Int} (ha : B8 a) (hb : B8 b) (hc : B8 c) (hd : B8 d) : (allX a b c d).toNat = a.toNat ^^^ b.toNat ^^^ c.toNat ^^^ d.toNat := by
  unfold allX
  rw [xb_toNat (xb_u _ _) hd, xb_toNat (xb_u _ _) hc, xb_toNat ha hb]
theorem nat_eq {a b : Int} (ha : B8 a) (hb : B8 b) (h : a.toNat = b.toNat) : a = b := by have := ha.1; have := hb.1; omega
theorem mix_inj {a b c d a' b' c' d' : Int} (ha : B8 a) (hb : B8 b) (hc : B8 c) (hd : B8 d) (ha' : B8 a') (hb' : B8 b') (hc' : B8 c') (hd' : B8 d')
    (h0 : mcolB a b (allX a b c d) = mcolB a' b' (allX a' b' c' d')) (h1 : mcolB b c (allX a b c d) = mcolB b' c' (allX a' b' c' d'))
    (h2 : mcolB c d (allX a b c d) = mcolB c' d' (allX a' b' c' d')) (h3 : mcolB d a (allX a b c d) = mcolB d' a' (allX a' b' c' d')) :
    a = a' ∧ b = b' ∧ c = c' ∧ d = d' := by
  have g0 := congrArg Int.toNat h0
  have g1 := congrArg Int.toNat h1
  have g2 := congrArg Int.toNat h2
  have g3 := congrArg Int.toNat h3
  rw [mcolB_toNat ha hb (allX_u _ _ _ _), mcolB_toNat ha' hb' (allX_u _ _ _ _), allX_toNat ha hb hc hd, allX_toNat ha' hb' hc' hd'] at g0
  rw [mcolB_toNat hb hc (allX_u _ _ _ _), mcolB_toNat hb' hc' (allX_u _ _ _ _), allX_toNat ha hb hc hd, allX_toNat ha' hb' hc' hd'] at g1
  rw [mcolB_toNat hc hd (allX_u _ _ _ _), mcolB_toNat hc' hd' (allX_u _ _ _ _), allX_toNat ha hb hc hd, allX_toNat ha' hb' hc' hd'] at g2
  rw [mcolB_toNat hd ha (allX_u _ _ _ _), mcolB_toNat hd' ha' (allX_u _ _ _ _), allX_toNat ha hb hc hd, allX_toNat ha' hb' hc' hd'] at g3
  have hm : mixc twN a.toNat b.toNat c.toNat d.toNat = mixc twN a'.toNat b'.toNat c'.toNat d'.toNat := by unfold mixc; rw [g0, g1, g2, g3]
  obtain ⟨e0, e1, e2, e3⟩ := mixc_inj twN_lin hm
  exact ⟨nat_eq ha ha' e0, nat_eq hb hb' e1, nat_eq hc hc' e2, nat_eq hd hd' e3⟩
/-- the byte at place j of the mixed column that begins at i -/
def mixJ (s : List Int) (i j : Nat) : Int :=
  mcolB (s.getD (i + j) 0) (s.getD (i + (j + 1) % 4) 0) (allX (s.getD i 0) (s.getD (i + 1) 0) (s.getD (i + 2) 0) (s.getD (i + 3) 0))
/-- the column that begins at i, mixed -/
def mixAt (s : List Int) (i : Nat) : List Int := (((s.set i (mixJ s i 0)).set (i + 1) (mixJ s i 1)).set (i + 2) (mixJ s i 2)).set (i + 3) (mixJ s i 3)
theorem mixAt_len (s : List Int) (i : Nat) : (mixAt s i).length = s.length := by simp [mixAt]
theorem getD_set' (s : List Int) (i j : Nat) (x : Int) : (s.set i x).getD j 0 = if i = j ∧ j < s.length then x else s.getD j 0 := by
  simp only [List.getD_eq_getElem?_getD, List.getElem?_set]
  by_cases h : i = j
  · subst h
    by_cases h2 : i < s.length
    · simp [h2]
    · simp [h2]
  · simp [h]
theorem mixAt_getD {s : List Int} (hs : s.length = 16) {i : Nat} (hi : i + 3 < 16) (k : Nat) : (mixAt s i).getD k 0 = if i ≤ k ∧ k < i + 4 then mixJ s i (k - i) else s.getD k 0 := by
  unfold mixAt
  simp only [getD_set', List.length_set, hs]
  by_cases h : i ≤ k ∧ k < i + 4
  · rw [if_pos h]
    rcases (show k = i ∨ k = i + 1 ∨ k = i + 2 ∨ k = i + 3 by omega) with rfl | rfl | rfl | rfl
    · rw [if_neg (by omega), if_neg (by omega), if_neg (by omega), if_pos (by omega), Nat.sub_self]
    · rw [if_neg (by omega), if_neg (by omega), if_pos (by omega), Nat.add_sub_cancel_left]
    · rw [if_neg (by omega), if_pos (by omega), Nat.add_sub_cancel_left]
    · rw [if_pos (by omega), Nat.add_sub_cancel_left]
  · rw [if_neg h, if_neg (by omega), if_neg (by omega), if_neg (by omega), if_neg (by omega)]
theorem mixAt_ok {s : List Int} (hs : Blk16 s) {i : Nat} (hi : i + 3 < 16) : Blk16 (mixAt s i) := by
  have hl : (mixAt s i).length = 16 := by rw [mixAt_len, hs.1]
  refine ⟨hl, byt_of16 hl fun k _ => ?_⟩
  rw [mixAt_getD hs.1 hi]
  split
  · exact mcolB_u _ _ _
  · exact byt_getD8 hs.2 k
theorem mixAt_inj {s t : List Int} (hs : Blk16 s) (ht : Blk16 t) {i : Nat} (hi : i + 3 < 16) (h : mixAt s i = mixAt t i) : s = t := by
  have e := fun k => congrArg (fun l => l.getD k 0) h
  simp only [mixAt_getD hs.1 hi, mixAt_getD ht.1 hi] at e
  have e0 := e i
  have e1 := e (i + 1)
  have e2 := e (i + 2)
  have e3 := e (i + 3)
  rw [if_pos (by omega), if_pos (by omega)] at e0 e1 e2 e3
  simp only [Nat.sub_self, Nat.add_sub_cancel_left, mixJ, Nat.add_zero, Nat.reduceAdd, Nat.reduceMod] at e0 e1 e2 e3
  obtain ⟨f0, f1, f2, f3⟩ := mix_inj (byt_getD8 hs.2 _) (byt_getD8 hs.2 _) (byt_getD8 hs.2 _) (byt_getD8 hs.2 _) (byt_getD8 ht.2 _) (byt_getD8 ht.2 _) (byt_getD8 ht.2 _) (byt_getD8 ht.2 _) e0 e1 e2 e3
  refine ext16 hs.1 ht.1 fun k _ => ?_
  by_cases hk : i ≤ k ∧ k < i + 4
  · rcases (show k = i ∨ k = i + 1 ∨ k = i + 2 ∨ k = i + 3 by omega) with rfl | rfl | rfl | rfl
    · exact f0
    · exact f1
    · exact f2
    · exact f3
  · have := e k
    rwa [if_neg hk, if_neg hk] at this
end Go.Proofs.Ytepkbllcaeceeaa
