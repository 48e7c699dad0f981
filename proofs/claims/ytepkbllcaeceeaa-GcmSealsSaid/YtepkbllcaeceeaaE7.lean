/- The whole sealing as a plain function; it is injective. Conditions: as each theorem states them. -/
import Derived.Test.YtepkbllcaeceeaaE6
namespace Go.Proofs.Ytepkbllcaeceeaa
/-- all four columns, mixed -/
def mcolL (s : List Int) : List Int := mixAt (mixAt (mixAt (mixAt s 0) 4) 8) 12
theorem mcolL_ok {s : List Int} (hs : Blk16 s) : Blk16 (mcolL s) := mixAt_ok (mixAt_ok (mixAt_ok (mixAt_ok hs (by decide)) (by decide)) (by decide)) (by decide)
theorem mcolL_inj {s t : List Int} (hs : Blk16 s) (ht : Blk16 t) (h : mcolL s = mcolL t) : s = t := by
  have hs0 := mixAt_ok hs (i := 0) (by decide)
  have hs1 := mixAt_ok hs0 (i := 4) (by decide)
  have hs2 := mixAt_ok hs1 (i := 8) (by decide)
  have ht0 := mixAt_ok ht (i := 0) (by decide)
  have ht1 := mixAt_ok ht0 (i := 4) (by decide)
  have ht2 := mixAt_ok ht1 (i := 8) (by decide)
  exact mixAt_inj hs ht (by decide) (mixAt_inj hs0 ht0 (by decide) (mixAt_inj hs1 ht1 (by decide) (mixAt_inj hs2 ht2 (by decide) h)))
/-- the key of round n -/
def rkey (w : List Int) (n : Nat) : List Int := (w.drop (16 * n)).take 16
theorem rkey_ok {w : List Int} (hw : w.length = 176) (hb : Byt w) {n : Nat} (hn : n < 11) : Blk16 (rkey w n) := by
  refine ⟨by unfold rkey; rw [List.length_take, List.length_drop]; omega, ?_⟩
  intro x hx
  exact hb x (List.mem_of_mem_drop (List.mem_of_mem_take hx))
theorem rkey_getD (w : List Int) (n : Nat) {i : Nat} (hi : i < 16) : (rkey w n).getD i 0 = w.getD (16 * n + i) 0 := by
  unfold rkey
  simp only [List.getD_eq_getElem?_getD, List.getElem?_take, List.getElem?_drop, if_pos hi]
/-- the state behind n rounds -/
def arnd (w s : List Int) : Nat → List Int
  | 0 => addL s (rkey w 0)
  | n + 1 => addL (if n + 1 < 10 then mcolL (rowsL (arnd w s n)) else rowsL (arnd w s n)) (rkey w (n + 1))
/-- a sealed block -/
def sealL (w s : List Int) : List Int := arnd w s 10
theorem arnd_ok {w s : List Int} (hw : w.length = 176) (hb : Byt w) (hs : Blk16 s) : ∀ n, n < 11 → Blk16 (arnd w s n)
  | 0, h => addL_ok hs (rkey_ok hw hb h)
  | n + 1, h => by
    have ih := rowsL_ok (arnd_ok hw hb hs n (by omega))
    unfold arnd
    refine addL_ok ?_ (rkey_ok hw hb h)
    split
    · exact mcolL_ok ih
    · exact ih
theorem arnd_inj {w s t : List Int} (hw : w.length = 176) (hb : Byt w) (hs : Blk16 s) (ht : Blk16 t) : ∀ n, n < 11 → arnd w s n = arnd w t n → s = t
  | 0, h, e => addL_inj hs ht (rkey_ok hw hb h) e
  | n + 1, h, e => by
    have h1 := arnd_ok hw hb hs n (by omega)
    have h2 := arnd_ok hw hb ht n (by omega)
    refine arnd_inj hw hb hs ht n (by omega) (rowsL_inj h1 h2 ?_)
    unfold arnd at e
    by_cases hn : n + 1 < 10
    · rw [if_pos hn, if_pos hn] at e
      exact mcolL_inj (rowsL_ok h1) (rowsL_ok h2) (addL_inj (mcolL_ok (rowsL_ok h1)) (mcolL_ok (rowsL_ok h2)) (rkey_ok hw hb h) e)
    · rw [if_neg hn, if_neg hn] at e
      exact addL_inj (rowsL_ok h1) (rowsL_ok h2) (rkey_ok hw hb h) e
theorem sealL_ok {w s : List Int} (hw : w.length = 176) (hb : Byt w) (hs : Blk16 s) : Blk16 (sealL w s) := arnd_ok hw hb hs 10 (by decide)
theorem sealL_inj {w s t : List Int} (hw : w.length = 176) (hb : Byt w) (hs : Blk16 s) (ht : Blk16 t) (h : sealL w s = sealL w t) : s = t := arnd_inj hw hb hs ht 10 (by decide) h
end Go.Proofs.Ytepkbllcaeceeaa
