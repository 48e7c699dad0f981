/- A key's columns as a plain function on lists of bytes. Conditions: as each theorem states them. -/
import Derived.Test.YtepkbllcaeceeaaE7
namespace Go.Proofs.Ytepkbllcaeceeaa
/-- byte j of what the column before i is turned to -/
def kt (w : List Int) (c : Int) (i j : Nat) : Int :=
  if i % 4 = 0 then (if j = 0 then xb (sub (w.getD (4 * i - 3) 0)) c else sub (w.getD (4 * i - 4 + (j + 1) % 4) 0)) else w.getD (4 * i - 4 + j) 0
/-- byte j of column i -/
def kn (w : List Int) (c : Int) (i j : Nat) : Int := xb (w.getD (4 * i - 16 + j) 0) (kt w c i j)
def kcol (w : List Int) (c : Int) (i : Nat) : List Int := [kn w c i 0, kn w c i 1, kn w c i 2, kn w c i 3]
/-- behind n more columns: the bytes, and the turn -/
def kexp (key : List Int) : Nat → List Int × Int
  | 0 => (key, 1)
  | n + 1 => ((kexp key n).1 ++ kcol (kexp key n).1 (kexp key n).2 (n + 4), if (n + 4) % 4 = 0 then tw (kexp key n).2 else (kexp key n).2)
def wkL (key : List Int) : List Int := (kexp key 40).1
theorem kexp_zero (key : List Int) : kexp key 0 = (key, 1) := rfl
theorem kexp_succ (key : List Int) (n : Nat) : kexp key (n + 1) = ((kexp key n).1 ++ kcol (kexp key n).1 (kexp key n).2 (n + 4), if (n + 4) % 4 = 0 then tw (kexp key n).2 else (kexp key n).2) := rfl
theorem kcol_byt (w : List Int) (c : Int) (i : Nat) : Byt (kcol w c i) := fun x hx => by
  unfold kcol at hx
  simp only [List.mem_cons, List.not_mem_nil, or_false] at hx
  rcases hx with rfl | rfl | rfl | rfl <;> exact xb_u _ _
theorem kexp_ok {key : List Int} (hk : Blk16 key) : ∀ n, (kexp key n).1.length = 16 + 4 * n ∧ Byt (kexp key n).1 ∧ B8 (kexp key n).2
  | 0 => ⟨hk.1, hk.2, (⟨by decide, by decide⟩ : B8 1)⟩
  | n + 1 => by
    obtain ⟨h1, h2, h3⟩ := kexp_ok hk n
    rw [kexp_succ]
    refine ⟨?_, h2.append (kcol_byt _ _ _), ?_⟩
    · show (_ ++ kcol _ _ _).length = _
      rw [List.length_append, h1]
      show 16 + 4 * n + 4 = _
      omega
    · show B8 (if _ then _ else _)
      split
      · exact tw_u h3
      · exact h3
theorem wkL_len {key : List Int} (hk : Blk16 key) : (wkL key).length = 176 := (kexp_ok hk 40).1
theorem wkL_byt {key : List Int} (hk : Blk16 key) : Byt (wkL key) := (kexp_ok hk 40).2.1
theorem wkL_eq (key : List Int) : wkL key = (kexp key 40).1 := rfl
/-- a block sealed under a key -/
def aesL (key s : List Int) : List Int := sealL (wkL key) s
theorem aesL_eq (key s : List Int) : aesL key s = sealL (wkL key) s := rfl
theorem aesL_ok {key s : List Int} (hk : Blk16 key) (hs : Blk16 s) : Blk16 (aesL key s) := sealL_ok (wkL_len hk) (wkL_byt hk) hs
theorem aesL_inj {key s t : List Int} (hk : Blk16 key) (hs : Blk16 s) (ht : Blk16 t) (h : aesL key s = aesL key t) : s = t := sealL_inj (wkL_len hk) (wkL_byt hk) hs ht h
theorem aes_known : aesL [0, 1, 2, 3, 4, 5, 6, 7, 8, 9, 10, 11, 12, 13, 14, 15] [0, 17, 34, 51, 68, 85, 102, 119, 136, 153, 170, 187, 204, 221, 238, 255] = [105, 196, 224, 216, 106, 123, 4, 48, 216, 205, 183, 128, 112, 180, 197, 90] := by decide +kernel
attribute [irreducible] kexp wkL aesL
end Go.Proofs.Ytepkbllcaeceeaa
