/- Plain (layer 29): what is known of what was learnt. Contracts: Learn of an epoch's owner, the law's owner. Conditions: as each theorem states them. -/
import Derived.Test.YtlefnddhmpgijaaR5
namespace Go.Proofs.Ytlefnddhmpgijaa
open Go.RowKit
theorem elU64 : ElT Try.prog 52 24 .u64 8 := ⟨Try.underlying52, Try.underlying24, by kernel_rfl, by decide⟩
theorem elU16 : ElT Try.prog 53 55 .u16 2 := ⟨Try.underlying53, Try.underlying55, by kernel_rfl, by decide⟩
def mx : List Int → Int := List.foldl max 0
theorem mx_snoc (l : List Int) (e : Int) : mx (l ++ [e]) = max (mx l) e := by simp [mx]
theorem foldl_max_le (l : List Int) : ∀ a : Int, a ≤ l.foldl max a ∧ ∀ x ∈ l, x ≤ l.foldl max a := by
  induction l with
  | nil => intro a; exact ⟨Int.le_refl _, fun x hx => by cases hx⟩
  | cons y r ih =>
    intro a
    obtain ⟨h1, h2⟩ := ih (max a y)
    refine ⟨Int.le_trans (Int.le_max_left a y) h1, fun x hx => ?_⟩
    rcases List.mem_cons.1 hx with h | h
    · subst h; exact Int.le_trans (Int.le_max_right a x) h1
    · exact h2 x h
theorem foldl_max_mem (l : List Int) : ∀ a : Int, l.foldl max a = a ∨ l.foldl max a ∈ l := by
  induction l with
  | nil => intro a; exact .inl rfl
  | cons y r ih =>
    intro a
    rcases ih (max a y) with h | h
    · show List.foldl max (max a y) r = a ∨ _
      rw [h]
      by_cases hay : a ≤ y
      · right; show List.foldl max (max a y) r ∈ _; rw [h, Int.max_eq_right hay]; exact List.mem_cons_self
      · left; exact Int.max_eq_left (by omega)
    · right; exact List.mem_cons_of_mem _ h
theorem mx_nonneg (l : List Int) : 0 ≤ mx l := (foldl_max_le l 0).1
theorem mx_le (l : List Int) : ∀ x ∈ l, x ≤ mx l := (foldl_max_le l 0).2
theorem mx_same {l m : List Int} (h : ∀ x, x ∈ l ↔ x ∈ m) : mx l = mx m := by
  have key : ∀ l m : List Int, (∀ x, x ∈ l → x ∈ m) → mx l ≤ mx m := fun l m h => by
    rcases foldl_max_mem l 0 with h1 | h1
    · show l.foldl max 0 ≤ _; rw [h1]; exact mx_nonneg m
    · exact mx_le m _ (h _ h1)
  have h1 := key l m (fun x => (h x).1)
  have h2 := key m l (fun x => (h x).2)
  omega
theorem mx_lt {l : List Int} (h : ∀ x ∈ l, x < 18446744073709551616) : mx l < 18446744073709551616 := by
  rcases foldl_max_mem l 0 with h1 | h1
  · show l.foldl max 0 < _; rw [h1]; decide
  · exact h _ h1
/-- an epoch's owner -/
def ow (e : Int) : Int := 1 + e % 2
def own_ (l : List Int) : Int := if l.isEmpty then 0 else ow (mx l)
def RtL (g : Nat) (l : List Int) (w : World) : Prop := RtSt g (!l.isEmpty) (mx l) (own_ l) w
theorem ow_cases (e : Int) : ow e = 1 ∨ ow e = 2 := by unfold ow; omega
theorem procB_ow (e : Int) : procB (ow e) = true := by rcases ow_cases e with h | h <;> rw [h] <;> rfl
theorem isEmpty_snoc (l : List Int) (e : Int) : (l ++ [e]).isEmpty = false := by cases l <;> rfl
theorem learn_step (g : Nat) (l : List Int) (e : Int) (w : World) (h : RtL g l w) (he : 0 ≤ e) :
    Calls Try.prog 10 #[.pointer (some ⟨g, 0, none⟩), .int .u64 e, .int .u8 (ow e)] w fun r w' => (∃ b, r = .returned (.bool b)) ∧ RtL g (l ++ [e]) w' ∧ w.grownBy w' (some g) := by
  unfold RtL at h ⊢
  rcases hb : lrnB (!l.isEmpty) (mx l) e (ow e) with _ | _
  · refine (learn_no g _ _ _ _ _ w h hb).mono fun r w' ⟨h1, h2⟩ => ?_
    subst h2
    refine ⟨⟨_, h1⟩, ?_, World.grownBy.refl _ _⟩
    have hl : l.isEmpty = false ∧ e ≤ mx l := by
      unfold lrnB at hb
      rw [procB_ow] at hb
      rcases hl : l.isEmpty with _ | _
      · rw [hl] at hb; simp at hb; exact ⟨rfl, hb⟩
      · rw [hl] at hb; simp at hb
    have hm : mx (l ++ [e]) = mx l := by rw [mx_snoc]; exact Int.max_eq_left hl.2
    rw [isEmpty_snoc, hm]
    unfold own_
    rw [isEmpty_snoc, hm]
    unfold own_ at h
    rw [hl.1] at h
    exact h
  · refine (learn_yes g _ _ _ _ _ w h hb).mono fun r w' ⟨h1, h2, h3⟩ => ⟨⟨_, h1⟩, ?_, h3⟩
    have hm : mx (l ++ [e]) = e := by
      rw [mx_snoc]
      unfold lrnB at hb
      rw [procB_ow] at hb
      rcases hl : l.isEmpty with _ | _
      · rw [hl] at hb
        simp at hb
        exact Int.max_eq_right (by omega)
      · have : l = [] := List.isEmpty_iff.1 hl
        subst this
        exact Int.max_eq_right he
    unfold own_
    rw [isEmpty_snoc, hm]
    exact h2
theorem rtl_nil {g : Nat} {w : World} (h : RtSt g false 0 0 w) : RtL g [] w := h
theorem own1_any (e : Int) (w : World) (h0 : 0 ≤ e) (h1 : e < 18446744073709551616) : Calls Try.prog 20 #[.int .u64 e] w fun r w' => r = .returned (.int .u8 (ow e)) ∧ w = w' := by
  have e1 : IntKind.u8.wrap (1 + e % 2) = 1 + e % 2 := by rw [wrapu8]; omega
  go_enter Try.func20, Try.ntmps20
  go_wp2_with fail
  go_ret
  exact ⟨rfl, rfl⟩
/-- two of a list, swapped -/
def swp (zs : List Int) (x y : Nat) : List Int := (zs.set x (zs.getD y 0)).set y (zs.getD x 0)
theorem swp_len (zs : List Int) (x y : Nat) : (swp zs x y).length = zs.length := by simp [swp]
theorem swp_mem {zs : List Int} {x y : Nat} (hx : x < zs.length) (hy : y < zs.length) (n : Int) : n ∈ swp zs x y ↔ n ∈ zs := by
  have gx : zs.getD x 0 = zs[x] := by rw [List.getD_eq_getElem?_getD, List.getElem?_eq_getElem hx]; rfl
  have gy : zs.getD y 0 = zs[y] := by rw [List.getD_eq_getElem?_getD, List.getElem?_eq_getElem hy]; rfl
  unfold swp
  rw [gx, gy]
  constructor
  · intro h
    rcases List.mem_or_eq_of_mem_set h with h | h
    · rcases List.mem_or_eq_of_mem_set h with h | h
      · exact h
      · rw [h]; exact List.getElem_mem hy
    · rw [h]; exact List.getElem_mem hx
  · intro h
    obtain ⟨i, hi, rfl⟩ := List.getElem_of_mem h
    refine List.mem_iff_getElem.2 ?_
    by_cases h1 : i = x
    · subst h1
      refine ⟨y, by simpa using hy, ?_⟩
      simp
    · by_cases h2 : i = y
      · subst h2
        by_cases h3 : i = x
        · exact absurd h3 h1
        · refine ⟨x, by simpa using hx, ?_⟩
          rw [List.getElem_set_ne (by omega)]
          simp
      · refine ⟨i, by simpa using hi, ?_⟩
        rw [List.getElem_set_ne (by omega), List.getElem_set_ne (by omega)]
end Go.Proofs.Ytlefnddhmpgijaa
