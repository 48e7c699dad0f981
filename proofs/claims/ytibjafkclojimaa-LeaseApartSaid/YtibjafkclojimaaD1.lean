
/- Layer 26: a cell, its record, what bytes are as a record: plain functions. Conditions: as each theorem states them. -/
import Derived.Test.YtibjafkclojimaaH1
import Derived.Test.YtibjafkclojimaaS1
namespace Go.Proofs.Ytibjafkclojimaa
open Go.RowKit
/-- a cell -/
structure CL where
  ep : Int
  ow : Int
  nx : Int
  sn : Int
  bs : List (List Int)
def CL.zero : CL := ⟨0, 0, 0, 0, []⟩
structure CL.Fit (c : CL) : Prop where
  e0 : 0 ≤ c.ep
  e1 : c.ep < 18446744073709551616
  o0 : 0 ≤ c.ow
  o1 : c.ow < 256
  n0 : 0 ≤ c.nx
  n1 : c.nx < 18446744073709551616
  s0 : 0 ≤ c.sn
  s1 : c.sn < 18446744073709551616
  b : ∀ x ∈ c.bs, Byt x
/-- rows of bytes, one behind the other, each behind its length -/
def rowsL : List (List Int) → List Int
  | [] => []
  | b :: r => beL (b.length : Int) 4 ++ b ++ rowsL r
theorem rowsL_cons (b : List Int) (r : List (List Int)) : rowsL (b :: r) = beL (b.length : Int) 4 ++ b ++ rowsL r := rfl
theorem rowsL_append (a b : List (List Int)) : rowsL (a ++ b) = rowsL a ++ rowsL b := by
  induction a with
  | nil => rfl
  | cons x a ih => rw [List.cons_append, rowsL_cons, rowsL_cons, ih]; simp only [List.append_assoc]
theorem rowsL_byt {l : List (List Int)} (h : ∀ x ∈ l, Byt x) : Byt (rowsL l) := by
  induction l with
  | nil => exact Byt.nil
  | cons x l ih => exact ((beL_byt _ _).append (h x (by simp))).append (ih fun y hy => h y (by simp [hy]))
/-- so many bytes are rows -/
def rowsN (l : List (List Int)) : Nat := (rowsL l).length
theorem rowsN_cons (b : List Int) (r : List (List Int)) : rowsN (b :: r) = 4 + b.length + rowsN r := by
  unfold rowsN; rw [rowsL_cons, List.length_append, List.length_append, beL_len]
theorem rowsN_nil : rowsN [] = 0 := rfl
theorem rowsL_nil : rowsL [] = [] := rfl
theorem rowsN_eq (l : List (List Int)) : (rowsL l).length = rowsN l := rfl
theorem rowsN_snoc (a : List (List Int)) (b : List Int) : rowsN (a ++ [b]) = rowsN a + (4 + b.length) := by
  unfold rowsN; rw [rowsL_append, List.length_append, rowsL_cons, List.length_append, List.length_append, beL_len]; simp [rowsL]
theorem rowsN_len : ∀ l : List (List Int), 4 * l.length ≤ rowsN l
  | [] => Nat.le_refl _
  | x :: l => by rw [rowsN_cons, List.length_cons]; have := rowsN_len l; omega
def CL.size (c : CL) : Nat := 29 + rowsN c.bs
def CL.body (c : CL) : List Int := beL c.ep 8 ++ [c.ow] ++ beL c.nx 8 ++ beL c.sn 8 ++ beL (c.bs.length : Int) 4 ++ rowsL c.bs
theorem CL.body_len (c : CL) : c.body.length = c.size := by
  unfold CL.body CL.size rowsN
  simp only [List.length_append, beL_len, List.length_cons, List.length_nil]
/-- a record but for its sum -/
def CL.hed (c : CL) (k : Int) : List Int := beL k 8 ++ beL (c.size : Int) 4 ++ c.body
theorem CL.hed_len (c : CL) (k : Int) : (c.hed k).length = 12 + c.size := by
  unfold CL.hed
  simp only [List.length_append, beL_len, CL.body_len]
def CL.rcd (c : CL) (k : Int) : List Int := c.hed k ++ (shaL (c.hed k)).take 8
theorem CL.rcd_len (c : CL) (k : Int) : (c.rcd k).length = 20 + c.size := by
  unfold CL.rcd
  rw [List.length_append, CL.hed_len, List.length_take, shaL_len]
  omega
def CL.May (c : CL) : Prop := c.ow ≤ 2 ∧ c.nx ≤ 4611686018427387904 ∧ c.sn ≤ c.ep ∧ c.size ≤ 16777216
theorem CL.body_byt {c : CL} (h : c.Fit) : Byt c.body :=
  (((((beL_byt _ _).append (Byt.cons ⟨h.o0, h.o1⟩ Byt.nil)).append (beL_byt _ _)).append (beL_byt _ _)).append (beL_byt _ _)).append (rowsL_byt h.b)
theorem CL.hed_byt {c : CL} (h : c.Fit) (k : Int) : Byt (c.hed k) := ((beL_byt _ _).append (beL_byt _ _)).append (CL.body_byt h)
theorem CL.rcd_byt {c : CL} (h : c.Fit) (k : Int) : Byt (c.rcd k) := (CL.hed_byt h k).append ((shaL_byt _).take 8)

/-- so many rows, and what stands behind them -/
def takeRows : Nat → List Int → Option (List (List Int) × List Int)
  | 0, r => some ([], r)
  | k + 1, r =>
    if r.length < 4 then none else
    if ((r.drop 4).length : Int) < ofF 0 (r.take 4) then none else
    match takeRows k ((r.drop 4).drop (ofF 0 (r.take 4)).toNat) with
    | none => none
    | some (l, s) => some ((r.drop 4).take (ofF 0 (r.take 4)).toNat :: l, s)
theorem ofF0_beL {n : Int} (h : 0 ≤ n) (k : Nat) (hk : n < 256 ^ k) : ofF 0 (beL n k) = n := by
  rw [ofF_beL 0 n h k, Int.zero_mul, Int.zero_add, Int.emod_eq_of_lt h hk]
theorem takeRows_rows : ∀ (l : List (List Int)) (s : List Int), (∀ x ∈ l, x.length < 4294967296) → takeRows l.length (rowsL l ++ s) = some (l, s)
  | [], s, _ => rfl
  | b :: l, s, h => by
    have hb := h b (by simp)
    have e1 : (rowsL (b :: l) ++ s) = beL (b.length : Int) 4 ++ (b ++ (rowsL l ++ s)) := by rw [rowsL_cons]; simp only [List.append_assoc]
    have e2 : (rowsL (b :: l) ++ s).take 4 = beL (b.length : Int) 4 := by rw [e1]; exact List.take_left' (beL_len _ _)
    have e3 : (rowsL (b :: l) ++ s).drop 4 = b ++ (rowsL l ++ s) := by rw [e1]; exact List.drop_left' (beL_len _ _)
    have e4 : ofF 0 (beL (b.length : Int) 4) = (b.length : Int) := ofF0_beL (by omega) 4 (by
      have : (256 : Int) ^ 4 = 4294967296 := by decide
      omega)
    rw [List.length_cons, takeRows, e2, e3, e4, Int.toNat_natCast, List.drop_left, List.take_left, takeRows_rows l s fun x hx => h x (by simp [hx])]
    rw [if_neg (by rw [e1, List.length_append, beL_len]; omega), if_neg (by rw [List.length_append]; omega)]
theorem takeRows_len : ∀ (k : Nat) (r : List Int) (l : List (List Int)) (s : List Int), Byt r → takeRows k r = some (l, s) → l.length = k ∧ r.length = rowsN l + s.length ∧ ∀ x ∈ l, Byt x
  | 0, r, l, s, _, h => by
    rw [takeRows] at h
    injection h with h
    injection h with h1 h2
    subst h1; subst h2
    exact ⟨rfl, by rw [rowsN_nil, Nat.zero_add], by intro x hx; cases hx⟩
  | k + 1, r, l, s, hb, h => by
    rw [takeRows] at h
    split at h
    · cases h
    split at h
    · cases h
    rename_i h1 h2
    split at h
    · cases h
    · rename_i l' s' e
      injection h with h
      injection h with h3 h4
      subst h3; subst h4
      obtain ⟨i1, i2, i3⟩ := takeRows_len k _ l' s' ((hb.drop 4).drop _) e
      have hr := ofF_range 0 (r.take 4) (hb.take 4) (by decide)
      refine ⟨by rw [List.length_cons, i1], ?_, fun x hx => ?_⟩
      · rw [List.length_drop, List.length_drop] at i2
        rw [List.length_drop] at h2
        rw [rowsN_cons, List.length_take, List.length_drop]
        omega
      · rcases List.mem_cons.1 hx with rfl | hx
        · exact (hb.drop 4).take _
        · exact i3 x hx
/-- what bytes are as a record -/
def ownL (rest : List Int) (bs : List (List Int)) : CL := ⟨ofF 0 ((rest.drop 12).take 8), rest.getD 20 0, ofF 0 ((rest.drop 21).take 8), ofF 0 ((rest.drop 29).take 8), bs⟩
open Classical in
noncomputable def takeL (b : List Int) : Option (CL × Int) :=
  if b.length < 49 ∨ 16777236 < b.length then none else
  match takeRows (ofF 0 (((b.take (b.length - 8)).drop 37).take 4)).toNat ((b.take (b.length - 8)).drop 41) with
  | none => none
  | some (l, s) =>
    if 0 < s.length ∨ ofF 0 (((b.take (b.length - 8)).drop 8).take 4) ≠ ((ownL (b.take (b.length - 8)) l).size : Int) ∨ (shaL (b.take (b.length - 8))).take 8 ≠ b.drop (b.length - 8) ∨ ¬ (ownL (b.take (b.length - 8)) l).May then none
    else some (ownL (b.take (b.length - 8)) l, ofF 0 ((b.take (b.length - 8)).take 8))
theorem takeL_short {b : List Int} (h : b.length < 49) : takeL b = none := by unfold takeL; rw [if_pos (.inl h)]
theorem seg {a b c : List Int} {n m : Nat} (ha : a.length = n) (hb : b.length = m) : (((a ++ b) ++ c).drop n).take m = b := by
  rw [List.append_assoc, List.drop_left' ha, List.take_left' hb]
theorem CL.hed_split (c : CL) (k : Int) : c.hed k = beL k 8 ++ (beL (c.size : Int) 4 ++ (beL c.ep 8 ++ ([c.ow] ++ (beL c.nx 8 ++ (beL c.sn 8 ++ (beL (c.bs.length : Int) 4 ++ rowsL c.bs)))))) := by
  unfold CL.hed CL.body
  simp only [List.append_assoc]
theorem dropk {a b : List Int} {n m : Nat} (ha : a.length = n) : (a ++ b).drop (n + m) = b.drop m := by
  rw [List.drop_append, List.drop_eq_nil_of_le (by omega), List.nil_append, ha, Nat.add_sub_cancel_left]
section
variable {c : CL} {k : Int}
theorem hed_0 : (c.hed k).take 8 = beL k 8 := by rw [CL.hed_split]; exact List.take_left' (beL_len _ _)
theorem hed_8 : ((c.hed k).drop 8).take 4 = beL (c.size : Int) 4 := by rw [CL.hed_split, List.drop_left' (beL_len _ _)]; exact List.take_left' (beL_len _ _)
theorem hed_12 : (c.hed k).drop 12 = beL c.ep 8 ++ ([c.ow] ++ (beL c.nx 8 ++ (beL c.sn 8 ++ (beL (c.bs.length : Int) 4 ++ rowsL c.bs)))) := by
  rw [CL.hed_split, show 12 = 8 + 4 from rfl, dropk (beL_len _ _), List.drop_left' (beL_len _ _)]
theorem hed_20 : (c.hed k).drop 20 = [c.ow] ++ (beL c.nx 8 ++ (beL c.sn 8 ++ (beL (c.bs.length : Int) 4 ++ rowsL c.bs))) := by
  rw [show 20 = 12 + 8 from rfl, ← List.drop_drop, hed_12, List.drop_left' (beL_len _ _)]
theorem hed_21 : (c.hed k).drop 21 = beL c.nx 8 ++ (beL c.sn 8 ++ (beL (c.bs.length : Int) 4 ++ rowsL c.bs)) := by
  rw [show 21 = 20 + 1 from rfl, ← List.drop_drop, hed_20]; rfl
theorem hed_29 : (c.hed k).drop 29 = beL c.sn 8 ++ (beL (c.bs.length : Int) 4 ++ rowsL c.bs) := by
  rw [show 29 = 21 + 8 from rfl, ← List.drop_drop, hed_21, List.drop_left' (beL_len _ _)]
theorem hed_37 : (c.hed k).drop 37 = beL (c.bs.length : Int) 4 ++ rowsL c.bs := by
  rw [show 37 = 29 + 8 from rfl, ← List.drop_drop, hed_29, List.drop_left' (beL_len _ _)]
theorem hed_41 : (c.hed k).drop 41 = rowsL c.bs := by
  rw [show 41 = 37 + 4 from rfl, ← List.drop_drop, hed_37, List.drop_left' (beL_len _ _)]
theorem p8 : (256 : Int) ^ 8 = 18446744073709551616 := by decide
theorem p4 : (256 : Int) ^ 4 = 4294967296 := by decide
theorem own_hed (h : c.Fit) : ownL (c.hed k) c.bs = c := by
  unfold ownL
  have e20 : (c.hed k).getD 20 0 = c.ow := by
    have q := congrArg (fun l : List Int => l[0]?) (hed_20 (c := c) (k := k))
    simp only [List.getElem?_drop] at q
    rw [List.getD_eq_getElem?_getD, q]
    rfl
  rw [e20, hed_12, hed_21, hed_29, List.take_left' (beL_len _ _), List.take_left' (beL_len _ _), List.take_left' (beL_len _ _), ofF0_beL h.e0 8 (by rw [p8]; exact h.e1), ofF0_beL h.n0 8 (by rw [p8]; exact h.n1), ofF0_beL h.s0 8 (by rw [p8]; exact h.s1)]
theorem row_le : ∀ (l : List (List Int)) (x : List Int), x ∈ l → x.length ≤ rowsN l
  | [], x, h => by cases h
  | y :: l, x, h => by
    rw [rowsN_cons]
    rcases List.mem_cons.1 h with rfl | h
    · omega
    · have := row_le l x h; omega
/-- a record is read as it was -/
theorem takeL_rcd (h : c.Fit) (hm : c.May) (k0 : 0 ≤ k) (k1 : k < 18446744073709551616) : takeL (c.rcd k) = some (c, k) := by
  have hl := CL.rcd_len c k
  have hs : c.size ≤ 16777216 := hm.2.2.2
  have hn : rowsN c.bs ≤ 16777216 := by unfold CL.size at hs; omega
  have h29 : 29 ≤ c.size := by unfold CL.size; omega
  have e1 : (c.rcd k).take ((c.rcd k).length - 8) = c.hed k := by unfold CL.rcd; rw [List.length_append, List.length_take, shaL_len]; exact List.take_left' (by omega)
  have e2 : (c.rcd k).drop ((c.rcd k).length - 8) = (shaL (c.hed k)).take 8 := by
    conv => lhs; arg 2; unfold CL.rcd
    exact List.drop_left' (by rw [CL.hed_len, hl]; omega)
  have hbn : c.bs.length < 4294967296 := by have := rowsN_len c.bs; omega
  unfold takeL
  rw [if_neg (by rw [hl]; omega), e1, e2, hed_37, hed_41, hed_8, hed_0, List.take_left' (beL_len _ _), ofF0_beL (by omega) 4 (by rw [p4]; omega), ofF0_beL (by omega) 4 (by rw [p4]; omega), ofF0_beL k0 8 (by rw [p8]; exact k1), Int.toNat_natCast]
  have e3 := takeRows_rows c.bs [] (fun x hx => by have := row_le _ _ hx; omega)
  rw [List.append_nil] at e3
  rw [e3]
  simp only
  rw [own_hed h, if_neg]
  rintro (h1 | h1 | h1 | h1)
  · exact absurd h1 (by simp)
  · exact h1 rfl
  · exact h1 rfl
  · exact h1 hm
end
theorem takeL_some {b : List Int} (hb : Byt b) {c : CL} {k : Int} (h : takeL b = some (c, k)) : b.length = 20 + c.size ∧ ofF 0 ((b.drop 8).take 4) = (c.size : Int) ∧ c.May ∧ c.Fit := by
  unfold takeL at h
  split at h
  · cases h
  rename_i h0
  have h49 : 49 ≤ b.length := by omega
  split at h
  · cases h
  rename_i l s e
  split at h
  · cases h
  rename_i h1
  injection h with h
  injection h with h2 h3
  have hrb := hb.take (b.length - 8)
  obtain ⟨i1, i2, i3⟩ := takeRows_len _ _ _ _ (hrb.drop 41) e
  have hs : s.length = 0 := by
    rcases Nat.eq_zero_or_pos s.length with q | q
    · exact q
    · exact absurd (.inl q) h1
  have ht : ofF 0 (((b.take (b.length - 8)).drop 8).take 4) = ((ownL (b.take (b.length - 8)) l).size : Int) := Classical.byContradiction fun q => h1 (.inr (.inl q))
  have hm : (ownL (b.take (b.length - 8)) l).May := Classical.byContradiction fun q => h1 (.inr (.inr (.inr q)))
  rw [List.length_drop, List.length_take, hs] at i2
  have e4 : ((b.take (b.length - 8)).drop 8).take 4 = (b.drop 8).take 4 := by
    rw [List.drop_take, List.take_take, Nat.min_eq_left (by omega)]
  subst h2
  have hr12 := ofF_range 0 (((b.take (b.length - 8)).drop 12).take 8) ((hrb.drop 12).take 8) (by decide)
  have hr21 := ofF_range 0 (((b.take (b.length - 8)).drop 21).take 8) ((hrb.drop 21).take 8) (by decide)
  have hr29 := ofF_range 0 (((b.take (b.length - 8)).drop 29).take 8) ((hrb.drop 29).take 8) (by decide)
  have hl : ∀ o, o + 8 ≤ b.length - 8 → (((b.take (b.length - 8)).drop o).take 8).length = 8 := fun o ho => by simp only [List.length_take, List.length_drop]; omega
  rw [hl 12 (by omega), p8] at hr12
  rw [hl 21 (by omega), p8] at hr21
  rw [hl 29 (by omega), p8] at hr29
  have hg := hrb.getD 20
  refine ⟨?_, by rw [← e4]; exact ht, hm, ⟨hr12.1, by have := hr12.2; simp only [ownL]; omega, hg.1, hg.2, hr21.1, by have := hr21.2; simp only [ownL]; omega, hr29.1, by have := hr29.2; simp only [ownL]; omega, i3⟩⟩
  show b.length = 20 + (29 + rowsN l)
  omega
section
variable {c : CL} {k : Int}
theorem rcd_told : ((c.rcd k).drop 8).take 4 = beL (c.size : Int) 4 := by
  unfold CL.rcd
  rw [List.drop_append_of_le_length (by rw [CL.hed_len]; omega), List.take_append_of_le_length (by rw [List.length_drop, CL.hed_len]; unfold CL.size; omega), hed_8]
/-- bytes that begin as a record does, and are more or fewer, are none -/
theorem takeL_other (_hf : c.Fit) (hm : c.May) {b : List Int} (hb : Byt b) (h8 : 12 ≤ b.length → (b.drop 8).take 4 = ((c.rcd k).drop 8).take 4) (hl : b.length ≠ (c.rcd k).length) : takeL b = none := by
  cases h : takeL b with
  | none => rfl
  | some ck =>
    obtain ⟨d, j⟩ := ck
    obtain ⟨h1, h2, _, _⟩ := takeL_some hb h
    have h29 : 29 ≤ d.size := by unfold CL.size; omega
    have hs : c.size ≤ 16777216 := hm.2.2.2
    rw [h8 (by omega), rcd_told, ofF0_beL (by omega) 4 (by rw [p4]; omega)] at h2
    exact absurd (by rw [h1, CL.rcd_len]; omega) hl
theorem takeL_cut (hf : c.Fit) (hm : c.May) {m : Nat} (h : m < (c.rcd k).length) : takeL ((c.rcd k).take m) = none :=
  takeL_other (k := k) hf hm ((CL.rcd_byt hf k).take m) (fun q => by
    rw [List.length_take] at q
    rw [List.drop_take, List.take_take, Nat.min_eq_left (by omega)]) (by rw [List.length_take]; omega)
theorem takeL_more (hf : c.Fit) (hm : c.May) {s : List Int} (hs : Byt s) (h : 0 < s.length) : takeL (c.rcd k ++ s) = none :=
  takeL_other (k := k) hf hm ((CL.rcd_byt hf k).append hs) (fun _ => by
    rw [List.drop_append_of_le_length (by rw [CL.rcd_len]; omega), List.take_append_of_le_length (by rw [List.length_drop, CL.rcd_len]; unfold CL.size; omega)]) (by rw [List.length_append]; omega)
end
attribute [irreducible] rowsL rowsN
end Go.Proofs.Ytibjafkclojimaa
