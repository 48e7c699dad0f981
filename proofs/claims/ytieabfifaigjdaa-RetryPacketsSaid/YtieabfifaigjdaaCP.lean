/- Copies of integers into the middle of a block of integers; arrays read out of such blocks. Conditions: as each theorem states them. -/
import Derived.Test.YtieabfifaigjdaaLV
import Derived.Laws.CopyOwn
namespace Go.Proofs.Ytieabfifaigjdaa
open Go.RowKit
/-- the integers from o on are laid over -/
def ovi (Z : List Int) (o : Nat) (X : List Int) : List Int := Z.take o ++ (X ++ Z.drop (o + X.length))
theorem ovi_len {Z X : List Int} {o : Nat} (h : o + X.length ≤ Z.length) : (ovi Z o X).length = Z.length := by unfold ovi; simp; omega
/-- so many integers, noughts behind -/
def flN (N : Nat) (xs : List Int) : List Int := xs ++ List.replicate (N - xs.length) 0
theorem flN_len {N : Nat} {xs : List Int} (h : xs.length ≤ N) : (flN N xs).length = N := by unfold flN; simp; omega
theorem flN_nil (N : Nat) : flN N [] = List.replicate N 0 := by simp [flN]
theorem flN_full {N : Nat} {xs : List Int} (h : xs.length = N) : flN N xs = xs := by unfold flN; rw [h, Nat.sub_self]; simp
theorem flN_getD {N : Nat} (xs : List Int) {i : Nat} (h : i < xs.length) : (flN N xs).getD i 0 = xs.getD i 0 := by
  unfold flN; rw [List.getD_eq_getElem?_getD, List.getElem?_append_left h, List.getD_eq_getElem?_getD]
theorem flN_drop {N : Nat} (xs : List Int) {o n : Nat} (h : o + n ≤ xs.length) : ((flN N xs).drop o).take n = (xs.drop o).take n := by
  unfold flN
  rw [List.drop_append_of_le_length (by omega), List.take_append_of_le_length (by simp; omega)]
theorem ovi_flN {N : Nat} {xs ys : List Int} (h : xs.length + ys.length ≤ N) : ovi (flN N xs) xs.length ys = flN N (xs ++ ys) := by
  unfold ovi flN
  rw [List.take_left, List.drop_append, List.drop_eq_nil_of_le (by omega), List.drop_replicate, List.nil_append, List.append_assoc, List.length_append, show N - xs.length - (xs.length + ys.length - xs.length) = N - (xs.length + ys.length) by omega]
theorem set_flN {N : Nat} {xs : List Int} (y : Int) (h : xs.length < N) : (flN N xs).set xs.length y = flN N (xs ++ [y]) := by
  unfold flN
  rw [List.set_append_right _ _ (Nat.le_refl _), Nat.sub_self, List.append_assoc, List.length_append]
  congr 1
  rw [show N - xs.length = (N - (xs.length + 1)) + 1 by omega, List.replicate_succ]
  rfl
attribute [irreducible] flN
section
variable {w : World} {g : Nat} {t : TypeId} {k : IntKind} {xs : List Int}
/-- the integers from o on, read as a slice -/
theorem arr_rdAt (h : Arr w g t k xs) (o : Nat) : Rd w.heap.size k w (some ⟨g, o, none⟩) (xs.drop o) := fun i hi => by
  rw [List.length_drop] at hi
  refine ⟨_, rfl, h.lt, ?_⟩
  rw [Addr.add_mid, h.cell (by omega)]
  simp [List.getD_eq_getElem?_getD, List.getElem?_drop]
theorem arr_loadMid {P : Program} {ty e : TypeId} {n o : Nat} (h : Arr w g t k xs) (hu : P.underlying ty = some (.array n e)) (hi : (P.info? ty).map (·.size) = some n) (ho : o + n ≤ xs.length) :
    (Instr.loadAt ty (.pointer (some ⟨g, o, none⟩))).run P w = .ok (.agg (cellsL k ((xs.drop o).take n))) w := by
  have hl : ((xs.drop o).take n).length = n := by simp; omega
  refine run_loadAt_mid (P := P) w g o ty (((xs.drop o).take n).map (Value.int k)) (.array n e) (fun j v hj => ?_) hu rfl (by rw [hi, List.length_map, hl])
  simp only [List.getElem?_map, Option.map_eq_some_iff] at hj
  obtain ⟨x, hx, rfl⟩ := hj
  have hjn : j < n := by
    rcases Nat.lt_or_ge j n with q | q
    · exact q
    · rw [List.getElem?_eq_none (by rw [hl]; exact q)] at hx; cases hx
  rw [List.getElem?_take, if_pos hjn, List.getElem?_drop] at hx
  rw [h.cell (by omega), List.getD_eq_getElem?_getD, hx]
  rfl
theorem wpList_copyAt {P : Program} {ops : Array Oper} {rest : List Oper} {o : Oper} {a : Act} {Q : Exit → Act → World → Prop} {dT sT elem : TypeId} {off dl dc sl sc B m : Nat} {sp : Option Addr} {X : List Int} (hgd : o.guard = none) (d s : Operand)
    (ho : o.op = .call { callee := .builtin .copy, args := #[d, s], argTypes := #[dT, sT] }) (hu : P.underlying dT = some (.slice elem)) (hsz : (P.info? elem).map (·.size) = some 1)
    (hd : a.eval d = .slice (some ⟨g, off, none⟩) dl dc) (hs : a.eval s = .slice sp sl sc) (hA : Arr w g t k xs) (hr : Rd B k w sp X) (hX : X.length = sl) (hm : m = Nat.min sl dl) (hfit : off + m ≤ xs.length)
    (h : ∀ w', Arr w' g t k (ovi xs off (X.take m)) → w.grownBy w' (some g) → wpList P ops Q rest (a.put o.dst (goInt m)) w') : wpList P ops Q (o :: rest) a w := by
  have hml : m ≤ X.length := by rw [hm, hX]; exact Nat.min_le_left _ _
  have hl : ((X.take m).map (Value.int k)).length = m := by simp; omega
  rcases Nat.eq_zero_or_pos m with h0 | h0
  · subst h0
    refine wpList_copy_nothing hgd d s dT sT ho elem hu hsz _ sp dl dc sl sc hd hs hm.symm ?_
    refine h w (Arr.cast hA ?_) (World.grownBy.refl _ _)
    unfold ovi
    simp
  · obtain ⟨ad, rfl, _⟩ := hr.isSome (by omega)
    have hsrc : ∀ j v, ((X.take m).map (Value.int k))[j]? = some v → w.cell? (ad.add j) = some v := by
      intro j v hj
      simp only [List.getElem?_map, Option.map_eq_some_iff] at hj
      obtain ⟨x, hx, rfl⟩ := hj
      have hjn : j < m := by
        rcases Nat.lt_or_ge j m with q | q
        · exact q
        · rw [List.getElem?_eq_none (by simp; omega)] at hx; cases hx
      rw [List.getElem?_take, if_pos hjn] at hx
      rw [hr.at_ (by omega), List.getD_eq_getElem?_getD, hx]
      rfl
    refine wpList_copy_own hgd d s dT sT ho elem hu hsz g off dl dc ad sl sc hd hs (xs.map (Value.int k)).toArray t hA ((X.take m).map (Value.int k)) (by rw [hl, hm]) hsrc (by rw [hl]; simpa using hfit) (ints_oneCell k _) ?_
    rw [hl]
    refine h _ ?_ (only_setRow w g _)
    have := arr_setRow hA k (ovi xs off (X.take m))
    have e : cellsL k (ovi xs off (X.take m)) = ((xs.map (Value.int k)).toArray.toList.take off ++ ((X.take m).map (Value.int k) ++ (xs.map (Value.int k)).toArray.toList.drop (off + m))).toArray := by
      unfold cellsL ovi
      have hl2 : (X.take m).length = m := by simp; omega
      rw [hl2]
      simp
    rwa [e] at this
end
/-- an array out of an array of arrays -/
theorem index_arr {P : Program} {t e ee : TypeId} {N n : Nat} {k : IntKind} {xs : List Int} (ht : P.underlying t = some (.array N e)) (he : P.underlying e = some (.array n ee)) (hi : (P.info? e).map (·.size) = some n) {i : Nat} (hlt : i < N) (ik : IntKind) (w : World) :
    (Instr.index t (.agg (cellsL k xs)) (.int ik (i : Int))).run P w = .ok (.agg (cellsL k ((xs.drop (i * n)).take n))) w := by
  have hs : ∀ w, (sizeOf e).run P w = .ok n w := fun w => by
    cases hq : P.info? e with
    | none => simp [hq] at hi
    | some j => simp [hq] at hi; simp [sizeOf, typeInfo, hq, hi]
  have hx : (cellsL k xs).extract (i * n) (i * n + n) = cellsL k ((xs.drop (i * n)).take n) := by
    unfold cellsL
    apply Array.toList_inj.1
    simp [List.map_take, List.map_drop]
  simp [Instr.index, run_underlying ht, asIntOf, part, isAgg, run_underlying he, hs, hlt, hx]
end Go.Proofs.Ytieabfifaigjdaa
