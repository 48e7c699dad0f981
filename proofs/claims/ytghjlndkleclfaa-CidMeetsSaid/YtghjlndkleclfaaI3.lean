/- Layer 20: slices.Delete, slices.Clone over entries. Conditions: as each theorem states them. -/
import Derived.Test.YtghjlndkleclfaaI2
import Derived.Test.YtghjlndkleclfaaAM
import Derived.Deep.AppendSrc
import Derived.Lib.AppendZeros
namespace Go.Proofs.Ytghjlndkleclfaa
open Go.RowKit
theorem wpList_clear_run {P : Program} (w : World) {ops : Array Oper} {rest : List Oper} {o : Oper} {a : Act} {Q : Exit → Act → World → Prop} (hg : o.guard = none) (x : Operand) (t : TypeId)
    (hop : o.op = Op.call { callee := Callee.builtin Builtin.clear, args := #[x], argTypes := #[t] }) (vx v' : Value) (w' : World) (hx : a.eval x = vx) (hr : (Builtin.clear_ #[t] o.type #[vx]).run P w = .ok v' w')
    (hK : wpList P ops Q rest (a.put o.dst v') w') : wpList P ops Q (o :: rest) a w := by
  refine wpList_plain hg fun K' hK' => ?_
  unfold Oper.wp
  simp [execOp, hop, resolve, invoke, builtin, hx, hr, Result.andThen]
  exact hK' _ _ hK
/-- the cells of an entry of noughts -/
def zE : List Value := [.int .u64 0, .slice none 0 0, .int .u8 0, .int .u8 0, .int .u8 0, .int .u8 0, .int .u8 0, .int .u8 0, .int .u8 0, .int .u8 0, .int .u8 0, .int .u8 0, .int .u8 0, .int .u8 0, .int .u8 0, .int .u8 0, .int .u8 0, .int .u8 0]
theorem zE_one : ∀ v ∈ zE, v.oneCell' = true := by
  intro v hv
  unfold zE at hv
  simp only [List.mem_cons, List.not_mem_nil, or_false] at hv
  rcases hv with rfl | rfl | rfl | rfl | rfl | rfl | rfl | rfl | rfl | rfl | rfl | rfl | rfl | rfl | rfl | rfl | rfl | rfl <;> rfl
theorem clear_one (w : World) (ty : TypeId) (b o c : Nat) (hc : ∀ j, j < 18 → (w.cell? ⟨b, o + j, none⟩).isSome = true) (hf : ∀ j, j < 18 → w.frozen? ⟨b, o + j, none⟩ = false) :
    (Builtin.clear_ #[40] ty #[.slice (some ⟨b, o, none⟩) 1 c]).run Try.prog w = .ok (.tuple #[]) (w.setCells b o zE) := by
  have hzc : (Builtin.zeroCells (Value.agg #[.int .u64 0, .slice none 0 0, .int .u8 0, .int .u8 0, .int .u8 0, .int .u8 0, .int .u8 0, .int .u8 0, .int .u8 0, .int .u8 0, .int .u8 0, .int .u8 0, .int .u8 0, .int .u8 0, .int .u8 0, .int .u8 0, .int .u8 0, .int .u8 0]).cells 1).toList = zE := by kernel_rfl
  have hz : (zeroValue 47).run Try.prog w = .ok (.agg #[.int .u64 0, .slice none 0 0, .int .u8 0, .int .u8 0, .int .u8 0, .int .u8 0, .int .u8 0, .int .u8 0, .int .u8 0, .int .u8 0, .int .u8 0, .int .u8 0, .int .u8 0, .int .u8 0, .int .u8 0, .int .u8 0, .int .u8 0, .int .u8 0]) w := by kernel_rfl
  have hst := run_storeCells_cells (P := Try.prog) b o zE 0 w (by rw [show zE.length = 18 from rfl]; simpa using hc) (by rw [show zE.length = 18 from rfl]; simpa using hf) zE_one
  simp only [Nat.add_zero] at hst
  simp [Builtin.clear_, run_underlying Try.underlying40, hz, hzc, hst]
theorem vsE_app (l r : List CX) : vsE (l ++ r) = vsE l ++ vsE r := by unfold vsE; rw [List.flatMap_append]
theorem vsE_one {l : List CX} : ∀ v ∈ vsE l, v.oneCell' = true := by
  intro v hv
  unfold vsE at hv
  obtain ⟨x, _, h⟩ := List.mem_flatMap.1 hv
  unfold CX.vs at h
  rcases List.mem_cons.1 h with rfl | h
  · rfl
  · rcases List.mem_cons.1 h with rfl | h
    · rfl
    · obtain ⟨y, _, rfl⟩ := List.mem_map.1 h
      rfl
theorem del_split (l : List CX) (i : Nat) : l.eraseIdx i = l.take i ++ l.drop (i + 1) := List.eraseIdx_eq_take_drop_succ ..
/-- a row of entries as a block -/
theorem EntR.blk {B g n c : Nat} {w : World} {l : List CX} (h : EntR B w (.slice (some ⟨g, 0, none⟩) n c) l) : ∃ cur : List Value, Blk w g 47 cur.toArray ∧ l.length = n ∧ n ≤ c ∧ c ≤ maxLen ∧ cur.length = c * 18 ∧ cur.take (n * 18) = vsE l ∧ B ≤ g := by
  rcases h.1.2 with ⟨h1, h2⟩ | ⟨g', cap, cur, h1, h2, h3, h4, h5, h6, h7⟩
  · cases h1
  · injection h1 with e1 e2 e3
    injection e1 with e1
    injection e1 with e1 _
    subst e1
    subst e3
    refine ⟨cur.toList, by simpa [Blk] using h3, e2.symm, by omega, h5, by simpa using h6, ?_, h2⟩
    rw [e2]
    exact h7
theorem entR_of {B g n c : Nat} {w : World} {l : List CX} {cur : List Value} (hb : Blk w g 47 cur.toArray) (hn : l.length = n) (hc : n ≤ c) (hm : c ≤ maxLen) (hl : cur.length = c * 18) (ht : cur.take (n * 18) = vsE l) (hB : B ≤ g) (ho : ∀ x ∈ l, x.Ok w) : EntR B w (.slice (some ⟨g, 0, none⟩) n c) l := by
  refine ⟨⟨vsE_len l (fun x hx => (ho x hx).tl), .inr ⟨g, c, cur.toArray, by rw [hn], hB, hb, by omega, hm, by simpa using hl, ?_⟩⟩, ho⟩
  rw [hn]
  simpa using ht
theorem grown_drew_ {a b : World} {row : Option Nat} (h : a.grownBy b row) : a.grownBy b.drew row := ⟨h.os, h.tape, h.output, h.size, h.block⟩
set_option maxRecDepth 100000 in
set_option maxHeartbeats 2000000 in
theorem delete_any (B g n c i : Nat) (l : List CX) (w : World) (h : EntR B w (.slice (some ⟨g, 0, none⟩) n c) l) (hi : i < n) (hn2 : n ≤ 100000) :
    Calls Try.prog 31 #[.slice (some ⟨g, 0, none⟩) n c, .int .i64 i, .int .i64 (i + 1)] w fun e w' => e = .returned (.slice (some ⟨g, 0, none⟩) (n - 1) c) ∧ EntR B w' (.slice (some ⟨g, 0, none⟩) (n - 1) c) (l.eraseIdx i) ∧ w.grownBy w' (some g) := by
  obtain ⟨cur, hb, hl, hnc, hcm, hcl, hct, hB⟩ := h.blk
  have hcc : c ≤ 9223372036854775807 := by unfold maxLen at hcm; omega
  have hne : ((i : Int) == (i : Int) + 1) = false := beq_eq_false_iff_ne.2 (by omega)
  have hw1 : i ≤ n := by omega
  have hw2 : i + 1 ≤ n := by omega
  go_enter Try.func31, Try.ntmps31
  go_wp2_with fail
  clear hne
  have hol : i * 18 + (vsE (l.drop (i + 1))).length = (n - 1) * 18 := by
    rw [vsE_len _ (fun x hx => (h.2 x (List.mem_of_mem_drop hx)).tl), List.length_drop, hl]; omega
  have hvl : (vsE (l.drop (i + 1))).length = (n - (i + 1)) * 18 := by
    rw [vsE_len _ (fun x hx => (h.2 x (List.mem_of_mem_drop hx)).tl), List.length_drop, hl]
  obtain ⟨i0, hi0, hz0, hz1, hz2⟩ := info_parts infoE
  have hsrc : Src Try.prog i0.size 40 (.slice (if c = i + 1 then some ⟨g, 0, none⟩ else some ⟨g, (i + 1) * 18, none⟩) (n - (i + 1)) (c - (i + 1))) (n - (i + 1)) (vsE (l.drop (i + 1))) w.drew := by
    rw [hz1]
    by_cases hci : c = i + 1
    · rw [if_pos hci]
      exact Src.ofSlice w.drew Try.underlying40 ⟨g, 0, none⟩ (n - (i + 1)) (c - (i + 1)) _ hvl (fun j u hj => by have := (List.getElem?_eq_some_iff.1 hj).1; omega) vsE_one
    rw [if_neg hci]
    refine Src.ofSlice w.drew Try.underlying40 ⟨g, (i + 1) * 18, none⟩ (n - (i + 1)) (c - (i + 1)) _ hvl (fun j u hj => ?_) vsE_one
    have hjl : j < (vsE (l.drop (i + 1))).length := (List.getElem?_eq_some_iff.1 hj).1
    have hx : (vsE l)[(i + 1) * 18 + j]? = some u := by
      have e := vsE_app (l.take (i + 1)) (l.drop (i + 1))
      rw [List.take_append_drop] at e
      rw [e, List.getElem?_append_right (by rw [vsE_len _ (fun x hx => (h.2 x (List.mem_of_mem_take hx)).tl), List.length_take, hl]; omega), vsE_len _ (fun x hx => (h.2 x (List.mem_of_mem_take hx)).tl), List.length_take, hl, Nat.min_eq_left (by omega), Nat.add_sub_cancel_left]
      exact hj
    have := h.1.cells (g := g) rfl ((i + 1) * 18 + j) u hx
    rw [add_zero_addr2] at this
    rw [show (⟨g, (i + 1) * 18, none⟩ : Addr) = (⟨g, 0, none⟩ : Addr).add ((i + 1) * 18) by rw [add_zero_addr2], add_of_add, add_zero_addr2]
    exact this
  have hth : ∀ j, j < c * 18 → (w.drew.cell? ⟨g, j, none⟩).isSome = true := fun j hj => by
    rw [Blk.cell (Blk.drew hb) j, List.getElem?_toArray, List.getElem?_eq_getElem (by omega)]; rfl
  have hrun : ∀ ty, (Builtin.append_ #[40, 40] ty #[.slice (some ⟨g, 0, none⟩) i c, .slice (if c = i + 1 then some ⟨g, 0, none⟩ else some ⟨g, (i + 1) * 18, none⟩) (n - (i + 1)) (c - (i + 1))]).run Try.prog w.drew = .ok (.slice (some ⟨g, 0, none⟩) (n - 1) c) (w.drew.setCells g (i * 18) (vsE (l.drop (i + 1)))) := fun ty => by
    have := run_append_room_src w.drew 40 40 ty 47 i0 Try.underlying40 hi0 g 0 i c _ (n - (i + 1)) _ hsrc (by omega) (fun j hj => by rw [hz1, Nat.zero_add]; exact hth _ (by omega)) (fun j _ => Blk.frozen (Blk.drew hb) _)
    rw [hz1, Nat.zero_add, show i + (n - (i + 1)) = n - 1 by omega] at this
    exact this
  obtain ⟨w1, hw1e⟩ : ∃ z, w.drew.setCells g (i * 18) (vsE (l.drop (i + 1))) = z := ⟨_, rfl⟩
  have hb1 : Blk w1 g 47 (ovl cur (i * 18) (vsE (l.drop (i + 1)))).toArray := by
    rw [← hw1e]
    exact blk_setCells _ _ _ _ (Blk.drew hb) (by omega)
  have hg1 : w.grownBy w1 (some g) := by
    rw [← hw1e]
    exact only_setCells g _ _ _ _ (grown_drew_ (World.grownBy.refl w (some g)))
  have hl1 : (ovl cur (i * 18) (vsE (l.drop (i + 1)))).length = c * 18 := by rw [over_len (by omega), hcl]
  have hclr : ∀ ty, (Builtin.clear_ #[40] ty #[.slice (some ⟨g, (n - 1) * 18, none⟩) (n - (n - 1)) (c - (n - 1))]).run Try.prog w1 = .ok (.tuple #[]) (w1.setCells g ((n - 1) * 18) zE) := fun ty => by
    rw [show n - (n - 1) = 1 by omega]
    exact clear_one w1 ty g ((n - 1) * 18) _ (fun j hj => by
    rw [Blk.cell hb1 _, List.getElem?_toArray, List.getElem?_eq_getElem (by omega)]; rfl) (fun j _ => Blk.frozen hb1 _)
  rw [hw1e] at hrun
  have HRUN := Lib.hid hrun
  have HCLR := Lib.hid hclr
  have HE : Hid (EntR B (w1.setCells g ((n - 1) * 18) zE) (.slice (some ⟨g, 0, none⟩) (n - 1) c) (l.eraseIdx i) ∧ w.grownBy (w1.setCells g ((n - 1) * 18) zE) (some g)) := Lib.hid (by
    have hg2 := only_setCells g zE ((n - 1) * 18) w w1 hg1
    refine ⟨entR_of (blk_setCells zE ((n - 1) * 18) w1 _ hb1 (by rw [hl1, show zE.length = 18 from rfl]; omega)) (by rw [List.length_eraseIdx_of_lt (by omega), hl]) (by omega) hcm (by rw [over_len (by rw [hl1, show zE.length = 18 from rfl]; omega), hl1]) ?_ hB (fun x hx => ?_), hg2⟩
    · have e1 : (ovl (ovl cur (i * 18) (vsE (l.drop (i + 1)))) ((n - 1) * 18) zE).take ((n - 1) * 18) = (ovl cur (i * 18) (vsE (l.drop (i + 1)))).take ((n - 1) * 18) := by
        unfold ovl
        rw [List.take_append_of_le_length (by simp; omega), List.take_take, Nat.min_self]
      have e2 : (ovl cur (i * 18) (vsE (l.drop (i + 1)))).take ((n - 1) * 18) = cur.take (i * 18) ++ vsE (l.drop (i + 1)) := by
        unfold ovl
        rw [← List.append_assoc, List.take_append_of_le_length (by simp; omega), List.take_of_length_le (by simp; omega)]
      have e3 : cur.take (i * 18) = vsE (l.take i) := by
        have e := vsE_app (l.take i) (l.drop i)
        rw [List.take_append_drop] at e
        have e4 : cur.take (i * 18) = (cur.take (n * 18)).take (i * 18) := by rw [List.take_take, Nat.min_eq_left (by omega)]
        rw [e4, hct, e, List.take_append_of_le_length (by rw [vsE_len _ (fun x hx => (h.2 x (List.mem_of_mem_take hx)).tl), List.length_take, hl]; omega), List.take_of_length_le (by rw [vsE_len _ (fun x hx => (h.2 x (List.mem_of_mem_take hx)).tl), List.length_take, hl]; omega)]
      rw [e1, e2, e3, ← vsE_app, del_split]
    · exact (h.2 x (List.mem_of_mem_eraseIdx hx)).grown hg2 (hb.notT (by decide)))
  clear hrun hclr hb1 hg1 hl1 hw1e hth hsrc hvl hol hb hl hcl hct hi0 hz0 hz1 hz2
  have hcn : (c = n - 1) = False := eq_false (by omega)
  have hnl : (n : Int) - 1 = ((n - 1 : Nat) : Int) := by omega
  clear hnl
  by_cases hci : c = i + 1
  · have hci1 : (c = i + 1) = True := eq_true hci
    have HR2 := HRUN.out
    rw [if_pos hci] at HR2
    have HRUN := Lib.hid HR2
    clear HR2 hci
    refine wp_region_mixO (fun _ => True) [([0, 1, 2, 3, 4, 5], 6), ([], 7)] (by kernel_rfl) (by kernel_rfl) (by kernel_rfl) (by kernel_rfl) (by kernel_rfl) trivial ?_
    try (rw [put_none])
    simp only [pickL, List.map_cons, List.map_nil, List.filterMap_cons, List.filterMap_nil, List.getElem?_cons_succ, List.getElem?_cons_zero]
    refine mixO_cons ?_
    repeat (show wpQuiet _ _ _ _ (_ :: _) _; go_big_quiet_step (fail))
    refine wpQuiet_nil ?_
    show wpList _ _ _ [_] _ _
    go_wp2_with (at_builtin; go_loud (refine Lib.wpList_append_run _ rfl _ _ _ _ rfl _ _ rfl rfl _ _ (HRUN.out _) ?_))
    refine MixO.narrow (fun _ h => h) trivial ?_
    refine mixO_cons ?_
    refine wpQuiet_nil ?_
    show wpList _ _ _ [_] _ _
    go_wp2_with fail
    refine MixO.last ?_
    refine mixO_nil ?_
    refine wpQuiet_nil ?_
    refine NoPanic.normal ?_
    go_wp2_with ((with_reducible (show wpList _ _ _ (⟨none, .call _, _, _, _, _⟩ :: _) _ _)); go_loud (refine wpList_clear_run _ rfl _ _ rfl _ _ _ rfl (HCLR.out _) ?_))
    go_ret
    exact ⟨rfl, HE.out⟩
  · have hci1 : (c = i + 1) = False := eq_false hci
    have HR2 := HRUN.out
    rw [if_neg hci] at HR2
    have HRUN := Lib.hid HR2
    clear HR2 hci
    refine wp_region_mixO (fun _ => True) [([0, 1, 2, 3, 4, 5], 6), ([], 7)] (by kernel_rfl) (by kernel_rfl) (by kernel_rfl) (by kernel_rfl) (by kernel_rfl) trivial ?_
    try (rw [put_none])
    simp only [pickL, List.map_cons, List.map_nil, List.filterMap_cons, List.filterMap_nil, List.getElem?_cons_succ, List.getElem?_cons_zero]
    refine mixO_cons ?_
    repeat (show wpQuiet _ _ _ _ (_ :: _) _; go_big_quiet_step (fail))
    refine wpQuiet_nil ?_
    show wpList _ _ _ [_] _ _
    go_wp2_with (at_builtin; go_loud (refine Lib.wpList_append_run _ rfl _ _ _ _ rfl _ _ rfl rfl _ _ (HRUN.out _) ?_))
    refine MixO.narrow (fun _ h => h) trivial ?_
    refine mixO_cons ?_
    refine wpQuiet_nil ?_
    show wpList _ _ _ [_] _ _
    go_wp2_with fail
    refine MixO.last ?_
    refine mixO_nil ?_
    refine wpQuiet_nil ?_
    refine NoPanic.normal ?_
    go_wp2_with ((with_reducible (show wpList _ _ _ (⟨none, .call _, _, _, _, _⟩ :: _) _ _)); go_loud (refine wpList_clear_run _ rfl _ _ rfl _ _ _ rfl (HCLR.out _) ?_))
    go_ret
    exact ⟨rfl, HE.out⟩
end Go.Proofs.Ytghjlndkleclfaa
