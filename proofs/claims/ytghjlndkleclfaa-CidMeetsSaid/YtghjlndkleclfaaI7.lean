/- Layer 20: slices.Insert of one entry, amid, without room; all ways. Conditions: as each theorem states them. -/
import Derived.Test.YtghjlndkleclfaaI6
namespace Go.Proofs.Ytghjlndkleclfaa
open Go.RowKit
set_option maxRecDepth 100000 in
set_option maxHeartbeats 2000000 in
theorem insert_grow (B g n c i vb : Nat) (l : List CX) (x : CX) (w : World) (h : EntR B w (.slice (some ⟨g, 0, none⟩) n c) l) (hi : i < n) (hr : c < n + 1) (hx : x.Ok w) (hv : Blk w vb 47 x.vs.toArray) (hB0 : B ≤ w.heap.size) (hn2 : n ≤ 1000) :
    Calls Try.prog 28 #[.slice (some ⟨g, 0, none⟩) n c, .int .i64 i, .slice (some ⟨vb, 0, none⟩) 1 1] w fun e w' => ∃ G, e = .returned (.slice (some ⟨w.heap.size, 0, none⟩) (n + 1) G) ∧ EntR B w' (.slice (some ⟨w.heap.size, 0, none⟩) (n + 1) G) (l.take i ++ x :: l.drop i) ∧ Below w.heap.size w w' := by
  obtain ⟨cur, hb, hl, hnc, hcm, hcl, hct, hB⟩ := h.blk
  obtain ⟨i0, hi0, hz0, hz1, hz2⟩ := info_parts infoE
  have hcc : c ≤ 9223372036854775807 := by unfold maxLen at hcm; omega
  have htl : ∀ x ∈ l, x.tok.length = 16 := fun x hx => (h.2 x hx).tl
  have hdl : (vsE (l.drop i)).length = (n - i) * 18 := by rw [vsE_len _ (fun x hx => htl x (List.mem_of_mem_drop hx)), List.length_drop, hl]
  have htk : (vsE (l.take i)).length = i * 18 := by rw [vsE_len _ (fun x hx => htl x (List.mem_of_mem_take hx)), List.length_take, hl, Nat.min_eq_left (by omega)]
  have hxl : x.vs.length = 18 := CX.vs_len hx.tl
  obtain ⟨G, hG⟩ : ∃ G, G = grownCap w (n + 1) c 47 := ⟨_, rfl⟩
  have hGn : n + 1 ≤ G := by rw [hG]; exact grownCap_ge w _ _ _
  have hGm : G ≤ maxLen := by rw [hG]; exact grownCap_le_maxLen w _ _ _ (by unfold maxLen; omega)
  have hG63 : G ≤ 9223372036854775807 := by unfold maxLen at hGm; omega
  have hold : (Builtin.firstCells i0.size i (.slice (some ⟨g, 0, none⟩) i c)).run Try.prog w.drew = .ok (vsE (l.take i)).toArray w.drew := by
    rw [hz1]
    exact run_firstCells_some w.drew 18 i ⟨g, 0, none⟩ i c (vsE (l.take i)) htk (fun j v hj => by
      rw [add_zero_addr2]
      have hx : (vsE l)[j]? = some v := by
        have e := vsE_app (l.take i) (l.drop i)
        rw [List.take_append_drop] at e
        rw [e, List.getElem?_append_left (List.getElem?_eq_some_iff.1 hj).1]
        exact hj
      have := h.1.cells (g := g) rfl j v hx
      rw [add_zero_addr2] at this
      exact this)
  obtain ⟨ROW, hROW⟩ : ∃ ROW : Array Value, ROW = (vsE (l.take i)).toArray ++ Builtin.zeroCells (Value.agg #[.int .u64 0, .slice none 0 0, .int .u8 0, .int .u8 0, .int .u8 0, .int .u8 0, .int .u8 0, .int .u8 0, .int .u8 0, .int .u8 0, .int .u8 0, .int .u8 0, .int .u8 0, .int .u8 0, .int .u8 0, .int .u8 0, .int .u8 0, .int .u8 0]).cells (n + 1 - i) ++ Builtin.zeroCells (Value.agg #[.int .u64 0, .slice none 0 0, .int .u8 0, .int .u8 0, .int .u8 0, .int .u8 0, .int .u8 0, .int .u8 0, .int .u8 0, .int .u8 0, .int .u8 0, .int .u8 0, .int .u8 0, .int .u8 0, .int .u8 0, .int .u8 0, .int .u8 0, .int .u8 0]).cells (G - (n + 1)) := ⟨_, rfl⟩
  obtain ⟨w1, hw1e⟩ : ∃ z, w.drew.alloc (.cells ROW 47) = z := ⟨_, rfl⟩
  have hrz : ∀ ty, (Builtin.append_ #[40, 3] ty #[.slice (some ⟨g, 0, none⟩) i c, .int .i64 ((n : Int) + 1 - (i : Int))]).run Try.prog w = .ok (.slice (some ⟨w.heap.size, 0, none⟩) (n + 1) G) w1 := fun ty => by
    have h := Lib.run_append_grow_zeros w 40 3 ty 47 i0 _ .i64 .i64 Try.underlying40 Try.underlying3 hi0 hz0 (some ⟨g, 0, none⟩) i c (vsE (l.take i)) hold (n + 1 - i) (by omega) (by rw [hz1]; decide) (by omega) (by omega) (by rw [hz2]; omega) (by rw [hz2]; exact growslice_fits (by omega) (by omega))
    rw [show i + (n + 1 - i) = n + 1 by omega, ← hG, ← hROW, hw1e] at h
    rw [show (n : Int) + 1 - (i : Int) = ((n + 1 - i : Nat) : Int) by omega]
    exact h
  have hRl : ROW.toList.length = G * 18 := by
    rw [hROW]
    simp [Builtin.zeroCells, Value.cells, htk]
    omega
  have hRt : ROW.toList.take (i * 18) = vsE (l.take i) := by
    rw [hROW]
    simp only [Array.toList_append, List.append_assoc]
    rw [List.take_append_of_le_length (by simp [htk]), List.take_of_length_le (by simp [htk])]
  have hb1 : Blk w1 w.heap.size 47 ROW.toList.toArray := by
    rw [← hw1e]
    exact Blk.cast (Blk.new w.drew _ ROW) (by simp)
  have hB1 : Below w.heap.size w w1 := by
    rw [← hw1e]
    exact (Below.refl w.heap.size w).drew.alloc (Nat.le_refl _) _
  have hv1 := Blk.below hv hB1 (Blk.lt hv)
  have h1 := h.below hB1
  have hth : ∀ (v : World) (cs : List Value), Blk v w.heap.size 47 cs.toArray → cs.length = G * 18 → ∀ j, j < G * 18 → (v.cell? ⟨w.heap.size, j, none⟩).isSome = true := fun v cs hk hcs j hj => by
    rw [Blk.cell hk j, List.getElem?_toArray, List.getElem?_eq_getElem (by omega)]; rfl
  have hcp1 : ∀ ty, (Builtin.copy_ #[40, 40] ty #[.slice (some ⟨w.heap.size, i * 18, none⟩) (n + 1 - i) (G - i), .slice (some ⟨vb, 0, none⟩) 1 1]).run Try.prog w1 = .ok (goInt (Nat.min 1 (n + 1 - i))) (w1.setCells w.heap.size (i * 18) x.vs) := fun ty =>
    run_copy_e w1 ty w.heap.size (i * 18) (n + 1 - i) _ ⟨vb, 0, none⟩ 1 1 _ (by rw [hxl, show Nat.min 1 (n + 1 - i) = 1 by simp only [Nat.min_def]; split <;> omega]) (blk_at hv1) (fun j hj => hth w1 _ hb1 hRl _ (by omega)) (fun j _ => Blk.frozen hb1 _) (vs_one x)
  obtain ⟨w2, hw2e⟩ : ∃ z, w1.setCells w.heap.size (i * 18) x.vs = z := ⟨_, rfl⟩
  have hb2 : Blk w2 w.heap.size 47 (ovl ROW.toList (i * 18) x.vs).toArray := by
    rw [← hw2e]
    exact blk_setCells _ _ _ _ hb1 (by omega)
  have hg2 : w1.grownBy w2 (some w.heap.size) := by
    rw [← hw2e]
    exact only_setCells _ _ _ _ _ (World.grownBy.refl w1 _)
  have hB2 : Below w.heap.size w w2 := hB1.trans (below_of_only hg2 (Nat.le_refl _) hB1.size)
  have h2 := h.below hB2
  have hl2 : (ovl ROW.toList (i * 18) x.vs).length = G * 18 := by rw [over_len (by omega), hRl]
  obtain ⟨w3, hw3e⟩ : ∃ z, w2.drew.setCells w.heap.size ((i + 1) * 18) (vsE (l.drop i)) = z := ⟨_, rfl⟩
  have hcp2 : ∀ ty, (Builtin.copy_ #[40, 40] ty #[.slice (some ⟨w.heap.size, (i + 1) * 18, none⟩) (n - i) (G - (i + 1)), .slice (some ⟨g, i * 18, none⟩) (n - i) (c - i)]).run Try.prog w2.drew = .ok (goInt (Nat.min (n - i) (n - i))) w3 := fun ty => by
    rw [← hw3e]
    exact run_copy_e w2.drew ty w.heap.size ((i + 1) * 18) (n - i) _ ⟨g, i * 18, none⟩ (n - i) _ _ (by rw [hdl, show Nat.min (n - i) (n - i) = n - i by simp only [Nat.min_def]; split <;> omega]) (drop_cells (h2.below (Below.refl w2.heap.size w2).drew) i (by omega)) (fun j hj => hth w2.drew _ (Blk.drew hb2) hl2 _ (by omega)) (fun j _ => Blk.frozen (Blk.drew hb2) _) vsE_one
  have HE : Hid (EntR B w3 (.slice (some ⟨w.heap.size, 0, none⟩) (n + 1) G) (l.take i ++ x :: l.drop i) ∧ Below w.heap.size w w3) := Lib.hid (by
    have hg3 : w2.grownBy w3 (some w.heap.size) := by
      rw [← hw3e]
      exact only_setCells _ _ _ _ _ (grown_drew_ (World.grownBy.refl w2 _))
    have hB3 : Below w.heap.size w w3 := hB2.trans (below_of_only hg3 (Nat.le_refl _) hB2.size)
    have hb3 : Blk w3 w.heap.size 47 (ovl (ovl ROW.toList (i * 18) x.vs) ((i + 1) * 18) (vsE (l.drop i))).toArray := by
      rw [← hw3e]
      exact blk_setCells _ _ _ _ (Blk.drew hb2) (by omega)
    refine ⟨entR_of hb3 (by simp; omega) hGn hGm (by rw [over_len (by omega), hl2]) ?_ hB0 (fun y hy => ?_), hB3⟩
    · have := ins_cells2 (cur := ROW.toList) (D := vsE (l.drop i)) (xs := x.vs) (a := i * 18) hxl (by omega)
      rw [show (i + 1) * 18 = i * 18 + 18 by omega, show (n + 1) * 18 = i * 18 + 18 + (vsE (l.drop i)).length by omega, this, hRt, vsE_app, vsE_cons]
    · have hy2 : y ∈ l ∨ y = x := by
        rcases List.mem_append.1 hy with hy | hy
        · exact .inl (List.mem_of_mem_take hy)
        · rcases List.mem_cons.1 hy with hy | hy
          · exact .inr hy
          · exact .inl (List.mem_of_mem_drop hy)
      rcases hy2 with hy | rfl
      · exact (h.2 y hy).below hB3
      · exact hx.below hB3)
  rw [hw2e] at hcp1
  have HRZ := Lib.hid hrz
  have HC1 := Lib.hid hcp1
  have HC2 := Lib.hid hcp2
  have hgl : Hid (g < w.heap.size) := Lib.hid (Blk.lt hb)
  clear hrz hcp1 hcp2 hth hb1 hb2 hg2 hB1 hB2 h1 h2 hl2 hv1 hw1e hw2e hw3e hdl htk hxl htl hRl hRt hold h hx hv hb hl hcl hct hi0 hz0 hz1 hz2 hG hROW hGm
  have hin : i ≤ n := by omega
  have hi2 : i + 1 ≤ n + 1 := by omega
  have hi4 : i ≤ n + 1 := by omega
  have hb1 : (0 : Int) ≤ (i : Int) + 1 := by omega
  have htn : ((i : Int) + 1).toNat = i + 1 := by omega
  have hq1 : ¬ i = n := by omega
  have hq2 : ¬ c = i := by omega
  have hq3 : ¬ G = i := by omega
  have hq4 : ¬ G = i + 1 := by omega
  have hq6 : ((i : Int) == (n : Int)) = false := beq_eq_false_iff_ne.2 (by omega)
  have hq7 : decide ((c : Int) < (n : Int) + 1) = true := decide_eq_true (by omega)
  have hw1 : IntKind.i64.wrap ((i : Int) + 1) = (i : Int) + 1 := by rw [IntKind.wrap_i64]; omega
  go_enter Try.func28, Try.ntmps28
  go_wp2_with (first
    | ((with_reducible (show wpList _ _ _ (⟨some 40, .call _, _, _, _, _⟩ :: _) _ _)); go_loud (refine Lib.wpList_append_run (o := ⟨some 40, _, _, _, _, _⟩) _ rfl _ _ _ _ rfl _ _ rfl rfl _ _ (HRZ.out _) ?_))
    | ((with_reducible (show wpList _ _ _ (⟨some 45, .call _, _, _, _, _⟩ :: _) _ _)); go_loud (refine wpList_copy_run (o := ⟨some 45, _, _, _, _, _⟩) _ rfl _ _ _ _ rfl _ _ rfl rfl _ _ (HC1.out _) ?_)))
  go_frame
  refine wp_region_mixO (fun _ => True) [([0, 1, 2, 3, 4, 5, 6, 7], 8)] (by kernel_rfl) (by kernel_rfl) (by kernel_rfl) (by kernel_rfl) (by kernel_rfl) trivial ?_
  try (rw [put_none])
  simp only [pickL, List.map_cons, List.map_nil, List.filterMap_cons, List.filterMap_nil, List.getElem?_cons_succ, List.getElem?_cons_zero]
  refine mixO_cons ?_
  repeat (show wpQuiet _ _ _ _ (_ :: _) _; go_big_quiet_step (fail))
  refine wpQuiet_nil ?_
  show wpList _ _ _ [_] _ _
  go_wp2_with ((with_reducible (show wpList _ _ _ (⟨some 54, .call _, _, _, _, _⟩ :: _) _ _)); go_loud (refine wpList_copy_run (o := ⟨some 54, _, _, _, _, _⟩) _ rfl _ _ _ _ rfl _ _ rfl rfl _ _ (HC2.out _) ?_))
  refine MixO.last ?_
  refine mixO_nil ?_
  refine wpQuiet_nil ?_
  refine NoPanic.normal ?_
  go_wp2_with fail
  go_ret
  exact ⟨_, rfl, HE.out⟩
/-- all ways -/
theorem insert_any (B i vb : Nat) (v : Value) (l : List CX) (x : CX) (w : World) (h : EntR B w v l) (hi : i ≤ l.length) (hx : x.Ok w) (hv : Blk w vb 47 x.vs.toArray) (hne : v.ownBlock ≠ some vb) (hB : B ≤ w.heap.size) (hl : l.length ≤ 1000) :
    Calls Try.prog 28 #[v, .int .i64 i, .slice (some ⟨vb, 0, none⟩) 1 1] w fun e w' => ∃ v', e = .returned v' ∧ EntR B w' v' (l.take i ++ x :: l.drop i) ∧ w.grownBy w' v.ownBlock := by
  by_cases hil : i = l.length
  · subst hil
    rw [List.take_length, List.drop_length]
    exact insert_end B vb _ v l x w h rfl hx hv hB hl
  · rcases h.form with ⟨_, rfl⟩ | ⟨g, c, rfl, hBg, hg, hc⟩
    · exact absurd (Nat.le_zero.1 hi) hil
    · by_cases hr : l.length + 1 ≤ c
      · refine Calls.mono (insert_room B g _ c i vb l x w h (by omega) hr hx hv (fun q => hne (by subst q; rfl)) hl) ?_
        rintro e w' ⟨rfl, h1, h2⟩
        exact ⟨_, rfl, h1, h2⟩
      · refine Calls.mono (insert_grow B g _ c i vb l x w h (by omega) (by omega) hx hv hB hl) ?_
        rintro e w' ⟨G, rfl, h1, h2⟩
        exact ⟨_, rfl, h1, only_of_below h2 _⟩
end Go.Proofs.Ytghjlndkleclfaa
