/- Layer 20: slices.Insert of one entry, amid. Conditions: as each theorem states them. -/
import Derived.Test.YtghjlndkleclfaaI5
import Derived.Laws.Externs
namespace Go.Proofs.Ytghjlndkleclfaa
open Go.RowKit
theorem sizeOfE (w : World) : (Go.sizeOf 47).run Try.prog w = .ok 18 w := by kernel_rfl
theorem shape_blk {w : World} {g : Nat} {t : TypeId} {cs : Array Value} (h : Blk w g t cs) : w.shape? g = some (t, cs.size) := by
  unfold Blk at h
  simp [World.shape?, h]
theorem overlaps_no (vb g o lb cb : Nat) (x : CX) (cur : List Value) (w : World) (hv : Blk w vb 47 x.vs.toArray) (hb : Blk w g 47 cur.toArray) (hne : vb ≠ g) (hc : cur.length ≠ 0) :
    (callFunc 41 #[.slice (some ⟨vb, 0, none⟩) 1 1, .slice (some ⟨g, o, none⟩) lb cb]).run Try.prog w = .ok (.value (.bool false)) w := by
  rw [run_callFunc_extern Try.func41 (by kernel_rfl) (by kernel_rfl) (by kernel_rfl) (e := Extern.SlicesOverlaps.overlaps #[40, 40] #[4]) (by kernel_rfl),
    Lib.run_overlaps_apart w 40 4 47 Try.underlying40 18 sizeOfE ⟨vb, 0, none⟩ ⟨g, o, none⟩ 1 1 lb cb hne _ _ _ _ (shape_blk hv) (shape_blk hb) (by simpa using hc) (Blk.frozen hv 0) (Blk.frozen hv _)]
  rfl
theorem take_ovl {cs vs : List Value} {o : Nat} (h : o + vs.length ≤ cs.length) : (ovl cs o vs).take (o + vs.length) = cs.take o ++ vs := by
  unfold ovl
  rw [← List.append_assoc, List.take_append_of_le_length (by simp; omega), List.take_of_length_le (by simp; omega)]
theorem ins_cells {cur D xs : List Value} {a : Nat} (hx : xs.length = 18) (h : a + 18 + D.length ≤ cur.length) : (ovl (ovl cur (a + 18) D) a xs).take (a + 18 + D.length) = cur.take a ++ (xs ++ D) := by
  have h1 : (ovl cur (a + 18) D).take a = cur.take a := by
    unfold ovl
    rw [List.take_append_of_le_length (by simp; omega), List.take_take, Nat.min_eq_left (by omega)]
  have h2 : (ovl cur (a + 18) D).drop (a + 18) = D ++ cur.drop (a + 18 + D.length) := by
    unfold ovl
    rw [List.drop_append_of_le_length (by simp; omega), List.drop_of_length_le (by simp; omega), List.nil_append]
  have h3 : ovl (ovl cur (a + 18) D) a xs = (cur.take a ++ (xs ++ D)) ++ cur.drop (a + 18 + D.length) := by
    show (ovl cur (a + 18) D).take a ++ (xs ++ (ovl cur (a + 18) D).drop (a + xs.length)) = _
    rw [h1, hx, h2]
    simp [List.append_assoc]
  rw [h3, List.take_append_of_le_length (by simp [hx]; omega), List.take_of_length_le (by simp [hx]; omega)]
theorem ins_cells2 {cur D xs : List Value} {a : Nat} (hx : xs.length = 18) (h : a + 18 + D.length ≤ cur.length) : (ovl (ovl cur a xs) (a + 18) D).take (a + 18 + D.length) = cur.take a ++ (xs ++ D) := by
  have h1 := take_ovl (cs := ovl cur a xs) (vs := D) (o := a + 18) (by rw [over_len (by rw [hx]; omega)]; exact h)
  have h2 := take_ovl (cs := cur) (vs := xs) (o := a) (by rw [hx]; omega)
  rw [hx] at h2
  rw [h1, h2, List.append_assoc]
theorem drop_cells {B g n c : Nat} {l : List CX} {w : World} (h : EntR B w (.slice (some ⟨g, 0, none⟩) n c) l) (i : Nat) (hi : i ≤ l.length) : ∀ j u, (vsE (l.drop i))[j]? = some u → w.cell? ((⟨g, i * 18, none⟩ : Addr).add j) = some u := fun j u hj => by
  have e := vsE_app (l.take i) (l.drop i)
  rw [List.take_append_drop] at e
  have hx : (vsE l)[i * 18 + j]? = some u := by
    rw [e, List.getElem?_append_right (by rw [vsE_len _ (fun x hx => (h.2 x (List.mem_of_mem_take hx)).tl), List.length_take]; omega), vsE_len _ (fun x hx => (h.2 x (List.mem_of_mem_take hx)).tl), List.length_take, Nat.min_eq_left hi, Nat.add_sub_cancel_left]
    exact hj
  have := h.1.cells (g := g) rfl (i * 18 + j) u hx
  rw [add_zero_addr2] at this
  rw [show (⟨g, i * 18, none⟩ : Addr) = (⟨g, 0, none⟩ : Addr).add (i * 18) by rw [add_zero_addr2], add_of_add, add_zero_addr2]
  exact this
theorem take_cells {l : List CX} {cur : List Value} {n i : Nat} (hl : l.length = n) (ht : cur.take (n * 18) = vsE l) (htl : ∀ x ∈ l, x.tok.length = 16) (hi : i ≤ n) : cur.take (i * 18) = vsE (l.take i) := by
  have e := vsE_app (l.take i) (l.drop i)
  rw [List.take_append_drop] at e
  have e4 : cur.take (i * 18) = (cur.take (n * 18)).take (i * 18) := by rw [List.take_take, Nat.min_eq_left (by omega)]
  have hlen : (vsE (l.take i)).length = i * 18 := by rw [vsE_len _ (fun x hx => htl x (List.mem_of_mem_take hx)), List.length_take, hl, Nat.min_eq_left hi]
  rw [e4, ht, e, List.take_append_of_le_length (by omega), List.take_of_length_le (by omega)]
set_option maxRecDepth 100000 in
set_option maxHeartbeats 2000000 in
theorem insert_room (B g n c i vb : Nat) (l : List CX) (x : CX) (w : World) (h : EntR B w (.slice (some ⟨g, 0, none⟩) n c) l) (hi : i < n) (hr : n + 1 ≤ c) (hx : x.Ok w) (hv : Blk w vb 47 x.vs.toArray) (hne : vb ≠ g) (hn2 : n ≤ 1000) :
    Calls Try.prog 28 #[.slice (some ⟨g, 0, none⟩) n c, .int .i64 i, .slice (some ⟨vb, 0, none⟩) 1 1] w fun e w' => e = .returned (.slice (some ⟨g, 0, none⟩) (n + 1) c) ∧ EntR B w' (.slice (some ⟨g, 0, none⟩) (n + 1) c) (l.take i ++ x :: l.drop i) ∧ w.grownBy w' (some g) := by
  obtain ⟨cur, hb, hl, hnc, hcm, hcl, hct, hB⟩ := h.blk
  have hcc : c ≤ 9223372036854775807 := by unfold maxLen at hcm; omega
  have hov := fun lb cb => overlaps_no vb g ((i + 1) * 18) lb cb x cur w hv hb hne (by omega)
  have hq1 : ¬ i = n := by omega
  have hq2 : ¬ c = i := by omega
  have hq3 : ¬ c = i + 1 := by omega
  have hq4 : ¬ n + 1 = i := by omega
  have hq5 : ¬ n + 1 = i + 1 := by omega
  have hq6 : ((i : Int) == (n : Int)) = false := beq_eq_false_iff_ne.2 (by omega)
  have hq7 : decide ((c : Int) < (n : Int) + 1) = false := decide_eq_false (by omega)
  have hw1 : IntKind.i64.wrap ((i : Int) + 1) = (i : Int) + 1 := by rw [IntKind.wrap_i64]; omega
  have htl : ∀ x ∈ l, x.tok.length = 16 := fun x hx => (h.2 x hx).tl
  have hdl : (vsE (l.drop i)).length = (n - i) * 18 := by rw [vsE_len _ (fun x hx => htl x (List.mem_of_mem_drop hx)), List.length_drop, hl]
  have hxl : x.vs.length = 18 := CX.vs_len hx.tl
  have hth : ∀ (v : World) (cs : List Value), Blk v g 47 cs.toArray → cs.length = c * 18 → ∀ j, j < c * 18 → (v.cell? ⟨g, j, none⟩).isSome = true := fun v cs hk hcs j hj => by
    rw [Blk.cell hk j, List.getElem?_toArray, List.getElem?_eq_getElem (by omega)]; rfl
  obtain ⟨w1, hw1e⟩ : ∃ z, w.drew.setCells g ((i + 1) * 18) (vsE (l.drop i)) = z := ⟨_, rfl⟩
  have hb1 : Blk w1 g 47 (ovl cur ((i + 1) * 18) (vsE (l.drop i))).toArray := by
    rw [← hw1e]
    exact blk_setCells _ _ _ _ (Blk.drew hb) (by omega)
  have hg1 : w.grownBy w1 (some g) := by
    rw [← hw1e]
    exact only_setCells g _ _ _ _ (grown_drew_ (World.grownBy.refl w (some g)))
  have hl1 : (ovl cur ((i + 1) * 18) (vsE (l.drop i))).length = c * 18 := by rw [over_len (by omega), hcl]
  have hcp1 : ∀ ty, (Builtin.copy_ #[40, 40] ty #[.slice (some ⟨g, (i + 1) * 18, none⟩) (n - i) (c - (i + 1)), .slice (some ⟨g, i * 18, none⟩) (n + 1 - i) (c - i)]).run Try.prog w.drew = .ok (goInt (Nat.min (n + 1 - i) (n - i))) w1 := fun ty => by
    rw [← hw1e]
    exact run_copy_e w.drew ty g ((i + 1) * 18) (n - i) _ ⟨g, i * 18, none⟩ (n + 1 - i) _ _ (by rw [hdl, show Nat.min (n + 1 - i) (n - i) = n - i by simp only [Nat.min_def]; split <;> omega]) (drop_cells h i (by omega)) (fun j hj => hth w.drew cur (Blk.drew hb) hcl _ (by omega)) (fun j _ => Blk.frozen (Blk.drew hb) _) vsE_one
  have hv1 : Blk w1 vb 47 x.vs.toArray := Blk.grown hv hg1 (by intro q; injection q with q; exact hne q)
  have hcp2 : ∀ ty, (Builtin.copy_ #[40, 40] ty #[.slice (some ⟨g, i * 18, none⟩) (n + 1 - i) (c - i), .slice (some ⟨vb, 0, none⟩) 1 1]).run Try.prog w1 = .ok (goInt (Nat.min 1 (n + 1 - i))) (w1.setCells g (i * 18) x.vs) := fun ty =>
    run_copy_e w1 ty g (i * 18) (n + 1 - i) _ ⟨vb, 0, none⟩ 1 1 _ (by rw [hxl, show Nat.min 1 (n + 1 - i) = 1 by simp only [Nat.min_def]; split <;> omega]) (blk_at hv1) (fun j hj => hth w1 _ hb1 hl1 _ (by omega)) (fun j _ => Blk.frozen hb1 _) (vs_one x)
  have HC1 := Lib.hid hcp1
  have HC2 := Lib.hid hcp2
  have HE : Hid (EntR B (w1.setCells g (i * 18) x.vs) (.slice (some ⟨g, 0, none⟩) (n + 1) c) (l.take i ++ x :: l.drop i) ∧ w.grownBy (w1.setCells g (i * 18) x.vs) (some g)) := Lib.hid (by
    have hg2 := only_setCells g x.vs (i * 18) w w1 hg1
    refine ⟨entR_of (blk_setCells x.vs (i * 18) w1 _ hb1 (by rw [hl1, hxl]; omega)) (by simp; omega) hr hcm (by rw [over_len (by rw [hl1, hxl]; omega), hl1]) ?_ hB (fun y hy => ?_), hg2⟩
    · have := ins_cells (cur := cur) (D := vsE (l.drop i)) (xs := x.vs) (a := i * 18) hxl (by omega)
      rw [show (i + 1) * 18 = i * 18 + 18 by omega, show (n + 1) * 18 = i * 18 + 18 + (vsE (l.drop i)).length by omega, this, take_cells hl hct htl (by omega), vsE_app, vsE_cons]
    · have hy2 : y ∈ l ∨ y = x := by
        rcases List.mem_append.1 hy with hy | hy
        · exact .inl (List.mem_of_mem_take hy)
        · rcases List.mem_cons.1 hy with hy | hy
          · exact .inr hy
          · exact .inl (List.mem_of_mem_drop hy)
      rcases hy2 with hy | rfl
      · exact (h.2 y hy).grown hg2 (hb.notT (by decide))
      · exact hx.grown hg2 (hb.notT (by decide)))
  clear hcp1 hcp2 hth hb1 hg1 hl1 hw1e hv1 hdl hxl htl h hx hv hb hl hcl hct
  go_enter Try.func28, Try.ntmps28
  go_wp2_with (simp only [hov])
  refine wp_region_mixO (fun _ => True) [([0, 1, 2, 3, 4, 5, 6, 7], 8)] (by kernel_rfl) (by kernel_rfl) (by kernel_rfl) (by kernel_rfl) (by kernel_rfl) trivial ?_
  try (rw [put_none])
  simp only [pickL, List.map_cons, List.map_nil, List.filterMap_cons, List.filterMap_nil, List.getElem?_cons_succ, List.getElem?_cons_zero]
  refine mixO_cons ?_
  repeat (show wpQuiet _ _ _ _ (_ :: _) _; go_big_quiet_step (fail))
  refine wpQuiet_nil ?_
  show wpList _ _ _ [_] _ _
  go_wp2_with ((with_reducible (show wpList _ _ _ (⟨some 77, .call _, _, _, _, _⟩ :: _) _ _)); go_loud (refine wpList_copy_run (o := ⟨some 77, _, _, _, _, _⟩) _ rfl _ _ _ _ rfl _ _ rfl rfl _ _ (HC1.out _) ?_))
  refine MixO.last ?_
  refine mixO_nil ?_
  refine wpQuiet_nil ?_
  refine NoPanic.normal ?_
  go_wp2_with ((with_reducible (show wpList _ _ _ (⟨some 82, .call _, _, _, _, _⟩ :: _) _ _)); go_loud (refine wpList_copy_run (o := ⟨some 82, _, _, _, _, _⟩) _ rfl _ _ _ _ rfl _ _ rfl rfl _ _ (HC2.out _) ?_))
  go_ret
  exact ⟨rfl, HE.out⟩
end Go.Proofs.Ytghjlndkleclfaa
