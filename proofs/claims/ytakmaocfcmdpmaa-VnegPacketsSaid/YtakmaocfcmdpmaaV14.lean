/- Contract: vneg.Take, of bytes that are a packet. Conditions: as each theorem states them. -/
import Derived.Test.YtakmaocfcmdpmaaV13
namespace Go.Proofs.Ytakmaocfcmdpmaa
open Go.RowKit Go.Shelf
attribute [local go_sem] Oper.semAt_some

/-- the versions that so many bytes hold -/
def versL (m : Nat) (r : List Int) : List Int := (List.finRange m).map fun k => wd ((r.drop (4 * k.1)).take 4)
theorem Rd.part {B : Nat} {k : IntKind} {w : World} {ad : Addr} {xs : List Int} (h : Rd B k w (some ad) xs) (l m : Nat) (hl : l + m ≤ xs.length) : Rd B k w (some (ad.add l)) ((xs.drop l).take m) := by
  have := h.cut l m (xs.length + l + 1) hl (by omega)
  rw [if_neg (by omega)] at this
  simpa using this
def TakeI (w1 : World) (n₀ : Nat) (vd vs : Value) (m : Nat) (r : List Int) (pre : List (Fin m)) (W : World) : Prop :=
  (∃ A n c, Blk W w1.heap.size 32 #[vd, vs, .slice A n c] ∧ Own n₀ 23 .u32 W A n c (pre.map fun k => wd ((r.drop (4 * k.1)).take 4))) ∧ Below w1.heap.size w1 W ∧ n₀ ≤ W.heap.size

theorem keepN_b {n₀ g : Nat} {w : World} (hw : w.heap.size = n₀) (W : World) (l : Nat) (o o' : Obj) (hl : w.heap.size ≤ l) (_ : W.heap[l]? = some o) (_ : o.isCells = false) (_ : o.isWalk = false) : KeepN n₀ g W (W.putObj l o') :=
  fun i hi _ => World.putObj_heap_other (by omega)
theorem takeI_own {w1 : World} {n₀ B : Nat} {vd vs : Value} {m : Nat} {r : List Int} (hB : w1.heap.size ≤ B) : OwnFrom B (TakeI w1 n₀ vd vs m r) := by
  rintro pre W W' row ⟨⟨A, n, c, h9, ho⟩, hb, hz⟩ hg hr
  refine ⟨⟨A, n, c, h9.grown hg (fun e => ?_), ho.kept hg (fun ad hA e => ?_)⟩, hb.grown hg hb.size (fun k e => by have := (hr k e).1; omega), Nat.le_trans hz hg.size⟩
  · obtain ⟨o, h1, h2⟩ := (hr _ e.symm).2
    rw [h9] at h1
    injection h1 with h1
    subst h1
    cases h2
  · obtain ⟨o, h1, h2⟩ := (hr _ e.symm).2
    subst hA
    rcases ho.1.2 with ⟨h3, _⟩ | ⟨g, cap, cur, h3, _, h4, _⟩
    · injection h3 with h3; cases h3
    · injection h3 with h3
      injection h3 with h3
      subst h3
      rw [h4] at h1
      injection h1 with h1
      subst h1
      cases h2
def set3 (W : World) (g : Nat) (v0 v1 v2 : Value) : World := ((W.setCell ⟨g, 0, none⟩ v0).setCell ⟨g, 1, none⟩ v1).setCell ⟨g, 2, none⟩ v2
theorem set3_grown (W : World) (g : Nat) (v0 v1 v2 : Value) : W.grownBy (set3 W g v0 v1 v2) (some g) := by
  unfold set3
  have h1 : W.grownBy (W.setCell ⟨g, 0, none⟩ v0) (some g) := only_setCell (World.grownBy.refl W _) (.inl rfl) v0
  have h2 : W.grownBy ((W.setCell ⟨g, 0, none⟩ v0).setCell ⟨g, 1, none⟩ v1) (some g) := only_setCell h1 (.inl rfl) v1
  exact only_setCell h2 (.inl rfl) v2
theorem set3_others (W : World) (g : Nat) (v0 v1 v2 : Value) : KeepsOthers W (set3 W g v0 v1 v2) :=
  ((KeepsOthers.setCell W ⟨g, 0, none⟩ v0).trans (KeepsOthers.setCell _ ⟨g, 1, none⟩ v1)).trans (KeepsOthers.setCell _ ⟨g, 2, none⟩ v2)
theorem set3_blk {W : World} {g : Nat} {t : TypeId} {c0 c1 c2 : Value} (h : Blk W g t #[c0, c1, c2]) (v0 v1 v2 : Value) : Blk (set3 W g v0 v1 v2) g t #[v0, v1, v2] :=
  Blk.cast (((h.set_ 0 _).set_ 1 _).set_ 2 _) (by simp)
set_option maxRecDepth 100000 in
set_option maxHeartbeats 2000000 in
theorem take_yes (A : Option Addr) (c : Nat) (b : List Int) (d s : Nat) (w : World) (hr : Rd w.heap.size .u8 w A b) (hb : Byt b) (hl : b.length ≤ 1099511627776) (hc : b.length ≤ c) (hyes : tk b = some (d, s)) :
    Calls Try.prog 19 #[.slice A b.length c] w fun e w' => ∃ A2 n2 c2 A3 n3 c3 A4 n4 c4, e = .returned (.tuple #[.agg #[.slice A2 n2 c2, .slice A3 n3 c3, .slice A4 n4 c4], .int .i64 0]) ∧
      Own w.heap.size 5 .u8 w' A2 n2 c2 (dstL b d) ∧ Own w.heap.size 5 .u8 w' A3 n3 c3 (srcL b d s) ∧ Own w.heap.size 23 .u32 w' A4 n4 c4 (versL ((b.length - (7 + d + s)) / 4) (b.drop (7 + d + s))) ∧ Below w.heap.size w w' := by
  have HS := Lib.hid (split_any A c b _ ((hr.alloc (Nat.le_refl _) (.cells #[.slice none 0 0, .slice none 0 0, .slice none 0 0] 32)).mono (by simp)) hb hl hc)
  have hx : spl b = some (d, s) ∧ ver b = 0 ∧ 4 ≤ b.length - (7 + d + s) ∧ b.length - (7 + d + s) ≤ 256 ∧ (b.length - (7 + d + s)) % 4 = 0 := by
    unfold tk at hyes
    rcases hsp : spl b with _ | ⟨d', s'⟩
    · rw [hsp] at hyes; cases hyes
    · rw [hsp] at hyes
      simp only at hyes
      split at hyes
      · rename_i h; injection hyes with h2; injection h2 with h3 h4; subst h3; subst h4; exact ⟨rfl, h⟩
      · cases hyes
  obtain ⟨hsp, hv, k1, k2, k3⟩ := hx
  have HSP := Lib.hid hsp
  have HBY := Lib.hid (hb.drop (7 + d + s))
  have hn4 : (b.drop (7 + d + s)).length = b.length - (7 + d + s) := List.length_drop
  generalize hrest : b.drop (7 + d + s) = rest at *
  have HREST := Lib.hid hrest
  clear hrest
  generalize b.length - (7 + d + s) = L at *
  obtain ⟨m, hm⟩ : ∃ m, L = 4 * m := ⟨L / 4, by omega⟩
  have e0 : ¬ ((L : Int) = 0) := by omega
  have e0' : ((L : Int) == 0) = false := by rw [beq_eq_false_iff_ne]; exact e0
  have e1 : (L : Int) % 4 = 0 := by omega
  have e2 : (L : Int) ≤ 256 := by omega
  rw [show L / 4 = m by omega]
  have HM := Lib.hid hm
  have HN := Lib.hid hn4
  clear hr hyes hsp hn4 hm k1 k3
  refine (callsIn_wide (n := 3)).1 ?_
  refine callsIn_of_wp_marks Try.func19 rfl trivial ?_ rfl
  simp only [Try.ntmps19, List.size_toArray, List.length_cons, List.length_nil, Nat.reduceAdd, Nat.reduceSub, Array.replicate_succ, Array.replicate_zero, List.push_toArray, List.append_toArray, List.nil_append, List.cons_append]
  gi_wp2
  refine ⟨trivial, (callsIn_wide.2 HS.out).mono ?_⟩
  rintro e w1 ⟨-, h1⟩
  obtain ⟨A2, n2, c2, A3, n3, c3, A4, n4, c4, rfl, o2, o3, r4, e4, e5, hb1⟩ := h1 _ _ HSP.out
  rw [HREST.out] at r4 e4
  obtain rfl := e4.trans HN.out
  clear h1 e4
  have PB := Lib.hid ((Blk.new w 32 #[.slice none 0 0, .slice none 0 0, .slice none 0 0]).below hb1 (by simp))
  have HB1 := Lib.hid (((Below.refl w.heap.size w).alloc (Nat.le_refl _) _).trans (hb1.mono (by simp)))
  have O2 := Lib.hid (o2.mono (B' := w.heap.size + 1) (by simp))
  have O3 := Lib.hid (o3.mono (B' := w.heap.size + 1) (by simp))
  have R4 := Lib.hid r4
  have hz1 : w.heap.size < w1.heap.size := by have := hb1.size; simp at this; omega
  clear hb1 o2 o3 r4
  have PN := Blk.new w1 32 #[.slice none 0 0, .slice none 0 0, .slice none 0 0]
  obtain ⟨f0, f1, f2⟩ := pk_frozen PN
  obtain ⟨a0, a1, a2⟩ := pk_facts PN
  clear PN
  clear HS
  gi_wp2
  refine ⟨trivial, (callsIn_wide.2 (chunk_any A4 n4 c4 _)).mono ?_⟩
  rintro e w3 ⟨rfl, hw3⟩
  clear a0 a1 a2 f0 f1 f2
  obtain ⟨ad, rfl, -⟩ := R4.out.isSome (by have := HN.out; omega)
  have hs3 : w3.heap.size = w1.heap.size + 3 := by rw [hw3]; simp
  have P9 : Hid (Blk w3 w1.heap.size 32 #[.slice A2 n2 c2, .slice A3 n3 c3, .slice none 0 0]) := Lib.hid (by rw [hw3]; exact ((Blk.new w1 _ _).alloc _).alloc _)
  have C1 : Hid (w3.cell? ⟨w1.heap.size + 1, 0, none⟩ = some (.slice (some ad) n4 c4)) := Lib.hid (by
    have h := ((Blk.new (w1.alloc (.cells #[.slice A2 n2 c2, .slice A3 n3 c3, .slice none 0 0] 32)) 30 #[.slice (some ad) n4 c4]).alloc (.cells #[.int .i64 4] 3)).cell 0
    rw [← hw3, World.size_alloc] at h
    simpa using h)
  have C2 : Hid (w3.cell? ⟨w1.heap.size + 2, 0, none⟩ = some (.int .i64 4)) := Lib.hid (by
    have h := (Blk.new ((w1.alloc (.cells #[.slice A2 n2 c2, .slice A3 n3 c3, .slice none 0 0] 32)).alloc (.cells #[.slice (some ad) n4 c4] 30)) 3 #[.int .i64 4]).cell 0
    rw [← hw3, World.size_alloc, World.size_alloc] at h
    simpa using h)
  have B3 : Hid (Below w1.heap.size w1 w3) := Lib.hid (by rw [hw3]; exact (((Below.refl _ _).alloc (Nat.le_refl _) _).alloc (by simp) _).alloc (by simp; omega) _)
  simp only [World.size_alloc]
  clear hw3
  gi_wp2
  clear e1
  refine wpIn_rangeFunc_ownF (α := Fin m) rfl (by omega) (gf := 31) (lb := #[.pointer (some ⟨w1.heap.size + 1, 0, none⟩), .pointer (some ⟨w1.heap.size + 1 + 1, 0, none⟩)]) rfl trivial (enters_of Try.func31 (by kernel_rfl) rfl)
    (chunk_stops 2 (by omega) (w1.heap.size + 1) (w1.heap.size + 2) w1.heap.size (w1.heap.size + 3) ad n4 c4 m HM.out (by omega) e5 w3 C1.out C2.out (by omega) (by omega) (by omega) (by omega) (by omega))
    (fun h k => h.trans k) (keepN_b hs3) (Below.refl _ _) (fun _ => rfl)
    (TakeI w1 (w1.heap.size + 3) (.slice A2 n2 c2) (.slice A3 n3 c3) m rest) (fun _ _ _ => False) (takeI_own (by omega)) (fun _ _ _ _ _ hs _ _ => hs) ⟨⟨none, 0, 0, P9.out, Own.nil _ _ _ _⟩, B3.out, by omega⟩
    (fun x => { tmps := #[.slice A b.length c, undef, .pointer (some ⟨w.heap.size, 0, none⟩), .int .i64 0, .int .u32 0, .slice A2 n2 c2, .slice A3 n3 c3, .slice (some ad) n4 c4, .bool true, .pointer (some ⟨w1.heap.size, 0, none⟩), .slice (some (ad.add (4 * x.1))) 4 4,
      .tuple #[.int .u32 0, .slice A2 n2 c2, .slice A3 n3 c3, .slice (some ad) n4 c4, .bool true], .slice A b.length c, .tuple #[.int .u32 0, .slice A2 n2 c2, .slice A3 n3 c3, .slice (some ad) n4 c4, .bool true],
      .int .u32 0, .slice A2 n2 c2, .slice A3 n3 c3, .slice (some ad) n4 c4, .bool true, .bool true, .bool false, .bool false, .int .u32 0, .bool false, .bool false, .bool false, .slice (some ad) n4 c4, .int .i64 n4, .bool false, .bool false, .bool false,
      .slice (some ad) n4 c4, .int .i64 n4, .int .i64 ((n4 : Int) % 4), .bool false, .bool false, .bool false, .slice (some ad) n4 c4, .int .i64 n4, .bool (decide (256 < (n4 : Int))), .bool (decide (256 < (n4 : Int))), undef, .slice A2 n2 c2, .slice A3 n3 c3,
      .agg #[.slice A2 n2 c2, .slice A3 n3 c3, .slice none 0 0], .slice (some ad) n4 c4, .func (.func 31) #[] #[.pointer (some ⟨w1.heap.size + 1, 0, none⟩), .pointer (some ⟨w1.heap.size + 1 + 1, 0, none⟩)], .slice (some (ad.add (4 * x.1))) 4 4, undef, undef, undef, undef, undef, undef, undef, undef], defers := [] }) ?assign ?body ?done ?stop
  case assign =>
    intro l x W K hK
    gi_wp2
    exact hK
  case body =>
    rintro l pre x W ⟨⟨A5, n5, c5, hB9, hO5⟩, hBW, hzW⟩ hlen
    have H9 := Lib.hid hB9
    have HO5 := Lib.hid hO5
    have HBW := Lib.hid hBW
    clear hB9 hO5 hBW
    have hz9 := HBW.out.size
    have hxm := x.2
    have hm64 : m ≤ 64 := by have := HM.out; omega
    generalize hxk : wd ((rest.drop (4 * x.1)).take 4) = vx
    have HVX := Lib.hid hxk
    clear hxk
    have HR : Hid (Rd W.heap.size .u8 W (some (ad.add (4 * x.1))) ((rest.drop (4 * x.1)).take 4)) := Lib.hid (((R4.out.mono (by simp; omega)).below HBW.out (by exact Nat.le_refl _)).mono hz9 |>.part _ _ (by have := HN.out; have := HM.out; omega))
    have HRL : Hid (((rest.drop (4 * x.1)).take 4).length = 4) := Lib.hid (by have := HN.out; have := HM.out; rw [List.length_take, List.length_drop]; omega)
    have HRB : Hid (Byt ((rest.drop (4 * x.1)).take 4)) := Lib.hid ((HBY.out.drop _).take _)
    gi_wp2
    refine wpIn_region_mixO (fun w' => ∃ r : CW (fun v => Blk v w1.heap.size 32 #[.slice A2 n2 c2, .slice A3 n3 c3, .slice A5 n5 c5]), w' = r.world) [([0, 1, 2], 3), ([], 4), ([], 5), ([6], 7)] (by kernel_rfl) (by kernel_rfl) (by kernel_rfl) (by kernel_rfl) (by kernel_rfl) (by kernel_rfl) ⟨CW.mk' H9.out.drew, rfl⟩ (fun _ _ h => h) (fun _ _ _ h => h) ?_
    simp only [pickL, List.map_cons, List.map_nil, List.filterMap_cons, List.filterMap_nil, List.getElem?_cons_succ, List.getElem?_cons_zero]
    have hL : ∀ r : CW (fun v => Blk v w1.heap.size 32 #[.slice A2 n2 c2, .slice A3 n3 c3, .slice A5 n5 c5]), r.world.cell? ⟨w1.heap.size, 2, none⟩ = some (.slice A5 n5 c5) := fun r => Blk.cell r.holds 2
    have hne : Nonempty (CW (fun v => Blk v w1.heap.size 32 #[.slice A2 n2 c2, .slice A3 n3 c3, .slice A5 n5 c5])) := CW.inh H9.out
    refine mixO_cons ?_
    repeat (show wpQuiet _ _ _ _ (_ :: _) _; go_big_quiet_step (fail))
    refine wpQuiet_nil ?_
    show wpList _ _ _ [_] _ _
    go_wp2_with (go_at_call 27; refine (word_any (some (ad.add (4 * x.1))) 4 _ _ (by exact HR.out.drew) HRB.out HRL.out).mono ?_; rintro e w' ⟨rfl, nq, rfl⟩)
    rw [HVX.out]
    clear hL
    have G0 : Hid (W.grownBy (W.drewN (1 + nq)) none) := Lib.hid (only_drewN (World.grownBy.refl _ _) _)
    have H9c := Lib.hid (H9.out.drewN (1 + nq))
    have HOc : Hid (Own (w1.heap.size + 3) 23 .u32 (W.drewN (1 + nq)) A5 n5 c5 (pre.map fun k => wd ((rest.drop (4 * k.1)).take 4))) := Lib.hid (HO5.out.kept G0.out (fun _ _ h => by cases h))
    have hzc : (W.drewN (1 + nq)).heap.size = W.heap.size := rfl
    generalize W.drewN (1 + nq) = wc at *
    refine MixO.narrow (fun v hv => hv) ⟨CW.mk' H9c.out, rfl⟩ ?_
    refine mixO_cons ?_
    refine wpQuiet_nil ?_
    show wpList _ _ _ [_] _ _
    go_wp2_with fail
    have H9d := Lib.hid (H9c.out.alloc (.cells #[.int .u32 vx] 23))
    have HOd : Hid (Own (w1.heap.size + 3) 23 .u32 (wc.alloc (.cells #[.int .u32 vx] 23)) A5 n5 c5 (pre.map fun k => wd ((rest.drop (4 * k.1)).take 4))) := Lib.hid (HOc.out.alloc _)
    refine MixO.narrow (fun v hv => hv) ⟨CW.mk' H9d.out, rfl⟩ ?_
    refine mixO_cons ?_
    refine wpQuiet_nil ?_
    show wpList _ _ _ [_] _ _
    refine wpList_app (o := ⟨some 53, _, _, _, _, _⟩) elU32 rfl _ _ rfl rfl rfl HOd.out (Rd.newAt (xs := [vx]) hzc rfl) rfl ?_ ?_ ?_
    · rw [List.length_map]; simp; omega
    · simp; omega
    intro A6 n6 c6 w6 h6
    have H6 := Lib.hid h6
    clear h6
    go_wp2_with fail
    have B6 : Hid (Below (w1.heap.size + 3) wc w6) := Lib.hid (((Below.refl _ wc).alloc (by omega) _).trans H6.out.2.2.1)
    have H9e := Lib.hid (Blk.below H9c.out B6.out (by omega))
    refine MixO.narrow (fun v hv => hv) ⟨CW.mk' H9e.out, rfl⟩ ?_
    refine mixO_cons ?_
    repeat (show wpQuiet _ _ _ _ (_ :: _) _; go_big_quiet_step (fail))
    refine wpQuiet_nil ?_
    show wpList _ _ _ [_] _ _
    have ce2 := Blk.cell H9e.out 2
    have fe2 := Blk.frozen H9e.out 2
    simp at ce2
    go_wp2_with fail
    refine MixO.last ?_
    refine mixO_nil ?_
    refine wpQuiet_nil ?_
    gi_wp2
    have hcells : ∀ (j : Nat) (o : Obj), ablk A5 = some j → (wc.alloc (.cells #[.int .u32 vx] 23)).heap[j]? = some o → o.isCells = true := by
      intro j o hj ho
      rcases HOd.out.1.2 with ⟨h3, _⟩ | ⟨g, cap, cur, h3, _, h4, _⟩
      · injection h3 with h3; subst h3; cases hj
      · injection h3 with h3; subst h3; injection hj with hj; subst hj
        rw [h4] at ho
        injection ho with ho
        subst ho
        rfl
    have hs6 := B6.out.size
    refine ⟨(((KeepsOthers.of_grownBy G0.out (fun j o h => by cases h)).trans (KeepsOthers.alloc wc _)).trans (KeepsOthers.of_grownBy H6.out.2.1 hcells)).trans (KeepsOthers.setCell w6 _ _), fun i hi hg => ?_, ⟨⟨A6, n6, c6, Blk.cast (Blk.set_ H9e.out 2 _) (by simp), ?_⟩, ?_, ?_⟩⟩
    · rw [Below.heap_setCell _ _ _ _ (by exact hg), B6.out.block i hi]
      exact G0.out.block i (by omega) (by simp)
    · rw [List.map_append, List.map_cons, List.map_nil, HVX.out]
      exact H6.out.1.kept (only_setCell (World.grownBy.refl _ _) (.inl rfl) _) (fun ad hA he => by have h1 := (H6.out.1.block ad hA).1; simp at he; omega)
    · exact ((HBW.out.grown G0.out hz9 (fun k e => by cases e)).trans (B6.out.mono (by omega))).setCell (by simp) _
    · simp; omega
  case done =>
    rintro D ys W hD rfl ⟨⟨A5, n5, c5, h9, ho⟩, hB, hz⟩ hK
    obtain ⟨a0, a1, a2⟩ := pk_facts h9
    have HPB := Lib.hid (PB.out.below hB hz1)
    obtain ⟨b0, b1, b2⟩ := pk_facts HPB.out
    obtain ⟨f0, f1, f2⟩ := pk_frozen HPB.out
    have H9 := Lib.hid h9
    have HO := Lib.hid ho
    have HB := Lib.hid hB
    have HK := Lib.hid hK
    clear h9 ho hB hK
    gi_wp2
    clear a0 a1 a2 b0 b1 b2 f0 f1 f2
    have HPS := Lib.hid (set3_blk HPB.out (.slice A2 n2 c2) (.slice A3 n3 c3) (.slice A5 n5 c5))
    have HG := Lib.hid (set3_grown W w.heap.size (.slice A2 n2 c2) (.slice A3 n3 c3) (.slice A5 n5 c5))
    have HKS := Lib.hid ((set3_others W w.heap.size (.slice A2 n2 c2) (.slice A3 n3 c3) (.slice A5 n5 c5)).same D _ HK.out rfl)
    show bodyPostM _ _ _ _ _ _ _ (set3 W w.heap.size (.slice A2 n2 c2) (.slice A3 n3 c3) (.slice A5 n5 c5))
    generalize set3 W w.heap.size (.slice A2 n2 c2) (.slice A3 n3 c3) (.slice A5 n5 c5) = Wf at *
    refine ⟨by simp, .inl ⟨_, _, rfl, run_takeDeferred HKS.out, ?_⟩⟩
    refine ⟨_, results_pk rfl rfl (HPS.out.grown (grownBy_putObj' _ D _) (by simp; omega)), ?_⟩
    have hne : ∀ {B : Nat} {e : TypeId} {k : IntKind} {A : Option Addr} {n c : Nat} {xs : List Int}, Own B e k Wf A n c xs → Own B e k (Wf.putObj D (.deferred none)) A n c xs := fun h =>
      h.kept (grownBy_putObj' _ D _) (fun ad hA e => by
        subst hA
        rcases h.1.2 with ⟨h3, _⟩ | ⟨g, cap, cur, h3, _, h4, _⟩
        · injection h3 with h3; cases h3
        · injection h3 with h3; injection h3 with h3; subst h3
          injection e with e
          subst e
          rw [HKS.out] at h4
          cases h4)
    have hkw : ∀ {B : Nat} {e : TypeId} {k : IntKind} {A : Option Addr} {n c : Nat} {xs : List Int}, Own B e k W A n c xs → w.heap.size < B → Own B e k Wf A n c xs := fun h hB =>
      h.kept HG.out (fun ad hA e => by have := (h.block ad hA).1; injection e with e; omega)
    have hb2 : ∀ {B : Nat} {e : TypeId} {k : IntKind} {A : Option Addr} {n c : Nat} {xs : List Int}, Own B e k w1 A n c xs → Own B e k W A n c xs := fun h =>
      h.same (fun ad hA => HB.out.block _ (h.block ad hA).2)
    refine ⟨A2, n2, c2, A3, n3, c3, A5, n5, c5, rfl, (hne (hkw (hb2 O2.out) (by omega))).mono (by omega), (hne (hkw (hb2 O3.out) (by omega))).mono (by omega), (hne (hkw HO.out (by omega))).mono (by omega), ?_⟩
    exact ((HB1.out.trans (HB.out.mono (by omega))).grown HG.out (by have := HB.out.size; omega) (fun k e => by cases e; exact Nat.le_refl _)).grown (grownBy_putObj' _ D _) (by have := HG.out.size; have := HB.out.size; omega) (fun k e => by cases e; omega)
  case stop =>
    rintro D c pre W _ _ h _
    exact h.elim
end Go.Proofs.Ytakmaocfcmdpmaa
