/- Layer 27: contract of renew. Conditions: as each theorem states them. -/
import Derived.Test.YtibjafkclojimaaL3
import Derived.Test.YtibjafkclojimaaQO
import Derived.LoopN
namespace Go.Proofs.Ytibjafkclojimaa
open Go.RowKit
theorem size2r : (Try.prog.info? 69).map (·.size) = some 2 := by kernel_rfl
theorem one2 {c0 c1 : Value} (h0 : c0.oneCell' = true) (h1 : c1.oneCell' = true) : ∀ v ∈ [c0, c1], v.oneCell' = true := by
  intro v hv
  simp only [List.mem_cons, List.not_mem_nil, or_false] at hv
  rcases hv with rfl | rfl <;> assumption
section
variable {l : LS} {s : SS}
theorem renP_2 (h : ¬ l.bl > 0) : renP l s = (2, l, s) := by unfold renP; rw [if_pos (by omega)]
theorem renP_8 (h : l.bl > 0) (h2 : ¬ (s.ep = l.ep ∧ s.ow = l.ow)) : renP l s = (8, l, s) := by
  unfold renP; rw [if_neg (by omega), if_pos]
  by_cases q : s.ep = l.ep
  · exact .inr (fun z => h2 ⟨q, z⟩)
  · exact .inl q
theorem renP_7 (h : l.bl > 0) (h2 : s.ep = l.ep ∧ s.ow = l.ow) (h3 : ¬ l.bl ≤ 4611686018427387904 - s.nx) : renP l s = (7, l, s) := by
  unfold renP; rw [if_neg (by omega), if_neg (by omega), if_pos (by omega)]
theorem renP_0 (h : l.bl > 0) (h2 : s.ep = l.ep ∧ s.ow = l.ow) (h3 : l.bl ≤ 4611686018427387904 - s.nx) (h4 : s.f = false) : renP l s = (0, ⟨l.ow, l.ep, l.bl, s.nx, s.nx + l.bl⟩, (wrP s s.ep s.ow (s.nx + l.bl)).2) := by
  unfold renP; rw [if_neg (by omega), if_neg (by omega), if_neg (by omega), if_pos h4]
theorem renP_t (h : l.bl > 0) (h2 : s.ep = l.ep ∧ s.ow = l.ow) (h3 : l.bl ≤ 4611686018427387904 - s.nx) (h4 : s.f = true) : renP l s = (8, l, (wrP s s.ep s.ow (s.nx + l.bl)).2) := by
  unfold renP; rw [if_neg (by omega), if_neg (by omega), if_neg (by omega), if_neg (by simp [h4])]
theorem wrP_0 (e o n : Int) (h : s.f = false) : (wrP s e o n).1 = 0 := by unfold wrP; rw [if_pos h]
theorem wrP_8 (e o n : Int) (h : s.f = true) : (wrP s e o n).1 = 8 := by
  unfold wrP; rw [if_neg (by simp [h])]; split <;> rfl
end
theorem Blk.notU8 {w : World} {g : Nat} {t : TypeId} {cs : Array Value} (h : Blk w g t cs) (ht : t ≠ 5) : ∀ cur, w.heap[g]? ≠ some (.cells cur 5 (0, 0)) := fun cur q => by
  unfold Blk at h
  rw [h] at q
  injection q with q
  injection q with _ q
  exact ht q
/-- what renew's regions read -/
def RB (gb gl gc : Nat) (p : Value) (l : LS) (cs : Array Value) (w : World) : Prop := VarH gb w gl ∧ LsH gl w p l ∧ Blk w gc 31 cs
def RC (gb gl gc : Nat) (cs : Array Value) (w : World) : Prop := VarH gb w gl ∧ Blk w gc 31 cs
def RenPost (gl g : Nat) (r : Int × LS × SS) (w : World) (e : Ending) (w' : World) : Prop :=
  e = .returned (.int .i64 r.1) ∧ LsH gl w' (.pointer (some ⟨g, 0, none⟩)) r.2.1 ∧ StH g w' r.2.2 ∧ ∃ w1, w.grownBy w1 (some g) ∧ w1.grownBy w' (some gl)
attribute [local irreducible] CL.rcd CL.size takeL newN wrS LastI CL.May lc StH renP wrP
set_option maxRecDepth 100000 in
set_option maxHeartbeats 8000000 in
theorem renew_any (gl g : Nat) (l : LS) (s : SS) (w : World) (h : LsH gl w (.pointer (some ⟨g, 0, none⟩)) l) (hs : StH g w s) (hc : COk s.ep s.ow s.nx) (hN : s.N < 1000) (hb0 : 0 ≤ l.bl) (hb1 : l.bl ≤ 1000) :
    Calls Try.prog 16 #[.pointer (some ⟨gl, 0, none⟩)] w (RenPost gl g (renP l s) w) := by
  have H0 := Lib.hid h
  have S0 := Lib.hid hs
  have HC := Lib.hid hc
  have hgl := Blk.lt h
  have hg := hs.lt
  have b1 := (Below.refl w.heap.size w).alloc (Nat.le_refl _) (.cells #[.pointer (some ⟨gl, 0, none⟩)] 37)
  have V1 : Hid (VarH w.heap.size (w.alloc (.cells #[.pointer (some ⟨gl, 0, none⟩)] 37)) gl) := Lib.hid (Blk.new _ _ _)
  have H1 := Lib.hid (h.below b1)
  have S1 := Lib.hid (hs.below b1)
  have B1 := Lib.hid b1
  obtain ⟨c0, c1, c2, c3, c4, c5⟩ := H1.out.cells
  have v0 := V1.out.c0
  clear h hs hc b1
  go_enter Try.func16, Try.ntmps16
  go_wp2_with fail
  clear c0 c1 c2 c3 c4 c5 v0
  generalize w.alloc (.cells #[.pointer (some ⟨gl, 0, none⟩)] 37) = w1 at *
  obtain ⟨gb, hgb⟩ : ∃ z, w.heap.size = z := ⟨_, rfl⟩
  rw [hgb] at V1 ⊢
  refine Calls.mono (read_st g s w1 S1.out) ?_
  rintro e w2 ⟨A, cap, rfl, b2⟩
  have V2 := Lib.hid (Blk.below V1.out b2 (Blk.lt V1.out))
  have H2 := Lib.hid (H1.out.below b2)
  have S2 := Lib.hid (S1.out.below b2)
  have B2 := Lib.hid (B1.out.trans (b2.mono B1.out.size))
  clear V1 H1 S1 B1 H0 S0 b2
  go_wp2_with fail
  have b3 : Below w2.heap.size w2 (((w2.alloc (.cells #[.int .u64 s.ep, .int .u8 s.ow, .int .u64 s.nx, .int .u64 0, .slice A 0 cap] 31)).alloc (.cells #[.bool true] 4)).alloc (.cells #[.func (.func 23) #[] #[.pointer (some ⟨gb, 0, none⟩)], .int .i64 1, .func (.func 24) #[] #[.pointer (some ⟨gb, 0, none⟩)], .int .i64 2, .func (.func 25) #[] #[.pointer (some ⟨w2.heap.size + 1, 0, none⟩), .pointer (some ⟨w2.heap.size, 0, none⟩), .pointer (some ⟨gb, 0, none⟩)], .int .i64 8, .func (.func 26) #[] #[.pointer (some ⟨gb, 0, none⟩), .pointer (some ⟨w2.heap.size, 0, none⟩)], .int .i64 7] 69)) := ((((Below.refl w2.heap.size w2).alloc (Nat.le_refl _) _).alloc (by simp) _).alloc (by simp; omega) _)
  have C3 : Hid (Blk (((w2.alloc (.cells #[.int .u64 s.ep, .int .u8 s.ow, .int .u64 s.nx, .int .u64 0, .slice A 0 cap] 31)).alloc (.cells #[.bool true] 4)).alloc (.cells #[.func (.func 23) #[] #[.pointer (some ⟨gb, 0, none⟩)], .int .i64 1, .func (.func 24) #[] #[.pointer (some ⟨gb, 0, none⟩)], .int .i64 2, .func (.func 25) #[] #[.pointer (some ⟨w2.heap.size + 1, 0, none⟩), .pointer (some ⟨w2.heap.size, 0, none⟩), .pointer (some ⟨gb, 0, none⟩)], .int .i64 8, .func (.func 26) #[] #[.pointer (some ⟨gb, 0, none⟩), .pointer (some ⟨w2.heap.size, 0, none⟩)], .int .i64 7] 69)) w2.heap.size 31 #[.int .u64 s.ep, .int .u8 s.ow, .int .u64 s.nx, .int .u64 0, .slice A 0 cap]) := Lib.hid (((Blk.new _ _ _).alloc _).alloc _)
  have I3 : Hid (IsH (w2.heap.size + 1) (((w2.alloc (.cells #[.int .u64 s.ep, .int .u8 s.ow, .int .u64 s.nx, .int .u64 0, .slice A 0 cap] 31)).alloc (.cells #[.bool true] 4)).alloc (.cells #[.func (.func 23) #[] #[.pointer (some ⟨gb, 0, none⟩)], .int .i64 1, .func (.func 24) #[] #[.pointer (some ⟨gb, 0, none⟩)], .int .i64 2, .func (.func 25) #[] #[.pointer (some ⟨w2.heap.size + 1, 0, none⟩), .pointer (some ⟨w2.heap.size, 0, none⟩), .pointer (some ⟨gb, 0, none⟩)], .int .i64 8, .func (.func 26) #[] #[.pointer (some ⟨gb, 0, none⟩), .pointer (some ⟨w2.heap.size, 0, none⟩)], .int .i64 7] 69)) true) := Lib.hid ((blk_new_at (by simp)).alloc _)
  have T3 : Hid (Blk (((w2.alloc (.cells #[.int .u64 s.ep, .int .u8 s.ow, .int .u64 s.nx, .int .u64 0, .slice A 0 cap] 31)).alloc (.cells #[.bool true] 4)).alloc (.cells #[.func (.func 23) #[] #[.pointer (some ⟨gb, 0, none⟩)], .int .i64 1, .func (.func 24) #[] #[.pointer (some ⟨gb, 0, none⟩)], .int .i64 2, .func (.func 25) #[] #[.pointer (some ⟨w2.heap.size + 1, 0, none⟩), .pointer (some ⟨w2.heap.size, 0, none⟩), .pointer (some ⟨gb, 0, none⟩)], .int .i64 8, .func (.func 26) #[] #[.pointer (some ⟨gb, 0, none⟩), .pointer (some ⟨w2.heap.size, 0, none⟩)], .int .i64 7] 69)) (w2.heap.size + 1 + 1) 69 #[.func (.func 23) #[] #[.pointer (some ⟨gb, 0, none⟩)], .int .i64 1, .func (.func 24) #[] #[.pointer (some ⟨gb, 0, none⟩)], .int .i64 2, .func (.func 25) #[] #[.pointer (some ⟨w2.heap.size + 1, 0, none⟩), .pointer (some ⟨w2.heap.size, 0, none⟩), .pointer (some ⟨gb, 0, none⟩)], .int .i64 8, .func (.func 26) #[] #[.pointer (some ⟨gb, 0, none⟩), .pointer (some ⟨w2.heap.size, 0, none⟩)], .int .i64 7]) := Lib.hid (blk_new_at (by simp))
  have V3 := Lib.hid (Blk.below V2.out b3 (Blk.lt V2.out))
  have H3 := Lib.hid (H2.out.below b3)
  have S3 := Lib.hid (S2.out.below b3)
  have B3 := Lib.hid (B2.out.trans (b3.mono B2.out.size))
  have hgc : Hid (w.heap.size < w2.heap.size) := Lib.hid (by have := Blk.lt V2.out; omega)
  clear V2 H2 S2 B2 b3
  generalize ((w2.alloc (.cells #[.int .u64 s.ep, .int .u8 s.ow, .int .u64 s.nx, .int .u64 0, .slice A 0 cap] 31)).alloc (.cells #[.bool true] 4)).alloc (.cells #[.func (.func 23) #[] #[.pointer (some ⟨gb, 0, none⟩)], .int .i64 1, .func (.func 24) #[] #[.pointer (some ⟨gb, 0, none⟩)], .int .i64 2, .func (.func 25) #[] #[.pointer (some ⟨w2.heap.size + 1, 0, none⟩), .pointer (some ⟨w2.heap.size, 0, none⟩), .pointer (some ⟨gb, 0, none⟩)], .int .i64 8, .func (.func 26) #[] #[.pointer (some ⟨gb, 0, none⟩), .pointer (some ⟨w2.heap.size, 0, none⟩)], .int .i64 7] 69) = w3 at *
  obtain ⟨gc, hgc2⟩ : ∃ z, w2.heap.size = z := ⟨_, rfl⟩
  rw [hgc2] at C3 I3 T3 hgc ⊢
  clear hgc2
  refine wp_loop_rounds 5 ?_
  rw [rounds_succ]
  have hrow := blk_loadMid (P := Try.prog) (ty := 69) (A := []) (B := [.func (.func 23) #[] #[.pointer (some ⟨gb, 0, none⟩)], .int .i64 1]) (C := [.func (.func 24) #[] #[.pointer (some ⟨gb, 0, none⟩)], .int .i64 2, .func (.func 25) #[] #[.pointer (some ⟨gc + 1, 0, none⟩), .pointer (some ⟨gc, 0, none⟩), .pointer (some ⟨gb, 0, none⟩)], .int .i64 8, .func (.func 26) #[] #[.pointer (some ⟨gb, 0, none⟩), .pointer (some ⟨gc, 0, none⟩)], .int .i64 7]) (o := 0) T3.out rfl Try.underlying69 rfl size2r
  go_wp2_with (first
    | ((with_reducible (show wpList _ _ _ (⟨some 30, .load _ _, _, _, _, _⟩ :: _) _ _)); go_loud (refine wpList_loadV (o := ⟨some 30, .load _ _, _, _, _, _⟩) rfl _ rfl rfl hrow ?_)))
  clear hrow
  have b4 := (Below.refl w3.heap.size w3).alloc (Nat.le_refl _) (.cells #[.func (.func 23) #[] #[.pointer (some ⟨gb, 0, none⟩)], .int .i64 1] 69)
  have X : Hid (Blk (w3.alloc (.cells #[.func (.func 23) #[] #[.pointer (some ⟨gb, 0, none⟩)], .int .i64 1] 69)) w3.heap.size 69 #[.func (.func 23) #[] #[.pointer (some ⟨gb, 0, none⟩)], .int .i64 1]) := Lib.hid (Blk.new _ _ _)
  have C4 := Lib.hid (Blk.below C3.out b4 (Blk.lt C3.out))
  have I4 := Lib.hid (Blk.below I3.out b4 (Blk.lt I3.out))
  have T4 := Lib.hid (Blk.below T3.out b4 (Blk.lt T3.out))
  have V4 := Lib.hid (Blk.below V3.out b4 (Blk.lt V3.out))
  have H4 := Lib.hid (H3.out.below b4)
  have S4 := Lib.hid (S3.out.below b4)
  have B4 := Lib.hid (B3.out.trans ((b4).mono B3.out.size))
  clear C3 I3 T3 V3 H3 S3 B3 b4
  generalize w3.alloc (.cells #[.func (.func 23) #[] #[.pointer (some ⟨gb, 0, none⟩)], .int .i64 1] 69) = w4 at *
  obtain ⟨gx0, hgx⟩ : ∃ z, w3.heap.size = z := ⟨_, rfl⟩
  rw [hgx] at X ⊢
  clear hgx
  refine Calls.mono (ren1_any gb gl (some ⟨g, 0, none⟩) l w4 V4.out H4.out) ?_
  rintro e wk ⟨he, rfl⟩
  obtain rfl : e = .returned (.bool true) := he
  clear X
  go_wp2_with fail
  rw [rounds_succ]
  have hrow := blk_loadMid (P := Try.prog) (ty := 69) (A := [.func (.func 23) #[] #[.pointer (some ⟨gb, 0, none⟩)], .int .i64 1]) (B := [.func (.func 24) #[] #[.pointer (some ⟨gb, 0, none⟩)], .int .i64 2]) (C := [.func (.func 25) #[] #[.pointer (some ⟨gc + 1, 0, none⟩), .pointer (some ⟨gc, 0, none⟩), .pointer (some ⟨gb, 0, none⟩)], .int .i64 8, .func (.func 26) #[] #[.pointer (some ⟨gb, 0, none⟩), .pointer (some ⟨gc, 0, none⟩)], .int .i64 7]) (o := 2) T4.out rfl Try.underlying69 rfl size2r
  go_wp2_with (first
    | ((with_reducible (show wpList _ _ _ (⟨some 30, .load _ _, _, _, _, _⟩ :: _) _ _)); go_loud (refine wpList_loadV (o := ⟨some 30, .load _ _, _, _, _, _⟩) rfl _ rfl rfl hrow ?_)))
  clear hrow
  have b5 := (Below.refl w4.heap.size w4).alloc (Nat.le_refl _) (.cells #[.func (.func 24) #[] #[.pointer (some ⟨gb, 0, none⟩)], .int .i64 2] 69)
  have X : Hid (Blk (w4.alloc (.cells #[.func (.func 24) #[] #[.pointer (some ⟨gb, 0, none⟩)], .int .i64 2] 69)) w4.heap.size 69 #[.func (.func 24) #[] #[.pointer (some ⟨gb, 0, none⟩)], .int .i64 2]) := Lib.hid (Blk.new _ _ _)
  have C5 := Lib.hid (Blk.below C4.out b5 (Blk.lt C4.out))
  have I5 := Lib.hid (Blk.below I4.out b5 (Blk.lt I4.out))
  have T5 := Lib.hid (Blk.below T4.out b5 (Blk.lt T4.out))
  have V5 := Lib.hid (Blk.below V4.out b5 (Blk.lt V4.out))
  have H5 := Lib.hid (H4.out.below b5)
  have S5 := Lib.hid (S4.out.below b5)
  have B5 := Lib.hid (B4.out.trans ((b5).mono B4.out.size))
  clear C4 I4 T4 V4 H4 S4 B4 b5
  generalize w4.alloc (.cells #[.func (.func 24) #[] #[.pointer (some ⟨gb, 0, none⟩)], .int .i64 2] 69) = w5 at *
  obtain ⟨gx1, hgx⟩ : ∃ z, w4.heap.size = z := ⟨_, rfl⟩
  rw [hgx] at X ⊢
  clear hgx
  by_cases q2 : l.bl > 0
  · have RD := ren2_any gb gl _ l w5 V5.out H5.out
    rw [decide_eq_true q2] at RD
    have Q2 := Lib.hid q2
    clear q2
    refine Calls.mono RD ?_
    clear RD
    rintro e wk ⟨rfl, rfl⟩
    clear X
    go_wp2_with fail
    rw [rounds_succ]
    have hrow := blk_loadMid (P := Try.prog) (ty := 69) (A := [.func (.func 23) #[] #[.pointer (some ⟨gb, 0, none⟩)], .int .i64 1, .func (.func 24) #[] #[.pointer (some ⟨gb, 0, none⟩)], .int .i64 2]) (B := [.func (.func 25) #[] #[.pointer (some ⟨gc + 1, 0, none⟩), .pointer (some ⟨gc, 0, none⟩), .pointer (some ⟨gb, 0, none⟩)], .int .i64 8]) (C := [.func (.func 26) #[] #[.pointer (some ⟨gb, 0, none⟩), .pointer (some ⟨gc, 0, none⟩)], .int .i64 7]) (o := 4) T5.out rfl Try.underlying69 rfl size2r
    go_wp2_with (first
      | ((with_reducible (show wpList _ _ _ (⟨some 30, .load _ _, _, _, _, _⟩ :: _) _ _)); go_loud (refine wpList_loadV (o := ⟨some 30, .load _ _, _, _, _, _⟩) rfl _ rfl rfl hrow ?_)))
    clear hrow
    have b6 := (Below.refl w5.heap.size w5).alloc (Nat.le_refl _) (.cells #[.func (.func 25) #[] #[.pointer (some ⟨gc + 1, 0, none⟩), .pointer (some ⟨gc, 0, none⟩), .pointer (some ⟨gb, 0, none⟩)], .int .i64 8] 69)
    have X : Hid (Blk (w5.alloc (.cells #[.func (.func 25) #[] #[.pointer (some ⟨gc + 1, 0, none⟩), .pointer (some ⟨gc, 0, none⟩), .pointer (some ⟨gb, 0, none⟩)], .int .i64 8] 69)) w5.heap.size 69 #[.func (.func 25) #[] #[.pointer (some ⟨gc + 1, 0, none⟩), .pointer (some ⟨gc, 0, none⟩), .pointer (some ⟨gb, 0, none⟩)], .int .i64 8]) := Lib.hid (Blk.new _ _ _)
    have C6 := Lib.hid (Blk.below C5.out b6 (Blk.lt C5.out))
    have I6 := Lib.hid (Blk.below I5.out b6 (Blk.lt I5.out))
    have T6 := Lib.hid (Blk.below T5.out b6 (Blk.lt T5.out))
    have V6 := Lib.hid (Blk.below V5.out b6 (Blk.lt V5.out))
    have H6 := Lib.hid (H5.out.below b6)
    have S6 := Lib.hid (S5.out.below b6)
    have B6 := Lib.hid (B5.out.trans ((b6).mono B5.out.size))
    clear C5 I5 T5 V5 H5 S5 B5 b6
    generalize w5.alloc (.cells #[.func (.func 25) #[] #[.pointer (some ⟨gc + 1, 0, none⟩), .pointer (some ⟨gc, 0, none⟩), .pointer (some ⟨gb, 0, none⟩)], .int .i64 8] 69) = w6 at *
    obtain ⟨gx2, hgx⟩ : ∃ z, w5.heap.size = z := ⟨_, rfl⟩
    rw [hgx] at X ⊢
    clear hgx
    by_cases q3 : s.ep = l.ep ∧ s.ow = l.ow
    · have RD := ren3_any (gc + 1) gc gb gl _ l s.ep s.ow s.nx w6 I6.out ⟨A, cap, C6.out⟩ V6.out H6.out
      rw [decide_eq_true q3] at RD
      have Q3 := Lib.hid q3
      clear q3
      refine Calls.mono RD ?_
      clear RD
      rintro e w7 ⟨rfl, b7⟩
      clear X
      have C7 := Lib.hid (Blk.below C6.out b7 (Blk.lt C6.out))
      have I7 := Lib.hid (Blk.below I6.out b7 (Blk.lt I6.out))
      have T7 := Lib.hid (Blk.below T6.out b7 (Blk.lt T6.out))
      have V7 := Lib.hid (Blk.below V6.out b7 (Blk.lt V6.out))
      have H7 := Lib.hid (H6.out.below b7)
      have S7 := Lib.hid (S6.out.below b7)
      have B7 := Lib.hid (B6.out.trans ((b7).mono B6.out.size))
      clear C6 I6 T6 V6 H6 S6 B6 b7
      go_wp2_with fail
      rw [rounds_succ]
      have hrow := blk_loadMid (P := Try.prog) (ty := 69) (A := [.func (.func 23) #[] #[.pointer (some ⟨gb, 0, none⟩)], .int .i64 1, .func (.func 24) #[] #[.pointer (some ⟨gb, 0, none⟩)], .int .i64 2, .func (.func 25) #[] #[.pointer (some ⟨gc + 1, 0, none⟩), .pointer (some ⟨gc, 0, none⟩), .pointer (some ⟨gb, 0, none⟩)], .int .i64 8]) (B := [.func (.func 26) #[] #[.pointer (some ⟨gb, 0, none⟩), .pointer (some ⟨gc, 0, none⟩)], .int .i64 7]) (C := []) (o := 6) T7.out rfl Try.underlying69 rfl size2r
      go_wp2_with (first
        | ((with_reducible (show wpList _ _ _ (⟨some 30, .load _ _, _, _, _, _⟩ :: _) _ _)); go_loud (refine wpList_loadV (o := ⟨some 30, .load _ _, _, _, _, _⟩) rfl _ rfl rfl hrow ?_)))
      clear hrow
      have b8 := (Below.refl w7.heap.size w7).alloc (Nat.le_refl _) (.cells #[.func (.func 26) #[] #[.pointer (some ⟨gb, 0, none⟩), .pointer (some ⟨gc, 0, none⟩)], .int .i64 7] 69)
      have X : Hid (Blk (w7.alloc (.cells #[.func (.func 26) #[] #[.pointer (some ⟨gb, 0, none⟩), .pointer (some ⟨gc, 0, none⟩)], .int .i64 7] 69)) w7.heap.size 69 #[.func (.func 26) #[] #[.pointer (some ⟨gb, 0, none⟩), .pointer (some ⟨gc, 0, none⟩)], .int .i64 7]) := Lib.hid (Blk.new _ _ _)
      have C8 := Lib.hid (Blk.below C7.out b8 (Blk.lt C7.out))
      have I8 := Lib.hid (Blk.below I7.out b8 (Blk.lt I7.out))
      have T8 := Lib.hid (Blk.below T7.out b8 (Blk.lt T7.out))
      have V8 := Lib.hid (Blk.below V7.out b8 (Blk.lt V7.out))
      have H8 := Lib.hid (H7.out.below b8)
      have S8 := Lib.hid (S7.out.below b8)
      have B8 := Lib.hid (B7.out.trans ((b8).mono B7.out.size))
      clear C7 I7 T7 V7 H7 S7 B7 b8
      generalize w7.alloc (.cells #[.func (.func 26) #[] #[.pointer (some ⟨gb, 0, none⟩), .pointer (some ⟨gc, 0, none⟩)], .int .i64 7] 69) = w8 at *
      obtain ⟨gx3, hgx⟩ : ∃ z, w7.heap.size = z := ⟨_, rfl⟩
      rw [hgx] at X ⊢
      clear hgx
      by_cases q4 : l.bl ≤ 4611686018427387904 - s.nx
      · have RD := ren4_any gb gc gl _ l s.ep s.ow s.nx w8 V8.out ⟨A, cap, C8.out⟩ H8.out HC.out.n0 HC.out.n1
        rw [decide_eq_true q4] at RD
        have Q4 := Lib.hid q4
        clear q4
        refine Calls.mono RD ?_
        clear RD
        rintro e w9 ⟨rfl, b9⟩
        clear X
        have C9 := Lib.hid (Blk.below C8.out b9 (Blk.lt C8.out))
        have I9 := Lib.hid (Blk.below I8.out b9 (Blk.lt I8.out))
        have T9 := Lib.hid (Blk.below T8.out b9 (Blk.lt T8.out))
        have V9 := Lib.hid (Blk.below V8.out b9 (Blk.lt V8.out))
        have H9 := Lib.hid (H8.out.below b9)
        have S9 := Lib.hid (S8.out.below b9)
        have B9 := Lib.hid (B8.out.trans ((b9).mono B8.out.size))
        clear C8 I8 T8 V8 H8 S8 B8 b9
        go_wp2_with fail
        rw [rounds_succ]
        obtain ⟨d0, d1, d2, d3, d4⟩ := cb_cells C9.out
        go_wp2_with fail
        clear d0 d1 d3 d4
        have e0 : ∀ r : BW w9.heap.size w9, r.world.cell? ⟨gb, 0, none⟩ = some (.pointer (some ⟨gl, 0, none⟩)) := fun r => Blk.cell (Blk.below V9.out r.below (Blk.lt V9.out)) 0
        have e1 : ∀ r : BW w9.heap.size w9, r.world.cell? ⟨gl, 3, none⟩ = some (.int .u64 l.bl) := fun r => Blk.cell (Blk.below H9.out r.below (Blk.lt H9.out)) 3
        have e2 : ∀ r : BW w9.heap.size w9, r.world.cell? ⟨gc, 2, none⟩ = some (.int .u64 s.nx) := fun r => Blk.cell (Blk.below C9.out r.below (Blk.lt C9.out)) 2
        have hw : IntKind.u64.wrap (s.nx + l.bl) = s.nx + l.bl := by rw [IntKind.wrap_u64]; have := HC.out.n0; have := HC.out.n1; omega
        have f2 := C9.out.frozen 2
        refine wp_region_mixOB w9.heap.size [([0, 1, 2, 3, 4, 5, 6, 7], 8)] (by kernel_rfl) (by kernel_rfl) (by kernel_rfl) (by kernel_rfl) (by kernel_rfl) ?_
        try (rw [put_none])
        simp only [pickL, List.map_cons, List.map_nil, List.filterMap_cons, List.filterMap_nil, List.getElem?_cons_succ, List.getElem?_cons_zero]
        refine mixO_cons ?_
        repeat (show wpQuiet _ _ _ _ (_ :: _) _; go_big_quiet_step (fail))
        refine wpQuiet_nil ?_
        show wpList _ _ _ [_] _ _
        go_wp2_with fail
        refine MixO.last ?_
        refine mixO_nil ?_
        refine wpQuiet_nil ?_
        refine NoPanic.normal ?_
        clear e0 e1 e2 d2 f2 hw
        have G10 : Hid (w9.grownBy (w9.setCell ⟨gc, 2, none⟩ (.int .u64 (s.nx + l.bl))).drew (some gc)) := Lib.hid (grown_drew (only_setCell (p := ⟨gc, 2, none⟩) (World.grownBy.refl w9 (some gc)) (.inl rfl) _))
        have C10 : Hid (Blk (w9.setCell ⟨gc, 2, none⟩ (.int .u64 (s.nx + l.bl))).drew gc 31 #[.int .u64 s.ep, .int .u8 s.ow, .int .u64 (s.nx + l.bl), .int .u64 0, .slice A 0 cap]) := Lib.hid (Blk.drew (Blk.cast (C9.out.set_ 2 _) (by simp)))
        have V10 := Lib.hid (Blk.grown V9.out G10.out (by intro q; injection q with q; have := hgc.out; omega))
        have H10 := Lib.hid (Blk.grown H9.out G10.out (by intro q; injection q with q; have := hgc.out; omega))
        have S10 := Lib.hid (S9.out.grown G10.out (by have := hgc.out; omega) (C9.out.notU8 (by decide)))
        have B10 := Lib.hid (B9.out.trans (below_of_only G10.out (by have := hgc.out; omega) B9.out.size))
        clear C9 V9 H9 S9 B9 I9 T9 G10
        go_wp2_with fail
        generalize (w9.setCell ⟨gc, 2, none⟩ (.int .u64 (s.nx + l.bl))).drew = w10 at *
        have hcw : RB gb gl gc (.pointer (some ⟨g, 0, none⟩)) l #[.int .u64 s.ep, .int .u8 s.ow, .int .u64 (s.nx + l.bl), .int .u64 0, .slice A 0 cap] w10.drew := ⟨Blk.drew V10.out, Blk.drew H10.out, Blk.drew C10.out⟩
        have e0 : ∀ r : CW (RB gb gl gc (.pointer (some ⟨g, 0, none⟩)) l #[.int .u64 s.ep, .int .u8 s.ow, .int .u64 (s.nx + l.bl), .int .u64 0, .slice A 0 cap]), r.world.cell? ⟨gb, 0, none⟩ = some (.pointer (some ⟨gl, 0, none⟩)) := fun r => Blk.cell r.holds.1 0
        have e1 : ∀ r : CW (RB gb gl gc (.pointer (some ⟨g, 0, none⟩)) l #[.int .u64 s.ep, .int .u8 s.ow, .int .u64 (s.nx + l.bl), .int .u64 0, .slice A 0 cap]), r.world.cell? ⟨gl, 0, none⟩ = some (.pointer (some ⟨g, 0, none⟩)) := fun r => Blk.cell r.holds.2.1 0
        have hne : Nonempty (CW (RB gb gl gc (.pointer (some ⟨g, 0, none⟩)) l #[.int .u64 s.ep, .int .u8 s.ow, .int .u64 (s.nx + l.bl), .int .u64 0, .slice A 0 cap])) := CW.inh hcw
        refine wp_region_mixO (fun w' => ∃ r : CW (RB gb gl gc (.pointer (some ⟨g, 0, none⟩)) l #[.int .u64 s.ep, .int .u8 s.ow, .int .u64 (s.nx + l.bl), .int .u64 0, .slice A 0 cap]), w' = r.world) [([0, 1, 2, 3, 4], 5), ([], 6)] (by kernel_rfl) (by kernel_rfl) (by kernel_rfl) (by kernel_rfl) (by kernel_rfl) ⟨CW.mk' hcw, rfl⟩ ?_
        try (rw [put_none])
        simp only [pickL, List.map_cons, List.map_nil, List.filterMap_cons, List.filterMap_nil, List.getElem?_cons_succ, List.getElem?_cons_zero]
        refine mixO_cons ?_
        show wpQuiet _ _ _ _ (_ :: _) _
        go_big_quiet_step (fail)
        show wpQuiet _ _ _ _ (_ :: _) _
        go_big_quiet_step (fail)
        show wpQuiet _ _ _ _ (_ :: _) _
        go_big_quiet_step (fail)
        show wpQuiet _ _ _ _ (_ :: _) _
        go_big_quiet_step (fail)
        show wpQuiet _ _ _ _ (_ :: _) _
        refine wpQuiet_loadV (o := ⟨some 52, _, _, _, _, _⟩) rfl _ rfl rfl (fun w' hw' => by obtain ⟨r, rfl⟩ := hw'; exact cb_load r.holds.2.2) ?_
        simp only [Act.put, List.setIfInBounds_toArray, List.set_cons_zero, List.set_cons_succ]
        refine wpQuiet_nil ?_
        show wpList _ _ _ [_] _ _
        clear e0 e1 hcw hne
        have C11 := Lib.hid (Blk.drew C10.out)
        have V11 := Lib.hid (Blk.drew V10.out)
        have H11 := Lib.hid (Blk.drew H10.out)
        have S11 := Lib.hid (S10.out.below (Below.refl w10.heap.size w10).drew)
        have B11 := Lib.hid B10.out.drew
        clear C10 V10 H10 S10 B10
        go_wp2_with fail
        generalize w10.drew = w11 at *
        have HCK : Hid (COk s.ep s.ow (s.nx + l.bl)) := Lib.hid ⟨HC.out.e0, HC.out.e1, HC.out.o0, HC.out.o1, by have := HC.out.n0; omega, by have := Q4.out; omega⟩
        cases hf : s.f with
        | false =>
          have RD := write_st g s s.ep s.ow (s.nx + l.bl) A cap w11 S11.out HCK.out hN
          rw [wrP_0 _ _ _ hf] at RD
          have HR := Lib.hid (renP_0 (by have := Q2.out; omega) Q3.out (by have := Q4.out; omega) hf)
          clear hf
          refine Calls.mono RD ?_
          clear RD
          rintro e w12 ⟨rfl, s12, g12⟩
          have G12 := Lib.hid g12
          have S12 := Lib.hid s12
          clear s12 g12
          have HNE : Hid (g ≠ gl ∧ g ≠ gb ∧ g ≠ gc) := Lib.hid (by
            obtain ⟨cs, hk⟩ := S11.out.blk
            exact ⟨Blk.ne_ hk H11.out (by decide), Blk.ne_ hk V11.out (by decide), Blk.ne_ hk C11.out (by decide)⟩)
          have C12 := Lib.hid (Blk.grown C11.out G12.out (by intro q; injection q with q; exact HNE.out.2.2 q.symm))
          have V12 := Lib.hid (Blk.grown V11.out G12.out (by intro q; injection q with q; exact HNE.out.2.1 q.symm))
          have H12 := Lib.hid (Blk.grown H11.out G12.out (by intro q; injection q with q; exact HNE.out.1 q.symm))
          have GG := Lib.hid (grown_cat (only_of_below B11.out (some g)) G12.out)
          clear C11 V11 H11 S11 G12 B11
          go_wp2_with fail
          refine MixO.narrow (fun _ h => h) ⟨CW.mk' (show RB gb gl gc (.pointer (some ⟨g, 0, none⟩)) l #[.int .u64 s.ep, .int .u8 s.ow, .int .u64 (s.nx + l.bl), .int .u64 0, .slice A 0 cap] w12 from ⟨V12.out, H12.out, C12.out⟩), rfl⟩ ?_
          refine mixO_cons ?_
          refine wpQuiet_nil ?_
          show wpList _ _ _ [_] _ _
          go_wp2_with fail
          refine MixO.last ?_
          refine mixO_nil ?_
          refine wpQuiet_nil ?_
          refine NoPanic.normal ?_
          go_wp2_with fail
          have hcw : RC gb gl gc #[.int .u64 s.ep, .int .u8 s.ow, .int .u64 (s.nx + l.bl), .int .u64 0, .slice A 0 cap] w12.drew := ⟨Blk.drew V12.out, Blk.drew C12.out⟩
          have e0 : ∀ r : CW (RC gb gl gc #[.int .u64 s.ep, .int .u8 s.ow, .int .u64 (s.nx + l.bl), .int .u64 0, .slice A 0 cap]), r.world.cell? ⟨gb, 0, none⟩ = some (.pointer (some ⟨gl, 0, none⟩)) := fun r => Blk.cell r.holds.1 0
          have e1 : ∀ r : CW (RC gb gl gc #[.int .u64 s.ep, .int .u8 s.ow, .int .u64 (s.nx + l.bl), .int .u64 0, .slice A 0 cap]), r.world.cell? ⟨gc, 2, none⟩ = some (.int .u64 (s.nx + l.bl)) := fun r => Blk.cell r.holds.2 2
          have hne : Nonempty (CW (RC gb gl gc #[.int .u64 s.ep, .int .u8 s.ow, .int .u64 (s.nx + l.bl), .int .u64 0, .slice A 0 cap])) := CW.inh hcw
          have h4 := Blk.cell H12.out 4
          have f4 := Blk.frozen H12.out 4
          have h5 := Blk.cell H12.out 5
          have f5 := Blk.frozen H12.out 5
          simp [LS.cs] at h4 h5
          refine wp_region_mixO (fun w' => ∃ r : CW (RC gb gl gc #[.int .u64 s.ep, .int .u8 s.ow, .int .u64 (s.nx + l.bl), .int .u64 0, .slice A 0 cap]), w' = r.world) [([0, 1, 2, 3, 4, 5, 6], 7), ([8, 9], 10)] (by kernel_rfl) (by kernel_rfl) (by kernel_rfl) (by kernel_rfl) (by kernel_rfl) ⟨CW.mk' hcw, rfl⟩ ?_
          try (rw [put_none])
          simp only [pickL, List.map_cons, List.map_nil, List.filterMap_cons, List.filterMap_nil, List.getElem?_cons_succ, List.getElem?_cons_zero]
          refine mixO_cons ?_
          repeat (show wpQuiet _ _ _ _ (_ :: _) _; go_big_quiet_step (fail))
          refine wpQuiet_nil ?_
          show wpList _ _ _ [_] _ _
          go_wp2_with fail
          refine MixO.narrow (fun _ h => h) ⟨CW.mk' (show RC gb gl gc #[.int .u64 s.ep, .int .u8 s.ow, .int .u64 (s.nx + l.bl), .int .u64 0, .slice A 0 cap] _ from ⟨Blk.drew (Blk.far V12.out (p := ⟨gl, 4, none⟩) (by simp only; omega) (.int .u64 s.nx)), Blk.drew (Blk.far C12.out (p := ⟨gl, 4, none⟩) (by have := hgc.out; simp only; omega) (.int .u64 s.nx))⟩), rfl⟩ ?_
          refine mixO_cons ?_
          repeat (show wpQuiet _ _ _ _ (_ :: _) _; go_big_quiet_step (fail))
          refine wpQuiet_nil ?_
          show wpList _ _ _ [_] _ _
          go_wp2_with fail
          refine MixO.last ?_
          refine mixO_nil ?_
          refine wpQuiet_nil ?_
          refine NoPanic.normal ?_
          clear e0 e1 hne hcw h4 f4 h5 f5
          go_wp2_with fail
          have G13 : Hid (w12.grownBy (((w12.setCell ⟨gl, 4, none⟩ (.int .u64 s.nx)).setCell ⟨gl, 5, none⟩ (.int .u64 (s.nx + l.bl))).drew) (some gl)) := Lib.hid (grown_drew (only_setCell (p := ⟨gl, 5, none⟩) (only_setCell (p := ⟨gl, 4, none⟩) (World.grownBy.refl w12 (some gl)) (.inl rfl) (.int .u64 s.nx)) (.inl rfl) (.int .u64 (s.nx + l.bl))))
          have H13 : Hid (LsH gl (((w12.setCell ⟨gl, 4, none⟩ (.int .u64 s.nx)).setCell ⟨gl, 5, none⟩ (.int .u64 (s.nx + l.bl))).drew) (.pointer (some ⟨g, 0, none⟩)) ⟨l.ow, l.ep, l.bl, s.nx, s.nx + l.bl⟩) := Lib.hid (Blk.drew (Blk.cast ((Blk.set_ H12.out 4 (.int .u64 s.nx)).set_ 5 (.int .u64 (s.nx + l.bl))) (by simp [LS.cs])))
          have S13 := Lib.hid (S12.out.grown G13.out HNE.out.1.symm (Blk.notU8 H12.out (by decide)))
          go_ret
          rw [HR.out]
          exact ⟨rfl, H13.out, S13.out, w12, GG.out, G13.out⟩
        | true =>
          have RD := write_st g s s.ep s.ow (s.nx + l.bl) A cap w11 S11.out HCK.out hN
          rw [wrP_8 _ _ _ hf] at RD
          have HR := Lib.hid (renP_t (by have := Q2.out; omega) Q3.out (by have := Q4.out; omega) hf)
          clear hf
          refine Calls.mono RD ?_
          clear RD
          rintro e w12 ⟨rfl, s12, g12⟩
          have G12 := Lib.hid g12
          have S12 := Lib.hid s12
          clear s12 g12
          have HNE : Hid (g ≠ gl ∧ g ≠ gb ∧ g ≠ gc) := Lib.hid (by
            obtain ⟨cs, hk⟩ := S11.out.blk
            exact ⟨Blk.ne_ hk H11.out (by decide), Blk.ne_ hk V11.out (by decide), Blk.ne_ hk C11.out (by decide)⟩)
          have C12 := Lib.hid (Blk.grown C11.out G12.out (by intro q; injection q with q; exact HNE.out.2.2 q.symm))
          have V12 := Lib.hid (Blk.grown V11.out G12.out (by intro q; injection q with q; exact HNE.out.2.1 q.symm))
          have H12 := Lib.hid (Blk.grown H11.out G12.out (by intro q; injection q with q; exact HNE.out.1 q.symm))
          have GG := Lib.hid (grown_cat (only_of_below B11.out (some g)) G12.out)
          clear C11 V11 S11 G12 B11 H11
          go_wp2_with fail
          refine MixO.narrow (fun _ h => h) ⟨CW.mk' (show RB gb gl gc (.pointer (some ⟨g, 0, none⟩)) l #[.int .u64 s.ep, .int .u8 s.ow, .int .u64 (s.nx + l.bl), .int .u64 0, .slice A 0 cap] w12 from ⟨V12.out, H12.out, C12.out⟩), rfl⟩ ?_
          refine mixO_cons ?_
          refine wpQuiet_nil ?_
          show wpList _ _ _ [_] _ _
          go_wp2_with fail
          refine MixO.last ?_
          refine mixO_nil ?_
          refine wpQuiet_nil ?_
          refine NoPanic.normal ?_
          go_wp2_with fail
          go_ret
          rw [HR.out]
          exact ⟨rfl, H12.out, S12.out, w12, GG.out, World.grownBy.refl _ _⟩
      · have RD := ren4_any gb gc gl _ l s.ep s.ow s.nx w8 V8.out ⟨A, cap, C8.out⟩ H8.out HC.out.n0 HC.out.n1
        rw [decide_eq_false q4] at RD
        have Q4 := Lib.hid q4
        clear q4
        refine Calls.mono RD ?_
        clear RD
        rintro e w9 ⟨rfl, b9⟩
        have X9 := Lib.hid (Blk.below X.out b9 (Blk.lt X.out))
        clear X
        have X := X9
        clear X9
        have C9 := Lib.hid (Blk.below C8.out b9 (Blk.lt C8.out))
        have I9 := Lib.hid (Blk.below I8.out b9 (Blk.lt I8.out))
        have T9 := Lib.hid (Blk.below T8.out b9 (Blk.lt T8.out))
        have V9 := Lib.hid (Blk.below V8.out b9 (Blk.lt V8.out))
        have H9 := Lib.hid (H8.out.below b9)
        have S9 := Lib.hid (S8.out.below b9)
        have B9 := Lib.hid (B8.out.trans ((b9).mono B8.out.size))
        clear C8 I8 T8 V8 H8 S8 B8 b9
        have y1 := Blk.cell X.out 1
        simp at y1
        go_wp2_with fail
        go_ret
        rw [renP_7 (by have := Q2.out; omega) Q3.out (by have := Q4.out; omega)]
        exact ⟨rfl, H9.out, S9.out, w9, only_of_below B9.out _, World.grownBy.refl _ _⟩
    · have RD := ren3_any (gc + 1) gc gb gl _ l s.ep s.ow s.nx w6 I6.out ⟨A, cap, C6.out⟩ V6.out H6.out
      rw [decide_eq_false q3] at RD
      have Q3 := Lib.hid q3
      clear q3
      refine Calls.mono RD ?_
      clear RD
      rintro e w7 ⟨rfl, b7⟩
      have X7 := Lib.hid (Blk.below X.out b7 (Blk.lt X.out))
      clear X
      have X := X7
      clear X7
      have C7 := Lib.hid (Blk.below C6.out b7 (Blk.lt C6.out))
      have I7 := Lib.hid (Blk.below I6.out b7 (Blk.lt I6.out))
      have T7 := Lib.hid (Blk.below T6.out b7 (Blk.lt T6.out))
      have V7 := Lib.hid (Blk.below V6.out b7 (Blk.lt V6.out))
      have H7 := Lib.hid (H6.out.below b7)
      have S7 := Lib.hid (S6.out.below b7)
      have B7 := Lib.hid (B6.out.trans ((b7).mono B6.out.size))
      clear C6 I6 T6 V6 H6 S6 B6 b7
      have y1 := Blk.cell X.out 1
      simp at y1
      go_wp2_with fail
      go_ret
      rw [renP_8 (by have := Q2.out; omega) Q3.out]
      exact ⟨rfl, H7.out, S7.out, w7, only_of_below B7.out _, World.grownBy.refl _ _⟩
  · have RD := ren2_any gb gl _ l w5 V5.out H5.out
    rw [decide_eq_false q2] at RD
    have Q2 := Lib.hid q2
    clear q2
    refine Calls.mono RD ?_
    clear RD
    rintro e wk ⟨rfl, rfl⟩
    have y1 := Blk.cell X.out 1
    simp at y1
    go_wp2_with fail
    go_ret
    rw [renP_2 (by have := Q2.out; omega)]
    exact ⟨rfl, H5.out, S5.out, w5, only_of_below B5.out _, World.grownBy.refl _ _⟩
end Go.Proofs.Ytibjafkclojimaa
