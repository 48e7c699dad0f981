/- Layer 27: a lease of no store; contract of takes. Conditions: as each theorem states them. -/
import Derived.Test.YtibjafkclojimaaL6
namespace Go.Proofs.Ytibjafkclojimaa
open Go.RowKit
set_option maxRecDepth 100000 in
set_option maxHeartbeats 4000000 in
theorem renew_nost (gl : Nat) (l : LS) (w : World) (h : LsH gl w (.pointer none) l) : Calls Try.prog 16 #[.pointer (some ⟨gl, 0, none⟩)] w fun e w' => e = .returned (.int .i64 1) ∧ Below w.heap.size w w' := by
  have b1 := (Below.refl w.heap.size w).alloc (Nat.le_refl _) (.cells #[.pointer (some ⟨gl, 0, none⟩)] 37)
  have V1 : Hid (VarH w.heap.size (w.alloc (.cells #[.pointer (some ⟨gl, 0, none⟩)] 37)) gl) := Lib.hid (Blk.new _ _ _)
  have H1 := Lib.hid (h.below b1)
  have B1 := Lib.hid b1
  obtain ⟨c0, c1, c2, c3, c4, c5⟩ := H1.out.cells
  have v0 := V1.out.c0
  clear h b1
  go_enter Try.func16, Try.ntmps16
  go_wp2_with fail
  clear c0 c1 c2 c3 c4 c5 v0
  generalize w.alloc (.cells #[.pointer (some ⟨gl, 0, none⟩)] 37) = w1 at *
  obtain ⟨gb, hgb⟩ : ∃ z, w.heap.size = z := ⟨_, rfl⟩
  rw [hgb] at V1 ⊢
  refine Calls.mono (read_nil w1) ?_
  rintro e w2 ⟨rfl, b2⟩
  have V2 := Lib.hid (Blk.below V1.out b2 (Blk.lt V1.out))
  have H2 := Lib.hid (H1.out.below b2)
  have B2 := Lib.hid (B1.out.trans (b2.mono B1.out.size))
  clear V1 H1 B1 b2
  go_wp2_with fail
  have b3 : Below w2.heap.size w2 (((w2.alloc (.cells #[.int .u64 0, .int .u8 0, .int .u64 0, .int .u64 0, .slice none 0 0] 31)).alloc (.cells #[.bool false] 4)).alloc (.cells #[.func (.func 23) #[] #[.pointer (some ⟨gb, 0, none⟩)], .int .i64 1, .func (.func 24) #[] #[.pointer (some ⟨gb, 0, none⟩)], .int .i64 2, .func (.func 25) #[] #[.pointer (some ⟨w2.heap.size + 1, 0, none⟩), .pointer (some ⟨w2.heap.size, 0, none⟩), .pointer (some ⟨gb, 0, none⟩)], .int .i64 8, .func (.func 26) #[] #[.pointer (some ⟨gb, 0, none⟩), .pointer (some ⟨w2.heap.size, 0, none⟩)], .int .i64 7] 69)) := ((((Below.refl w2.heap.size w2).alloc (Nat.le_refl _) _).alloc (by simp) _).alloc (by simp; omega) _)
  have T3 : Hid (Blk (((w2.alloc (.cells #[.int .u64 0, .int .u8 0, .int .u64 0, .int .u64 0, .slice none 0 0] 31)).alloc (.cells #[.bool false] 4)).alloc (.cells #[.func (.func 23) #[] #[.pointer (some ⟨gb, 0, none⟩)], .int .i64 1, .func (.func 24) #[] #[.pointer (some ⟨gb, 0, none⟩)], .int .i64 2, .func (.func 25) #[] #[.pointer (some ⟨w2.heap.size + 1, 0, none⟩), .pointer (some ⟨w2.heap.size, 0, none⟩), .pointer (some ⟨gb, 0, none⟩)], .int .i64 8, .func (.func 26) #[] #[.pointer (some ⟨gb, 0, none⟩), .pointer (some ⟨w2.heap.size, 0, none⟩)], .int .i64 7] 69)) (w2.heap.size + 1 + 1) 69 #[.func (.func 23) #[] #[.pointer (some ⟨gb, 0, none⟩)], .int .i64 1, .func (.func 24) #[] #[.pointer (some ⟨gb, 0, none⟩)], .int .i64 2, .func (.func 25) #[] #[.pointer (some ⟨w2.heap.size + 1, 0, none⟩), .pointer (some ⟨w2.heap.size, 0, none⟩), .pointer (some ⟨gb, 0, none⟩)], .int .i64 8, .func (.func 26) #[] #[.pointer (some ⟨gb, 0, none⟩), .pointer (some ⟨w2.heap.size, 0, none⟩)], .int .i64 7]) := Lib.hid (blk_new_at (by simp))
  have V3 := Lib.hid (Blk.below V2.out b3 (Blk.lt V2.out))
  have H3 := Lib.hid (H2.out.below b3)
  have B3 := Lib.hid (B2.out.trans (b3.mono B2.out.size))
  clear V2 H2 B2 b3
  generalize ((w2.alloc (.cells #[.int .u64 0, .int .u8 0, .int .u64 0, .int .u64 0, .slice none 0 0] 31)).alloc (.cells #[.bool false] 4)).alloc (.cells #[.func (.func 23) #[] #[.pointer (some ⟨gb, 0, none⟩)], .int .i64 1, .func (.func 24) #[] #[.pointer (some ⟨gb, 0, none⟩)], .int .i64 2, .func (.func 25) #[] #[.pointer (some ⟨w2.heap.size + 1, 0, none⟩), .pointer (some ⟨w2.heap.size, 0, none⟩), .pointer (some ⟨gb, 0, none⟩)], .int .i64 8, .func (.func 26) #[] #[.pointer (some ⟨gb, 0, none⟩), .pointer (some ⟨w2.heap.size, 0, none⟩)], .int .i64 7] 69) = w3 at *
  obtain ⟨gc, hgc2⟩ : ∃ z, w2.heap.size = z := ⟨_, rfl⟩
  rw [hgc2] at T3 ⊢
  clear hgc2
  refine wp_loop_rounds 5 ?_
  rw [rounds_succ]
  have hrow := blk_loadMid (P := Try.prog) (ty := 69) (A := []) (B := [.func (.func 23) #[] #[.pointer (some ⟨gb, 0, none⟩)], .int .i64 1]) (C := [.func (.func 24) #[] #[.pointer (some ⟨gb, 0, none⟩)], .int .i64 2, .func (.func 25) #[] #[.pointer (some ⟨gc + 1, 0, none⟩), .pointer (some ⟨gc, 0, none⟩), .pointer (some ⟨gb, 0, none⟩)], .int .i64 8, .func (.func 26) #[] #[.pointer (some ⟨gb, 0, none⟩), .pointer (some ⟨gc, 0, none⟩)], .int .i64 7]) (o := 0) T3.out rfl Try.underlying69 rfl size2r
  go_wp2_with (first
    | ((with_reducible (show wpList _ _ _ (⟨some 30, .load _ _, _, _, _, _⟩ :: _) _ _)); go_loud (refine wpList_loadV (o := ⟨some 30, .load _ _, _, _, _, _⟩) rfl _ rfl rfl hrow ?_)))
  clear hrow
  have b4 := (Below.refl w3.heap.size w3).alloc (Nat.le_refl _) (.cells #[.func (.func 23) #[] #[.pointer (some ⟨gb, 0, none⟩)], .int .i64 1] 69)
  have X : Hid (Blk (w3.alloc (.cells #[.func (.func 23) #[] #[.pointer (some ⟨gb, 0, none⟩)], .int .i64 1] 69)) w3.heap.size 69 #[.func (.func 23) #[] #[.pointer (some ⟨gb, 0, none⟩)], .int .i64 1]) := Lib.hid (Blk.new _ _ _)
  have V4 := Lib.hid (Blk.below V3.out b4 (Blk.lt V3.out))
  have H4 := Lib.hid (H3.out.below b4)
  have B4 := Lib.hid (B3.out.trans (b4.mono B3.out.size))
  clear V3 H3 B3 T3 b4
  generalize w3.alloc (.cells #[.func (.func 23) #[] #[.pointer (some ⟨gb, 0, none⟩)], .int .i64 1] 69) = w4 at *
  obtain ⟨gx, hgx⟩ : ∃ z, w3.heap.size = z := ⟨_, rfl⟩
  rw [hgx] at X ⊢
  clear hgx
  refine Calls.mono (ren1_any gb gl none l w4 V4.out H4.out) ?_
  rintro e wk ⟨he, rfl⟩
  obtain rfl : e = .returned (.bool false) := he
  have y1 := Blk.cell X.out 1
  simp at y1
  go_wp2_with fail
  go_ret
  exact ⟨rfl, B4.out⟩
theorem ltake_nost (gl : Nat) (l : LS) (w : World) (h : LsH gl w (.pointer none) l) (hq : l.nx = l.to) : Calls Try.prog 7 #[.pointer (some ⟨gl, 0, none⟩)] w fun e w' => e = .returned (.tuple #[.int .u64 0, .int .i64 1]) ∧ Below w.heap.size w w' := by
  have H0 := Lib.hid h
  obtain ⟨c0, c1, c2, c3, c4, c5⟩ := h.cells
  have q1 : (l.nx == l.to) = true := by simp [hq]
  clear h hq
  have RD := Lib.hid (renew_nost gl l w.drew (Blk.drew H0.out))
  go_enter Try.func7, Try.ntmps7
  go_wp2_with fail
  go_region
  go_wp2_with fail
  refine Calls.mono RD.out ?_
  rintro e w1 ⟨rfl, b1⟩
  have B1 := Lib.hid b1
  clear b1
  go_wp2_with fail
  exact bodyPost_ret (results_tmp2 rfl _ _ _) rfl ⟨rfl, (Below.refl w.heap.size w).drew.trans B1.out⟩
/-- no numbers, one error -/
theorem takes_none (p : Value) (e : Int) (w : World) (R : World → Prop) (hT : Calls Try.prog 7 #[p] w fun r w' => r = .returned (.tuple #[.int .u64 0, .int .i64 e]) ∧ R w') (he : ¬ e = 0) :
    Calls Try.prog 11 #[p, .int .i64 e, .slice none 0 0] w fun r w' => r = .returned (.bool true) ∧ R w' := by
  have HT := Lib.hid hT
  have h0 : (e == 0) = false := by simp [he]
  clear hT he
  go_enter Try.func11, Try.ntmps11
  go_wp2_with fail
  refine wp_loop_rounds 1 ?_
  rw [rounds_succ]
  go_wp2_with fail
  refine Calls.mono HT.out ?_
  rintro e w1 ⟨rfl, h1⟩
  have H1 := Lib.hid h1
  clear h1
  go_wp2_with fail
  go_ret
  exact ⟨rfl, H1.out⟩
end Go.Proofs.Ytibjafkclojimaa
