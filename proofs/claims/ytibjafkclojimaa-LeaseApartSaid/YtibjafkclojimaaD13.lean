
/- Layer 26: contract of newest. Conditions: as each theorem states them. -/
import Derived.Test.YtibjafkclojimaaD12
namespace Go.Proofs.Ytibjafkclojimaa
open Go.RowKit
/-- the newest record of two slots -/
noncomputable def newN (L0 L1 : List Int) : Int × CL × Int := stepN 1 L1 (stepN 0 L0 (-1, CL.zero, 0))
def NewPost (s : Int × CL × Int) (w : World) (e : Ending) (w' : World) : Prop :=
  ∃ A n cap ts, e = .returned (.tuple #[.int .i64 s.1, .agg #[.int .u64 s.2.1.ep, .int .u8 s.2.1.ow, .int .u64 s.2.1.nx, .int .u64 s.2.1.sn, .slice A n cap], .int .u64 s.2.2]) ∧ CIn w'.heap.size w' A n cap ts ∧ FrT w.heap.size A ts ∧ s.2.1.bs = bsT ts ∧ Below w.heap.size w w'
theorem results_new {w : World} {ga gb gc : Nat} {c0 c1 c2 c3 c4 a b : Value} {fn : Func} {x u v : Tmp} {tmps : Array Value} (hr : fn.results = #[.cell x 3, .cell u 31, .cell v 22]) (hx : tmps.getD x undef = .pointer (some ⟨ga, 0, none⟩)) (hu : tmps.getD u undef = .pointer (some ⟨gb, 0, none⟩)) (hv : tmps.getD v undef = .pointer (some ⟨gc, 0, none⟩))
    (h1 : Blk w ga 3 #[a]) (h2 : Blk w gb 31 #[c0, c1, c2, c3, c4]) (h3 : Blk w gc 22 #[b]) :
    (results fn tmps).run Try.prog w = .ok (.tuple #[a, .agg #[c0, c1, c2, c3, c4], b]) w := by
  obtain ⟨a0, a1, a2, a3, a4⟩ := cb_cells h2
  have b0 := Blk.cell h1 0
  have d0 := Blk.cell h3 0
  simp at b0 d0
  have hx' : tmps[x]?.getD undef = .pointer (some ⟨ga, 0, none⟩) := by simpa using hx
  have hu' : tmps[u]?.getD undef = .pointer (some ⟨gb, 0, none⟩) := by simpa using hu
  have hv' : tmps[v]?.getD undef = .pointer (some ⟨gc, 0, none⟩) := by simpa using hv
  simp [results, hr, hx', hu', hv', go_sem, a0, a1, a2, a3, a4, b0, d0]
set_option maxRecDepth 100000 in
set_option maxHeartbeats 8000000 in
theorem newest_any (g : Nat) (L0 L1 : List Int) (w : World) (h0 : Slot w.heap.size g 0 L0 w) (h1 : Slot w.heap.size g 1 L1 w) (hg : g < w.heap.size) (hb0 : Byt L0) (hb1 : Byt L1) (hl0 : L0.length ≤ 1000000000000) (hl1 : L1.length ≤ 1000000000000) :
    Calls Try.prog 14 #[.pointer (some ⟨g, 0, none⟩)] w (NewPost (newN L0 L1) w) := by
  have S0 := Lib.hid h0
  have S1 := Lib.hid h1
  have HB0 := Lib.hid hb0
  have HB1 := Lib.hid hb1
  have F0 : Hid (LkF w.heap.size g (-1, CL.zero, 0) none 0 0 [] ((((w.alloc (.cells #[.pointer (some ⟨g, 0, none⟩)] 25)).alloc (.cells #[.int .i64 (-1)] 3)).alloc (.cells #[.int .u64 0, .int .u8 0, .int .u64 0, .int .u64 0, .slice none 0 0] 31)).alloc (.cells #[.int .u64 0] 22))) := Lib.hid ⟨(((Blk.new _ _ _).alloc _).alloc _).alloc _, ((blk_new_at (by simp)).alloc _).alloc _, (blk_new_at (by simp)).alloc _, blk_new_at (by simp), ⟨rfl, Nat.le_refl _, Txs.nil, fun t ht => by cases ht⟩, ⟨(fun ad e => by cases e), (fun t ht => by cases ht)⟩, by rw [bsT_nil]; rfl⟩
  have B0 : Hid (Below w.heap.size w ((((w.alloc (.cells #[.pointer (some ⟨g, 0, none⟩)] 25)).alloc (.cells #[.int .i64 (-1)] 3)).alloc (.cells #[.int .u64 0, .int .u8 0, .int .u64 0, .int .u64 0, .slice none 0 0] 31)).alloc (.cells #[.int .u64 0] 22))) := Lib.hid (((((Below.refl _ _).alloc (Nat.le_refl _) _).alloc (by simp) _).alloc (by simp; omega) _).alloc (by simp; omega) _)
  clear h0 h1 hb0 hb1
  go_enter Try.func14, Try.ntmps14
  go_wp2_with fail
  generalize ((((w.alloc (.cells #[.pointer (some ⟨g, 0, none⟩)] 25)).alloc (.cells #[.int .i64 (-1)] 3)).alloc (.cells #[.int .u64 0, .int .u8 0, .int .u64 0, .int .u64 0, .slice none 0 0] 31)).alloc (.cells #[.int .u64 0] 22)) = v0 at *
  obtain ⟨N, hN⟩ : ∃ N, w.heap.size = N := ⟨_, rfl⟩
  have HN := Lib.hid hN
  rw [hN] at S0 S1 hg F0 B0 ⊢
  clear hN
  refine Calls.mono (look_any N g 0 _ none 0 0 [] L0 _ (.inl rfl) F0.out (S0.out.below B0.out hg (Nat.le_refl _)) hg HB0.out hl0) ?_
  rintro e v1 ⟨rfl, ⟨A1, n1, cap1, ts1, f1⟩, b1⟩
  have F1 := Lib.hid f1
  have B1 := Lib.hid (B0.out.trans b1)
  clear f1 b1 F0 B0
  go_wp2_with fail
  refine Calls.mono (look_any N g 1 _ A1 n1 cap1 ts1 L1 _ (.inr rfl) F1.out (S1.out.below B1.out hg (Nat.le_refl _)) hg HB1.out hl1) ?_
  rintro e v2 ⟨rfl, ⟨A2, n2, cap2, ts2, f2⟩, b2⟩
  have B2 := Lib.hid (B1.out.trans b2)
  have HE : Hid (stepN ((1 : Nat) : Int) L1 (stepN ((0 : Nat) : Int) L0 (-1, CL.zero, 0)) = newN L0 L1) := Lib.hid rfl
  rw [HE.out] at f2
  generalize newN L0 L1 = s at *
  have F2 := Lib.hid f2
  clear f2 b2 F1 B1 S0 S1
  obtain ⟨sl, sc, sk⟩ := s
  go_wp2_with fail
  have hne : Nonempty (CW (LkF N g (sl, sc, sk) A2 n2 cap2 ts2)) := CW.inh F2.out
  have a1 : ∀ r : CW (LkF N g (sl, sc, sk) A2 n2 cap2 ts2), r.world.cell? ⟨N + 1, 0, none⟩ = some (.int .i64 sl) := fun r => by simpa using Blk.cell r.holds.sl 0
  have a3 : ∀ r : CW (LkF N g (sl, sc, sk) A2 n2 cap2 ts2), r.world.cell? ⟨N + 1 + 1 + 1, 0, none⟩ = some (.int .u64 sk) := fun r => by simpa using Blk.cell r.holds.cn 0
  refine wp_region_mixO (fun w' => ∃ r : CW (LkF N g (sl, sc, sk) A2 n2 cap2 ts2), w' = r.world) [([0, 1, 2], 3), ([], 4), ([], 5)] (by kernel_rfl) (by kernel_rfl) (by kernel_rfl) (by kernel_rfl) (by kernel_rfl) ⟨CW.mk' (show LkF _ _ _ _ _ _ _ v2.drew from F2.out.below (Below.refl _ _).drew), rfl⟩ ?_
  try (rw [put_none])
  simp only [pickL, List.map_cons, List.map_nil, List.filterMap_cons, List.filterMap_nil, List.getElem?_cons_succ, List.getElem?_cons_zero]
  refine mixO_cons ?_
  show wpQuiet _ _ _ _ (_ :: _) _
  go_big_quiet_step (fail)
  show wpQuiet _ _ _ _ (_ :: _) _
  refine wpQuiet_loadV (o := ⟨some 12, _, _, _, _, _⟩) rfl _ rfl rfl (fun w' hw' => by obtain ⟨r, rfl⟩ := hw'; exact cb_load r.holds.cl) ?_
  simp only [Act.put, List.setIfInBounds_toArray, List.set_cons_zero, List.set_cons_succ]
  repeat (show wpQuiet _ _ _ _ (_ :: _) _; go_big_quiet_step (fail))
  refine wpQuiet_nil ?_
  show wpList _ _ _ [_] _ _
  have F3 := Lib.hid (F2.out.below (Below.refl v2.heap.size v2).drew)
  have B3 := Lib.hid (B2.out.trans (Below.refl N v2).drew)
  clear a1 a3
  generalize v2.drew = v3 at *
  have a1 := Blk.cell F3.out.sl 0
  have g1 := F3.out.sl.frozen 0
  simp at a1
  have G4 : Hid (v3.grownBy (v3.setCell ⟨N + 1, 0, none⟩ (.int .i64 sl)) (some (N + 1))) := Lib.hid (only_setCell (World.grownBy.refl _ _) (.inl rfl) _)
  have K4 : Hid (Blk (v3.setCell ⟨N + 1, 0, none⟩ (.int .i64 sl)) (N + 1) 3 #[.int .i64 sl]) := Lib.hid (Blk.cast (F3.out.sl.set_ 0 _) (by simp))
  have hNv : N + 1 + 1 + 1 < v3.heap.size := F3.out.cn.lt
  have FR := Lib.hid F3.out.fr
  have BS := Lib.hid F3.out.bs
  have C3 := Lib.hid F3.out.ci
  go_wp2_with fail
  generalize v3.setCell ⟨N + 1, 0, none⟩ (.int .i64 sl) = w4 at *
  have hz4 := G4.out.size
  have P4 := Lib.hid (F3.out.ps.grown G4.out (by intro q; injection q; omega))
  have L4 := Lib.hid (F3.out.cl.grown G4.out (by intro q; injection q; omega))
  have N4 := Lib.hid (F3.out.cn.grown G4.out (by intro q; injection q; omega))
  have C4 := Lib.hid ((C3.out.grownLo FR.out G4.out (by omega) (Nat.le_refl _)).mono hz4)
  have B4 := Lib.hid (B3.out.trans (below_of_only (B := N) G4.out (by omega) (by omega)))
  have F4 : Hid (LkF N g (sl, sc, sk) A2 n2 cap2 ts2 w4) := Lib.hid ⟨P4.out, K4.out, L4.out, N4.out, C4.out, FR.out, BS.out⟩
  clear F3 C3 B3 G4 a1 g1
  refine MixO.narrow (fun _ h => h) ⟨CW.mk' (show LkF _ _ _ _ _ _ _ w4 from F4.out), rfl⟩ ?_
  refine mixO_cons ?_
  refine wpQuiet_nil ?_
  show wpList _ _ _ [_] _ _
  go_wp2_with ((with_reducible (show wpList _ _ _ (⟨none, .store 31 _ _, _, _, _, _⟩ :: _) _ _)); go_loud (refine wpList_storeBlk (o := ⟨none, .store 31 _ _, _, _, _, _⟩) (g := N + 1 + 1) (t := 31) (vs := [.int .u64 sc.ep, .int .u8 sc.ow, .int .u64 sc.nx, .int .u64 sc.sn, .slice A2 n2 cap2]) rfl _ _ rfl rfl rfl L4.out rfl (one5 rfl rfl rfl rfl rfl) size5 ?_); intro w5 z5 g5; have Z5 := Lib.hid z5; have G5 := Lib.hid g5; clear z5 g5)
  have hz5 := G5.out.size
  have P5 := Lib.hid (P4.out.grown G5.out (by intro q; injection q; omega))
  have K5 := Lib.hid (K4.out.grown G5.out (by intro q; injection q; omega))
  have N5 := Lib.hid (N4.out.grown G5.out (by intro q; injection q; omega))
  have C5 := Lib.hid ((C4.out.grownLo FR.out G5.out (by omega) (Nat.le_refl _)).mono hz5)
  have B5 := Lib.hid (B4.out.trans (below_of_only (B := N) G5.out (by omega) (by omega)))
  have F5 : Hid (LkF N g (sl, sc, sk) A2 n2 cap2 ts2 w5) := Lib.hid ⟨P5.out, K5.out, Z5.out, N5.out, C5.out, FR.out, BS.out⟩
  clear P4 L4 N4 C4 B4 K4 G5 F4
  refine MixO.narrow (fun _ h => h) ⟨CW.mk' (show LkF _ _ _ _ _ _ _ w5 from F5.out), rfl⟩ ?_
  refine mixO_cons ?_
  refine wpQuiet_nil ?_
  show wpList _ _ _ [_] _ _
  have a3 := Blk.cell N5.out 0
  have g3 := N5.out.frozen 0
  simp at a3
  have G6 : Hid (w5.grownBy (w5.setCell ⟨N + 1 + 1 + 1, 0, none⟩ (.int .u64 sk)) (some (N + 1 + 1 + 1))) := Lib.hid (only_setCell (World.grownBy.refl _ _) (.inl rfl) _)
  have K6 : Hid (Blk (w5.setCell ⟨N + 1 + 1 + 1, 0, none⟩ (.int .u64 sk)) (N + 1 + 1 + 1) 22 #[.int .u64 sk]) := Lib.hid (Blk.cast (N5.out.set_ 0 _) (by simp))
  go_wp2_with fail
  refine MixO.last ?_
  refine mixO_nil ?_
  refine wpQuiet_nil ?_
  refine NoPanic.normal ?_
  generalize w5.setCell ⟨N + 1 + 1 + 1, 0, none⟩ (.int .u64 sk) = w6 at *
  have hz6 := G6.out.size
  have K6' := Lib.hid (K5.out.grown G6.out (by intro q; injection q; omega))
  have Z6 := Lib.hid (Z5.out.grown G6.out (by intro q; injection q; omega))
  have C6 := Lib.hid ((C5.out.grownLo FR.out G6.out (by omega) (Nat.le_refl _)).mono hz6)
  have B6 := Lib.hid (B5.out.trans (below_of_only (B := N) G6.out (by omega) (by omega)))
  clear hne F5 P5 K5 N5 C5 B5 Z5 a3 g3 G6
  go_wp2_with fail
  exact bodyPost_ret (results_new rfl rfl rfl rfl K6'.out Z6.out K6.out) rfl ⟨A2, n2, cap2, ts2, rfl, C6.out, FR.out.mono (by rw [HN.out]; omega), BS.out, by rw [HN.out]; exact B6.out⟩
end Go.Proofs.Ytibjafkclojimaa
