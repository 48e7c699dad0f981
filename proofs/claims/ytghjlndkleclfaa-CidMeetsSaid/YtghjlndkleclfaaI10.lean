/- Layer 20: contract of copied. Conditions: as each theorem states them. -/
import Derived.Test.YtghjlndkleclfaaI9
namespace Go.Proofs.Ytghjlndkleclfaa
open Go.RowKit
theorem EntR.mono {B B' : Nat} {w : World} {v : Value} {l : List CX} (h : EntR B w v l) (hB : B' ≤ B) : EntR B' w v l := ⟨⟨h.1.1, h.1.2.imp id (fun ⟨g, cap, cur, h1, h2, h3⟩ => ⟨g, cap, cur, h1, by omega, h3⟩)⟩, h.2⟩
theorem sizeId : (Try.prog.info? 45).map (·.size) = some 6 := by kernel_rfl
theorem id_load {g : Nat} {c0 c1 c2 c3 c4 c5 : Value} {v : World} (h : Blk v g 45 #[c0, c1, c2, c3, c4, c5]) : (Instr.loadAt 45 (.pointer (some ⟨g, 0, none⟩))).run Try.prog v = .ok (.agg #[c0, c1, c2, c3, c4, c5]) v :=
  blk_load h Try.underlying45 rfl sizeId
/-- a block of ids as it stands -/
def IdB (g : Nat) (cs : Array Value) (w : World) : Prop := Blk w g 45 cs
set_option maxRecDepth 100000 in
set_option maxHeartbeats 4000000 in
theorem copied_any (B g : Nat) (vo vp : Value) (s : IS) (w : World) (h : IdR B g w vo vp s) (l1 : s.own.length ≤ 1000) (l2 : s.peer.length ≤ 1000) (l3 : s.ret.length ≤ 1000) :
    Calls Try.prog 23 #[.pointer (some ⟨g, 0, none⟩)] w fun e w' => ∃ gc vo' vp', e = .returned (.pointer (some ⟨gc, 0, none⟩)) ∧ IdV w.heap.size gc w' vo' vp' s ∧ w.heap.size ≤ gc ∧ Below w.heap.size w w' := by
  obtain ⟨Ao, co, hvo, _⟩ := own_form h.own.1
  obtain ⟨Ap, cp, hvp, _⟩ := own_form h.peer.1
  subst hvo
  subst hvp
  obtain ⟨no, hno⟩ : ∃ z, s.own.length = z := ⟨_, rfl⟩
  obtain ⟨np, hnp⟩ : ∃ z, s.peer.length = z := ⟨_, rfl⟩
  have HNO := Lib.hid hno
  have HNP := Lib.hid hnp
  rw [hno, hnp] at h
  rw [hno] at l1
  rw [hnp] at l2
  clear hno hnp
  obtain ⟨vr, k1, k2⟩ := h.blk
  obtain ⟨Ar, nr, cr, rfl, k3⟩ := k2
  have K1 := Lib.hid k1
  have R1 := Lib.hid k3
  have O1 := Lib.hid h.own
  have P1 := Lib.hid h.peer
  have hnr := k3.len
  have HNR := Lib.hid hnr
  clear h k1 k3
  have hnr2 : nr ≤ 1000 := by omega
  clear hnr
  have bb := (Below.refl w.heap.size w).alloc (Nat.le_refl _) (.cells #[.slice Ao no co, .int .u64 s.nx, .slice Ap np cp, .int .u64 s.us, .int .u64 s.pr, .slice Ar nr cr] 45)
  have C2 : Hid (Blk (w.alloc (.cells #[.slice Ao no co, .int .u64 s.nx, .slice Ap np cp, .int .u64 s.us, .int .u64 s.pr, .slice Ar nr cr] 45)) w.heap.size 45 #[.slice Ao no co, .int .u64 s.nx, .slice Ap np cp, .int .u64 s.us, .int .u64 s.pr, .slice Ar nr cr]) := Lib.hid (Blk.new _ _ _)
  have K2 := Lib.hid (Blk.below K1.out bb (Blk.lt K1.out))
  have R2 := Lib.hid (R1.out.below bb)
  have O2 := Lib.hid (O1.out.below bb)
  have P2 := Lib.hid (P1.out.below bb)
  have B2 := Lib.hid bb
  have HLG : Hid (g < w.heap.size) := Lib.hid (Blk.lt K1.out)
  clear bb
  go_enter Try.func23, Try.ntmps23
  go_wp2_with ((with_reducible (show wpList _ _ _ (⟨some 6, .load _ _, _, _, _, _⟩ :: _) _ _)); refine wpList_loadV (o := ⟨some 6, .load _ _, _, _, _, _⟩) rfl _ rfl rfl (id_load K1.out) ?_)
  clear K1 R1 O1 P1
  generalize w.alloc (.cells #[.slice Ao no co, .int .u64 s.nx, .slice Ap np cp, .int .u64 s.us, .int .u64 s.pr, .slice Ar nr cr] 45) = w2 at *
  obtain ⟨gc, hgc⟩ : ∃ z, w.heap.size = z := ⟨_, rfl⟩
  have HGC := Lib.hid hgc
  rw [hgc] at C2 ⊢
  clear hgc
  have hcw : IdB g #[.slice Ao no co, .int .u64 s.nx, .slice Ap np cp, .int .u64 s.us, .int .u64 s.pr, .slice Ar nr cr] w2.drew := Blk.drew K2.out
  have e0 : ∀ r : CW (IdB g #[.slice Ao no co, .int .u64 s.nx, .slice Ap np cp, .int .u64 s.us, .int .u64 s.pr, .slice Ar nr cr]), r.world.cell? ⟨g, 0, none⟩ = some (.slice Ao no co) := fun r => Blk.cell r.holds 0
  have e2 : ∀ r : CW (IdB g #[.slice Ao no co, .int .u64 s.nx, .slice Ap np cp, .int .u64 s.us, .int .u64 s.pr, .slice Ar nr cr]), r.world.cell? ⟨g, 2, none⟩ = some (.slice Ap np cp) := fun r => Blk.cell r.holds 2
  have e5 : ∀ r : CW (IdB g #[.slice Ao no co, .int .u64 s.nx, .slice Ap np cp, .int .u64 s.us, .int .u64 s.pr, .slice Ar nr cr]), r.world.cell? ⟨g, 5, none⟩ = some (.slice Ar nr cr) := fun r => Blk.cell r.holds 5
  have hne : Nonempty (CW (IdB g #[.slice Ao no co, .int .u64 s.nx, .slice Ap np cp, .int .u64 s.us, .int .u64 s.pr, .slice Ar nr cr])) := CW.inh hcw
  refine wp_region_mixO (fun w' => ∃ r : CW (IdB g #[.slice Ao no co, .int .u64 s.nx, .slice Ap np cp, .int .u64 s.us, .int .u64 s.pr, .slice Ar nr cr]), w' = r.world) [([0, 1, 2, 3, 4, 6, 7, 8, 9, 10, 12, 13, 14, 15, 16], 5), ([], 11), ([], 17), ([18, 19], 20), ([21, 22], 23), ([24, 25], 26)] (by kernel_rfl) (by kernel_rfl) (by kernel_rfl) (by kernel_rfl) (by kernel_rfl) ⟨CW.mk' hcw, rfl⟩ ?_
  try (rw [put_none])
  simp only [pickL, List.map_cons, List.map_nil, List.filterMap_cons, List.filterMap_nil, List.getElem?_cons_succ, List.getElem?_cons_zero]
  refine mixO_cons ?_
  repeat (show wpQuiet _ _ _ _ (_ :: _) _; go_big_quiet_step (fail))
  refine wpQuiet_nil ?_
  show wpList _ _ _ [_] _ _
  clear hcw e0 e2 e5
  have K3 := Lib.hid (Blk.drew K2.out)
  have C3 := Lib.hid (Blk.drew C2.out)
  have R3 := Lib.hid (R2.out.below (Below.refl w2.heap.size w2).drew)
  have O3 := Lib.hid (O2.out.below (Below.refl w2.heap.size w2).drew)
  have P3 := Lib.hid (P2.out.below (Below.refl w2.heap.size w2).drew)
  have B3 := Lib.hid B2.out.drew
  clear K2 C2 R2 O2 P2 B2
  go_wp2_with fail
  generalize w2.drew = w3 at *
  refine Calls.mono (clone_ent B (.slice Ao no co) s.own w3 O3.out (by rw [HNO.out]; omega)) ?_
  rintro e w4 ⟨vo2, rfl, o4, b4⟩
  have HZ4 : Hid (w3.heap.size ≤ w4.heap.size) := Lib.hid b4.size
  have N4 := Lib.hid o4
  have K4 := Lib.hid (Blk.below K3.out b4 (Blk.lt K3.out))
  have C4 := Lib.hid (Blk.below C3.out b4 (Blk.lt C3.out))
  have R4 := Lib.hid (R3.out.below b4)
  have P4 := Lib.hid (P3.out.below b4)
  have B4 := Lib.hid (B3.out.trans (b4.mono B3.out.size))
  have HS3 : Hid (w.heap.size ≤ w3.heap.size) := Lib.hid B3.out.size
  clear K3 C3 R3 O3 P3 B3 o4 b4
  go_wp2_with fail
  refine MixO.narrow (fun _ h => h) (⟨CW.mk' (show IdB g _ w4 from K4.out), rfl⟩) ?_
  refine mixO_cons ?_
  refine wpQuiet_nil ?_
  show wpList _ _ _ [_] _ _
  go_wp2_with fail
  refine Calls.mono (clone_ent B (.slice Ap np cp) s.peer w4 P4.out (by rw [HNP.out]; omega)) ?_
  rintro e w5 ⟨vp2, rfl, o5, b5⟩
  have M5 := Lib.hid o5
  have N5 := Lib.hid (N4.out.below b5)
  have K5 := Lib.hid (Blk.below K4.out b5 (Blk.lt K4.out))
  have C5 := Lib.hid (Blk.below C4.out b5 (Blk.lt C4.out))
  have R5 := Lib.hid (R4.out.below b5)
  have B5 := Lib.hid (B4.out.trans (b5.mono B4.out.size))
  have HAP : Hid (∀ k, vo2.ownBlock = some k → vp2.ownBlock ≠ some k) := Lib.hid (fun k hk q => by
    have h1 := (N4.out.1.lt k hk).2
    have h2 := (M5.out.1.lt k q).1
    omega)
  have HS4 : Hid (w.heap.size ≤ w4.heap.size) := Lib.hid B4.out.size
  clear K4 C4 R4 P4 B4 o5 b5 N4
  go_wp2_with fail
  refine MixO.narrow (fun _ h => h) (⟨CW.mk' (show IdB g _ w5 from K5.out), rfl⟩) ?_
  refine mixO_cons ?_
  refine wpQuiet_nil ?_
  show wpList _ _ _ [_] _ _
  go_wp2_with fail
  refine Calls.mono (clone_u64 Ar nr cr s.ret w5 R5.out.rd HNR.out (by omega)) ?_
  rintro e w6 ⟨Ar2, nr2, cr2, rfl, o6, b6⟩
  have Q6 := Lib.hid o6
  have M6 := Lib.hid (M5.out.below b6)
  have N6 := Lib.hid (N5.out.below b6)
  have K6 := Lib.hid (Blk.below K5.out b6 (Blk.lt K5.out))
  have C6 := Lib.hid (Blk.below C5.out b6 (Blk.lt C5.out))
  have B6 := Lib.hid (B5.out.trans (b6.mono B5.out.size))
  have HS5 : Hid (w.heap.size ≤ w5.heap.size) := Lib.hid B5.out.size
  clear K5 C5 R5 B5 o6 b6 M5 N5
  go_wp2_with fail
  refine MixO.narrow (fun _ h => h) (⟨CW.mk' (show IdB g _ w6 from K6.out), rfl⟩) ?_
  refine mixO_cons ?_
  repeat (show wpQuiet _ _ _ _ (_ :: _) _; go_big_quiet_step (fail))
  refine wpQuiet_nil ?_
  show wpList _ _ _ [_] _ _
  obtain ⟨Ao2, co2, hv1, _⟩ := own_form N6.out.1
  obtain ⟨Ap2, cp2, hv2, _⟩ := own_form M6.out.1
  subst hv1
  subst hv2
  have c0 := Blk.cell C6.out 0
  have c2 := Blk.cell C6.out 2
  have c5 := Blk.cell C6.out 5
  have f0 := Blk.frozen C6.out 0
  have f2 := Blk.frozen C6.out 2
  have f5 := Blk.frozen C6.out 5
  simp at c0 c2 c5
  have HNE : Hid (g ≠ gc) := Lib.hid (by have := HGC.out; have := HLG.out; omega)
  go_wp2_with fail
  refine MixO.narrow (fun _ h => h) (⟨CW.mk' (show IdB g _ (w6.setCell ⟨gc, 0, none⟩ (.slice Ao2 s.own.length co2)) from Blk.far K6.out (p := ⟨gc, 0, none⟩) HNE.out _), rfl⟩) ?_
  refine mixO_cons ?_
  repeat (show wpQuiet _ _ _ _ (_ :: _) _; go_big_quiet_step (fail))
  refine wpQuiet_nil ?_
  show wpList _ _ _ [_] _ _
  go_wp2_with fail
  refine MixO.narrow (fun _ h => h) (⟨CW.mk' (show IdB g _ ((w6.setCell ⟨gc, 0, none⟩ (.slice Ao2 s.own.length co2)).setCell ⟨gc, 2, none⟩ (.slice Ap2 s.peer.length cp2)) from Blk.far (Blk.far K6.out (p := ⟨gc, 0, none⟩) HNE.out _) (p := ⟨gc, 2, none⟩) HNE.out _), rfl⟩) ?_
  refine mixO_cons ?_
  repeat (show wpQuiet _ _ _ _ (_ :: _) _; go_big_quiet_step (fail))
  refine wpQuiet_nil ?_
  show wpList _ _ _ [_] _ _
  go_wp2_with fail
  refine MixO.last ?_
  refine mixO_nil ?_
  refine wpQuiet_nil ?_
  refine NoPanic.normal ?_
  clear c0 c2 c5 f0 f2 f5 hne
  have G7 : Hid (w6.grownBy (((w6.setCell ⟨gc, 0, none⟩ (.slice Ao2 s.own.length co2)).setCell ⟨gc, 2, none⟩ (.slice Ap2 s.peer.length cp2)).setCell ⟨gc, 5, none⟩ (.slice Ar2 nr2 cr2)) (some gc)) := Lib.hid (only_setCell (p := ⟨gc, 5, none⟩) (only_setCell (p := ⟨gc, 2, none⟩) (only_setCell (p := ⟨gc, 0, none⟩) (World.grownBy.refl w6 (some gc)) (.inl rfl) _) (.inl rfl) _) (.inl rfl) _)
  have C7 : Hid (Blk (((w6.setCell ⟨gc, 0, none⟩ (.slice Ao2 s.own.length co2)).setCell ⟨gc, 2, none⟩ (.slice Ap2 s.peer.length cp2)).setCell ⟨gc, 5, none⟩ (.slice Ar2 nr2 cr2)) gc 45 #[.slice Ao2 s.own.length co2, .int .u64 s.nx, .slice Ap2 s.peer.length cp2, .int .u64 s.us, .int .u64 s.pr, .slice Ar2 nr2 cr2]) := Lib.hid (Blk.cast (((Blk.set_ C6.out 0 _).set_ 2 _).set_ 5 _) (by simp))
  go_wp2_with fail
  go_ret
  have hz := HGC.out
  have q6 : Own w.heap.size 27 .u64 w6 Ar2 nr2 cr2 s.ret := Q6.out.mono HS5.out
  have n7 := (N6.out.mono HS3.out).grown G7.out (row_ne N6.out (C6.out.notT (by decide))) (C6.out.notT (by decide))
  have m7 := (M6.out.mono HS4.out).grown G7.out (row_ne M6.out (C6.out.notT (by decide))) (C6.out.notT (by decide))
  exact ⟨gc, _, _, rfl, ⟨⟨_, C7.out, Ar2, nr2, cr2, rfl, row_kept q6.1 G7.out (C6.out.notT (by decide)), q6.2⟩, n7, m7, HAP.out⟩, by omega, B6.out.trans (below_of_only G7.out (by omega) B6.out.size)⟩
end Go.Proofs.Ytghjlndkleclfaa
