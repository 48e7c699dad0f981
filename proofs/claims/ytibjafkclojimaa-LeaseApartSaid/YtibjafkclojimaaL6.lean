/- Layer 27: contract of Take. Conditions: as each theorem states them. -/
import Derived.Test.YtibjafkclojimaaL5
namespace Go.Proofs.Ytibjafkclojimaa
open Go.RowKit
section
variable {l : LS} {s : SS}
theorem takP_a (h : ¬ l.nx = l.to) : takP l s = (l.nx, 0, ⟨l.ow, l.ep, l.bl, l.nx + 1, l.to⟩, s) := by unfold takP; rw [if_neg h]
theorem takP_e (h : l.nx = l.to) (h2 : ¬ (renP l s).1 = 0) : takP l s = (0, (renP l s).1, l, (renP l s).2.2) := by unfold takP; rw [if_pos h, if_neg h2]
theorem takP_o (h : l.nx = l.to) (h2 : (renP l s).1 = 0) : takP l s = ((renP l s).2.1.nx, 0, ⟨(renP l s).2.1.ow, (renP l s).2.1.ep, (renP l s).2.1.bl, (renP l s).2.1.nx + 1, (renP l s).2.1.to⟩, (renP l s).2.2) := by unfold takP; rw [if_pos h, if_pos h2]
end
def TakPost (gl g : Nat) (r : Int × Int × LS × SS) (w : World) (e : Ending) (w' : World) : Prop :=
  e = .returned (.tuple #[.int .u64 r.1, .int .i64 r.2.1]) ∧ LsH gl w' (.pointer (some ⟨g, 0, none⟩)) r.2.2.1 ∧ StH g w' r.2.2.2 ∧ ∃ w1, w.grownBy w1 (some g) ∧ w1.grownBy w' (some gl)
attribute [local irreducible] CL.rcd CL.size takeL newN wrS LastI CL.May lc StH renP wrP takP
set_option maxRecDepth 100000 in
set_option maxHeartbeats 8000000 in
theorem ltake_any (gl g : Nat) (l : LS) (s : SS) (w : World) (h : LsH gl w (.pointer (some ⟨g, 0, none⟩)) l) (hs : StH g w s) (hc : COk s.ep s.ow s.nx) (hN : s.N < 1000) (hb0 : 0 ≤ l.bl) (hb1 : l.bl ≤ 1000) (hn0 : 0 ≤ l.nx) (hn1 : l.nx ≤ 4611686018427387904) :
    Calls Try.prog 7 #[.pointer (some ⟨gl, 0, none⟩)] w (TakPost gl g (takP l s) w) := by
  have H0 := Lib.hid h
  have S0 := Lib.hid hs
  have HC := Lib.hid hc
  obtain ⟨c0, c1, c2, c3, c4, c5⟩ := h.cells
  have f4 := Blk.frozen h 4
  have HNE : Hid (gl ≠ g) := Lib.hid (by
    obtain ⟨cs, hk⟩ := hs.blk
    exact Blk.ne_ h hk (by decide))
  clear h hs hc
  by_cases q : l.nx = l.to
  · have q1 : (l.nx == l.to) = true := by simp [q]
    have HQ := Lib.hid q
    clear q
    have RD := Lib.hid (renew_any gl g l s w.drew (Blk.drew H0.out) (S0.out.below (Below.refl w.heap.size w).drew) HC.out hN hb0 hb1)
    go_enter Try.func7, Try.ntmps7
    go_wp2_with fail
    go_region
    go_wp2_with fail
    clear c0 c1 c2 c3 c4 c5 f4 q1
    refine Calls.mono RD.out ?_
    clear RD
    rintro e w1 ⟨rfl, h1, s1, w2, g2, g1⟩
    have H1 := Lib.hid h1
    have S1 := Lib.hid s1
    have G2 : Hid (w.grownBy w2 (some g)) := Lib.hid (grown_cat (only_of_below (Below.refl w.heap.size w).drew (some g)) g2)
    have G1 := Lib.hid g1
    clear h1 s1 g2 g1
    by_cases z : (renP l s).1 = 0
    · have ET := Lib.hid (takP_o HQ.out z)
      have EO := (renP_ok z)
      have z1 : ((renP l s).1 != 0) = false := by simp [z]
      generalize renP l s = r at *
      obtain ⟨re, ⟨a1, a2, a3, a4, a5⟩, rs⟩ := r
      simp only at z
      subst z
      have hb4 : 0 ≤ a4 ∧ a4 ≤ 4611686018427387904 := by
        have e1 := congrArg (fun x => x.2.1.nx) EO.1
        simp only at e1
        rw [e1]
        exact ⟨HC.out.n0, HC.out.n1⟩
      clear EO
      obtain ⟨c0, c1, c2, c3, c4, c5⟩ := H1.out.cells
      have f4 := Blk.frozen H1.out 4
      have hw : IntKind.u64.wrap (a4 + 1) = a4 + 1 := by rw [IntKind.wrap_u64]; omega
      simp only at c0 c1 c2 c3 c4 c5
      have G3 : Hid (w1.grownBy (w1.setCell ⟨gl, 4, none⟩ (.int .u64 (a4 + 1))) (some gl)) := Lib.hid (only_setCell (p := ⟨gl, 4, none⟩) (World.grownBy.refl w1 (some gl)) (.inl rfl) _)
      have H3 : Hid (LsH gl (w1.setCell ⟨gl, 4, none⟩ (.int .u64 (a4 + 1))) (.pointer (some ⟨g, 0, none⟩)) ⟨a1, a2, a3, a4 + 1, a5⟩) := Lib.hid (Blk.cast (Blk.set_ H1.out 4 (.int .u64 (a4 + 1))) (by simp [LS.cs]))
      have S3 := Lib.hid (S1.out.grown G3.out HNE.out (Blk.notU8 H1.out (by decide)))
      go_wp2_with fail
      refine bodyPost_ret (results_tmp2 rfl _ _ _) rfl ?_
      rw [ET.out]
      exact ⟨rfl, H3.out, S3.out, w2, G2.out, grown_cat G1.out G3.out⟩
    · have ET := Lib.hid (takP_e HQ.out z)
      have EL := Lib.hid (renP_err z).1
      have z1 : ((renP l s).1 != 0) = true := by simp [z]
      go_wp2_with fail
      refine bodyPost_ret (results_tmp2 rfl _ _ _) rfl ?_
      rw [ET.out]
      exact ⟨rfl, by have := H1.out; rw [EL.out] at this; exact this, S1.out, w2, G2.out, G1.out⟩
  · have q1 : (l.nx == l.to) = false := by simp [q]
    have ET := Lib.hid (takP_a (s := s) q)
    clear q
    have hw : IntKind.u64.wrap (l.nx + 1) = l.nx + 1 := by rw [IntKind.wrap_u64]; omega
    have G3 : Hid (w.grownBy (w.drew.setCell ⟨gl, 4, none⟩ (.int .u64 (l.nx + 1))) (some gl)) := Lib.hid (only_setCell (p := ⟨gl, 4, none⟩) (grown_drew (World.grownBy.refl w (some gl))) (.inl rfl) _)
    have H3 : Hid (LsH gl (w.drew.setCell ⟨gl, 4, none⟩ (.int .u64 (l.nx + 1))) (.pointer (some ⟨g, 0, none⟩)) ⟨l.ow, l.ep, l.bl, l.nx + 1, l.to⟩) := Lib.hid (Blk.cast (Blk.set_ (Blk.drew H0.out) 4 (.int .u64 (l.nx + 1))) (by simp [LS.cs]))
    have S3 := Lib.hid (S0.out.grown G3.out HNE.out (Blk.notU8 H0.out (by decide)))
    go_enter Try.func7, Try.ntmps7
    go_wp2_with fail
    go_region
    go_wp2_with fail
    refine bodyPost_ret (results_tmp2 rfl _ _ _) rfl ?_
    rw [ET.out]
    exact ⟨rfl, H3.out, S3.out, w, World.grownBy.refl _ _, G3.out⟩
theorem ltake_nil (w : World) : Calls Try.prog 7 #[.pointer none] w fun e w' => e = .returned (.tuple #[.int .u64 0, .int .i64 1]) ∧ w = w' := by
  go_enter Try.func7, Try.ntmps7
  go_wp2_with fail
  exact bodyPost_ret (results_tmp2 rfl _ _ _) rfl ⟨rfl, rfl⟩
end Go.Proofs.Ytibjafkclojimaa
