/- Contracts (layer 29): short, Id. Conditions: as each theorem states them. -/
import Derived.Test.YtlefnddhmpgijaaR1
import Derived.Test.YtlefnddhmpgijaaH9
import Derived.Test.YtlefnddhmpgijaaBZ
namespace Go.Proofs.Ytlefnddhmpgijaa
open Go.RowKit
def SHL : List Int := [64] ++ List.replicate 40 0
theorem SHL_len : SHL.length = 41 := rfl
theorem SHL_byt : Byt SHL := Byt.append (by intro x hx; simp at hx; omega) (fun x hx => by rw [(List.mem_replicate.1 hx).2]; decide)
theorem SHL_split : (splitL SHL 8).isSome = true := by kernel_rfl
theorem SHL_eq : [64] ++ List.replicate 40 0 = SHL := rfl
attribute [irreducible] SHL
theorem results_dg {w : World} {g : Nat} {c0 c1 c2 : Value} {fn : Func} {x : Tmp} {tmps : Array Value} (hr : fn.results = #[.cell x 37]) (hx : tmps.getD x undef = .pointer (some ⟨g, 0, none⟩)) (h : Blk w g 37 #[c0, c1, c2]) :
    (results fn tmps).run Try.prog w = .ok (.agg #[c0, c1, c2]) w := by
  have a0 := Blk.cell h 0
  have a1 := Blk.cell h 1
  have a2 := Blk.cell h 2
  simp at a0 a1 a2
  have hx' : tmps[x]?.getD undef = .pointer (some ⟨g, 0, none⟩) := by simpa using hx
  simp [results, hr, hx', go_sem, a0, a1, a2]
set_option maxHeartbeats 1000000 in
theorem short_any (w : World) : Calls Try.prog 21 #[] w fun e w' => ∃ A c, e = .returned (.agg #[.int .u32 0, .int .u32 0, .slice A 41 c]) ∧ 41 ≤ c ∧ Rd w'.heap.size .u8 w' A SHL ∧ Below w.heap.size w w' := by
  have PD := Lib.hid (Blk.new w 37 #[.int .u32 0, .int .u32 0, .slice none 0 0])
  have HSE := Lib.hid SHL_eq
  go_enter Try.func21, Try.ntmps21
  go_wp2_with (at_builtin; refine wpList_appz (o := ⟨some 2, _, _, _, _, _⟩) (B := w.heap.size + 1) elU8 Try.underlying3 rfl _ _ rfl rfl rfl (Own.litAt (xs := [64]) (by simp) rfl rfl (by simp) (by simp [maxLen])) (by decide : 0 < 40) ?_ ?_ ?_; (simp); (simp); intro A1 n1 c1 w1 h1; have H1 := Lib.hid h1.1; have B1 : Hid (Below (w.heap.size + 1) (w.alloc (.cells #[.int .u32 0, .int .u32 0, .slice none 0 0] 37)) w1) := Lib.hid (((Below.refl _ _).alloc (by simp) _).trans h1.2.2.1); have P1 := Lib.hid (PD.out.below B1.out (by omega)); have p0 := Blk.cell P1.out 0; have p1 := Blk.cell P1.out 1; have p2 := Blk.cell P1.out 2; have f0 := Blk.frozen P1.out 0; have f1 := Blk.frozen P1.out 1; have f2 := Blk.frozen P1.out 2; simp at p0 p1 p2; clear h1)
  rw [HSE.out] at H1
  have hn1 := H1.out.len
  have hc1 := H1.out.cap.1
  rw [SHL_len] at hn1
  subst hn1
  refine bodyPost_ret (results_dg rfl rfl (((P1.out.set_ 0 _).set_ 1 _).set_ 2 _)) rfl ?_
  have H2 := H1.out.kept (only_setCell (g := w.heap.size) (p := ⟨w.heap.size, 2, none⟩) (only_setCell (g := w.heap.size) (p := ⟨w.heap.size, 1, none⟩) (only_setCell (g := w.heap.size) (p := ⟨w.heap.size, 0, none⟩) (World.grownBy.refl _ _) (.inl rfl) (.int .u32 0)) (.inl rfl) (.int .u32 0)) (.inl rfl) (.slice A1 41 c1)) (fun ad hA he => by have h1 := (H1.out.block ad hA).1; injection he with he; omega)
  refine ⟨A1, c1, rfl, hc1, H2.rd, ?_⟩
  exact (((((Below.refl _ _).alloc (Nat.le_refl _) _).trans (B1.out.mono (by omega))).setCell (by simp) _).setCell (by simp) _).setCell (by simp) _
end Go.Proofs.Ytlefnddhmpgijaa
