/- Contracts (layer 29): Id, goes, To, Forward. Conditions: as each theorem states them. -/
import Derived.Test.YtlefnddhmpgijaaR2
namespace Go.Proofs.Ytlefnddhmpgijaa
open Go.RowKit
def IdPost (b : List Int) (w : World) (e : Ending) (w' : World) : Prop :=
  (∀ p, splitL b 8 = some p → ∃ v, e = .returned (.tuple #[v, .bool true]) ∧ Sl w' v p.dst ∧ Below w.heap.size w w') ∧ (splitL b 8 = none → e = .returned (.tuple #[.slice none 0 0, .bool false]) ∧ Below w.heap.size w w')
/-- and the id lies in memory of the call's own -/
def IdPostF (b : List Int) (w : World) (e : Ending) (w' : World) : Prop := IdPost b w e w' ∧ ∀ v x, e = .returned (.tuple #[v, x]) → Fr w.heap.size v
set_option maxHeartbeats 2000000 in
theorem id_someF (g : Nat) (f t : Int) (A : Option Addr) (c : Nat) (b : List Int) (w : World) (hr : Rd w.heap.size .u8 w A b) (hby : Byt b) (hc : b.length ≤ c) (hl : b.length ≤ 1000000000000) :
    Calls Try.prog 12 #[.pointer (some ⟨g, 0, none⟩), .agg #[.int .u32 f, .int .u32 t, .slice A b.length c]] w (IdPostF b w) := by
  have HS := Lib.hid (split_anyF A c b 8 (w.alloc (.cells #[.int .u32 f, .int .u32 t, .slice A b.length c] 37)) ((hr.alloc (Nat.le_refl _) _).mono (by simp)) hby hc hl (by decide) (by decide))
  clear hr hby
  rcases hs : splitL b 8 with _ | p
  · have HSP := Lib.hid hs
    clear hs
    go_enter Try.func12, Try.ntmps12
    go_wp2_with fail
    refine HS.out.mono ?_
    rintro e w1 ⟨⟨-, h1⟩, -⟩
    obtain ⟨rfl, hb1⟩ := h1 HSP.out
    clear h1
    go_wp2_with fail
    go_ret2
    refine ⟨⟨fun p hp => (by rw [HSP.out] at hp; cases hp), fun _ => ⟨rfl, ?_⟩⟩, fun v x he A n c hv ad hA => (by injection he with he; injection he with he; injection he with he; injection he with he h6; subst he; injection hv with h1 h2 h3; rw [← h1] at hA; cases hA)⟩
    exact (((Below.refl _ _).alloc (Nat.le_refl _) _).trans (hb1.mono (by simp))).alloc (by have := hb1.size; simp at this; omega) _
  · have HSP := Lib.hid hs
    clear hs
    go_enter Try.func12, Try.ntmps12
    go_wp2_with fail
    refine HS.out.mono ?_
    rintro e w1 ⟨⟨h1, -⟩, hf⟩
    obtain ⟨vd, vs, vt, vb, vr, rfl, ⟨Ad, nd, cd, rfl, ld, kd, rd⟩, ⟨As, ns, cs, rfl, -, -, -⟩, ⟨At, nt, ct, rfl, -, -, -⟩, ⟨Ab, nb, cb, rfl, -, -, -⟩, ⟨Ar, nr, cr, rfl, -, -, -⟩, hb1⟩ := h1 p HSP.out
    clear h1
    have RD := Lib.hid rd
    have FD := Lib.hid (hf _ _ _ rfl)
    clear hf
    have LD := Lib.hid ld
    have HB := Lib.hid hb1
    have hz1 : w.heap.size < w1.heap.size := by have := hb1.size; simp at this; omega
    clear rd ld hb1
    go_wp2_with fail
    go_ret2
    refine ⟨⟨fun p' hp => ?_, fun hn => (by rw [HSP.out] at hn; cases hn)⟩, fun v x he A n c hv ad hA => (by injection he with he; injection he with he; injection he with he; injection he with he h6; subst he; have := FD.out A n c hv ad hA; simp at this; omega)⟩
    rw [HSP.out] at hp
    injection hp with hp
    subst hp
    refine ⟨_, rfl, ⟨Ad, nd, cd, rfl, LD.out, kd, (RD.out.alloc (Nat.le_refl _) _).mono (by simp)⟩, ?_⟩
    exact (((Below.refl _ _).alloc (Nat.le_refl _) _).trans (HB.out.mono (by simp))).alloc (by omega) _
theorem id_some (g : Nat) (f t : Int) (A : Option Addr) (c : Nat) (b : List Int) (w : World) (hr : Rd w.heap.size .u8 w A b) (hby : Byt b) (hc : b.length ≤ c) (hl : b.length ≤ 1000000000000) :
    Calls Try.prog 12 #[.pointer (some ⟨g, 0, none⟩), .agg #[.int .u32 f, .int .u32 t, .slice A b.length c]] w (IdPost b w) := (id_someF g f t A c b w hr hby hc hl).mono fun _ _ h => h.1
set_option maxHeartbeats 2000000 in
theorem id_nil (f t : Int) (A : Option Addr) (c : Nat) (b : List Int) (w : World) (hr : Rd w.heap.size .u8 w A b) (hby : Byt b) (hc : b.length ≤ c) (hl : b.length ≤ 1000000000000) :
    Calls Try.prog 12 #[.pointer none, .agg #[.int .u32 f, .int .u32 t, .slice A b.length c]] w fun e w' => e = .returned (.tuple #[.slice none 0 0, .bool false]) ∧ Below w.heap.size w w' := by
  have HS := Lib.hid (split_any A c b 8 (w.alloc (.cells #[.int .u32 f, .int .u32 t, .slice A b.length c] 37)) ((hr.alloc (Nat.le_refl _) _).mono (by simp)) hby hc hl (by decide) (by decide))
  clear hr hby
  rcases hs : splitL b 8 with _ | p
  · have HSP := Lib.hid hs
    clear hs
    go_enter Try.func12, Try.ntmps12
    go_wp2_with fail
    refine HS.out.mono ?_
    rintro e w1 ⟨-, h1⟩
    obtain ⟨rfl, hb1⟩ := h1 HSP.out
    clear h1
    go_wp2_with fail
    go_ret2
    exact ⟨rfl, (((Below.refl _ _).alloc (Nat.le_refl _) _).trans (hb1.mono (by simp))).alloc (by have := hb1.size; simp at this; omega) _⟩
  · have HSP := Lib.hid hs
    clear hs
    go_enter Try.func12, Try.ntmps12
    go_wp2_with fail
    refine HS.out.mono ?_
    rintro e w1 ⟨h1, -⟩
    obtain ⟨vd, vs, vt, vb, vr, rfl, ⟨Ad, nd, cd, rfl, -, -, -⟩, ⟨As, ns, cs, rfl, -, -, -⟩, ⟨At, nt, ct, rfl, -, -, -⟩, ⟨Ab, nb, cb, rfl, -, -, -⟩, ⟨Ar, nr, cr, rfl, -, -, -⟩, hb1⟩ := h1 p HSP.out
    clear h1
    have HB := Lib.hid hb1
    have hz1 : w.heap.size < w1.heap.size := by have := hb1.size; simp at this; omega
    clear hb1
    go_wp2_with fail
    go_ret2
    exact ⟨rfl, (((Below.refl _ _).alloc (Nat.le_refl _) _).trans (HB.out.mono (by simp))).alloc (by omega) _⟩
end Go.Proofs.Ytlefnddhmpgijaa
