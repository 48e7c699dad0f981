/- Contracts (layer 29): New, process, Learn, Owner, Epoch. Conditions: as each theorem states them. -/
import Derived.Test.YtlefnddhmpgijaaB2
import Derived.Test.YtlefnddhmpgijaaH7
namespace Go.Proofs.Ytlefnddhmpgijaa
open Go.RowKit
/-- a route: whether one is known, its epoch, its owner -/
def RtSt (g : Nat) (k : Bool) (e o : Int) (w : World) : Prop := Blk w g 77 #[.bool k, .int .u64 e, .int .u8 o]
theorem RtSt.facts {g : Nat} {k : Bool} {e o : Int} {w : World} (h : RtSt g k e o w) : w.cell? ⟨g, 0, none⟩ = some (.bool k) ∧ w.cell? ⟨g, 1, none⟩ = some (.int .u64 e) ∧ w.cell? ⟨g, 2, none⟩ = some (.int .u8 o) :=
  ⟨by rw [Blk.cell h]; rfl, by rw [Blk.cell h]; rfl, by rw [Blk.cell h]; rfl⟩
theorem RtSt.frozen {g : Nat} {k : Bool} {e o : Int} {w : World} (h : RtSt g k e o w) : w.frozen? ⟨g, 0, none⟩ = false ∧ w.frozen? ⟨g, 1, none⟩ = false ∧ w.frozen? ⟨g, 2, none⟩ = false :=
  ⟨Blk.frozen h 0, Blk.frozen h 1, Blk.frozen h 2⟩
theorem RtSt.lt {g : Nat} {k : Bool} {e o : Int} {w : World} (h : RtSt g k e o w) : g < w.heap.size := Blk.lt h
theorem RtSt.below {B g : Nat} {k : Bool} {e o : Int} {w w' : World} (h : RtSt g k e o w) (hb : Below B w w') (hg : g < B) : RtSt g k e o w' := Blk.below h hb hg
def set3 (W : World) (g : Nat) (v0 v1 v2 : Value) : World := ((W.setCell ⟨g, 0, none⟩ v0).setCell ⟨g, 1, none⟩ v1).setCell ⟨g, 2, none⟩ v2
theorem set3_grown (W : World) (g : Nat) (v0 v1 v2 : Value) : W.grownBy (set3 W g v0 v1 v2) (some g) := by
  unfold set3
  have h1 : W.grownBy (W.setCell ⟨g, 0, none⟩ v0) (some g) := only_setCell (World.grownBy.refl W _) (.inl rfl) v0
  have h2 : W.grownBy ((W.setCell ⟨g, 0, none⟩ v0).setCell ⟨g, 1, none⟩ v1) (some g) := only_setCell h1 (.inl rfl) v1
  exact only_setCell h2 (.inl rfl) v2
theorem set3_blk {W : World} {g : Nat} {t : TypeId} {c0 c1 c2 : Value} (h : Blk W g t #[c0, c1, c2]) (v0 v1 v2 : Value) : Blk (set3 W g v0 v1 v2) g t #[v0, v1, v2] :=
  Blk.cast (((h.set_ 0 _).set_ 1 _).set_ 2 _) (by simp)

theorem rnew_any (w : World) : Calls Try.prog 9 #[] w fun e w' => e = .returned (.pointer (some ⟨w.heap.size, 0, none⟩)) ∧ RtSt w.heap.size false 0 0 w' ∧ Below w.heap.size w w' ∧ w'.heap.size = w.heap.size + 1 := by
  go_enter Try.func9, Try.ntmps9
  go_wp2_with fail
  go_ret
  exact ⟨rfl, Blk.new _ _ _, (Below.refl _ _).alloc (Nat.le_refl _) _, by simp⟩
def procB (n : Int) : Bool := n == 1 || n == 2
theorem process_any (n : Int) (w : World) : Calls Try.prog 31 #[.int .u8 n] w fun e w' => e = .returned (.bool (procB n)) ∧ w = w' := by
  unfold procB
  rcases h1 : n == 1 with _ | _
  · go_enter Try.func31, Try.ntmps31
    go_wp2_with fail
    go_ret
    exact ⟨by simp, rfl⟩
  · go_enter Try.func31, Try.ntmps31
    go_wp2_with fail
    go_ret
    exact ⟨by simp, rfl⟩
/-- is it learnt? -/
def lrnB (k : Bool) (e ep ow : Int) : Bool := procB ow && (!k || decide (e < ep))
theorem learn_nil (ep ow : Int) (w : World) : Calls Try.prog 10 #[.pointer none, .int .u64 ep, .int .u8 ow] w fun e w' => e = .returned (.bool false) ∧ w = w' := by
  go_enter Try.func10, Try.ntmps10
  go_wp2_with fail
  go_ret
  exact ⟨rfl, rfl⟩
set_option maxHeartbeats 1000000 in
theorem learn_no (g : Nat) (k : Bool) (e o ep ow : Int) (w : World) (h : RtSt g k e o w) (hno : lrnB k e ep ow = false) :
    Calls Try.prog 10 #[.pointer (some ⟨g, 0, none⟩), .int .u64 ep, .int .u8 ow] w fun e w' => e = .returned (.bool false) ∧ w = w' := by
  obtain ⟨a0, a1, a2⟩ := h.facts
  unfold lrnB at hno
  have HP := Lib.hid (process_any ow w)
  rcases hp : procB ow with _ | _
  · rw [hp] at HP
    clear hno
    go_enter Try.func10, Try.ntmps10
    go_wp2_with (go_at_call 31; refine HP.out.mono ?_; rintro e w' ⟨rfl, rfl⟩)
    go_ret
    exact ⟨rfl, rfl⟩
  · rw [hp] at HP hno
    cases k with
    | false => cases hno
    | true =>
      have hle : ep ≤ e := by simpa using hno
      have hle' : decide (ep ≤ e) = true := decide_eq_true hle
      clear hno
      go_enter Try.func10, Try.ntmps10
      go_wp2_with (go_at_call 31; refine HP.out.mono ?_; rintro e w' ⟨rfl, rfl⟩)
      go_ret
      exact ⟨rfl, rfl⟩
set_option maxHeartbeats 1000000 in
theorem learn_yes (g : Nat) (k : Bool) (e o ep ow : Int) (w : World) (h : RtSt g k e o w) (hyes : lrnB k e ep ow = true) :
    Calls Try.prog 10 #[.pointer (some ⟨g, 0, none⟩), .int .u64 ep, .int .u8 ow] w fun e w' => e = .returned (.bool true) ∧ RtSt g true ep ow w' ∧ w.grownBy w' (some g) := by
  obtain ⟨a0, a1, a2⟩ := h.facts
  obtain ⟨f0, f1, f2⟩ := h.frozen
  have HS := Lib.hid h
  unfold lrnB at hyes
  have HP := Lib.hid (process_any ow w)
  rcases hp : procB ow with _ | _
  · rw [hp] at hyes; cases hyes
  · rw [hp] at HP hyes
    cases k with
    | false =>
      clear hyes h
      go_enter Try.func10, Try.ntmps10
      go_wp2_with (go_at_call 31; refine HP.out.mono ?_; rintro e w' ⟨rfl, rfl⟩)
      go_ret
      exact ⟨rfl, set3_blk HS.out _ _ _, set3_grown w g _ _ _⟩
    | true =>
      have hle : ¬ ep ≤ e := by simp at hyes; omega
      have hle' : decide (ep ≤ e) = false := decide_eq_false hle
      clear hyes h
      go_enter Try.func10, Try.ntmps10
      go_wp2_with (go_at_call 31; refine HP.out.mono ?_; rintro e w' ⟨rfl, rfl⟩)
      go_ret
      exact ⟨rfl, set3_blk HS.out _ _ _, set3_grown w g _ _ _⟩
theorem owner_some (g : Nat) (k : Bool) (e o : Int) (w : World) (h : RtSt g k e o w) : Calls Try.prog 18 #[.pointer (some ⟨g, 0, none⟩)] w fun e w' => e = .returned (.int .u8 o) ∧ w = w' := by
  obtain ⟨a0, a1, a2⟩ := h.facts
  clear h
  go_enter Try.func18, Try.ntmps18
  go_wp2_with fail
  go_ret
  exact ⟨rfl, rfl⟩
theorem owner_nil (w : World) : Calls Try.prog 18 #[.pointer none] w fun e w' => e = .returned (.int .u8 0) ∧ w = w' := by
  go_enter Try.func18, Try.ntmps18
  go_wp2_with fail
  go_ret
  exact ⟨rfl, rfl⟩
theorem epoch_some (g : Nat) (k : Bool) (e o : Int) (w : World) (h : RtSt g k e o w) : Calls Try.prog 19 #[.pointer (some ⟨g, 0, none⟩)] w fun r w' => r = .returned (.int .u64 e) ∧ w = w' := by
  obtain ⟨a0, a1, a2⟩ := h.facts
  clear h
  go_enter Try.func19, Try.ntmps19
  go_wp2_with fail
  go_ret
  exact ⟨rfl, rfl⟩
theorem epoch_nil (w : World) : Calls Try.prog 19 #[.pointer none] w fun e w' => e = .returned (.int .u64 0) ∧ w = w' := by
  go_enter Try.func19, Try.ntmps19
  go_wp2_with fail
  go_ret
  exact ⟨rfl, rfl⟩
end Go.Proofs.Ytlefnddhmpgijaa
