/- Layer 21: contracts of wants, Done, Begin, Start. Conditions: as each theorem states them. -/
import Derived.Test.YthknncdhjicklaaH11
namespace Go.Proofs.Ythknncdhjicklaa
open Go.RowKit
/-- what is wanted -/
def wtV (sp k : Int) (f : FuncId) : List Value := [.int .u8 sp, .int .u8 k, .func (Fn.func f) #[] #[]]
def wtZ : List Value := [.int .u8 0, .int .u8 0, .nilFunc]
theorem sizeW : (Try.prog.info? 50).map (·.size) = some 3 := by kernel_rfl
theorem results_wt {w : World} {gF : Nat} {cs : List Value} {fn : Func} {x u : Tmp} {tmps : Array Value} (hr : fn.results = #[.cell x 50, .tmp u]) (hx : tmps.getD x undef = .pointer (some ⟨gF, 0, none⟩)) (h : Blk w gF 50 cs.toArray) (hl : cs.length = 3) :
    (results fn tmps).run Try.prog w = .ok (.tuple #[.agg cs.toArray, tmps.getD u undef]) w := by
  have hx' : tmps[x]?.getD undef = .pointer (some ⟨gF, 0, none⟩) := by simpa using hx
  have hld := blk_load (P := Try.prog) h Try.underlying50 rfl (by rw [sizeW]; simp [hl])
  simp [Instr.loadAt, Instr.sureAddr] at hld
  simp [results, hr, hx', hld, asAddr]
set_option maxRecDepth 100000 in
set_option maxHeartbeats 4000000 in
theorem wants_h (g : Nat) (p : PS) (vp vq v0 v1 vt : Value) (w : World) (h : ShB g w p vp vq v0 v1 vt) (hs : p.sv = true) (h0 : p.st = 0) :
    Calls Try.prog 12 #[.pointer (some ⟨g, 0, none⟩)] w fun e w' => e = .returned (.tuple #[.agg (wtV 0 1 15).toArray, .bool true]) ∧ Below w.heap.size w w' := by
  have E0 := (Below.refl w.heap.size w).alloc (Nat.le_refl _) (.cells #[.int .u8 0, .int .u8 0, .nilFunc] 50)
  have H0 := h.below E0
  have q0 := H0.c0
  have q1 := H0.c1
  clear h H0
  rw [hs] at q0
  rw [h0] at q1
  clear hs h0
  go_enter Try.func12, Try.ntmps12
  go_wp2_with fail
  exact bodyPost_ret (results_wt rfl rfl (Blk.new _ _ _) rfl) rfl ⟨rfl, (Below.refl w.heap.size w).alloc (Nat.le_refl _) _⟩
set_option maxRecDepth 100000 in
set_option maxHeartbeats 4000000 in
theorem wants_c (g : Nat) (p : PS) (vp vq v0 v1 vt : Value) (w : World) (h : ShB g w p vp vq v0 v1 vt) (hs : p.sv = true) (h0 : p.st = 3) :
    Calls Try.prog 12 #[.pointer (some ⟨g, 0, none⟩)] w fun e w' => e = .returned (.tuple #[.agg (wtV 1 20 16).toArray, .bool true]) ∧ Below w.heap.size w w' := by
  have E0 := (Below.refl w.heap.size w).alloc (Nat.le_refl _) (.cells #[.int .u8 0, .int .u8 0, .nilFunc] 50)
  have H0 := h.below E0
  have q0 := H0.c0
  have q1 := H0.c1
  clear h H0
  rw [hs] at q0
  rw [h0] at q1
  clear hs h0
  go_enter Try.func12, Try.ntmps12
  go_wp2_with fail
  exact bodyPost_ret (results_wt rfl rfl (Blk.new _ _ _) rfl) rfl ⟨rfl, (Below.refl w.heap.size w).alloc (Nat.le_refl _) _⟩
set_option maxRecDepth 100000 in
set_option maxHeartbeats 4000000 in
theorem wants_a (g : Nat) (p : PS) (vp vq v0 v1 vt : Value) (w : World) (h : ShB g w p vp vq v0 v1 vt) (hs : p.sv = false) (h0 : p.st = 1) :
    Calls Try.prog 12 #[.pointer (some ⟨g, 0, none⟩)] w fun e w' => e = .returned (.tuple #[.agg (wtV 0 2 17).toArray, .bool true]) ∧ Below w.heap.size w w' := by
  have E0 := (Below.refl w.heap.size w).alloc (Nat.le_refl _) (.cells #[.int .u8 0, .int .u8 0, .nilFunc] 50)
  have H0 := h.below E0
  have q0 := H0.c0
  have q1 := H0.c1
  clear h H0
  rw [hs] at q0
  rw [h0] at q1
  clear hs h0
  go_enter Try.func12, Try.ntmps12
  go_wp2_with fail
  exact bodyPost_ret (results_wt rfl rfl (Blk.new _ _ _) rfl) rfl ⟨rfl, (Below.refl w.heap.size w).alloc (Nat.le_refl _) _⟩
set_option maxRecDepth 100000 in
set_option maxHeartbeats 4000000 in
theorem wants_f (g : Nat) (p : PS) (vp vq v0 v1 vt : Value) (w : World) (h : ShB g w p vp vq v0 v1 vt) (hs : p.sv = false) (h0 : p.st = 2) :
    Calls Try.prog 12 #[.pointer (some ⟨g, 0, none⟩)] w fun e w' => e = .returned (.tuple #[.agg (wtV 1 20 18).toArray, .bool true]) ∧ Below w.heap.size w w' := by
  have E0 := (Below.refl w.heap.size w).alloc (Nat.le_refl _) (.cells #[.int .u8 0, .int .u8 0, .nilFunc] 50)
  have H0 := h.below E0
  have q0 := H0.c0
  have q1 := H0.c1
  clear h H0
  rw [hs] at q0
  rw [h0] at q1
  clear hs h0
  go_enter Try.func12, Try.ntmps12
  go_wp2_with fail
  exact bodyPost_ret (results_wt rfl rfl (Blk.new _ _ _) rfl) rfl ⟨rfl, (Below.refl w.heap.size w).alloc (Nat.le_refl _) _⟩
set_option maxRecDepth 100000 in
set_option maxHeartbeats 4000000 in
theorem wants_no (g : Nat) (p : PS) (vp vq v0 v1 vt : Value) (w : World) (h : ShB g w p vp vq v0 v1 vt) (hc : p.sv = false → p.st ≠ 1 ∧ p.st ≠ 2) (ho : p.sv = true → p.st ≠ 0 ∧ p.st ≠ 3) :
    Calls Try.prog 12 #[.pointer (some ⟨g, 0, none⟩)] w fun e w' => e = .returned (.tuple #[.agg (wtZ).toArray, .bool false]) ∧ Below w.heap.size w w' := by
  have E0 := (Below.refl w.heap.size w).alloc (Nat.le_refl _) (.cells #[.int .u8 0, .int .u8 0, .nilFunc] 50)
  have H0 := h.below E0
  have q0 := H0.c0
  have q1 := H0.c1
  clear h H0
  cases hs : p.sv
  · rw [hs] at q0
    obtain ⟨h1, h2⟩ := hc hs
    generalize p.st = s at *
    have z1 : (s == 1) = false := by simp [h1]
    have z2 : (s == 2) = false := by simp [h2]
    clear hs hc ho h1 h2
    go_enter Try.func12, Try.ntmps12
    go_wp2_with fail
    exact bodyPost_ret (results_wt rfl rfl (Blk.new _ _ _) rfl) rfl ⟨rfl, (Below.refl w.heap.size w).alloc (Nat.le_refl _) _⟩
  · rw [hs] at q0
    obtain ⟨h1, h2⟩ := ho hs
    generalize p.st = s at *
    have z1 : (s == 0) = false := by simp [h1]
    have z2 : (s == 3) = false := by simp [h2]
    clear hs hc ho h1 h2
    go_enter Try.func12, Try.ntmps12
    go_wp2_with fail
    exact bodyPost_ret (results_wt rfl rfl (Blk.new _ _ _) rfl) rfl ⟨rfl, (Below.refl w.heap.size w).alloc (Nat.le_refl _) _⟩
theorem done_any (g : Nat) (p : PS) (vp vq v0 v1 vt : Value) (w : World) (h : ShB g w p vp vq v0 v1 vt) :
    Calls Try.prog 9 #[.pointer (some ⟨g, 0, none⟩)] w fun e w' => e = .returned (.bool (decide (p.st = 100))) ∧ w = w' := by
  have q1 := h.c1
  clear h
  generalize p.st = s at *
  go_enter Try.func9, Try.ntmps9
  go_wp2_with fail
  go_ret
  exact ⟨rfl, rfl⟩
theorem done_nil (w : World) :
    Calls Try.prog 9 #[.pointer none] w fun e w' => e = .returned (.bool false) ∧ w = w' := by
  go_enter Try.func9, Try.ntmps9
  go_wp2_with fail
  go_ret
  exact ⟨rfl, rfl⟩
end Go.Proofs.Ythknncdhjicklaa
