/- Layer 27: leases in memory; contracts of New, Limits, Epoch, renew's closures. Conditions: as each theorem states them. -/
import Derived.Test.YtibjafkclojimaaL2
namespace Go.Proofs.Ytibjafkclojimaa
open Go.RowKit
/-- a lease's cells -/
def LS.cs (p : Value) (l : LS) : Array Value := #[p, .int .u8 l.ow, .int .u64 l.ep, .int .u64 l.bl, .int .u64 l.nx, .int .u64 l.to]
/-- a lease in memory, of that store -/
def LsH (gl : Nat) (w : World) (p : Value) (l : LS) : Prop := Blk w gl 59 (l.cs p)
section
variable {gl : Nat} {w w' : World} {p : Value} {l : LS}
theorem LsH.cells (h : LsH gl w p l) : w.cell? ⟨gl, 0, none⟩ = some p ∧ w.cell? ⟨gl, 1, none⟩ = some (.int .u8 l.ow) ∧ w.cell? ⟨gl, 2, none⟩ = some (.int .u64 l.ep) ∧ w.cell? ⟨gl, 3, none⟩ = some (.int .u64 l.bl) ∧ w.cell? ⟨gl, 4, none⟩ = some (.int .u64 l.nx) ∧ w.cell? ⟨gl, 5, none⟩ = some (.int .u64 l.to) :=
  ⟨Blk.cell h 0, Blk.cell h 1, Blk.cell h 2, Blk.cell h 3, Blk.cell h 4, Blk.cell h 5⟩
theorem LsH.below (h : LsH gl w p l) (hb : Below w.heap.size w w') : LsH gl w' p l := Blk.below h hb (Blk.lt h)
end
theorem new_lease (p : Option Addr) (ow ep bl : Int) (w : World) : Calls Try.prog 9 #[.pointer p, .int .u8 ow, .int .u64 ep, .int .u64 bl] w fun e w' => e = .returned (.pointer (some ⟨w.heap.size, 0, none⟩)) ∧ LsH w.heap.size w' (.pointer p) ⟨ow, ep, bl, 0, 0⟩ ∧ Below w.heap.size w w' := by
  have hz : Hid (LsH w.heap.size (w.alloc (.cells #[.pointer p, .int .u8 ow, .int .u64 ep, .int .u64 bl, .int .u64 0, .int .u64 0] 59)) (.pointer p) ⟨ow, ep, bl, 0, 0⟩) := Lib.hid (Blk.new _ _ _)
  go_enter Try.func9, Try.ntmps9
  go_wp2_with fail
  go_ret
  exact ⟨rfl, hz.out, (Below.refl _ _).alloc (Nat.le_refl _) _⟩
theorem limits_any (gl : Nat) (p : Value) (l : LS) (w : World) (h : LsH gl w p l) : Calls Try.prog 12 #[.pointer (some ⟨gl, 0, none⟩)] w fun e w' => e = .returned (.tuple #[.int .u64 l.nx, .int .u64 l.to]) ∧ Below w.heap.size w w' := by
  obtain ⟨c0, c1, c2, c3, c4, c5⟩ := h.cells
  clear h
  go_enter Try.func12, Try.ntmps12
  go_wp2_with fail
  go_region
  go_wp2_with fail
  exact bodyPost_ret (results_tmp2 rfl _ _ _) rfl ⟨rfl, Below.drew (Below.refl _ _)⟩
theorem limits_nil (w : World) : Calls Try.prog 12 #[.pointer none] w fun e w' => e = .returned (.tuple #[.int .u64 0, .int .u64 0]) ∧ w = w' := by
  go_enter Try.func12, Try.ntmps12
  go_wp2_with fail
  exact bodyPost_ret (results_tmp2 rfl _ _ _) rfl ⟨rfl, rfl⟩
theorem epoch_any (gl : Nat) (p : Value) (l : LS) (w : World) (h : LsH gl w p l) : Calls Try.prog 13 #[.pointer (some ⟨gl, 0, none⟩)] w fun e w' => e = .returned (.int .u64 l.ep) ∧ w = w' := by
  obtain ⟨c0, c1, c2, c3, c4, c5⟩ := h.cells
  clear h
  go_enter Try.func13, Try.ntmps13
  go_wp2_with fail
  go_ret
  exact ⟨rfl, rfl⟩
theorem epoch_nil (w : World) : Calls Try.prog 13 #[.pointer none] w fun e w' => e = .returned (.int .u64 0) ∧ w = w' := by
  go_enter Try.func13, Try.ntmps13
  go_wp2_with fail
  go_ret
  exact ⟨rfl, rfl⟩
/-- the variable that holds the lease -/
def VarH (gb : Nat) (w : World) (gl : Nat) : Prop := Blk w gb 37 #[.pointer (some ⟨gl, 0, none⟩)]
theorem VarH.c0 {gb gl : Nat} {w : World} (h : VarH gb w gl) : w.cell? ⟨gb, 0, none⟩ = some (.pointer (some ⟨gl, 0, none⟩)) := Blk.cell h 0
/-- the cell that was read -/
def CellH (gc : Nat) (w : World) (e o n : Int) : Prop := ∃ A cap, Blk w gc 31 #[.int .u64 e, .int .u8 o, .int .u64 n, .int .u64 0, .slice A 0 cap]
def IsH (gi : Nat) (w : World) (b : Bool) : Prop := Blk w gi 4 #[.bool b]
theorem ren1_any (gb gl : Nat) (g : Option Addr) (l : LS) (w : World) (hb : VarH gb w gl) (h : LsH gl w (.pointer g) l) : Calls Try.prog 23 #[.pointer (some ⟨gb, 0, none⟩)] w fun e w' => e = .returned (.bool g.isSome) ∧ w = w' := by
  have b0 := hb.c0
  obtain ⟨c0, c1, c2, c3, c4, c5⟩ := h.cells
  clear h hb
  cases g with
  | none =>
    go_enter Try.func23, Try.ntmps23
    go_wp2_with fail
    go_ret
    exact ⟨rfl, rfl⟩
  | some g =>
    go_enter Try.func23, Try.ntmps23
    go_wp2_with fail
    go_ret
    exact ⟨rfl, rfl⟩
theorem ren2_any (gb gl : Nat) (g : Value) (l : LS) (w : World) (hb : VarH gb w gl) (h : LsH gl w g l) : Calls Try.prog 24 #[.pointer (some ⟨gb, 0, none⟩)] w fun e w' => e = .returned (.bool (decide (l.bl > 0))) ∧ w = w' := by
  have b0 := hb.c0
  obtain ⟨c0, c1, c2, c3, c4, c5⟩ := h.cells
  clear h hb
  go_enter Try.func24, Try.ntmps24
  go_wp2_with fail
  go_ret
  exact ⟨rfl, rfl⟩
set_option maxRecDepth 100000 in
set_option maxHeartbeats 1000000 in
theorem ren3_any (gi gc gb gl : Nat) (g : Value) (l : LS) (e o n : Int) (w : World) (hi : IsH gi w true) (hc : CellH gc w e o n) (hb : VarH gb w gl) (h : LsH gl w g l) : Calls Try.prog 25 #[.pointer (some ⟨gi, 0, none⟩), .pointer (some ⟨gc, 0, none⟩), .pointer (some ⟨gb, 0, none⟩)] w fun r w' => r = .returned (.bool (decide (e = l.ep ∧ o = l.ow))) ∧ Below w.heap.size w w' := by
  have b0 := hb.c0
  have i0 : w.cell? ⟨gi, 0, none⟩ = some (.bool true) := Blk.cell hi 0
  obtain ⟨A, cap, hc⟩ := hc
  obtain ⟨d0, d1, d2, d3, d4⟩ := cb_cells hc
  obtain ⟨c0, c1, c2, c3, c4, c5⟩ := h.cells
  clear h hb hc hi
  by_cases q : e = l.ep
  · have q1 : (e == l.ep) = true := by simp [q]
    by_cases q2 : o = l.ow
    · have q3 : (o == l.ow) = true := by simp [q2]
      have hx : decide (e = l.ep ∧ o = l.ow) = true := decide_eq_true ⟨q, q2⟩
      rw [hx]
      clear hx q q2
      go_enter Try.func25, Try.ntmps25
      go_wp2_with fail
      go_region
      go_wp2_with fail
      go_ret
      exact ⟨rfl, Below.drew (Below.refl _ _)⟩
    · have q3 : (o == l.ow) = false := by simp [q2]
      have hx : decide (e = l.ep ∧ o = l.ow) = false := decide_eq_false (fun z => q2 z.2)
      rw [hx]
      clear hx q q2
      go_enter Try.func25, Try.ntmps25
      go_wp2_with fail
      go_region
      go_wp2_with fail
      go_ret
      exact ⟨rfl, Below.drew (Below.refl _ _)⟩
  · have q1 : (e == l.ep) = false := by simp [q]
    have hx : decide (e = l.ep ∧ o = l.ow) = false := decide_eq_false (fun z => q z.1)
    rw [hx]
    clear hx q
    go_enter Try.func25, Try.ntmps25
    go_wp2_with fail
    go_region
    go_wp2_with fail
    go_ret
    exact ⟨rfl, Below.drew (Below.refl _ _)⟩
theorem ren4_any (gb gc gl : Nat) (g : Value) (l : LS) (e o n : Int) (w : World) (hb : VarH gb w gl) (hc : CellH gc w e o n) (h : LsH gl w g l) (hn0 : 0 ≤ n) (hn : n ≤ 4611686018427387904) : Calls Try.prog 26 #[.pointer (some ⟨gb, 0, none⟩), .pointer (some ⟨gc, 0, none⟩)] w fun r w' => r = .returned (.bool (decide (l.bl ≤ 4611686018427387904 - n))) ∧ Below w.heap.size w w' := by
  have b0 := hb.c0
  obtain ⟨A, cap, hc⟩ := hc
  obtain ⟨d0, d1, d2, d3, d4⟩ := cb_cells hc
  obtain ⟨c0, c1, c2, c3, c4, c5⟩ := h.cells
  have hw : IntKind.u64.wrap (4611686018427387904 - n) = 4611686018427387904 - n := by rw [IntKind.wrap_u64]; omega
  clear h hb hc
  go_enter Try.func26, Try.ntmps26
  go_wp2_with fail
  go_region
  go_wp2_with fail
  go_ret
  exact ⟨rfl, Below.drew (Below.refl _ _)⟩
end Go.Proofs.Ytibjafkclojimaa
