/- The law MtuKeeps (layer 36): what a script of calls reads as; the contract of Heavy. Conditions: as each theorem states them. -/
import Derived.Test.YtfhclafkmaojoaaM8
namespace Go.Proofs.Ytfhclafkmaojoaa
open Go.RowKit

/-- a call of a script: its kind, its number, its slice of numbers -/
structure DoV where
  kind : Int
  n : Int
  A : Option Addr
  c : Nat
  zs : List Int
def DoAt (w : World) (a : Addr) (i : Nat) (d : DoV) : Prop :=
  w.cell? (a.add (i * 3)) = some (.int .u8 d.kind) ∧ w.cell? ⟨(a.add (i * 3)).block, (a.add (i * 3)).off + 1, none⟩ = some (.int .i64 d.n) ∧ w.cell? ⟨(a.add (i * 3)).block, (a.add (i * 3)).off + 2, none⟩ = some (.slice d.A d.zs.length d.c) ∧
  -9223372036854775808 ≤ d.n ∧ d.n ≤ 9223372036854775807 ∧ d.zs.length ≤ 9223372036854775807 ∧
  ∀ k, k < d.zs.length → ∃ ad, d.A = some ad ∧ w.cell? (ad.add k) = some (.int .i64 (d.zs.getD k 0))
/-- a slice of calls -/
def IsDos (w : World) (A : Option Addr) (len : Nat) : Prop := len ≤ 9223372036854775807 ∧ ∀ i, i < len → ∃ a d, A = some a ∧ DoAt w a i d

theorem heavy_any (A : Option Addr) (len cap : Nat) (w : World) (h : IsDos w A len) :
    Calls Try.prog 17 #[.slice A len cap] w fun e w' => ∃ b, e = .returned (.bool b) ∧ Below w.heap.size w w' := by
  have hl := h.1
  have HR := Lib.hid h.2
  clear h
  go_enter Try.func17, Try.ntmps17
  go_wp2_with fail
  go_loopw [3, 8] (fun n i wr => ∃ (x : Int) (k : Nat), k ≤ len ∧ n = .int .i64 x ∧ i = .int .i64 k ∧ Hid (Below w.heap.size w wr)) (fun _ i _ => len - (intOf i).toNat)
  case atStart => exact ⟨0, 0, by omega, rfl, rfl, Lib.hid (Below.refl _ _)⟩
  case round =>
    obtain ⟨x, k, hk, rfl, rfl, HB⟩ := hrel
    by_cases hlt : k < len
    · obtain ⟨a, d, rfl, d1, d2, d3, d4, d5, d6, d7⟩ := HR.out k hlt
      have D7 := Lib.hid d7
      have c1 := Below.cell_some HB.out d1 (cell_lt d1)
      have c2 := Below.cell_some HB.out d2 (cell_lt d2)
      have c3 := Below.cell_some HB.out d3 (cell_lt d3)
      clear d1 d2 d3 d7
      go_wp2_with fail
      · go_ret
        exact ⟨_, rfl, HB.out.alloc HB.out.size _⟩
      · go_roundw
        case rel => exact ⟨_, k + 1, by omega, rfl, by go_num, Lib.hid (HB.out.alloc HB.out.size _)⟩
        case measure => simp [intOf]; omega
    · go_wp2_with fail
      go_ret
      exact ⟨_, rfl, HB.out⟩
end Go.Proofs.Ytfhclafkmaojoaa
