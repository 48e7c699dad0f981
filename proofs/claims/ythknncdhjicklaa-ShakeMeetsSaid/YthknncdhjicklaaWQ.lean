/- Regions that draw their order, whose operations read, and whose callees may make memory but turn nothing that was there: one walk of the text's order (the library's wp_region_quiet at the class of worlds that are as w was below a block). Conditions: as each theorem states them. -/
import Derived.Test.YthknncdhjicklaaW
import Derived.BigQuiet
namespace Go.Proofs.Ythknncdhjicklaa
open Go.RowKit

/-- a world that below block N is as w was, and has no fewer blocks -/
def BW (N : Nat) (w : World) : Type := { w' : World // Below N w w' }
instance {N : Nat} {w : World} : Nonempty (BW N w) := ⟨⟨w, Below.refl _ _⟩⟩
def BW.world {N : Nat} {w : World} (r : BW N w) : World := r.1
theorem BW.below {N : Nat} {w : World} (r : BW N w) : Below N w r.world := r.2
def BW.mk' {N : Nat} {w w' : World} (h : Below N w w') : BW N w := ⟨w', h⟩
theorem BW.cell {N : Nat} {w : World} {p : Addr} {v : Value} (h : w.cell? p = some v) (hp : p.block < N) (r : BW N w) : r.world.cell? p = some v := Below.cell_some r.below h hp

theorem wp_region_below_lit {P : Program} {id : Nat} {Q : Exit → Act → World → Prop} {a : Act} {w : World} {l : List Oper} (N : Nat) (hm : P.follows .mixedOrders = true) (hB : Region.lexB .any l.toArray = true)
    (h : wpQuiet P l.toArray (fun w' => ∃ r : BW N w, w' = r.world) (fun a' => ∀ w', (∃ r : BW N w, w' = r.world) → Q .normal a' w') l a) : (Code.region id l.toArray true).wp P Q a w :=
  wp_region_quiet (C := fun w' => ∃ r : BW N w, w' = r.world) hm hB ⟨BW.mk' (Below.drew (Below.refl _ _)), rfl⟩ (by simpa using h)

/-- a callee's contract, met in such a world -/
theorem Calls.bw {P : Program} {f : FuncId} {args : Array Value} {N : Nat} {w : World} {r : BW N w} {v : Value} (hN : N ≤ w.heap.size)
    (h : Calls P f args r.world fun e w' => e = .returned v ∧ Below r.world.heap.size r.world w') : Calls P f args r.world fun e w'' => e = .returned v ∧ ∃ r' : BW N w, w'' = r'.world :=
  h.mono fun _ w'' ⟨he, hb⟩ => ⟨he, ⟨w'', r.below.trans (hb.mono (Nat.le_trans hN r.below.size))⟩, rfl⟩
end Go.Proofs.Ythknncdhjicklaa
