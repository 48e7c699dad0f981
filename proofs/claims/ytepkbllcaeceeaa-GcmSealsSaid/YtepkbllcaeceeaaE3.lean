/- The column's mix is injective. Conditions: as each theorem states them. -/
import Derived.Test.YtepkbllcaeceeaaE1
namespace Go.Proofs.Ytepkbllcaeceeaa
set_option maxRecDepth 100000 in
theorem tw_all : (allE.all fun a => allE.all fun b => tw (xb a b) == xb (tw a) (tw b)) = true := by decide +kernel
theorem tw_lin {a b : Int} (ha : B8 a) (hb : B8 b) : tw (xb a b) = xb (tw a) (tw b) := by
  have h := List.all_eq_true.1 (List.all_eq_true.1 tw_all a (allE_mem ha)) b (allE_mem hb)
  rwa [beq_iff_eq] at h
end Go.Proofs.Ytepkbllcaeceeaa
