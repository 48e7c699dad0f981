/- known values of layer 9. Conditions: none. -/
import Derived.Test.YtepkbllcaeceeaaG3
namespace Go.Proofs.Ytepkbllcaeceeaa
def z12 : List Int := List.replicate 12 0
def k9a : List Int := [88, 226, 252, 206, 250, 126, 48, 97, 54, 127, 29, 87, 164, 231, 69, 90]
def k9b : List Int := [3, 136, 218, 206, 96, 182, 163, 146, 243, 40, 194, 185, 113, 178, 254, 120, 171, 110, 71, 212, 44, 236, 19, 189, 245, 58, 103, 178, 18, 87, 189, 223]
theorem k9a_eq : gsealL z16 z12 [] [] = k9a := by decide +kernel
theorem k9b_eq : gsealL z16 z12 [] z16 = k9b := by decide +kernel
theorem k9c_eq : gopenL z16 z12 [] k9b.tail = none := by decide +kernel
end Go.Proofs.Ytepkbllcaeceeaa
