/- Contracts: vneg.begin. Conditions: as each theorem states them. -/
import Derived.Test.YtakmaocfcmdpmaaV2
namespace Go.Proofs.Ytakmaocfcmdpmaa
open Go.RowKit

theorem elU8 : ElT Try.prog 30 5 .u8 1 := ⟨Try.underlying30, Try.underlying5, by kernel_rfl, by decide⟩
theorem elU32 : ElT Try.prog 22 23 .u32 4 := ⟨Try.underlying22, Try.underlying23, by kernel_rfl, by decide⟩

/-- how a long packet begins -/
def bgn (first v : Int) (ds ss : List Int) : List Int := [first, v / 16777216, v / 65536 % 256, v / 256 % 256, v % 256] ++ [(ds.length : Int) % 256] ++ ds ++ [(ss.length : Int) % 256] ++ ss

set_option maxHeartbeats 1000000 in
theorem begin_any (first v : Int) (A A2 : Option Addr) (c c2 : Nat) (ds ss : List Int) (w : World) (hv0 : 0 ≤ v) (hv1 : v < 4294967296) (hr : Rd w.heap.size .u8 w A ds) (hr2 : Rd w.heap.size .u8 w A2 ss) (hl : ds.length ≤ 1099511627776) (hl2 : ss.length ≤ 1099511627776) :
    Calls Try.prog 25 #[.int .u8 first, .int .u32 v, .slice A ds.length c, .slice A2 ss.length c2] w (RetOwn 5 .u8 (bgn first v ds ss) w) := by
  have e1 : IntKind.u8.wrap (v / 65536) = v / 65536 % 256 := wrapu8 _
  have e2 : IntKind.u8.wrap (v / 256) = v / 256 % 256 := wrapu8 _
  have e3 : IntKind.u8.wrap v = v % 256 := wrapu8 _
  have e4 : IntKind.u8.wrap (ds.length : Int) = ds.length % 256 := wrapu8 _
  have e5 : IntKind.u8.wrap (ss.length : Int) = ss.length % 256 := wrapu8 _
  have o0 : Own w.heap.size 5 .u8 (w.alloc (.cells #[.int .u8 first, .int .u8 (v / 16777216), .int .u8 (v / 65536 % 256), .int .u8 (v / 256 % 256), .int .u8 (v % 256)] 5)) (some ⟨w.heap.size, 0, none⟩) 5 5 [first, v / 16777216, v / 65536 % 256, v / 256 % 256, v % 256] := Own.lit w 5 .u8 [first, v / 16777216, v / 65536 % 256, v / 256 % 256, v % 256] (Nat.le_refl _) (by simp [maxLen])
  have HR := Lib.hid hr
  have HR2 := Lib.hid hr2
  have HO := Lib.hid o0
  clear hr hr2 o0
  go_enter Try.func25, Try.ntmps25
  go_wp2_with (first
    | (at_builtin; refine wpList_app (o := ⟨some 28, _, _, _, _, _⟩) elU8 rfl _ _ rfl rfl rfl (HO.out.alloc _) (Rd.newAt (xs := [(ds.length : Int) % 256]) (by simp) rfl) rfl ?_ ?_ ?_; (simp); (simp <;> omega); intro A1 n1 c1 w1 h1; have H1 := Lib.hid h1; have B1 := Lib.hid ((((Below.refl w.heap.size w).alloc (Nat.le_refl _) _).alloc (by simp) _).trans h1.2.2.1); clear h1)
    | (at_builtin; refine wpList_app (o := ⟨some 30, _, _, _, _, _⟩) elU8 rfl _ _ rfl rfl rfl H1.out.1 (HR.out.below B1.out (Nat.le_refl _)) rfl ?_ ?_ ?_; (simp <;> omega); exact B1.out.size; intro A5 n5 c5 w2 h2; have H2 := Lib.hid h2; have B2 := Lib.hid (B1.out.trans h2.2.2.1); clear h2)
    | (at_builtin; refine wpList_app (o := ⟨some 36, _, _, _, _, _⟩) elU8 rfl _ _ rfl rfl rfl (H2.out.1.alloc _) (Rd.newAt (xs := [(ss.length : Int) % 256]) rfl rfl) rfl ?_ ?_ ?_; (simp <;> omega); (have := B2.out.size; simp; omega); intro A6 n6 c6 w3 h3; have H3 := Lib.hid h3; have B3 := Lib.hid ((B2.out.alloc B2.out.size _).trans h3.2.2.1); clear h3)
    | (at_builtin; refine wpList_app (o := ⟨some 38, _, _, _, _, _⟩) elU8 rfl _ _ rfl rfl rfl H3.out.1 (HR2.out.below B3.out (Nat.le_refl _)) rfl ?_ ?_ ?_; (simp <;> omega); exact B3.out.size; intro A7 n7 c7 w4 h4; have H4 := Lib.hid h4; have B4 := Lib.hid (B3.out.trans h4.2.2.1); clear h4))
  go_ret
  exact ⟨A7, n7, c7, rfl, H4.out.1, B4.out⟩
end Go.Proofs.Ytakmaocfcmdpmaa
