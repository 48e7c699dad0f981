
/- Contract: the law's own known of layer 7. Conditions: as each theorem states them. -/
import Derived.Test.YthpacdondnenmaaK5
namespace Go.Proofs.Ythpacdondnenmaa
open Go.RowKit
theorem extract_at {n m : Nat} (A : Option Addr) (c : Nat) (K : List Int) (A2 : Option Addr) (c2 : Nat) (T : List Int) (w : World) (hn : K.length = n) (hm : T.length = m) (hr : Rd w.heap.size .u8 w A K) (hb : Byt K) (hcap : K.length ≤ c) (hl : K.length ≤ 1000000000) (hr2 : Rd w.heap.size .u8 w A2 T) (hb2 : Byt T) (hcap2 : T.length ≤ c2) (hl2 : T.length ≤ 1000000000) :
    Calls Try.prog 45 #[.slice A n c, .slice A2 m c2] w (ArrPost (macL K T) w) := by
  subst hn; subst hm; exact extract_any A c K A2 c2 T w hr hb hcap hl hr2 hb2 hcap2 hl2
theorem str_hi : strOfNums [176, 52, 76, 97, 216, 219, 56, 83, 92, 168, 175, 206, 175, 11, 241, 43, 136, 29, 194, 0, 201, 131, 61, 167, 38, 233, 55, 108, 46, 50, 207, 247] = ⟨#[176, 52, 76, 97, 216, 219, 56, 83, 92, 168, 175, 206, 175, 11, 241, 43, 136, 29, 194, 0, 201, 131, 61, 167, 38, 233, 55, 108, 46, 50, 207, 247]⟩ := by kernel_rfl
theorem str_p4 : strOfNums [7, 119, 9, 54] = ⟨#[7, 119, 9, 54]⟩ := by kernel_rfl
theorem str_ok : strOfNums [60, 178, 95, 37, 250, 172, 213, 122, 144, 67, 79, 100, 208, 54, 47, 42, 45, 45, 10, 144, 207, 26, 90, 76, 93, 176, 45, 86, 236, 196, 197, 191, 52, 0, 114, 8, 213, 184, 135, 24, 88, 101] = ⟨#[60, 178, 95, 37, 250, 172, 213, 122, 144, 67, 79, 100, 208, 54, 47, 42, 45, 45, 10, 144, 207, 26, 90, 76, 93, 176, 45, 86, 236, 196, 197, 191, 52, 0, 114, 8, 213, 184, 135, 24, 88, 101]⟩ := by kernel_rfl
theorem conv_n {B : Nat} {w : World} {A : Option Addr} {xs : List Int} {n : Nat} (hr : Rd B .u8 w A xs) (hn : xs.length = n) (c : Nat) : (convert 28 9 (.slice A n c)).run Try.prog w = .ok (.string (strOfNums xs)) w := by
  subst hn; exact conv_rd elU8 Try.underlying9 hr c
theorem byt_prk : Byt [7, 119, 9, 54, 44, 46, 50, 223, 13, 220, 63, 13, 196, 123, 186, 99, 144, 182, 199, 59, 181, 15, 156, 49, 34, 236, 132, 74, 215, 194, 179, 229] := by rw [← mac_prk]; exact macL_byt _ _
theorem byt_hit : Byt [72, 105, 32, 84, 104, 101, 114, 101] := by intro x hx; simp at hx; omega
theorem Rd.takeN {B : Nat} {k : IntKind} {w : World} {A : Option Addr} {xs : List Int} (h : Rd B k w A xs) (m : Nat) : Rd B k w A (xs.take m) := fun i hi => by
  rw [List.length_take] at hi
  obtain ⟨ad, e, hb, hc⟩ := h i (by omega)
  exact ⟨ad, e, hb, by rw [hc, getD_take (by omega)]⟩

end Go.Proofs.Ythpacdondnenmaa
