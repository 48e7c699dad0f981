
/- What is expanded for any number; the law's own rise, same and known; plain known values. Conditions: as each theorem states them. -/
import Derived.Test.YthpacdondnenmaaK4
namespace Go.Proofs.Ythpacdondnenmaa
open Go.RowKit

set_option maxRecDepth 100000 in
theorem expand_out (S : List Int) (A : Option Addr) (m c : Nat) (I : List Int) (n : Int) (w : World) (h : n < 1 ∨ 8160 < n) :
    Calls Try.prog 69 #[.agg (cellsL .u8 S), .slice A m c, .int .i64 n] w (SliPost (expL S I n) w) := by
  have HE := Lib.hid (expL_out S I h)
  rcases h with h | h
  · go_enter Try.func69, Try.ntmps69
    go_wp2_with fail
    go_ret
    exact ⟨none, 0, 0, rfl, by rw [HE.out]; rfl, Nat.le_refl _, by rw [HE.out]; exact Rd.nil, (Below.refl _ _).alloc (Nat.le_refl _) _⟩
  · have h' : ¬ n < 1 := by omega
    go_enter Try.func69, Try.ntmps69
    go_wp2_with fail
    go_ret
    exact ⟨none, 0, 0, rfl, by rw [HE.out]; rfl, Nat.le_refl _, by rw [HE.out]; exact Rd.nil, (Below.refl _ _).alloc (Nat.le_refl _) _⟩
theorem expand_any {m : Nat} (S : List Int) (A : Option Addr) (c : Nat) (I : List Int) (n : Int) (w : World) (hm : I.length = m) (hS : S.length = 32) (hSb : Byt S) (hr : Rd w.heap.size .u8 w A I) (hb : Byt I) (hcap : I.length ≤ c) (hl : I.length ≤ 1000000) :
    Calls Try.prog 69 #[.agg (cellsL .u8 S), .slice A m c, .int .i64 n] w (SliPost (expL S I n) w) := by
  by_cases h : n < 1 ∨ 8160 < n
  · exact expand_out S A m c I n w h
  · subst hm
    obtain ⟨N, rfl⟩ : ∃ N : Nat, n = (N : Int) := ⟨n.toNat, by omega⟩
    exact expand_in S A c I N w hS hSb hr hb hcap hl (by omega) (by omega)

def riseL (f n : Nat) : List Int := (List.range n).map fun i => ((f + i : Nat) : Int)
theorem riseL_len (f n : Nat) : (riseL f n).length = n := by simp [riseL]
theorem riseL_get (f n : Nat) {i : Nat} (h : i < n) : (riseL f n).getD i 0 = ((f + i : Nat) : Int) := by
  simp [riseL, List.getD_eq_getElem?_getD, h]
theorem riseL_byt {f n : Nat} (h : f + n ≤ 256) : Byt (riseL f n) := fun x hx => by
  obtain ⟨i, hi, rfl⟩ := List.mem_map.1 hx
  have := List.mem_range.1 hi
  omega
def sameL (c : Int) (n : Nat) : List Int := List.replicate n c
theorem sameL_len (c : Int) (n : Nat) : (sameL c n).length = n := by simp [sameL]
theorem sameL_get (c : Int) (n : Nat) {i : Nat} (h : i < n) : (sameL c n).getD i 0 = c := by
  simp [sameL, List.getD_eq_getElem?_getD, h]
theorem sameL_byt {c : Int} (n : Nat) (h : 0 ≤ c ∧ c < 256) : Byt (sameL c n) := fun x hx => by
  have := (List.mem_replicate.1 hx).2
  omega
attribute [irreducible] riseL sameL
theorem mac_hi : macL (sameL 11 20) [72, 105, 32, 84, 104, 101, 114, 101] = [176, 52, 76, 97, 216, 219, 56, 83, 92, 168, 175, 206, 175, 11, 241, 43, 136, 29, 194, 0, 201, 131, 61, 167, 38, 233, 55, 108, 46, 50, 207, 247] := by decide +kernel
theorem mac_prk : macL (riseL 0 13) (sameL 11 22) = [7, 119, 9, 54, 44, 46, 50, 223, 13, 220, 63, 13, 196, 123, 186, 99, 144, 182, 199, 59, 181, 15, 156, 49, 34, 236, 132, 74, 215, 194, 179, 229] := by decide +kernel
theorem exp_okm : expL [7, 119, 9, 54, 44, 46, 50, 223, 13, 220, 63, 13, 196, 123, 186, 99, 144, 182, 199, 59, 181, 15, 156, 49, 34, 236, 132, 74, 215, 194, 179, 229] (riseL 240 10) 42 = [60, 178, 95, 37, 250, 172, 213, 122, 144, 67, 79, 100, 208, 54, 47, 42, 45, 45, 10, 144, 207, 26, 90, 76, 93, 176, 45, 86, 236, 196, 197, 191, 52, 0, 114, 8, 213, 184, 135, 24, 88, 101] := by decide +kernel

end Go.Proofs.Ythpacdondnenmaa
