/- What is expanded for any number; the law's own rise, same and known; plain known values. Conditions: as each theorem states them. -/
import Derived.Test.YtepkbllcaeceeaaK4
namespace Go.Proofs.Ytepkbllcaeceeaa
open Go.RowKit

set_option maxRecDepth 100000 in
theorem expand_out (S : List Int) (A : Option Addr) (m c : Nat) (I : List Int) (n : Int) (w : World) (h : n < 1 ∨ 8160 < n) :
    Calls Try.prog 30 #[.agg (cellsL .u8 S), .slice A m c, .int .i64 n] w (SliPost (expL S I n) w) := by
  have HE := Lib.hid (expL_out S I h)
  rcases h with h | h
  · go_enter Try.func30, Try.ntmps30
    go_wp2_with fail
    go_ret
    exact ⟨none, 0, 0, rfl, by rw [HE.out]; rfl, Nat.le_refl _, by rw [HE.out]; exact Rd.nil, (Below.refl _ _).alloc (Nat.le_refl _) _⟩
  · have h' : ¬ n < 1 := by omega
    go_enter Try.func30, Try.ntmps30
    go_wp2_with fail
    go_ret
    exact ⟨none, 0, 0, rfl, by rw [HE.out]; rfl, Nat.le_refl _, by rw [HE.out]; exact Rd.nil, (Below.refl _ _).alloc (Nat.le_refl _) _⟩
theorem expand_any {m : Nat} (S : List Int) (A : Option Addr) (c : Nat) (I : List Int) (n : Int) (w : World) (hm : I.length = m) (hS : S.length = 32) (hSb : Byt S) (hr : Rd w.heap.size .u8 w A I) (hb : Byt I) (hcap : I.length ≤ c) (hl : I.length ≤ 1000000) :
    Calls Try.prog 30 #[.agg (cellsL .u8 S), .slice A m c, .int .i64 n] w (SliPost (expL S I n) w) := by
  by_cases h : n < 1 ∨ 8160 < n
  · exact expand_out S A m c I n w h
  · subst hm
    obtain ⟨N, rfl⟩ : ∃ N : Nat, n = (N : Int) := ⟨n.toNat, by omega⟩
    exact expand_in S A c I N w hS hSb hr hb hcap hl (by omega) (by omega)

def riseL (f n : Nat) : List Int := (List.range n).map fun i => ((f + i : Nat) : Int)
theorem riseL_len (f n : Nat) : (riseL f n).length = n := by simp [riseL]
theorem riseL_get (f n : Nat) {i : Nat} (h : i < n) : (riseL f n).getD i 0 = ((f + i : Nat) : Int) := by
  simp [riseL, List.getD_eq_getElem?_getD, h]
theorem riseL_byt {f n : Nat} (h : f + n ≤ 256) : Byt (riseL f n) := fun x hx => by
  obtain ⟨i, hi, rfl⟩ := List.mem_map.1 hx
  have := List.mem_range.1 hi
  omega
def sameL (c : Int) (n : Nat) : List Int := List.replicate n c
theorem sameL_len (c : Int) (n : Nat) : (sameL c n).length = n := by simp [sameL]
theorem sameL_get (c : Int) (n : Nat) {i : Nat} (h : i < n) : (sameL c n).getD i 0 = c := by
  simp [sameL, List.getD_eq_getElem?_getD, h]
theorem sameL_byt {c : Int} (n : Nat) (h : 0 ≤ c ∧ c < 256) : Byt (sameL c n) := fun x hx => by
  have := (List.mem_replicate.1 hx).2
  omega
attribute [irreducible] riseL sameL
theorem mac_hi : macL (sameL 11 20) [72, 105, 32, 84, 104, 101, 114, 101] = [176, 52, 76, 97, 216, 219, 56, 83, 92, 168, 175, 206, 175, 11, 241, 43, 136, 29, 194, 0, 201, 131, 61, 167, 38, 233, 55, 108, 46, 50, 207, 247] := by decide +kernel
theorem mac_prk : macL (riseL 0 13) (sameL 11 22) = [7, 119, 9, 54, 44, 46, 50, 223, 13, 220, 63, 13, 196, 123, 186, 99, 144, 182, 199, 59, 181, 15, 156, 49, 34, 236, 132, 74, 215, 194, 179, 229] := by decide +kernel
theorem exp_okm : expL [7, 119, 9, 54, 44, 46, 50, 223, 13, 220, 63, 13, 196, 123, 186, 99, 144, 182, 199, 59, 181, 15, 156, 49, 34, 236, 132, 74, 215, 194, 179, 229] (riseL 240 10) 42 = [60, 178, 95, 37, 250, 172, 213, 122, 144, 67, 79, 100, 208, 54, 47, 42, 45, 45, 10, 144, 207, 26, 90, 76, 93, 176, 45, 86, 236, 196, 197, 191, 52, 0, 114, 8, 213, 184, 135, 24, 88, 101] := by decide +kernel

theorem rise_any (f n : Nat) (w : World) (h : f + n ≤ 256) (_h : n ≤ 256) : Calls Try.prog 59 #[.int .u8 f, .int .i64 n] w (RetOwn 5 .u8 (riseL f n) w) := by
  go_enter Try.func59, Try.ntmps59
  go_wp2_with fail
  go_loopw [5, 8] (fun v i wr => ∃ (k : Nat) (A1 : Option Addr) (n1 c1 : Nat), k ≤ n ∧ i = .int .i64 k ∧ v = .slice A1 n1 c1 ∧ Hid (Own w.heap.size 5 .u8 wr A1 n1 c1 ((riseL f n).take k)) ∧ Hid (Below w.heap.size w wr)) (fun _ i _ => n - (intOf i).toNat)
  case atStart => exact ⟨0, none, 0, 0, by omega, rfl, rfl, Lib.hid (by rw [List.take_zero]; exact Own.nil _ _ _ _), Lib.hid (Below.refl _ _)⟩
  case round =>
    obtain ⟨k, A1, n1, c1, hk, rfl, rfl, HO, HB⟩ := hrel
    by_cases hlt : k < n
    · have HTK := Lib.hid (take_snoc_getD (xs := riseL f n) (t := k) (by rw [riseL_len]; omega))
      have HG := Lib.hid (riseL_get f n hlt)
      go_wp2_with (at_builtin; refine wpList_app (o := ⟨some 17, _, _, _, _, _⟩) elU8 rfl _ _ rfl rfl rfl (HO.out.alloc _) (Rd.newAt (xs := [_]) rfl rfl) rfl ?_ ?_ ?_; (simp only [List.length_take, List.length_cons, List.length_nil]; omega); (have := HB.out.size; simp <;> omega); intro A9 n9 c9 w9 q9; have H9 := Lib.hid q9.1; have B9 := Lib.hid ((HB.out.alloc HB.out.size _).trans q9.2.2.1); clear q9)
      go_roundw
      case rel => exact ⟨k + 1, A9, n9, c9, by omega, by go_num, rfl, Lib.hid (by
        rw [HTK.out, HG.out]
        have h := H9.out
        first | exact h | simpa using h), B9⟩
      case measure => simp [intOf]; omega
    · have hkn : k = n := by omega
      have HO2 : Hid (Own w.heap.size 5 .u8 wr A1 n1 c1 (riseL f n)) := Lib.hid (by have h := HO.out; rw [List.take_of_length_le (by rw [riseL_len]; omega)] at h; exact h)
      go_wp2_with fail
      go_ret
      exact ⟨_, _, _, rfl, HO2.out, HB.out⟩
theorem same_at (c : Int) (n : Nat) (w : World) (_h : n ≤ 256) (hmk : ∀ W : World, (Instr.makeSlice 28 (.int .i64 n) (.int .i64 n)).run Try.prog W = .ok (.slice (some ⟨W.heap.size, 0, none⟩) n n) (W.alloc (.cells (cellsL .u8 (zerL n)) 5))) :
    Calls Try.prog 58 #[.int .u8 c, .int .i64 n] w (SliPost (sameL c n) w) := by
  go_enter Try.func58, Try.ntmps58
  go_wp2_with fail
  clear hmk
  go_loopw [11] (fun i wr => ∃ k : Nat, k ≤ n ∧ i = .int .i64 k ∧ Hid (Arr wr w.heap.size 5 .u8 (mixL (zerL n) (sameL c n) k)) ∧ Hid (Below w.heap.size w wr)) (fun i _ => n - (intOf i).toNat)
  case atStart => exact ⟨0, by omega, rfl, Lib.hid (by rw [mix_zero]; exact Arr.newAt rfl rfl), Lib.hid ((Below.refl _ _).alloc (Nat.le_refl _) _)⟩
  case round =>
    obtain ⟨k, hk, rfl, HA, HB⟩ := hrel
    have hxl : Hid ((zerL n).length = (sameL c n).length) := Lib.hid (by rw [zerL_len, sameL_len])
    by_cases hlt : k < n
    · have hml : Hid ((mixL (zerL n) (sameL c n) k).length = n) := Lib.hid (by rw [mix_len hxl.out (by rw [zerL_len]; omega), zerL_len])
      have c0 := HA.out.cell (i := k) (by rw [hml.out]; omega)
      have c0' := HA.out.cellAdd (i := k) (by rw [hml.out]; omega)
      have f0 := HA.out.frozen k
      have f0' := HA.out.frozenAdd k
      have HMS := Lib.hid (mix_set hxl.out (k := k) (by rw [zerL_len]; omega))
      have HSG := Lib.hid (sameL_get c n hlt)
      generalize (mixL (zerL n) (sameL c n) k).getD k 0 = old at c0 c0'
      go_wp2_with fail
      go_roundw
      case rel => exact ⟨k + 1, by omega, by go_num, Lib.hid (Arr.cast (HA.out.set k _) (by rw [← HMS.out, HSG.out])), Lib.hid (HB.out.setCell (Nat.le_refl _) _)⟩
      case measure => simp [intOf]; omega
    · have hkn : k = n := by omega
      have HA8 : Hid (Arr wr w.heap.size 5 .u8 (sameL c n)) := Lib.hid (Arr.cast HA.out (by rw [hkn]; have := mix_full hxl.out; rw [sameL_len] at this; exact this))
      clear HA hkn
      go_wp2_with fail
      go_ret
      exact ⟨_, _, _, rfl, by rw [sameL_len], Nat.le_refl _, HA8.out.rd, HB.out⟩
theorem same_20 (w : World) : Calls Try.prog 58 #[.int .u8 11, .int .i64 20] w (SliPost (sameL 11 20) w) := same_at 11 20 w (by decide) (fun _ => by kernel_rfl)
theorem same_22 (w : World) : Calls Try.prog 58 #[.int .u8 11, .int .i64 22] w (SliPost (sameL 11 22) w) := same_at 11 22 w (by decide) (fun _ => by kernel_rfl)
end Go.Proofs.Ytepkbllcaeceeaa
