
/- Layer 26: the closure of Take that reads a number. Conditions: as each theorem states them. -/
import Derived.Test.YtibjafkclojimaaD3
namespace Go.Proofs.Ytibjafkclojimaa
open Go.RowKit
theorem or64 {z y : Int} (h0 : 0 ≤ z) (h1 : z < 72057594037927936) (y0 : 0 ≤ y) (y1 : y < 256) : bits .or .u64 (z * 256) y = z * 256 + y := by
  have h := bits_or_u64_nat (z.toNat * 256) y.toNat (by omega) (by omega)
  rw [show ((z.toNat * 256 : Nat) : Int) = z * 256 by omega, show ((y.toNat : Nat) : Int) = y by omega] at h
  rw [h, show z.toNat * 256 = z.toNat * 2 ^ 8 from rfl, or_add (by omega)]
  omega
theorem ofF_take {L : List Int} {j : Nat} (h : j < L.length) : ofF 0 (L.take (j + 1)) = 256 * ofF 0 (L.take j) + L.getD j 0 := by
  rw [take_snoc_getD h, ofF_snoc]
theorem pow_le7 {j : Nat} (h : j < 8) : (256 : Int) ^ j ≤ 72057594037927936 := by
  rcases (show j = 0 ∨ j = 1 ∨ j = 2 ∨ j = 3 ∨ j = 4 ∨ j = 5 ∨ j = 6 ∨ j = 7 by omega) with rfl | rfl | rfl | rfl | rfl | rfl | rfl | rfl <;> decide
/-- the bytes that are left: the block gr holds the slice -/
structure Rest (B gr : Nat) (w : World) (L : List Int) : Prop where
  b : ∃ A c, Blk w gr 50 #[.slice A L.length c] ∧ L.length ≤ c ∧ Rd B .u8 w A L
def NumPost (B gr : Nat) (L : List Int) (many : Nat) (w : World) (e : Ending) (w' : World) : Prop := e = .returned (.int .u64 (ofF 0 (L.take many))) ∧ Rest B gr w' (L.drop many) ∧ w.grownBy w' (some gr)
set_option maxRecDepth 100000 in
set_option maxHeartbeats 4000000 in
theorem num_any (B gr : Nat) (L : List Int) (many : Nat) (w : World) (hr : Rest B gr w L) (hB : B ≤ gr) (hb : Byt L) (hm : many ≤ L.length) (h8 : many ≤ 8) (hl : L.length ≤ 1000000000000) :
    Calls Try.prog 27 #[.int .i64 (many : Nat), .pointer (some ⟨gr, 0, none⟩)] w (NumPost B gr L many w) := by
  obtain ⟨A, c, hk, hc, hrd⟩ := hr
  obtain ⟨m, hmL⟩ : ∃ m, L.length = m := ⟨_, rfl⟩
  obtain ⟨A1, c1, s1, s2, s3, s4, s5⟩ := slice_h elC hrd hc (many : Int) many (by omega) rfl
  obtain ⟨A2, c2, t1, t2, t3, t4, t5⟩ := slice_l elC hrd hc (many : Int) (L.length - many) (by omega) (by omega) (by omega)
  rw [Int.toNat_natCast] at t3 t4
  rw [hmL] at hk hc hm s5 t5 t1 t4 hl
  have K0 := Lib.hid hk
  have k0 := Blk.cell hk 0
  have f0 := Blk.frozen hk 0
  simp at k0
  have RT := Lib.hid t3
  have R1 := Lib.hid s3
  have HBY := Lib.hid hb
  have HL1 := Lib.hid s4
  have T4 := Lib.hid t4
  have HM := Lib.hid hmL
  clear hk hrd s3 s4 t3 t4 hb hmL
  go_enter Try.func27, Try.ntmps27
  go_wp2_with fail
  go_loop [4, 11] (fun x i => ∃ j : Nat, j ≤ many ∧ i = .int .i64 j ∧ x = .int .u64 (ofF 0 (L.take j))) (fun _ i => many - (intOf i).toNat)
  case atStart => exact ⟨0, by omega, rfl, rfl⟩
  case round =>
    obtain ⟨j, hj, rfl, rfl⟩ := hrel
    have hrg := ofF_range 0 (L.take j) (HBY.out.take j) (by omega)
    rw [List.length_take, show min j L.length = j by have := HM.out; omega] at hrg
    by_cases hlt : j < many
    · have hp7 := pow_le7 (j := j) (by omega)
      obtain ⟨ad, hA, _, hcl⟩ := R1.out j (by rw [HL1.out]; exact hlt)
      rw [getD_take hlt] at hcl
      have hyb := HBY.out.getD j
      have HN : Hid (ofF 0 (L.take (j + 1)) = ofF 0 (L.take j) * 256 + L.getD j 0) := Lib.hid (by rw [ofF_take (by have := HM.out; omega)]; omega)
      generalize ofF 0 (L.take j) = z at *
      generalize L.getD j 0 = y at *
      have hor := or64 (z := z) (y := y) hrg.1 (by omega) hyb.1 hyb.2
      obtain ⟨hy0, hy1⟩ := hyb
      obtain ⟨hz0, hz1⟩ := hrg
      subst hA
      have hz2 : z < 72057594037927936 := by omega
      clear hp7 hz1
      go_wp2_with fail
      go_round
      case rel => exact ⟨j + 1, by omega, by go_num, by rw [HN.out]⟩
      case measure => simp [intOf]; omega
    · obtain rfl : j = many := by omega
      clear hrg
      go_wp2_with fail
      go_ret
      exact ⟨rfl, ⟨A2, c2, Blk.cast (K0.out.set_ 0 _) (by rw [T4.out]; rfl), by rw [T4.out]; exact t1, RT.out.keep fun q hq => World.cell?_setCell_other _ _ _ _ (fun e => by subst e; simp at hq; omega)⟩, only_setCell (World.grownBy.refl _ _) (.inl rfl) _⟩
end Go.Proofs.Ytibjafkclojimaa
