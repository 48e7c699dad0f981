/- Contract of gcm: the closure fill of stream.tag. Conditions: as each theorem states them. -/
import Derived.Test.YtepkbllcaeceeaaG8
namespace Go.Proofs.Ytepkbllcaeceeaa
open Go.RowKit
/-- a variable in block g7 that holds a slice of its own -/
def VA (B g7 : Nat) (A : Option Addr) (n c : Nat) (L : List Int) (wr : World) : Prop :=
  Blk wr g7 28 #[.slice A n c] ∧ Own B 5 .u8 wr A n c L ∧ (∀ ad, A = some ad → ad.block ≠ g7) ∧ B ≤ g7
section
variable {B g7 n c : Nat} {A : Option Addr} {L : List Int} {wr w' : World}
theorem VA.below (h : VA B g7 A n c L wr) (hb : Below wr.heap.size wr w') : VA B g7 A n c L w' := ⟨h.1.below hb (Blk.lt h.1), h.2.1.below hb, h.2.2⟩
theorem VA.cell (h : VA B g7 A n c L wr) : wr.cell? ⟨g7, 0, none⟩ = some (.slice A n c) := by rw [Blk.cell h.1 0]; rfl
theorem VA.keep {zs : List Int} {A' : Option Addr} {n' c' : Nat} (h : VA B g7 A n c L wr) (q : Apd B 5 .u8 wr A zs A' n' c' w') : Blk w' g7 28 #[.slice A n c] :=
  Blk.grown h.1 q.2.1 (fun e => by
    rcases A with _ | ad
    · cases e
    · exact h.2.2.1 ad rfl (by injection e with e; exact e.symm))
theorem VA.put {zs : List Int} {A' : Option Addr} {n' c' : Nat} (h : VA B g7 A n c L wr) (q : Apd B 5 .u8 wr A zs A' n' c' w') : VA B g7 A' n' c' zs (w'.setCell ⟨g7, 0, none⟩ (.slice A' n' c')) := by
  have hA : ∀ ad, A' = some ad → ad.block ≠ g7 := fun ad e => by
    rcases q.2.2.2 with h1 | ⟨b, h1, h2⟩
    · exact h.2.2.1 ad (by rw [← h1, e])
    · rw [e] at h1
      injection h1 with h1
      subst h1
      have := Blk.lt h.1
      omega
  exact ⟨(VA.keep h q).set_ 0 _, q.1.farA hA _, hA, h.2.2.2⟩
end
theorem whL_eq (L : List Int) : whL L = L ++ List.replicate ((16 - L.length % 16) % 16) 0 := rfl
def padW (g7 : Nat) (w : World) : Nat := (16 - lenS ((w.cell? ⟨g7, 0, none⟩).getD undef) % 16) % 16
theorem padW_of {g7 n c : Nat} {A : Option Addr} {w : World} (h : w.cell? ⟨g7, 0, none⟩ = some (.slice A n c)) : padW g7 w = (16 - n % 16) % 16 := by unfold padW; rw [h]; rfl
attribute [irreducible] padW
set_option maxRecDepth 100000 in
set_option maxHeartbeats 4000000 in
theorem fill_any (B g7 n c : Nat) (A : Option Addr) (L : List Int) (w : World) (h : VA B g7 A n c L w) (hl : L.length ≤ 20000) :
    Calls Try.prog 72 #[.pointer (some ⟨g7, 0, none⟩)] w fun e w' => (∃ v, e = .returned v) ∧ ∃ A' n' c', VA B g7 A' n' c' (whL L) w' ∧ Below B w w' := by
  have HL := Lib.hid hl
  have H0 : Hid (VA B g7 A n c (L ++ List.replicate 0 0) w) := Lib.hid (by rw [List.replicate_zero, List.append_nil]; exact h)
  have HB0 : Hid (B ≤ w.heap.size) := Lib.hid (Nat.le_of_lt (Nat.lt_of_le_of_lt h.2.2.2 (Blk.lt h.1)))
  have HN0 : Hid (n = L.length + 0) := Lib.hid (by rw [h.2.1.len]; rfl)
  have HW := Lib.hid (whL_eq L)
  clear h hl
  go_enter Try.func72, Try.ntmps72
  go_wp2_with fail
  go_loopw [1] (fun _ wr => ∃ (j n c : Nat) (A : Option Addr), Hid (n = L.length + j) ∧ Hid (j ≤ (16 - L.length % 16) % 16) ∧ Hid (VA B g7 A n c (L ++ List.replicate j 0) wr) ∧ Hid (Below B w wr)) (fun _ wr => padW g7 wr)
  case atStart => exact ⟨0, n, c, A, HN0, Lib.hid (by omega), H0, Lib.hid (Below.refl _ _)⟩
  case round =>
    clear HN0 H0
    obtain ⟨j, n, c, A, HN, HJ, HV, HB⟩ := hrel
    have c0 := HV.out.cell
    by_cases hlt : n % 16 = 0
    · have hni : (n : Int) % 16 = 0 := by omega
      go_wp2_with fail
      go_end0
      exact ⟨⟨_, rfl⟩, A, n, c, by
        have h := HV.out
        have h1 := HN.out
        have h2 := HJ.out
        rw [HW.out, show (16 - L.length % 16) % 16 = j by omega]
        exact h, HB.out⟩
    · have hni : (n : Int) % 16 ≠ 0 := by omega
      have HBS := Lib.hid (Nat.le_trans HB0.out HB.out.size)
      have HV2 := Lib.hid (HV.out.below ((Below.refl wr.heap.size wr).alloc (Nat.le_refl _) (.cells #[.int .u8 0] 5)))
      go_wp2_with (at_builtin; refine wpList_app (o := ⟨some 7, _, _, _, _, _⟩) elB8 rfl _ _ rfl rfl rfl HV2.out.2.1 (Rd.newAt (xs := [0]) rfl rfl) rfl ?_ ?_ ?_; (have := HL.out; have := HJ.out; simp <;> omega); (have := HBS.out; simp <;> omega); intro A9 n9 c9 w9 q9; have V9 := Lib.hid (HV2.out.put q9); have K9 := HV2.out.keep q9; have k9 : w9.cell? ⟨g7, 0, none⟩ = some (.slice A n c) := (by rw [Blk.cell K9 0]; rfl); have f9 := Blk.frozen K9 0; have N9 : Hid (n9 = n + 1) := Lib.hid (by rw [q9.1.len, HV.out.2.1.len]; simp <;> omega); have B9 := Lib.hid (((HB.out.alloc HBS.out _).trans q9.2.2.1).setCell (p := ⟨g7, 0, none⟩) HV.out.2.2.2 (.slice A9 n9 c9)); clear q9 K9)
      have V8 : Hid (VA B g7 A9 n9 c9 (L ++ List.replicate (j + 1) 0) (w9.setCell ⟨g7, 0, none⟩ (.slice A9 n9 c9))) := Lib.hid (by
        have h := V9.out
        rwa [List.append_assoc, show List.replicate j (0 : Int) ++ [0] = List.replicate (j + 1) 0 from List.replicate_succ'.symm] at h)
      go_roundw
      case rel => exact ⟨j + 1, n9, c9, A9, Lib.hid (by have := N9.out; have := HN.out; omega), Lib.hid (by have := HN.out; have := HJ.out; omega), V8, B9⟩
      case measure =>
        rw [padW_of c0, padW_of V8.out.cell]
        have := N9.out
        omega
end Go.Proofs.Ytepkbllcaeceeaa
