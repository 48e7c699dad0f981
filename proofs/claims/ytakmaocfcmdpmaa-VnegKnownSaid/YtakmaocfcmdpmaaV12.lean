/- Walk: the law VnegKnown. Conditions: as each theorem states them. -/
import Derived.Test.YtakmaocfcmdpmaaV11
import Derived.Test.YtakmaocfcmdpmaaMK
namespace Go.Proofs.Ytakmaocfcmdpmaa
open Go.RowKit
def L65 : List Int := List.replicate 65 0
def L1300 : List Int := List.replicate 1300 0
theorem L65_len : L65.length = 65 := List.length_replicate
theorem L1300_len : L1300.length = 1300 := List.length_replicate
theorem L1300_byt : Byt L1300 := fun x hx => by rw [(List.mem_replicate.1 hx).2]; decide
theorem L1300_spl : spl L1300 = none := by
  unfold spl
  exact if_pos (.inr (by decide +kernel))
theorem make65 (W : World) : (Instr.makeSlice 22 (.int .i64 65) (.int .i64 65)).run Try.prog W = .ok (.slice (some ⟨W.heap.size, 0, none⟩) 65 65) (W.alloc (.cells (L65.map (Value.int .u32)).toArray 23)) := make_any elU32 65 (by omega) W
theorem make1300 (W : World) : (Instr.makeSlice 30 (.int .i64 1300) (.int .i64 1300)).run Try.prog W = .ok (.slice (some ⟨W.heap.size, 0, none⟩) 1300 1300) (W.alloc (.cells (L1300.map (Value.int .u8)).toArray 5)) := make_any elU8 1300 (by omega) W
attribute [irreducible] L65 L1300
theorem put_no65 (A3 : Option Addr) (w : World) :
    Calls Try.prog 18 #[.agg #[.slice none 0 0, .slice none 0 0, .slice A3 65 65]] w fun e w' => e = .returned (.tuple #[.slice none 0 0, .int .i64 2]) ∧ Below w.heap.size w w' := by
  have h := put_no none none A3 0 0 65 [] [] L65 w (by simp [okPut, L65_len]) (by simp) (by simp) (by rw [L65_len]; omega)
  rw [L65_len] at h
  exact h
theorem reply1300 (A Am : Option Addr) (w : World) (hr : Rd w.heap.size .u8 w A L1300) (hm : Rd w.heap.size .u32 w Am [1]) :
    Calls Try.prog 13 #[.slice A 1300 1300, .slice Am 1 1] w fun e w' => e = .returned (.tuple #[.slice none 0 0, .int .i64 4]) ∧ Below w.heap.size w w' := by
  have h := reply_none A Am 1300 1 L1300 [1] w hr hm L1300_byt (by rw [L1300_len]; omega) (by rw [L1300_len]; omega) (by simp) (.inl L1300_spl)
  rw [L1300_len] at h
  exact h
theorem next5 (Av Ar Am : Option Addr) (w : World) (hv : Rd w.heap.size .u32 w Av [7]) (hr : Rd w.heap.size .u8 w Ar []) (hm : Rd w.heap.size .u32 w Am [7]) :
    Calls Try.prog 17 #[.agg #[.slice none 0 0, .slice none 0 0, .slice Av 1 1], .slice none 0 0, .slice Ar 0 0, .int .u32 7, .slice Am 1 1] w
      fun e w' => e = .returned (.tuple #[.int .u32 0, .int .i64 6]) ∧ Below w.heap.size w w' := by
  have h := next_any none none Av none Ar Am 0 0 1 0 0 1 [] [] [7] [] [] 7 [7] w Rd.nil Rd.nil hv Rd.nil hr hm Byt.nil Byt.nil Byt.nil (Byt.nil) (by simp) (by simp)
  rw [show nextR [] [] [7] [] [] 7 [7] = (0, 6) by decide +kernel] at h
  exact h
theorem next6 (Av Ar Am : Option Addr) (w : World) (hv : Rd w.heap.size .u32 w Av [7]) (hr : Rd w.heap.size .u8 w Ar [1]) (hm : Rd w.heap.size .u32 w Am [7]) :
    Calls Try.prog 17 #[.agg #[.slice none 0 0, .slice none 0 0, .slice Av 1 1], .slice none 0 0, .slice Ar 1 1, .int .u32 8, .slice Am 1 1] w
      fun e w' => e = .returned (.tuple #[.int .u32 0, .int .i64 2]) ∧ Below w.heap.size w w' := by
  have h := next_any none none Av none Ar Am 0 0 1 0 1 1 [] [] [7] [] [1] 8 [7] w Rd.nil Rd.nil hv Rd.nil hr hm Byt.nil Byt.nil Byt.nil (by intro x hx; simp at hx; omega) (by simp) (by simp)
  rw [show nextR [] [] [7] [] [1] 8 [7] = (0, 2) by decide +kernel] at h
  exact h
theorem next7 (Av Ar Am : Option Addr) (w : World) (hv : Rd w.heap.size .u32 w Av [7]) (hr : Rd w.heap.size .u8 w Ar []) (hm : Rd w.heap.size .u32 w Am [9]) :
    Calls Try.prog 17 #[.agg #[.slice none 0 0, .slice none 0 0, .slice Av 1 1], .slice none 0 0, .slice Ar 0 0, .int .u32 8, .slice Am 1 1] w
      fun e w' => e = .returned (.tuple #[.int .u32 0, .int .i64 4]) ∧ Below w.heap.size w w' := by
  have h := next_any none none Av none Ar Am 0 0 1 0 0 1 [] [] [7] [] [] 8 [9] w Rd.nil Rd.nil hv Rd.nil hr hm Byt.nil Byt.nil Byt.nil (Byt.nil) (by simp) (by simp)
  rw [show nextR [] [] [7] [] [] 8 [9] = (0, 4) by decide +kernel] at h
  exact h
theorem choose8 (A A2 : Option Addr) (w : World) (hr : Rd w.heap.size .u32 w A [0, 168430090]) (hr2 : Rd w.heap.size .u32 w A2 [0, 168430090]) :
    Calls Try.prog 9 #[.slice A 2 2, .slice A2 2 2] w fun e w' => e = .returned (.tuple #[.int .u32 0, .bool false]) ∧ w = w' := by
  have h := choose_any A A2 2 2 [0, 168430090] [0, 168430090] w hr hr2 (by simp) (by simp)
  rw [show chsV (chs [0, 168430090] [0, 168430090]) = .tuple #[.int .u32 0, .bool false] by rw [show chs [0, 168430090] [0, 168430090] = none by decide +kernel]; rfl] at h
  exact h
set_option maxRecDepth 100000 in
set_option maxHeartbeats 4000000 in
theorem known_walk (w : World) : Calls Try.prog 6 #[] w fun e w' => e = .returned (.bool true) ∧ Below w.heap.size w w' := by
  have m65 := make65
  have m13 := make1300
  go_enter Try.func6, Try.ntmps6
  go_wp2_with fail
  refine (put_no none none none 0 0 0 [] [] [] _ (by simp [okPut]) (by simp) (by simp) (by simp)).mono ?_
  rintro e w1 ⟨rfl, hb1⟩
  have B1 := Lib.hid hb1
  have hz1 := hb1.size
  clear hb1
  go_wp2_with fail
  refine (put_no65 _ _).mono ?_
  rintro e w2 ⟨rfl, hb2⟩
  have B2 : Hid (Below w.heap.size w w2) := Lib.hid ((B1.out.alloc hz1 _).trans (hb2.mono (by simp; omega)))
  have hz2 := B2.out.size
  clear hb2 B1 hz1
  go_wp2_with fail
  refine (take_no none 0 [] _ Rd.nil Byt.nil (by simp) (by simp) rfl).mono ?_
  rintro e w3 ⟨rfl, hb3⟩
  have B3 : Hid (Below w.heap.size w w3) := Lib.hid (B2.out.trans (hb3.mono hz2))
  have hz3 := B3.out.size
  clear hb3 B2 hz2
  unfold noPk
  go_wp2_with fail
  refine (reply1300 _ _ _ ((Rd.newAt (xs := L1300) (by simp) rfl).alloc (by simp) _ |>.mono (by simp)) ((Rd.newAt (xs := [1]) (by simp) rfl).mono (by simp))).mono ?_
  rintro e w4 ⟨rfl, hb4⟩
  have B4 : Hid (Below w.heap.size w w4) := Lib.hid ((((B3.out.alloc hz3 _).alloc (by simp; omega) _).alloc (by simp; omega) _).trans (hb4.mono (by simp; omega)))
  have hz4 := B4.out.size
  clear hb4 B3 hz3
  go_wp2_with fail
  refine (next5 _ _ _ _ ((Rd.newAt (xs := [7]) (by simp) rfl).alloc (by simp) _ |>.mono (by simp)) Rd.nil ((Rd.newAt (xs := [7]) (by simp) rfl).mono (by simp))).mono ?_
  rintro e w5 ⟨rfl, hb5⟩
  have B5 : Hid (Below w.heap.size w w5) := Lib.hid (((B4.out.alloc hz4 _).alloc (by simp; omega) _).trans (hb5.mono (by simp; omega)))
  have hz5 := B5.out.size
  clear hb5 B4 hz4
  go_wp2_with fail
  refine (next6 _ _ _ _ (((Rd.newAt (xs := [7]) (by simp) rfl).alloc (by simp) _).alloc (by simp) _ |>.mono (by simp)) ((Rd.newAt (xs := [1]) (by simp) rfl).alloc (by simp) _ |>.mono (by simp)) ((Rd.newAt (xs := [7]) (by simp) rfl).mono (by simp))).mono ?_
  rintro e w6 ⟨rfl, hb6⟩
  have B6 : Hid (Below w.heap.size w w6) := Lib.hid ((((B5.out.alloc hz5 _).alloc (by simp; omega) _).alloc (by simp; omega) _).trans (hb6.mono (by simp; omega)))
  have hz6 := B6.out.size
  clear hb6 B5 hz5
  go_wp2_with fail
  refine (next7 _ _ _ _ ((Rd.newAt (xs := [7]) (by simp) rfl).alloc (by simp) _ |>.mono (by simp)) Rd.nil ((Rd.newAt (xs := [9]) (by simp) rfl).mono (by simp))).mono ?_
  rintro e w7 ⟨rfl, hb7⟩
  have B7 : Hid (Below w.heap.size w w7) := Lib.hid (((B6.out.alloc hz6 _).alloc (by simp; omega) _).trans (hb7.mono (by simp; omega)))
  have hz7 := B7.out.size
  clear hb7 B6 hz6
  go_wp2_with fail
  refine (choose8 _ _ _ ((Rd.newAt (xs := [0, 168430090]) (by simp) rfl).alloc (by simp) _ |>.mono (by simp)) ((Rd.newAt (xs := [0, 168430090]) (by simp) rfl).mono (by simp))).mono ?_
  rintro e w8 ⟨rfl, rfl⟩
  go_wp2_with fail
  refine (works_any _).mono ?_
  rintro e w9 ⟨rfl, hb9⟩
  have B9 : Hid (Below w.heap.size w w9) := Lib.hid (((B7.out.alloc hz7 _).alloc (by simp; omega) _).trans (hb9.mono (by simp; omega)))
  clear hb9 B7 hz7
  go_wp2_with fail
  go_ret
  exact ⟨rfl, B9.out⟩
end Go.Proofs.Ytakmaocfcmdpmaa
