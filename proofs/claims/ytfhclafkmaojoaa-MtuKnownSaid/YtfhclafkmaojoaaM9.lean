/- The law MtuKnown (layer 36): its walk. Conditions: as each theorem states them. -/
import Derived.Test.YtfhclafkmaojoaaM8
namespace Go.Proofs.Ytfhclafkmaojoaa
open Go.RowKit

set_option maxHeartbeats 2000000 in
theorem known_walk (w : World) : Calls Try.prog 4 #[] w fun e w' => e = .returned (.bool true) ∧ Below w.heap.size w w' := by
  go_enter Try.func4, Try.ntmps4
  go_wp2_with fail
  refine (new_yes 1500 _ (by omega) (by omega)).mono ?_
  rintro e w1 ⟨rfl, hm1, hz1, hb1⟩
  have HM1 := Lib.hid hm1
  have HB1 := Lib.hid hb1
  have HZ1 := Lib.hid hz1
  clear hm1 hb1 hz1
  go_wp2_with fail
  refine (works_any _).mono ?_
  rintro e w2 ⟨rfl, hb2⟩
  have HM2 := Lib.hid (Blk.below HM1.out hb2 (Blk.lt HM1.out))
  have HB2 := Lib.hid (HB1.out.trans (hb2.mono HB1.out.size))
  clear hb2
  go_wp2_with fail
  refine (probe_yes _ _ _ HM2.out (by simp [MS.Fit]) (by simp) rfl).mono ?_
  rintro e w3 ⟨rfl, hm3, hg3⟩
  have HM3 : Hid (MSt w.heap.size w3 ⟨1200, 1500, 1350, 0, 0⟩) := Lib.hid hm3
  have HG3 := Lib.hid hg3
  clear hm3 hg3
  go_wp2_with fail
  refine (came_yes _ _ _ _ HM3.out (by omega) (by omega)).mono ?_
  rintro e w4 ⟨rfl, hm4, hg4⟩
  have HM4 : Hid (MSt w.heap.size w4 ⟨1350, 1500, 0, 0, 0⟩) := Lib.hid hm4
  have HG4 := Lib.hid (only_trans HG3.out hg4)
  clear hm4 hg4
  go_wp2_with fail
  refine (new_no 1199 _ (by omega)).mono ?_
  rintro e w' ⟨rfl, rfl⟩
  go_wp2_with fail
  refine (new_no 65528 _ (by omega)).mono ?_
  rintro e w' ⟨rfl, rfl⟩
  go_wp2_with fail
  refine (probe_nil _).mono ?_
  rintro e w' ⟨rfl, rfl⟩
  have hb4 : w.heap.size < w4.heap.size := Blk.lt HM4.out
  go_wp2_with fail
  have hm5 := HM4.out.alloc (.cells #[.int .i64 1425, .int .i64 1425, .int .i64 1425] 3)
  refine (probes_any _ _ _ hm5 (by go_simp) (by go_simp) (by go_simp) (by omega)).mono ?_
  rintro e w6 ⟨rfl, hm6, hg6⟩
  have HM6 := Lib.hid hm6
  have HG6 := Lib.hid (only_trans (only_alloc HG4.out _) hg6)
  clear hm5 hm6 hg6 hb4
  go_wp2_with fail
  refine (probe_yes _ _ _ HM6.out (by simp [MS.Fit]) (by simp) rfl).mono ?_
  rintro e w7 ⟨rfl, hm7, hg7⟩
  have HM7 : Hid (MSt w.heap.size w7 ⟨1350, 1424, 1387, 0, 0⟩) := Lib.hid hm7
  have HG7 := Lib.hid (only_trans HG6.out hg7)
  clear hm7 hg7
  go_wp2_with fail
  refine (size_nil _).mono ?_
  rintro e w' ⟨rfl, rfl⟩
  go_wp2_with fail
  refine (done_nil _).mono ?_
  rintro e w' ⟨rfl, k, rfl⟩
  have HM8 : Hid (MSt w.heap.size (w7.drewN k) ⟨1350, 1424, 1387, 0, 0⟩) := Lib.hid (Blk.drewN HM7.out k)
  have HG8 := Lib.hid (only_drewN HG7.out k)
  generalize w7.drewN k = w8 at *
  go_wp2_with fail
  refine (came_nil _ _).mono ?_
  rintro e w' ⟨rfl, rfl⟩
  go_wp2_with fail
  refine (lost_nil _ _).mono ?_
  rintro e w' ⟨rfl, rfl⟩
  go_wp2_with fail
  refine (again_nil _ _).mono ?_
  rintro e w' ⟨rfl, rfl⟩
  have hb8 : w.heap.size < w8.heap.size := Blk.lt HM8.out
  go_wp2_with fail
  have hm9 := (HM8.out.alloc (.cells #[.int .i64 1] 3)).alloc (.cells #[.int .i64 0] 3)
  have hrd : RdI w.heap.size ((w8.alloc (.cells #[.int .i64 1] 3)).alloc (.cells #[.int .i64 0] 3)) (some ⟨w8.heap.size + 1, 0, none⟩) [0] := rdI_one (by go_simp) (by omega)
  refine (lost_no _ _ _ _ [0] _ hm9 hrd (by simp) (by simp [inB])).mono ?_
  rintro e w9 ⟨rfl, hm9', hg9⟩
  have HM9 := Lib.hid hm9'
  have HG9 := Lib.hid (only_trans (only_alloc (only_alloc HG8.out _) _) hg9)
  clear hm9 hm9' hg9 hrd hb8
  go_wp2_with fail
  refine (came_no _ _ _ _ HM9.out (by omega)).mono ?_
  rintro e w10 ⟨rfl, hm10, hg10⟩
  have HM10 := Lib.hid hm10
  have HG10 := Lib.hid (only_trans HG9.out hg10)
  clear hm10 hg10
  go_wp2_with fail
  refine (again_no _ _ _ _ HM10.out (by omega)).mono ?_
  rintro e w11 ⟨rfl, hm11, hg11⟩
  have HG11 := Lib.hid (only_trans HG10.out hg11)
  clear hm11 hg11
  go_wp2_with fail
  go_ret
  exact ⟨rfl, HB2.out.trans (below_of_only HG11.out (Nat.le_refl _) HB2.out.size)⟩
end Go.Proofs.Ytfhclafkmaojoaa
