/- The laws PacerKnown, PacerTogether (layer 35): the contract of works, and the laws' walks. Conditions: as each theorem states them. -/
import Derived.Test.YtfmbbjinlicbgaaP3
namespace Go.Proofs.Ytfmbbjinlicbgaa
open Go.RowKit

theorem rdU_one {g : Nat} {p : Int} {w : World} (h : w.cell? ⟨g, 0, none⟩ = some (.int .u64 p)) (h0 : 0 ≤ p) (h1 : p < 18446744073709551616) : RdU w (some ⟨g, 0, none⟩) [p] := by
  refine ⟨by simp; omega, fun k hk => ?_⟩
  have : k = 0 := by simpa using hk
  subst this
  exact ⟨_, rfl, by simpa [Addr.add] using h⟩
theorem rdU_nil {w : World} {A : Option Addr} : RdU w A [] := ⟨by simp, by simp⟩

set_option maxHeartbeats 1000000 in
theorem works_any (w : World) : Calls Try.prog 9 #[] w fun e w' => e = .returned (.bool true) ∧ Below w.heap.size w w' := by
  go_enter Try.func9, Try.ntmps9
  go_wp2_with fail
  refine (new_yes 1000 2000 _ (by unfold okNew; omega)).mono ?_
  rintro e w1 ⟨rfl, hm1, hz1, hb1⟩
  have HM1 : Hid (PSt w.heap.size w1 ⟨1000, 2000, 0, 2000000000⟩) := Lib.hid hm1
  have HB1 := Lib.hid hb1
  clear hm1 hb1 hz1
  go_wp2_with fail
  have hm2 := HM1.out.alloc (.cells #[.int .u64 1500] 22)
  have hr2 : RdU (w1.alloc (.cells #[.int .u64 1500] 22)) (some ⟨w1.heap.size, 0, none⟩) [1500] := rdU_one (by go_simp) (by omega) (by omega)
  refine (go_yes _ ⟨1000, 2000, 0, 2000000000⟩ 0 _ _ [1500] 500000000 _ hm2 (by simp [PS.Ok]) (by omega) (by omega) hr2 (by simp) (by decide)).mono ?_
  rintro e w3 ⟨rfl, hm3, hg3⟩
  have HM3 : Hid (PSt w.heap.size w3 ⟨1000, 2000, 0, 500000000⟩) := Lib.hid hm3
  have HG3 := Lib.hid (only_trans (only_alloc (World.grownBy.refl _ _) _) hg3)
  clear hm3 hg3 hr2 hm2
  have hmay := Lib.hid (may_any w.heap.size ⟨1000, 2000, 0, 500000000⟩ 0 501 w3 HM3.out (by simp [PS.Ok]) (by omega) (by omega))
  rw [show PS.mayS ⟨1000, 2000, 0, 500000000⟩ 0 501 = false from by decide] at hmay
  go_wp2_with fail
  refine hmay.out.mono ?_
  rintro e w4 ⟨rfl, hb4⟩
  have HM4 := Lib.hid (Blk.below HM3.out hb4 (Blk.lt HM3.out))
  have HB4 := Lib.hid hb4
  have hmay2 := Lib.hid (may_any w.heap.size ⟨1000, 2000, 0, 500000000⟩ 1000 501 w4 HM4.out (by simp [PS.Ok]) (by omega) (by omega))
  rw [show PS.mayS ⟨1000, 2000, 0, 500000000⟩ 1000 501 = true from by decide] at hmay2
  clear hb4 hmay
  go_wp2_with fail
  refine hmay2.out.mono ?_
  rintro e w5 ⟨rfl, hb5⟩
  have HM5 := Lib.hid (Blk.below HM4.out hb5 (Blk.lt HM4.out))
  have HB5 := Lib.hid hb5
  have hnx := Lib.hid (next_yes w.heap.size ⟨1000, 2000, 0, 500000000⟩ 0 600 w5 HM5.out (by simp [PS.Ok]) (by omega) (by omega) (by omega) (by simp))
  rw [show (PS.afterS ⟨1000, 2000, 0, 500000000⟩ 0).nextS 600 = 100000 from by decide] at hnx
  clear hb5 hmay2
  go_wp2_with fail
  refine hnx.out.mono ?_
  rintro e w6 ⟨rfl, hb6⟩
  have HM6 := Lib.hid (Blk.below HM5.out hb6 (Blk.lt HM5.out))
  have HB6 := Lib.hid hb6
  clear hb6 hnx
  go_wp2_with fail
  have hm7 := HM6.out.alloc (.cells #[.int .u64 600] 22)
  have hr7 : RdU (w6.alloc (.cells #[.int .u64 600] 22)) (some ⟨w6.heap.size, 0, none⟩) [600] := rdU_one (by go_simp) (by omega) (by omega)
  refine (go_no _ ⟨1000, 2000, 0, 500000000⟩ 0 _ _ [600] _ hm7 (by simp [PS.Ok]) (by omega) (by omega) hr7 (by simp) (by decide)).mono ?_
  rintro e w8 ⟨rfl, hb8⟩
  have HB8 := Lib.hid hb8
  clear hb8 hm7 hr7
  go_wp2_with fail
  go_ret
  have x3 := HB1.out.trans (below_of_only HG3.out (Nat.le_refl _) HB1.out.size)
  have x4 := x3.trans (HB4.out.mono x3.size)
  have x5 := x4.trans (HB5.out.mono x4.size)
  have x6 := x5.trans (HB6.out.mono x5.size)
  have x7 := x6.alloc x6.size (.cells #[.int .u64 600] 22)
  exact ⟨rfl, x7.trans (HB8.out.mono x7.size)⟩

set_option maxHeartbeats 1000000 in
theorem known_walk (w : World) : Calls Try.prog 6 #[] w fun e w' => e = .returned (.bool true) ∧ Below w.heap.size w w' := by
  go_enter Try.func6, Try.ntmps6
  go_wp2_with fail
  refine (new_yes 1000 2000 _ (by unfold okNew; omega)).mono ?_
  rintro e w1 ⟨rfl, hm1, hz1, hb1⟩
  have HM1 : Hid (PSt w.heap.size w1 ⟨1000, 2000, 0, 2000000000⟩) := Lib.hid hm1
  have HB1 := Lib.hid hb1
  clear hm1 hb1 hz1
  go_wp2_with fail
  refine (works_any _).mono ?_
  rintro e w2 ⟨rfl, hb2⟩
  have HM2 := Lib.hid (Blk.below HM1.out hb2 (Blk.lt HM1.out))
  have HB2 := Lib.hid (HB1.out.trans (hb2.mono HB1.out.size))
  clear hb2
  go_wp2_with fail
  refine (next_long _ ⟨1000, 2000, 0, 2000000000⟩ _ _ _ HM2.out (by simp)).mono ?_
  rintro e w' ⟨rfl, rfl⟩
  go_wp2_with fail
  refine (new_no _ _ _ (by unfold okNew; omega)).mono ?_
  rintro e w' ⟨rfl, rfl⟩
  go_wp2_with fail
  refine (new_no _ _ _ (by unfold okNew; omega)).mono ?_
  rintro e w' ⟨rfl, rfl⟩
  go_wp2_with fail
  refine (new_no _ _ _ (by unfold okNew; omega)).mono ?_
  rintro e w' ⟨rfl, rfl⟩
  go_wp2_with fail
  refine (next_nil _ _ _).mono ?_
  rintro e w' ⟨rfl, rfl⟩
  go_wp2_with fail
  refine (rate_no _ _ _ _ (by omega)).mono ?_
  rintro e w' ⟨rfl, rfl⟩
  go_wp2_with fail
  refine (rate_nil _ _ _).mono ?_
  rintro e w' ⟨rfl, rfl⟩
  go_wp2_with fail
  refine (go_nil _ _ _).mono ?_
  rintro e w' ⟨rfl, rfl⟩
  go_wp2_with fail
  refine (may_nil _ _ _).mono ?_
  rintro e w' ⟨rfl, rfl⟩
  go_wp2_with fail
  refine (level_nil _ _).mono ?_
  rintro e w' ⟨rfl, rfl⟩
  go_wp2_with fail
  go_ret
  exact ⟨rfl, HB2.out⟩

theorem after_ge (p : PS) (now : Int) : now ≤ (p.afterS now).at_ := by
  unfold PS.afterS
  by_cases g : now ≤ p.at_
  · rw [if_pos g]; exact g
  · rw [if_neg g]; simp only; omega
theorem after_idem (p : PS) (now m : Int) : PS.afterS { p.afterS now with level := m } now = { p.afterS now with level := m } := by
  have h := after_ge p now
  generalize p.afterS now = q at *
  unfold PS.afterS
  rw [if_pos h]
/-- the second pacer, behind k packets -/
def TB (q : PS) (at_ : Int) (ns : List Int) (all : Bool) (st : PS) : Prop := st.Ok ∧ ((all = true ∧ ∃ m, goL q.level ns = some m ∧ st.afterS at_ = { q with level := m }) ∨ (all = false ∧ goL q.level ns = none))
end Go.Proofs.Ytfmbbjinlicbgaa
