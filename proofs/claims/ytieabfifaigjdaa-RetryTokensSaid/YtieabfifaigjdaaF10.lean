/- Walk: the law RetryTokens. Conditions: as each theorem states them. -/
import Derived.Test.YtieabfifaigjdaaF8
import Derived.Test.YtieabfifaigjdaaF9
import Derived.Test.YtieabfifaigjdaaQN
namespace Go.Proofs.Ytieabfifaigjdaa
open Go.RowKit
attribute [local irreducible] tknL
set_option maxRecDepth 100000 in
set_option maxHeartbeats 8000000 in
theorem tokens_walk (sec : List Int) (addr now : Int) (A : Option Addr) (c : Nat) (orig : List Int) (w : World) (hs : sec.length = 32) (hsb : Byt sec) (hr : Rd w.heap.size .u8 w A orig) (hb : Byt orig) (hc : orig.length ≤ c) (hl0 : orig.length ≤ 140737488355328)
    (a0 : 0 ≤ addr) (a1 : addr < 4294967296) (t0 : 0 ≤ now) (t1 : now < 18446744073709551616) :
    Calls Try.prog 4 #[.agg (cellsL .u8 sec), .int .u32 addr, .slice A orig.length c, .int .u64 now] w fun e w' => e = .returned (.bool true) ∧ Below w.heap.size w w' := by
  have HS := Lib.hid hs
  have HSB := Lib.hid hsb
  have HR := Lib.hid hr
  have HB := Lib.hid hb
  obtain ⟨n, hn⟩ : ∃ z, orig.length = z := ⟨_, rfl⟩
  rw [hn] at hc hl0 ⊢
  have HN := Lib.hid hn
  have Z0 : Hid (Arr (w.alloc (.cells (cellsL .u8 sec) 35)) w.heap.size 35 .u8 sec) := Lib.hid (Arr.newAt rfl rfl)
  have B0 := Lib.hid ((Below.refl w.heap.size w).alloc (Nat.le_refl _) (.cells (cellsL .u8 sec) 35))
  clear hs hsb hr hb hn
  by_cases h3 : 300 < n
  · have h3' : (300 : Int) < (n : Int) := by omega
    go_enter Try.func4, Try.ntmps4
    go_wp2_with fail
    refine Calls.mono (works_any _) ?_
    rintro e w1 ⟨rfl, b1⟩
    have B1 := Lib.hid (B0.out.trans (b1.mono B0.out.size))
    clear b1
    go_wp2_with fail
    go_ret
    exact ⟨rfl, B1.out⟩
  have h3' : decide ((300 : Int) < (n : Int)) = false := decide_eq_false (by omega)
  by_cases h2 : 20 < n
  · have h2' : (20 : Int) < (n : Int) := by omega
    go_enter Try.func4, Try.ntmps4
    go_wp2_with ((with_reducible (show wpList _ _ _ (⟨some 16, .load _ _, _, _, _, _⟩ :: _) _ _)); refine wpList_loadV (o := ⟨some 16, .load _ _, _, _, _, _⟩) rfl _ rfl rfl (arr_load Z0.out Try.underlying35 size35 HS.out.symm) ?_)
    generalize w.alloc (.cells (cellsL .u8 sec) 35) = w0 at *
    refine Calls.mono (new_any sec 9 w0 HS.out) ?_
    rintro e w1 ⟨g, rfl, hk, hg, b1⟩
    have B1 := Lib.hid (B0.out.trans (b1.mono B0.out.size))
    clear b1 hk
    go_wp2_with fail
    refine Calls.mono (make_long g addr now A n c w1 h2) ?_
    rintro e w2 ⟨rfl, rfl⟩
    go_wp2_with fail
    refine Calls.mono (works_any _) ?_
    rintro e w3 ⟨rfl, b3⟩
    have B3 := Lib.hid (B1.out.trans (b3.mono B1.out.size))
    clear b3
    go_wp2_with fail
    go_ret
    exact ⟨rfl, B3.out⟩
  have h2' : decide ((20 : Int) < (n : Int)) = false := decide_eq_false (by omega)
  go_enter Try.func4, Try.ntmps4
  go_wp2_with ((with_reducible (show wpList _ _ _ (⟨some 16, .load _ _, _, _, _, _⟩ :: _) _ _)); refine wpList_loadV (o := ⟨some 16, .load _ _, _, _, _, _⟩) rfl _ rfl rfl (arr_load Z0.out Try.underlying35 size35 HS.out.symm) ?_)
  generalize w.alloc (.cells (cellsL .u8 sec) 35) = w0 at *
  refine Calls.mono (new_any sec 9 w0 HS.out) ?_
  rintro e w1 ⟨g, rfl, hk, hg, b1⟩
  have K1 := Lib.hid hk
  have Z1 := Lib.hid (Z0.out.below b1 Z0.out.lt)
  have B1 := Lib.hid (B0.out.trans (b1.mono B0.out.size))
  clear b1 hk Z0 B0
  go_wp2_with fail
  refine Calls.mono (make_any_ g sec 9 addr now A n c orig w1 K1.out HS.out HSB.out HN.out ((HR.out.below B1.out (Nat.le_refl _)).mono B1.out.size) HB.out (by omega) hc a0 a1 t0 t1) ?_
  rintro e w2 ⟨A2, n2, c2, rfl, o2, b2⟩
  have O2 := Lib.hid o2
  have Z2 := Lib.hid (Z1.out.below b2 Z1.out.lt)
  have B2 := Lib.hid (B1.out.trans (b2.mono B1.out.size))
  clear o2 b2 Z1 B1 K1
  have hz2 := B2.out.size
  have RT := Lib.hid (fun (W : World) (h : Rd W.heap.size .u8 W A orig) => rtoken_any sec addr now A n c orig W HS.out HSB.out HN.out h HB.out (by omega) a0 a1 t0 t1)
  generalize tknL sec addr now orig = L at *
  go_wp2_with fail
  have hcv5 : ∀ r : BW w2.heap.size w2, (convert 22 9 (.slice A2 n2 c2)).run Try.prog r.world = .ok (.string (strOfNums L)) r.world := fun r => conv_own elC Try.underlying9 (O2.out.below r.below)
  have HLD : ∀ r : BW w2.heap.size w2, (Instr.loadAt 35 (.pointer (some ⟨w.heap.size, 0, none⟩))).run Try.prog r.world = .ok (.agg (cellsL .u8 sec)) r.world := fun r => arr_load (Z2.out.below r.below Z2.out.lt) Try.underlying35 size35 HS.out.symm
  refine wp_region_mixN w2.heap.size [([0, 1, 2, 3, 4, 5], 6), ([7, 8, 9, 10, 11, 12, 13], 14)] [15, 16] (by kernel_rfl) (by kernel_rfl) (by kernel_rfl) (by kernel_rfl) ?_
  try (rw [put_none])
  simp only [pickL, List.map_cons, List.map_nil, List.filterMap_cons, List.filterMap_nil, List.getElem?_cons_succ, List.getElem?_cons_zero]
  refine mixN_cons ?_
  show wpQuiet _ _ _ _ (_ :: _) _
  go_big_quiet_step (fail)
  show wpQuiet _ _ _ _ (_ :: _) _
  go_big_quiet_step (fail)
  show wpQuiet _ _ _ _ (_ :: _) _
  refine wpQuiet_loadV (o := ⟨some 39, _, _, _, _, _⟩) rfl _ rfl rfl (fun w' hw' => by obtain ⟨r, rfl⟩ := hw'; exact HLD r) ?_
  simp only [Act.put, List.setIfInBounds_toArray, List.set_cons_zero, List.set_cons_succ]
  repeat (show wpQuiet _ _ _ _ (_ :: _) _; go_big_quiet_step (fail))
  refine wpQuiet_nil ?_
  show wpList _ _ _ [_] _ _
  go_wp2_with fail
  have BD := Lib.hid (B2.out.trans (Below.drew (Below.refl w.heap.size w2)))
  refine Calls.mono (RT.out _ ((HR.out.below BD.out (Nat.le_refl _)).mono BD.out.size)) ?_
  rintro e w7 ⟨A7, n7, c7, rfl, o7, b7⟩
  have B67 : Hid (Below w2.heap.size w2 w7) := Lib.hid ((Below.refl w2.heap.size w2).drew.trans b7)
  have hcv6 : ∀ r : BW w7.heap.size w7, (convert 22 9 (.slice A7 n7 c7)).run Try.prog r.world = .ok (.string (strOfNums L)) r.world := fun r => conv_own elC Try.underlying9 (o7.below r.below)
  have B7 := Lib.hid (B2.out.trans (B67.out.mono hz2))
  clear b7 hcv5 HLD
  generalize strOfNums L = sa at *
  go_wp2_with fail
  refine MixN.narrow B67.out B67.out.size ?_
  refine mixN_cons ?_
  repeat (show wpQuiet _ _ _ _ (_ :: _) _; go_big_quiet_step (fail))
  refine wpQuiet_nil ?_
  show wpList _ _ _ [_] _ _
  clear hcv6 o7
  go_wp2_with fail
  refine Calls.mono (works_any _) ?_
  rintro e w8 ⟨rfl, b8⟩
  have B8 := Lib.hid (B7.out.trans (b8.mono B7.out.size))
  have B78 := Lib.hid b8
  clear b8
  go_wp2_with fail
  refine MixN.narrow B78.out B78.out.size ?_
  refine mixN_nil ?_
  repeat (show wpQuiet _ _ _ _ (_ :: _) _; go_big_quiet_step (fail))
  refine wpQuiet_nil ?_
  refine NoPanic.normal ?_
  go_wp2_with fail
  go_ret
  exact ⟨rfl, B8.out⟩
end Go.Proofs.Ytieabfifaigjdaa
