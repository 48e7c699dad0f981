/- Contracts: the reference's Learn, To, Forward (layer 29). Conditions: as each theorem states them. -/
import Derived.Test.YtlefnddhmpgijaaR14
import Derived.Test.YtlefnddhmpgijaaR5
namespace Go.Proofs.Ytlefnddhmpgijaa
open Go.RowKit
theorem results_r2 {w : World} {g : Nat} {c0 c1 : Value} {fn : Func} {x u : Tmp} {tmps : Array Value} (hr : fn.results = #[.cell x 31, .tmp u]) (hx : tmps.getD x undef = .pointer (some ⟨g, 0, none⟩)) (h : Blk w g 31 #[c0, c1]) :
    (results fn tmps).run Try.prog w = .ok (.tuple #[.agg #[c0, c1], tmps.getD u undef]) w := by
  have a0 := Blk.cell h 0
  have a1 := Blk.cell h 1
  simp at a0 a1
  have hx' : tmps[x]?.getD undef = .pointer (some ⟨g, 0, none⟩) := by simpa using hx
  simp [results, hr, hx', go_sem, a0, a1]
theorem new_at (w : World) (o : Obj) (t : TypeId) (cs : Array Value) : Blk ((w.alloc o).alloc (.cells cs t)) (w.heap.size + 1) t cs := by
  have h := Blk.new (w.alloc o) t cs
  rw [World.size_alloc] at h
  exact h
def rlV (x : Bool) (e o ep ow : Int) : Value := .tuple #[.agg #[.int .u64 (if x then ep else e), .int .u8 (if x then ow else o)], .bool x]
set_option maxHeartbeats 2000000 in
theorem rlearn_any (e0 o ep ow : Int) (w : World) (ho : 0 ≤ o) (hw : 0 ≤ ow) :
    Calls Try.prog 11 #[.agg #[.int .u64 e0, .int .u8 o], .int .u64 ep, .int .u8 ow] w fun e w' => e = .returned (rlV (lrnB (decide (0 < o)) e0 ep ow) e0 o ep ow) ∧ Below w.heap.size w w' := by
  unfold lrnB procB
  by_cases h1 : ow < 1
  · have hx : (ow == 1 || ow == 2) = false := by simp; omega
    rw [hx, Bool.false_and]
    unfold rlV
    simp only [Bool.false_eq_true, if_false]
    go_enter Try.func11, Try.ntmps11
    go_wp2_with fail
    refine bodyPost_ret (results_r2 rfl rfl (new_at w _ _ _)) rfl ⟨rfl, ?_⟩
    exact ((Below.refl _ _).alloc (Nat.le_refl _) _).alloc (by simp) _
  by_cases h2 : 2 < ow
  · have hx : (ow == 1 || ow == 2) = false := by simp; omega
    rw [hx, Bool.false_and]
    unfold rlV
    simp only [Bool.false_eq_true, if_false]
    go_enter Try.func11, Try.ntmps11
    go_wp2_with fail
    refine bodyPost_ret (results_r2 rfl rfl (new_at w _ _ _)) rfl ⟨rfl, ?_⟩
    exact ((Below.refl _ _).alloc (Nat.le_refl _) _).alloc (by simp) _
  have hx : (ow == 1 || ow == 2) = true := by simp; omega
  rw [hx]
  by_cases h3 : 0 < o
  · by_cases h4 : ep ≤ e0
    · have hy : (true && (!decide (0 < o) || decide (e0 < ep))) = false := by simp [h3]; omega
      rw [hy]
      unfold rlV
      simp only [Bool.false_eq_true, if_false]
      go_enter Try.func11, Try.ntmps11
      go_wp2_with fail
      refine bodyPost_ret (results_r2 rfl rfl (new_at w _ _ _)) rfl ⟨rfl, ?_⟩
      exact ((Below.refl _ _).alloc (Nat.le_refl _) _).alloc (by simp) _
    · have hy : (true && (!decide (0 < o) || decide (e0 < ep))) = true := by simp; omega
      rw [hy]
      unfold rlV
      simp only [if_true]
      have h4' : e0 < ep := by omega
      go_enter Try.func11, Try.ntmps11
      go_wp2_with fail
      refine bodyPost_ret (results_r2 rfl rfl (new_at w _ _ _)) rfl ⟨rfl, ?_⟩
      exact ((Below.refl _ _).alloc (Nat.le_refl _) _).alloc (by simp) _
  · have hy : (true && (!decide (0 < o) || decide (e0 < ep))) = true := by simp; omega
    rw [hy]
    unfold rlV
    simp only [if_true]
    go_enter Try.func11, Try.ntmps11
    go_wp2_with fail
    refine bodyPost_ret (results_r2 rfl rfl (new_at w _ _ _)) rfl ⟨rfl, ?_⟩
    exact ((Below.refl _ _).alloc (Nat.le_refl _) _).alloc (by simp) _
set_option maxHeartbeats 2000000 in
theorem rto_any (e0 o : Int) (A : Option Addr) (c : Nat) (b : List Int) (w : World) (hr : Rd w.heap.size .u8 w A b) (hb : Byt b) (hl : b.length ≤ 1000000000000) (hc : b.length ≤ c) :
    Calls Try.prog 16 #[.agg #[.int .u64 e0, .int .u8 o], .slice A b.length c] w fun e w' => e = .returned (toV ((splitL b 8).isSome && (o != 0)) o) ∧ Below w.heap.size w w' := by
  have HS := Lib.hid (rsplit_any A c b (w.alloc (.cells #[.int .u64 e0, .int .u8 o] 31)) ((hr.alloc (Nat.le_refl _) _).mono (by simp)) hb hl hc)
  have PB := Lib.hid (Blk.new w 31 #[.int .u64 e0, .int .u8 o])
  clear hr hb
  unfold RSplPost at HS
  rcases hs : (splitL b 8).isSome with _ | _
  · rw [hs] at HS
    clear hs
    go_enter Try.func16, Try.ntmps16
    go_wp2_with fail
    refine HS.out.mono ?_
    rintro e w1 ⟨sp, at_, fin, A1, As, At, n, c1, ns, cs, nt, ct, rfl, -, -, hb1, -⟩
    have HB := Lib.hid (((Below.refl w.heap.size w).alloc (Nat.le_refl _) _).trans (hb1.mono (by simp)))
    clear hb1
    go_wp2_with fail
    go_ret2
    exact ⟨rfl, HB.out.alloc HB.out.size _⟩
  · rw [hs] at HS
    clear hs
    rcases hz : o == 0 with _ | _
    all_goals
      go_enter Try.func16, Try.ntmps16
      go_wp2_with fail
      refine HS.out.mono ?_
      rintro e w1 ⟨sp, at_, fin, A1, As, At, n, c1, ns, cs, nt, ct, rfl, -, -, hb1, -⟩
      have HB := Lib.hid (((Below.refl w.heap.size w).alloc (Nat.le_refl _) _).trans (hb1.mono (by simp)))
      have P1 := Blk.alloc (PB.out.below hb1 (by simp)) (.cells #[.int .u8 sp, .slice A1 n c1, .slice As ns cs, .slice At nt ct, .int .i64 at_, .int .i64 fin] 41)
      have q0 := Blk.cell P1 0
      have q1 := Blk.cell P1 1
      simp at q0 q1
      clear hb1 P1
      go_wp2_with fail
      go_ret2
      exact ⟨by rw [show (o != 0) = !(o == 0) from rfl, hz]; rfl, HB.out.alloc HB.out.size _⟩
set_option maxHeartbeats 2000000 in
theorem rfwd_any (e0 o fr : Int) (A : Option Addr) (c : Nat) (b : List Int) (w : World) (hf0 : 0 ≤ fr) (hr : Rd w.heap.size .u8 w A b) (hb : Byt b) (hl : b.length ≤ 1000000000000) (hc : b.length ≤ c) :
    Calls Try.prog 17 #[.agg #[.int .u64 e0, .int .u8 o], .int .u8 fr, .slice A b.length c] w fun e w' => e = .returned (toV ((splitL b 8).isSome && (o != 0) && (procB fr && (fr != o))) o) ∧ Below w.heap.size w w' := by
  have HT := Lib.hid (rto_any e0 o A c b (w.alloc (.cells #[.int .u64 e0, .int .u8 o] 31)) ((hr.alloc (Nat.le_refl _) _).mono (by simp)) hb hl hc)
  clear hr hb
  rcases hx : ((splitL b 8).isSome && (o != 0)) with _ | _
  · rw [hx] at HT
    unfold toV at HT
    simp only [Bool.false_eq_true, if_false] at HT
    clear hx
    go_enter Try.func17, Try.ntmps17
    go_wp2_with fail
    refine HT.out.mono ?_
    rintro e w1 ⟨rfl, hb1⟩
    go_wp2_with fail
    go_ret2
    exact ⟨rfl, ((Below.refl w.heap.size w).alloc (Nat.le_refl _) _).trans (hb1.mono (by simp))⟩
  · rw [hx] at HT
    unfold toV at HT
    simp only [if_true] at HT
    clear hx
    unfold procB
    rcases hfo : fr == o with _ | _
    · have hcases : (fr < 1 ∧ (fr == 1 || fr == 2) = false) ∨ (1 ≤ fr ∧ 2 < fr ∧ (fr == 1 || fr == 2) = false) ∨ (1 ≤ fr ∧ fr ≤ 2 ∧ (fr == 1 || fr == 2) = true) := by
        by_cases k1 : fr < 1
        · exact .inl ⟨k1, by simp; omega⟩
        · by_cases k2 : 2 < fr
          · exact .inr (.inl ⟨by omega, k2, by simp; omega⟩)
          · exact .inr (.inr ⟨by omega, by omega, by simp; omega⟩)
      rcases hcases with ⟨k1, k⟩ | ⟨k1, k2, k⟩ | ⟨k1, k2, k⟩
      all_goals
        rw [k]
        clear k
        go_enter Try.func17, Try.ntmps17
        go_wp2_with fail
        refine HT.out.mono ?_
        rintro e w1 ⟨rfl, hb1⟩
        go_wp2_with fail
        go_ret2
        exact ⟨by rw [show (fr != o) = !(fr == o) from rfl, hfo]; rfl, ((Below.refl w.heap.size w).alloc (Nat.le_refl _) _).trans (hb1.mono (by simp))⟩
    · go_enter Try.func17, Try.ntmps17
      go_wp2_with fail
      refine HT.out.mono ?_
      rintro e w1 ⟨rfl, hb1⟩
      go_wp2_with fail
      go_ret2
      exact ⟨by rw [show (fr != o) = !(fr == o) from rfl, hfo]; simp [toV], ((Below.refl w.heap.size w).alloc (Nat.le_refl _) _).trans (hb1.mono (by simp))⟩
end Go.Proofs.Ytlefnddhmpgijaa
