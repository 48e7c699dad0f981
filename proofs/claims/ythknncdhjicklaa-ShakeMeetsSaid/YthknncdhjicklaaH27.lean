/- Layer 21: the law's walk. Conditions: as each theorem states them. -/
import Derived.Test.YthknncdhjicklaaH26
namespace Go.Proofs.Ythknncdhjicklaa
open Go.RowKit
/-- what the law's check reads -/
def Chk (gc gs b : Nat) (VC VS V3 V4 : Value) (sp cp cr sr : List Int) (v : World) : Prop :=
  (v.cell? ⟨gc, 99, none⟩ = some VC ∧ v.cell? ⟨gs, 99, none⟩ = some VS) ∧ ((convert 23 9 VC).run Try.prog v = .ok (.string (strOfNums sp)) v ∧ (convert 23 9 VS).run Try.prog v = .ok (.string (strOfNums cp)) v ∧ (convert 23 9 V4).run Try.prog v = .ok (.string (strOfNums sp)) v ∧ (convert 23 9 V3).run Try.prog v = .ok (.string (strOfNums cp)) v) ∧
  ((Instr.loadAt 22 (.pointer (some ⟨gc, 66, none⟩))).run Try.prog v = .ok (.agg (cellsL .u8 sr)) v ∧ (Instr.loadAt 22 (.pointer (some ⟨gs, 66, none⟩))).run Try.prog v = .ok (.agg (cellsL .u8 cr)) v ∧ (Instr.loadAt 22 (.pointer (some ⟨b + 2, 0, none⟩))).run Try.prog v = .ok (.agg (cellsL .u8 sr)) v ∧ (Instr.loadAt 22 (.pointer (some ⟨b + 1, 0, none⟩))).run Try.prog v = .ok (.agg (cellsL .u8 cr)) v)
theorem secs_1 (psk cr sr cp sp : List Int) (gc gs : Nat) : ∃ X Y : List Int, (X.length = 32 ∧ Byt X) ∧ (Y.length = 32 ∧ Byt Y) ∧
    (∀ w, ShM gc w (pC3 psk cr sr cp sp) → Calls Try.prog 10 #[.pointer (some ⟨gc, 0, none⟩), .int .u8 1] w fun e w' => e = .returned (.tuple #[.agg (cellsL .u8 X), .agg (cellsL .u8 Y), .bool true]) ∧ Below w.heap.size w w') ∧
    (∀ w, ShM gs w { pS1 psk cr sr cp sp with st := 100 } → Calls Try.prog 10 #[.pointer (some ⟨gs, 0, none⟩), .int .u8 1] w fun e w' => e = .returned (.tuple #[.agg (cellsL .u8 X), .agg (cellsL .u8 Y), .bool true]) ∧ Below w.heap.size w w') :=
  ⟨sC0 psk cr sr cp, sA0 psk cr sr cp, ⟨secL_len _ _ _ (by decide) (by rw [shaL_len]; decide), secL_byt _ _ _⟩, ⟨secL_len _ _ _ (by decide) (by rw [shaL_len]; decide), secL_byt _ _ _⟩, fun w h => by obtain ⟨_, _, _, _, _, h⟩ := h.parts; exact secrets_1 gc _ _ _ _ _ _ w h rfl, fun w h => by obtain ⟨_, _, _, _, _, h⟩ := h.parts; exact secrets_1 gs _ _ _ _ _ _ w h rfl⟩
theorem secs_2 (psk cr sr cp sp : List Int) (gc gs : Nat) : ∃ X Y : List Int, (X.length = 32 ∧ Byt X) ∧ (Y.length = 32 ∧ Byt Y) ∧
    (∀ w, ShM gc w (pC3 psk cr sr cp sp) → Calls Try.prog 10 #[.pointer (some ⟨gc, 0, none⟩), .int .u8 2] w fun e w' => e = .returned (.tuple #[.agg (cellsL .u8 X), .agg (cellsL .u8 Y), .bool true]) ∧ Below w.heap.size w w') ∧
    (∀ w, ShM gs w { pS1 psk cr sr cp sp with st := 100 } → Calls Try.prog 10 #[.pointer (some ⟨gs, 0, none⟩), .int .u8 2] w fun e w' => e = .returned (.tuple #[.agg (cellsL .u8 X), .agg (cellsL .u8 Y), .bool true]) ∧ Below w.heap.size w w') :=
  ⟨sC1 psk cr sr cp sp, sA1 psk cr sr cp sp, ⟨secL_len _ _ _ (by decide) (by rw [shaL_len]; decide), secL_byt _ _ _⟩, ⟨secL_len _ _ _ (by decide) (by rw [shaL_len]; decide), secL_byt _ _ _⟩, fun w h => by obtain ⟨_, _, _, _, _, h⟩ := h.parts; exact secrets_2 gc _ _ _ _ _ _ w h rfl, fun w h => by obtain ⟨_, _, _, _, _, h⟩ := h.parts; exact secrets_2 gs _ _ _ _ _ _ w h rfl⟩
/-- what the law's last line reads -/
def Chk2 (gc gs : Nat) (VC VS : Value) (T : List Int) (v : World) : Prop :=
  v.cell? ⟨gc, 102, none⟩ = some VC ∧ v.cell? ⟨gs, 102, none⟩ = some VS ∧ (convert 23 9 VC).run Try.prog v = .ok (.string (strOfNums T)) v ∧ (convert 23 9 VS).run Try.prog v = .ok (.string (strOfNums T)) v
set_option maxRecDepth 100000 in
set_option maxHeartbeats 16000000 in
theorem law21 (psk cr sr : List Int) (Ap As Ac : Option Addr) (n m lc cp_ cs_ cc : Nat) (cp sp cuts : List Int) (w : World) (h0 : psk.length = 32) (h1 : cr.length = 32) (h2 : sr.length = 32) (b0 : Byt psk) (b1 : Byt cr) (b2 : Byt sr)
    (r3 : Rd w.heap.size .u8 w Ap cp) (r4 : Rd w.heap.size .u8 w As sp) (r5 : Rd w.heap.size .u8 w Ac cuts) (e3 : cp.length = n) (e4 : sp.length = m) (e5 : cuts.length = lc) (b3 : Byt cp) (b4 : Byt sp) (b5 : Byt cuts) (l3 : n ≤ 140737488351232) (l4 : m ≤ 140737488351232) (l5 : lc ≤ 140737488351232) :
    Calls Try.prog 3 #[.agg (cellsL .u8 psk), .agg (cellsL .u8 cr), .agg (cellsL .u8 sr), .slice Ap n cp_, .slice As m cs_, .slice Ac lc cc] w fun e w' => e = .returned (.bool true) ∧ Below w.heap.size w w' := by
  have X0 := Lib.hid (And.intro h0 b0)
  have X1 := Lib.hid (And.intro h1 b1)
  have X2 := Lib.hid (And.intro h2 b2)
  have R3 := Lib.hid r3
  have R4 := Lib.hid r4
  have R5 := Lib.hid r5
  have Q3 := Lib.hid (And.intro e3 b3)
  have Q4 := Lib.hid (And.intro e4 b4)
  have Q5 := Lib.hid (And.intro e5 b5)
  have NV : Hid (∃ z, z = w.heap.size) := Lib.hid ⟨_, rfl⟩
  obtain ⟨b, hb⟩ := NV.out
  have HB := Lib.hid hb
  have N0 : Hid (LN b psk cr sr (.slice Ac lc cc) w ((((w.alloc (.cells (cellsL .u8 psk) 22)).alloc (.cells (cellsL .u8 cr) 22)).alloc (.cells (cellsL .u8 sr) 22)).alloc (.cells #[.slice Ac lc cc] 23))) := Lib.hid (by
    refine ⟨(((Arr.newAt hb.symm rfl).alloc _).alloc _).alloc _, ((Arr.newAt (by simp [hb]) rfl).alloc _).alloc _, (Arr.newAt (by simp [hb]) rfl).alloc _, blk_new_at (by simp [hb]), ?_⟩
    have hbl : b ≤ w.heap.size := by omega
    exact ((((Below.refl b w).alloc hbl _).alloc (by simp; omega) _).alloc (by simp; omega) _).alloc (by simp; omega) _)
  clear h0 h1 h2 b0 b1 b2 r3 r4 r5 e3 e4 e5 b3 b4 b5 NV
  go_enter Try.func3, Try.ntmps3
  rw [← hb]
  clear hb
  go_wp2_with fail
  rw [← HB.out, show b + 1 + 1 + 1 = b + 3 from rfl, show b + 1 + 1 = b + 2 from rfl]
  refine Calls.mono (known21 _) ?_
  rintro e w1 ⟨rfl, k1⟩
  have N1 := Lib.hid (N0.out.below k1)
  clear k1 N0
  have qc : w1.cell? ⟨b + 3, 0, none⟩ = some (.slice Ac lc cc) := Blk.cell N1.out.kc 0
  by_cases g3 : 1000 < n
  · go_wp2_with fail
    go_ret
    exact ⟨rfl, N1.out.bel⟩
  by_cases g4 : 1000 < m
  · go_wp2_with fail
    go_ret
    exact ⟨rfl, N1.out.bel⟩
  by_cases g5 : 100 < lc
  · go_wp2_with fail
    go_ret
    exact ⟨rfl, N1.out.bel⟩
  have K : Hid (Key psk cr sr cp sp) := Lib.hid ⟨X0.out.1, X1.out.1, X2.out.1, by have := Q3.out.1; omega, by have := Q4.out.1; omega, X0.out.2, X1.out.2, X2.out.2, Q3.out.2, Q4.out.2⟩
  have l49 : Hid ((Instr.loadAt 22 (.pointer (some ⟨b, 0, none⟩))).run Try.prog w1 = .ok (.agg (cellsL .u8 psk)) w1) := Lib.hid (arr_load N1.out.a0 Try.underlying22 size32 X0.out.1.symm)
  have l50 : Hid ((Instr.loadAt 22 (.pointer (some ⟨b + 1, 0, none⟩))).run Try.prog w1 = .ok (.agg (cellsL .u8 cr)) w1) := Lib.hid (arr_load N1.out.a1 Try.underlying22 size32 X1.out.1.symm)
  go_wp2_with (first | ((with_reducible (show wpList _ _ _ (⟨some 49, .load _ _, _, _, _, _⟩ :: _) _ _)); refine wpList_loadV (o := ⟨some 49, .load _ _, _, _, _, _⟩) rfl _ rfl rfl (l49.out) ?_) | ((with_reducible (show wpList _ _ _ (⟨some 50, .load _ _, _, _, _, _⟩ :: _) _ _)); refine wpList_loadV (o := ⟨some 50, .load _ _, _, _, _, _⟩) rfl _ rfl rfl (l50.out) ?_))
  clear l49 l50 qc
  refine Calls.mono (sbegin_any false psk cr Ap n cp_ cp w1 X0.out.1 X1.out.1 X0.out.2 X1.out.2 (N1.out.rd R3.out HB.out) Q3.out.1 Q3.out.2 (by omega)) ?_
  rintro e w2 ⟨gc, _, rfl, h2, hgc, b2⟩
  have N2 := Lib.hid (N1.out.below b2)
  have C2 : Hid (ShM gc w2 (PS.new false psk cr cp)) := Lib.hid h2.m
  have GC := Lib.hid (Nat.lt_of_lt_of_le N1.out.lt hgc)
  clear h2 hgc b2 N1
  have l56 : Hid ((Instr.loadAt 22 (.pointer (some ⟨b, 0, none⟩))).run Try.prog w2 = .ok (.agg (cellsL .u8 psk)) w2) := Lib.hid (arr_load N2.out.a0 Try.underlying22 size32 X0.out.1.symm)
  have l57 : Hid ((Instr.loadAt 22 (.pointer (some ⟨b + 2, 0, none⟩))).run Try.prog w2 = .ok (.agg (cellsL .u8 sr)) w2) := Lib.hid (arr_load N2.out.a2 Try.underlying22 size32 X2.out.1.symm)
  go_wp2_with (first | ((with_reducible (show wpList _ _ _ (⟨some 56, .load _ _, _, _, _, _⟩ :: _) _ _)); refine wpList_loadV (o := ⟨some 56, .load _ _, _, _, _, _⟩) rfl _ rfl rfl (l56.out) ?_) | ((with_reducible (show wpList _ _ _ (⟨some 57, .load _ _, _, _, _, _⟩ :: _) _ _)); refine wpList_loadV (o := ⟨some 57, .load _ _, _, _, _, _⟩) rfl _ rfl rfl (l57.out) ?_))
  clear l56 l57
  refine Calls.mono (sbegin_any true psk sr As m cs_ sp w2 X0.out.1 X2.out.1 X0.out.2 X2.out.2 (N2.out.rd R4.out HB.out) Q4.out.1 Q4.out.2 (by omega)) ?_
  rintro e w3 ⟨gs, _, rfl, h3, hgs, b3⟩
  have N3 := Lib.hid (N2.out.below b3)
  have C3 := Lib.hid (C2.out.below b3)
  have S3 : Hid (ShM gs w3 (PS.new true psk sr sp)) := Lib.hid h3.m
  have NE : Hid (b + 3 < gc ∧ b + 3 < gs ∧ gc ≠ gs) := Lib.hid ⟨GC.out, Nat.lt_of_lt_of_le N2.out.lt hgs, by obtain ⟨_, k⟩ := C2.out.blk; have := k.lt; omega⟩
  clear h3 hgs b3 N2 C2 GC
  go_wp2_with fail
  have M4 : Hid (LM b gc gs w3.heap.size psk cr sr (.slice Ac lc cc) (PS.new false psk cr cp) (PS.new true psk sr sp) 0 w (w3.alloc (.cells #[.int .i64 0] 3))) := Lib.hid (by
    have E4 := (Below.refl w3.heap.size w3).alloc (Nat.le_refl _) (.cells #[.int .i64 0] 3)
    exact ⟨N3.out.below E4, C3.out.below E4, S3.out.below E4, ⟨0, Nat.le_refl _, Blk.new _ _ _⟩, NE.out.1, NE.out.2.1, N3.out.lt, NE.out.2.2⟩)
  clear N3 C3 S3 NE
  generalize w3.alloc (.cells #[.int .i64 0] 3) = w4 at *
  generalize w3.heap.size = gn at *
  refine Calls.mono (R := fun e w' => ∃ A n c, e = .returned (.tuple #[.slice A n c, .int .i64 0]) ∧ SlT w' (.slice A n c) (mHel cr cp) ∧ ShM gc w' (pC1 psk cr cp) ∧ w4.grownBy w' (some gc)) (by
    obtain ⟨vp', vq', v0', v1', vt', h⟩ := M4.out.c
    refine Calls.mono (start_any gc _ vp' vq' v0' v1' vt' w4 h rfl rfl K.out.lcp) ?_
    rintro e w' ⟨A, n, c, v5, h1, h2, h3, h4⟩
    exact ⟨A, n, c, h1, h2, ⟨_, _, _, _, _, h3⟩, h4⟩) ?_
  rintro e w5 ⟨Ah, nh, ch, rfl, s5, p5, q5⟩
  have M5 := Lib.hid (M4.out.tc q5 p5)
  have D6 : Hid (SdR w5.heap.size (w5.alloc (.cells #[.int .u8 0, .slice Ah nh ch] 31)) (.slice (some ⟨w5.heap.size, 0, none⟩) 1 1) [⟨0, Ah, ch, mHel cr cp⟩]) := Lib.hid (by
    have eh := s5.mk.1
    refine SdR.lit (by rw [eh]; rfl) rfl (Nat.le_refl _) (by decide) ?_
    intro x hx
    simp only [List.mem_cons, List.not_mem_nil, or_false] at hx
    subst hx
    exact ⟨by rw [eh] at s5; exact s5, K.out.bhel⟩)
  have M6 := Lib.hid (M5.out.below ((Below.refl w5.heap.size w5).alloc (Nat.le_refl _) (.cells #[.int .u8 0, .slice Ah nh ch] 31)))
  clear s5 p5 q5 M4 M5
  go_wp2_with fail
  generalize w5.alloc (.cells #[.int .u8 0, .slice Ah nh ch] 31) = w6 at *
  generalize w5.heap.size = gl at *
  refine Calls.mono (feed_S K.out M6.out HB.out R5.out Q5.out.1 Q5.out.2 (by omega) (by omega) D6.out) ?_
  rintro e w7 ⟨v7, l7, rfl, d7, m7, q7⟩
  obtain ⟨g7, c7, A0, c0, A1, c1, rfl, rfl⟩ := d7.at2 m7
  have M7 := Lib.hid q7
  have D7 := Lib.hid d7
  clear d7 m7 q7 D6 M6
  go_wp2_with fail
  refine Calls.mono (feed_C K.out M7.out HB.out R5.out Q5.out.1 Q5.out.2 (by omega) (by omega) D7.out) ?_
  rintro e w8 ⟨v8, l8, rfl, d8, m8, q8⟩
  obtain ⟨g8, c8, A2, c2, rfl, rfl⟩ := d8.at1 m8
  have M8 := Lib.hid q8
  have D8 := Lib.hid d8
  clear d8 m8 q8 D7 M7
  go_wp2_with fail
  refine Calls.mono (feed_L K.out M8.out HB.out R5.out Q5.out.1 Q5.out.2 (by omega) (by omega) D8.out) ?_
  rintro e w9 ⟨v9, l9, rfl, d9, m9, q9⟩
  obtain ⟨A9, c9, rfl⟩ := d9.at0 m9
  have M9 := Lib.hid q9
  clear d9 m9 q9 D8 M8
  go_wp2_with fail
  have M10 := Lib.hid (M9.out.below (Below.refl w9.heap.size w9).drew)
  clear M9
  obtain ⟨pc1, pc2, pc3, pc4, pc5, hC⟩ := M10.out.c.parts
  obtain ⟨ps1, ps2, ps3, ps4, ps5, hS⟩ := M10.out.s.parts
  obtain ⟨AC, cC, rfl, _, rC⟩ := hC.pp.form
  obtain ⟨AS, cS, rfl, _, rS⟩ := hS.pp.form
  have HK : Hid ((Chk gc gs b (.slice AC m cC) (.slice AS n cS) (.slice Ap n cp_) (.slice As m cs_) sp cp cr sr) w9.drew) := Lib.hid (by
    refine ⟨⟨?_, ?_⟩, ⟨?_, ?_, ?_, ?_⟩, hC.ld_peer, hS.ld_peer, arr_load M10.out.n.a2 Try.underlying22 size32 X2.out.1.symm, arr_load M10.out.n.a1 Try.underlying22 size32 X1.out.1.symm⟩
    · rw [← Q4.out.1]; exact hC.c5.2.1
    · rw [← Q3.out.1]; exact hS.c5.2.1
    · rw [← Q4.out.1]; exact conv_rd elC Try.underlying9 rC cC
    · rw [← Q3.out.1]; exact conv_rd elC Try.underlying9 rS cS
    · rw [← Q4.out.1]; exact conv_rd elC Try.underlying9 (M10.out.n.rd R4.out HB.out) cs_
    · rw [← Q3.out.1]; exact conv_rd elC Try.underlying9 (M10.out.n.rd R3.out HB.out) cp_)
  clear hC hS rC rS
  have n1 := neq_same X1.out.1 X1.out.2
  have n2 := neq_same X2.out.1 X2.out.2
  have hne : Nonempty (CW (Chk gc gs b (.slice AC m cC) (.slice AS n cS) (.slice Ap n cp_) (.slice As m cs_) sp cp cr sr)) := CW.inh HK.out
  have qc : ∀ r : CW (Chk gc gs b (.slice AC m cC) (.slice AS n cS) (.slice Ap n cp_) (.slice As m cs_) sp cp cr sr), r.world.cell? ⟨gc, 99, none⟩ = some (.slice AC m cC) := fun r => r.holds.1.1
  have qs : ∀ r : CW (Chk gc gs b (.slice AC m cC) (.slice AS n cS) (.slice Ap n cp_) (.slice As m cs_) sp cp cr sr), r.world.cell? ⟨gs, 99, none⟩ = some (.slice AS n cS) := fun r => r.holds.1.2
  have vC : ∀ r : CW (Chk gc gs b (.slice AC m cC) (.slice AS n cS) (.slice Ap n cp_) (.slice As m cs_) sp cp cr sr), (convert 23 9 (.slice AC m cC)).run Try.prog r.world = .ok (.string (strOfNums sp)) r.world := fun r => r.holds.2.1.1
  have vS : ∀ r : CW (Chk gc gs b (.slice AC m cC) (.slice AS n cS) (.slice Ap n cp_) (.slice As m cs_) sp cp cr sr), (convert 23 9 (.slice AS n cS)).run Try.prog r.world = .ok (.string (strOfNums cp)) r.world := fun r => r.holds.2.1.2.1
  have v4 : ∀ r : CW (Chk gc gs b (.slice AC m cC) (.slice AS n cS) (.slice Ap n cp_) (.slice As m cs_) sp cp cr sr), (convert 23 9 (.slice As m cs_)).run Try.prog r.world = .ok (.string (strOfNums sp)) r.world := fun r => r.holds.2.1.2.2.1
  have v3 : ∀ r : CW (Chk gc gs b (.slice AC m cC) (.slice AS n cS) (.slice Ap n cp_) (.slice As m cs_) sp cp cr sr), (convert 23 9 (.slice Ap n cp_)).run Try.prog r.world = .ok (.string (strOfNums cp)) r.world := fun r => r.holds.2.1.2.2.2
  simp only [List.append_eq, List.cons_append, List.nil_append]
  refine wp_region_mix_class (Chk gc gs b (.slice AC m cC) (.slice AS n cS) (.slice Ap n cp_) (.slice As m cs_) sp cp cr sr) [([0, 1, 2, 3, 4, 5, 6, 7, 8, 9, 10, 11, 12, 13, 14, 15, 16, 17, 18, 19, 20], 21), ([22, 23, 24, 25], 26)] [27, 28, 29, 30, 31, 32, 33, 34, 35, 36, 37, 38, 39, 40, 41, 42, 43, 44, 45, 46, 47, 48, 49, 50, 51, 52, 53, 54, 55, 56, 57, 58, 59, 60, 61, 62, 63, 64, 65, 66, 67, 68] (by kernel_rfl) (by kernel_rfl) (by kernel_rfl) (by kernel_rfl) HK.out ?_
  simp only [pickL, List.map_cons, List.map_nil, List.filterMap_cons, List.filterMap_nil, List.getElem?_cons_succ, List.getElem?_cons_zero]
  refine mixS_cons ?_
  repeat (show wpQuiet _ _ _ _ (_ :: _) _; go_big_quiet_step (fail))
  refine wpQuiet_nil ?_
  show wpList _ _ _ [_] _ _
  generalize w9.drew = wd at *
  go_wp2_with fail
  refine Calls.mono (done_m M10.out.c) ?_
  rintro e w9' ⟨rfl, rfl⟩
  rw [show decide ((pC3 psk cr sr cp sp).st = 100) = true from rfl]
  go_wp2_with fail
  refine MixQ.class HK.out ?_
  refine mixS_cons ?_
  repeat (show wpQuiet _ _ _ _ (_ :: _) _; go_big_quiet_step (fail))
  refine wpQuiet_nil ?_
  show wpList _ _ _ [_] _ _
  go_wp2_with fail
  refine Calls.mono (done_m M10.out.s) ?_
  rintro e w9' ⟨rfl, rfl⟩
  rw [show decide (({ pS1 psk cr sr cp sp with st := 100 } : PS).st = 100) = true from rfl]
  go_wp2_with fail
  refine MixQ.class HK.out ?_
  refine mixS_nil ?_
  repeat (show wpQuiet _ _ _ _ (_ :: _) _; go_big_quiet_step (fail))
  show wpQuiet _ _ _ _ (_ :: _) _
  refine wpQuiet_loadV (o := ⟨some 153, _, _, _, _, _⟩) rfl _ rfl rfl (fun w' hw' => by obtain ⟨r, rfl⟩ := hw'; exact r.holds.2.2.1) ?_
  simp only [Act.put, List.setIfInBounds_toArray, List.set_cons_zero, List.set_cons_succ]
  show wpQuiet _ _ _ _ (_ :: _) _
  refine wpQuiet_loadV (o := ⟨some 154, _, _, _, _, _⟩) rfl _ rfl rfl (fun w' hw' => by obtain ⟨r, rfl⟩ := hw'; exact r.holds.2.2.2.2.1) ?_
  simp only [Act.put, List.setIfInBounds_toArray, List.set_cons_zero, List.set_cons_succ]
  repeat (show wpQuiet _ _ _ _ (_ :: _) _; go_big_quiet_step (fail))
  show wpQuiet _ _ _ _ (_ :: _) _
  refine wpQuiet_loadV (o := ⟨some 162, _, _, _, _, _⟩) rfl _ rfl rfl (fun w' hw' => by obtain ⟨r, rfl⟩ := hw'; exact r.holds.2.2.2.1) ?_
  simp only [Act.put, List.setIfInBounds_toArray, List.set_cons_zero, List.set_cons_succ]
  show wpQuiet _ _ _ _ (_ :: _) _
  refine wpQuiet_loadV (o := ⟨some 163, _, _, _, _, _⟩) rfl _ rfl rfl (fun w' hw' => by obtain ⟨r, rfl⟩ := hw'; exact r.holds.2.2.2.2.2) ?_
  simp only [Act.put, List.setIfInBounds_toArray, List.set_cons_zero, List.set_cons_succ]
  repeat (show wpQuiet _ _ _ _ (_ :: _) _; go_big_quiet_step (fail))
  refine wpQuiet_nil ?_
  refine NoPanic.normal ?_
  clear n1 n2 hne qc qs vC vS v3 v4 HK
  go_wp2_with fail
  have hz32 : Hid ((zer 32).length = 32) := Lib.hid (zer_len 32)
  refine wp_loop_rounds 3 ?_
  rw [rounds_succ]
  go_wp2_with fail
  obtain ⟨X, Y, hX, hY, SC, SS⟩ := secs_1 psk cr sr cp sp gc gs
  have HX := Lib.hid hX
  have HY := Lib.hid hY
  have HSS := Lib.hid SS
  clear hX hY SS
  refine Calls.mono (SC wd M10.out.c) ?_
  clear SC
  rintro e v1a ⟨rfl, b1⟩
  have M1a := Lib.hid (M10.out.below b1)
  clear b1 M10
  have E2 := Lib.hid (((Below.refl v1a.heap.size v1a).alloc (Nat.le_refl _) (.cells (cellsL .u8 (zer 32)) 22)).alloc (by simp) (.cells (cellsL .u8 (zer 32)) 22))
  have A1 : Hid (Arr ((v1a.alloc (.cells (cellsL .u8 (zer 32)) 22)).alloc (.cells (cellsL .u8 (zer 32)) 22)) v1a.heap.size 22 .u8 (zer 32)) := Lib.hid ((Arr.newAt rfl rfl).alloc _)
  have A2 : Hid (Arr ((v1a.alloc (.cells (cellsL .u8 (zer 32)) 22)).alloc (.cells (cellsL .u8 (zer 32)) 22)) (v1a.heap.size + 1) 22 .u8 (zer 32)) := Lib.hid (Arr.newAt (by simp) rfl)
  go_upto_region 21 with (first
    | ((with_reducible (show wpList _ _ _ (⟨none, .store 22 _ _, _, _, _, _⟩ :: _) _ _)); refine wpList_storeArr (o := ⟨none, .store 22 _ _, _, _, _, _⟩) (g := v1a.heap.size) (t := 22) (k := .u8) (xs := X) (n := 32) rfl _ _ rfl rfl rfl A1.out size32 HX.out.1.symm (by simp [hz32.out]) ?_; intro v1b hav1b hgv1b; have a2 := A2.out.grown hgv1b (by intro q; injection q with q; omega))
    | ((with_reducible (show wpList _ _ _ (⟨none, .store 22 _ _, _, _, _, _⟩ :: _) _ _)); refine wpList_storeArr (o := ⟨none, .store 22 _ _, _, _, _, _⟩) (g := v1a.heap.size + 1) (t := 22) (k := .u8) (xs := Y) (n := 32) rfl _ _ rfl rfl rfl a2 size32 HY.out.1.symm (by simp [hz32.out]) ?_; intro v1c hav1c hgv1c))
  have Fv1c := Lib.hid ((E2.out.trans (below_of_only hgv1b (Nat.le_refl _) E2.out.size)).trans (below_of_only hgv1c (Nat.le_succ _) (Nat.le_trans E2.out.size hgv1b.size)))
  have Pv1c := Lib.hid (hav1b.grown hgv1c (by intro q; injection q with q; omega))
  have Qv1c := Lib.hid hav1c
  clear E2 A1 A2 a2 hav1b hgv1b hav1c hgv1c
  have M1c := Lib.hid (M1a.out.below Fv1c.out)
  clear M1a Fv1c
  go_wp2_with fail
  refine Calls.mono (HSS.out v1c M1c.out.s) ?_
  rintro e v1d ⟨rfl, b1⟩
  have M1d := Lib.hid (M1c.out.below b1)
  have Pv1d := Lib.hid (Pv1c.out.belowAll b1)
  have Qv1d := Lib.hid (Qv1c.out.belowAll b1)
  clear b1 M1c Pv1c Qv1c HSS
  have E2 := Lib.hid (((Below.refl v1d.heap.size v1d).alloc (Nat.le_refl _) (.cells (cellsL .u8 (zer 32)) 22)).alloc (by simp) (.cells (cellsL .u8 (zer 32)) 22))
  have A1 : Hid (Arr ((v1d.alloc (.cells (cellsL .u8 (zer 32)) 22)).alloc (.cells (cellsL .u8 (zer 32)) 22)) v1d.heap.size 22 .u8 (zer 32)) := Lib.hid ((Arr.newAt rfl rfl).alloc _)
  have A2 : Hid (Arr ((v1d.alloc (.cells (cellsL .u8 (zer 32)) 22)).alloc (.cells (cellsL .u8 (zer 32)) 22)) (v1d.heap.size + 1) 22 .u8 (zer 32)) := Lib.hid (Arr.newAt (by simp) rfl)
  go_upto_region 22 with (first
    | ((with_reducible (show wpList _ _ _ (⟨none, .store 22 _ _, _, _, _, _⟩ :: _) _ _)); refine wpList_storeArr (o := ⟨none, .store 22 _ _, _, _, _, _⟩) (g := v1d.heap.size) (t := 22) (k := .u8) (xs := X) (n := 32) rfl _ _ rfl rfl rfl A1.out size32 HX.out.1.symm (by simp [hz32.out]) ?_; intro v1e hav1e hgv1e; have a2 := A2.out.grown hgv1e (by intro q; injection q with q; omega))
    | ((with_reducible (show wpList _ _ _ (⟨none, .store 22 _ _, _, _, _, _⟩ :: _) _ _)); refine wpList_storeArr (o := ⟨none, .store 22 _ _, _, _, _, _⟩) (g := v1d.heap.size + 1) (t := 22) (k := .u8) (xs := Y) (n := 32) rfl _ _ rfl rfl rfl a2 size32 HY.out.1.symm (by simp [hz32.out]) ?_; intro v1f hav1f hgv1f))
  have Fv1f := Lib.hid ((E2.out.trans (below_of_only hgv1e (Nat.le_refl _) E2.out.size)).trans (below_of_only hgv1f (Nat.le_succ _) (Nat.le_trans E2.out.size hgv1e.size)))
  have Pv1f := Lib.hid (hav1e.grown hgv1f (by intro q; injection q with q; omega))
  have Qv1f := Lib.hid hav1f
  clear E2 A1 A2 a2 hav1e hgv1e hav1f hgv1f
  have M1f := Lib.hid (M1d.out.below Fv1f.out)
  have l191 := Lib.hid (arr_load (P := Try.prog) (Pv1d.out.belowAll Fv1f.out) Try.underlying22 size32 HX.out.1.symm)
  have l196 := Lib.hid (arr_load (P := Try.prog) (Qv1d.out.belowAll Fv1f.out) Try.underlying22 size32 HY.out.1.symm)
  have l192 := Lib.hid (arr_load (P := Try.prog) Pv1f.out Try.underlying22 size32 HX.out.1.symm)
  have l197 := Lib.hid (arr_load (P := Try.prog) Qv1f.out Try.underlying22 size32 HY.out.1.symm)
  have n1 := neq_same HX.out.1 HX.out.2
  have n2 := neq_same HY.out.1 HY.out.2
  clear M1d Fv1f Pv1d Qv1d Pv1f Qv1f
  go_wp2_with (first | ((with_reducible (show wpList _ _ _ (⟨some 191, .load _ _, _, _, _, _⟩ :: _) _ _)); refine wpList_unguard rfl ?_; refine wpList_loadV (o := ⟨some 191, .load _ _, _, _, _, _⟩) rfl _ rfl rfl (l191.out) ?_) | ((with_reducible (show wpList _ _ _ (⟨some 192, .load _ _, _, _, _, _⟩ :: _) _ _)); refine wpList_unguard rfl ?_; refine wpList_loadV (o := ⟨some 192, .load _ _, _, _, _, _⟩) rfl _ rfl rfl (l192.out) ?_) | ((with_reducible (show wpList _ _ _ (⟨some 196, .load _ _, _, _, _, _⟩ :: _) _ _)); refine wpList_unguard rfl ?_; refine wpList_loadV (o := ⟨some 196, .load _ _, _, _, _, _⟩) rfl _ rfl rfl (l196.out) ?_) | ((with_reducible (show wpList _ _ _ (⟨some 197, .load _ _, _, _, _, _⟩ :: _) _ _)); refine wpList_unguard rfl ?_; refine wpList_loadV (o := ⟨some 197, .load _ _, _, _, _, _⟩) rfl _ rfl rfl (l197.out) ?_))
  clear l191 l192 l196 l197 n1 n2 HX HY
  rw [rounds_succ]
  go_wp2_with fail
  obtain ⟨X, Y, hX, hY, SC, SS⟩ := secs_2 psk cr sr cp sp gc gs
  have HX := Lib.hid hX
  have HY := Lib.hid hY
  have HSS := Lib.hid SS
  clear hX hY SS
  refine Calls.mono (SC v1f M1f.out.c) ?_
  clear SC
  rintro e v2a ⟨rfl, b1⟩
  have M2a := Lib.hid (M1f.out.below b1)
  clear b1 M1f
  have E2 := Lib.hid (((Below.refl v2a.heap.size v2a).alloc (Nat.le_refl _) (.cells (cellsL .u8 (zer 32)) 22)).alloc (by simp) (.cells (cellsL .u8 (zer 32)) 22))
  have A1 : Hid (Arr ((v2a.alloc (.cells (cellsL .u8 (zer 32)) 22)).alloc (.cells (cellsL .u8 (zer 32)) 22)) v2a.heap.size 22 .u8 (zer 32)) := Lib.hid ((Arr.newAt rfl rfl).alloc _)
  have A2 : Hid (Arr ((v2a.alloc (.cells (cellsL .u8 (zer 32)) 22)).alloc (.cells (cellsL .u8 (zer 32)) 22)) (v2a.heap.size + 1) 22 .u8 (zer 32)) := Lib.hid (Arr.newAt (by simp) rfl)
  go_upto_region 21 with (first
    | ((with_reducible (show wpList _ _ _ (⟨none, .store 22 _ _, _, _, _, _⟩ :: _) _ _)); refine wpList_storeArr (o := ⟨none, .store 22 _ _, _, _, _, _⟩) (g := v2a.heap.size) (t := 22) (k := .u8) (xs := X) (n := 32) rfl _ _ rfl rfl rfl A1.out size32 HX.out.1.symm (by simp [hz32.out]) ?_; intro v2b hav2b hgv2b; have a2 := A2.out.grown hgv2b (by intro q; injection q with q; omega))
    | ((with_reducible (show wpList _ _ _ (⟨none, .store 22 _ _, _, _, _, _⟩ :: _) _ _)); refine wpList_storeArr (o := ⟨none, .store 22 _ _, _, _, _, _⟩) (g := v2a.heap.size + 1) (t := 22) (k := .u8) (xs := Y) (n := 32) rfl _ _ rfl rfl rfl a2 size32 HY.out.1.symm (by simp [hz32.out]) ?_; intro v2c hav2c hgv2c))
  have Fv2c := Lib.hid ((E2.out.trans (below_of_only hgv2b (Nat.le_refl _) E2.out.size)).trans (below_of_only hgv2c (Nat.le_succ _) (Nat.le_trans E2.out.size hgv2b.size)))
  have Pv2c := Lib.hid (hav2b.grown hgv2c (by intro q; injection q with q; omega))
  have Qv2c := Lib.hid hav2c
  clear E2 A1 A2 a2 hav2b hgv2b hav2c hgv2c
  have M2c := Lib.hid (M2a.out.below Fv2c.out)
  clear M2a Fv2c
  go_wp2_with fail
  refine Calls.mono (HSS.out v2c M2c.out.s) ?_
  rintro e v2d ⟨rfl, b1⟩
  have M2d := Lib.hid (M2c.out.below b1)
  have Pv2d := Lib.hid (Pv2c.out.belowAll b1)
  have Qv2d := Lib.hid (Qv2c.out.belowAll b1)
  clear b1 M2c Pv2c Qv2c HSS
  have E2 := Lib.hid (((Below.refl v2d.heap.size v2d).alloc (Nat.le_refl _) (.cells (cellsL .u8 (zer 32)) 22)).alloc (by simp) (.cells (cellsL .u8 (zer 32)) 22))
  have A1 : Hid (Arr ((v2d.alloc (.cells (cellsL .u8 (zer 32)) 22)).alloc (.cells (cellsL .u8 (zer 32)) 22)) v2d.heap.size 22 .u8 (zer 32)) := Lib.hid ((Arr.newAt rfl rfl).alloc _)
  have A2 : Hid (Arr ((v2d.alloc (.cells (cellsL .u8 (zer 32)) 22)).alloc (.cells (cellsL .u8 (zer 32)) 22)) (v2d.heap.size + 1) 22 .u8 (zer 32)) := Lib.hid (Arr.newAt (by simp) rfl)
  go_upto_region 22 with (first
    | ((with_reducible (show wpList _ _ _ (⟨none, .store 22 _ _, _, _, _, _⟩ :: _) _ _)); refine wpList_storeArr (o := ⟨none, .store 22 _ _, _, _, _, _⟩) (g := v2d.heap.size) (t := 22) (k := .u8) (xs := X) (n := 32) rfl _ _ rfl rfl rfl A1.out size32 HX.out.1.symm (by simp [hz32.out]) ?_; intro v2e hav2e hgv2e; have a2 := A2.out.grown hgv2e (by intro q; injection q with q; omega))
    | ((with_reducible (show wpList _ _ _ (⟨none, .store 22 _ _, _, _, _, _⟩ :: _) _ _)); refine wpList_storeArr (o := ⟨none, .store 22 _ _, _, _, _, _⟩) (g := v2d.heap.size + 1) (t := 22) (k := .u8) (xs := Y) (n := 32) rfl _ _ rfl rfl rfl a2 size32 HY.out.1.symm (by simp [hz32.out]) ?_; intro v2f hav2f hgv2f))
  have Fv2f := Lib.hid ((E2.out.trans (below_of_only hgv2e (Nat.le_refl _) E2.out.size)).trans (below_of_only hgv2f (Nat.le_succ _) (Nat.le_trans E2.out.size hgv2e.size)))
  have Pv2f := Lib.hid (hav2e.grown hgv2f (by intro q; injection q with q; omega))
  have Qv2f := Lib.hid hav2f
  clear E2 A1 A2 a2 hav2e hgv2e hav2f hgv2f
  have M2f := Lib.hid (M2d.out.below Fv2f.out)
  have l191 := Lib.hid (arr_load (P := Try.prog) (Pv2d.out.belowAll Fv2f.out) Try.underlying22 size32 HX.out.1.symm)
  have l196 := Lib.hid (arr_load (P := Try.prog) (Qv2d.out.belowAll Fv2f.out) Try.underlying22 size32 HY.out.1.symm)
  have l192 := Lib.hid (arr_load (P := Try.prog) Pv2f.out Try.underlying22 size32 HX.out.1.symm)
  have l197 := Lib.hid (arr_load (P := Try.prog) Qv2f.out Try.underlying22 size32 HY.out.1.symm)
  have n1 := neq_same HX.out.1 HX.out.2
  have n2 := neq_same HY.out.1 HY.out.2
  clear M2d Fv2f Pv2d Qv2d Pv2f Qv2f
  go_wp2_with (first | ((with_reducible (show wpList _ _ _ (⟨some 191, .load _ _, _, _, _, _⟩ :: _) _ _)); refine wpList_unguard rfl ?_; refine wpList_loadV (o := ⟨some 191, .load _ _, _, _, _, _⟩) rfl _ rfl rfl (l191.out) ?_) | ((with_reducible (show wpList _ _ _ (⟨some 192, .load _ _, _, _, _, _⟩ :: _) _ _)); refine wpList_unguard rfl ?_; refine wpList_loadV (o := ⟨some 192, .load _ _, _, _, _, _⟩) rfl _ rfl rfl (l192.out) ?_) | ((with_reducible (show wpList _ _ _ (⟨some 196, .load _ _, _, _, _, _⟩ :: _) _ _)); refine wpList_unguard rfl ?_; refine wpList_loadV (o := ⟨some 196, .load _ _, _, _, _, _⟩) rfl _ rfl rfl (l196.out) ?_) | ((with_reducible (show wpList _ _ _ (⟨some 197, .load _ _, _, _, _, _⟩ :: _) _ _)); refine wpList_unguard rfl ?_; refine wpList_loadV (o := ⟨some 197, .load _ _, _, _, _, _⟩) rfl _ rfl rfl (l197.out) ?_))
  clear l191 l192 l196 l197 n1 n2 HX HY
  rw [rounds_succ]
  go_wp2_with fail
  have M3 := Lib.hid (M2f.out.below (Below.refl v2f.heap.size v2f).drew)
  clear M2f
  obtain ⟨pc1, pc2, pc3, pc4, pc5, hC⟩ := M3.out.c.parts
  obtain ⟨ps1, ps2, ps3, ps4, ps5, hS⟩ := M3.out.s.parts
  obtain ⟨AC, cC, rfl, _, rC⟩ := hC.tr.form
  obtain ⟨AS, cS, rfl, _, rS⟩ := hS.tr.form
  have q1 := hC.c5.2.2.2.2
  have q2 := hS.c5.2.2.2.2
  clear hC hS
  rw [show (pC3 psk cr sr cp sp).tr = tThr psk cr sr cp sp from rfl] at rC q1
  rw [show ({ pS1 psk cr sr cp sp with st := 100 } : PS).tr = tThr psk cr sr cp sp from rfl] at rS q2
  have HT : Hid (∃ T, tThr psk cr sr cp sp = T) := Lib.hid ⟨_, rfl⟩
  obtain ⟨T, hT⟩ := HT.out
  rw [hT] at rC rS q1 q2
  obtain ⟨k, hk⟩ : ∃ k, T.length = k := ⟨_, rfl⟩
  have HK : Hid ((Chk2 gc gs (.slice AC k cC) (.slice AS k cS) T) v2f.drew) := Lib.hid (by
    rw [hk] at q1 q2
    refine ⟨q1, q2, ?_, ?_⟩
    · rw [← hk]; exact conv_rd elC Try.underlying9 rC cC
    · rw [← hk]; exact conv_rd elC Try.underlying9 rS cS)
  clear q1 q2 rC rS hk hT HT
  have hne : Nonempty (CW (Chk2 gc gs (.slice AC k cC) (.slice AS k cS) T)) := CW.inh HK.out
  have qc : ∀ r : CW (Chk2 gc gs (.slice AC k cC) (.slice AS k cS) T), r.world.cell? ⟨gc, 102, none⟩ = some (.slice AC k cC) := fun r => r.holds.1
  have qs : ∀ r : CW (Chk2 gc gs (.slice AC k cC) (.slice AS k cS) T), r.world.cell? ⟨gs, 102, none⟩ = some (.slice AS k cS) := fun r => r.holds.2.1
  have vC : ∀ r : CW (Chk2 gc gs (.slice AC k cC) (.slice AS k cS) T), (convert 23 9 (.slice AC k cC)).run Try.prog r.world = .ok (.string (strOfNums T)) r.world := fun r => r.holds.2.2.1
  have vS : ∀ r : CW (Chk2 gc gs (.slice AC k cC) (.slice AS k cS) T), (convert 23 9 (.slice AS k cS)).run Try.prog r.world = .ok (.string (strOfNums T)) r.world := fun r => r.holds.2.2.2
  refine wp_region_mix_class (Chk2 gc gs (.slice AC k cC) (.slice AS k cS) T) [] [0, 1, 2, 3, 4, 5, 6, 7, 8, 9, 10, 11, 12, 13] (by kernel_rfl) (by kernel_rfl) (by kernel_rfl) (by kernel_rfl) HK.out ?_
  simp only [pickL, List.map_nil, List.filterMap_cons, List.filterMap_nil, List.getElem?_cons_succ, List.getElem?_cons_zero]
  refine mixS_nil ?_
  repeat (show wpQuiet _ _ _ _ (_ :: _) _; go_big_quiet_step (fail))
  refine wpQuiet_nil ?_
  refine NoPanic.normal ?_
  clear hne qc qs vC vS HK
  go_wp2_with fail
  go_ret
  exact ⟨rfl, M3.out.n.bel⟩
end Go.Proofs.Ythknncdhjicklaa
