/- Contract: the reference's Split of a long packet's bytes. Conditions: as each theorem states them. -/
import Derived.Test.YtlefnddhmpgijaaR13
namespace Go.Proofs.Ytlefnddhmpgijaa
open Go.RowKit
set_option maxRecDepth 100000 in
set_option maxHeartbeats 8000000 in
theorem rsplit_long0 (A : Option Addr) (c : Nat) (b : List Int) (w : World) (hr : Rd w.heap.size .u8 w A b) (hb : Byt b) (hl : b.length ≤ 1000000000000) (hc : b.length ≤ c)
    (h2 : b.getD 0 0 / 64 % 2 ≠ 0) (h3 : 128 ≤ b.getD 0 0) (hok : ¬ (b.length < 5 ∨ (b.drop 1).take 4 ≠ [0, 0, 0, 1] ∨ (b.getD 0 0 / 16 % 4 ≠ 0 ∧ b.getD 0 0 / 16 % 4 ≠ 2))) (hk : b.getD 0 0 / 16 % 4 = 0) :
    Calls Try.prog 13 #[.slice A b.length c, .int .i64 8] w (RSplPost b w) := by
  have h5 : 5 ≤ b.length := by rcases Nat.lt_or_ge b.length 5 with h | h; exact absurd (.inl h) hok; exact h
  have HSPL : splitL b 8 = longP b 0 := by
    have e := longP_eq hb 0 hok hk
    rw [← e]
    unfold splitL
    rw [if_neg (by omega), if_pos h3]
  have HEND := longP_some b 0
  rw [← HSPL] at HEND
  obtain ⟨he1, he2⟩ := HEND
  have h4 := four_of h5
  have h4' : (b.drop 1).take 4 = [0, 0, 0, 1] := by
    by_cases h : (b.drop 1).take 4 = [0, 0, 0, 1]
    · exact h
    · exact absurd (.inr (.inl h)) hok
  rw [h4'] at h4
  injection h4 with q1 h4
  injection h4 with q2 h4
  injection h4 with q3 h4
  injection h4 with q4 _
  have hz : ((b.length : Int) == 0) = false := by rw [beq_eq_false_iff_ne]; omega
  obtain ⟨ad, rfl, -⟩ := hr.isSome (by omega)
  have r2 := hr.two (Nat.le_refl _)
  have m0 := r2.at0 (by omega)
  have m1 := r2.atN 1 (by omega) (by decide)
  have m2 := r2.atN 2 (by omega) (by decide)
  have m3 := r2.atN 3 (by omega) (by decide)
  have m4 := r2.atN 4 (by omega) (by decide)
  rw [← q1] at m1
  rw [← q2] at m2
  rw [← q3] at m3
  rw [← q4] at m4
  have hy := hb.getD 0
  have h2' : (b.getD 0 0 / 64 % 2 == 0) = false := by rw [beq_eq_false_iff_ne]; exact h2
  have h5' : (5 : Int) ≤ (b.length : Int) := by omega
  have HPL3 := Lib.hid (p3_le (kind := 0) hb)
  have HPL1 : Hid (∀ q, (some 5 : Option Nat) = some q → q ≤ b.length) := Lib.hid (fun q h => by injection h with h; omega)
  have HPL2 : Hid (∀ q, p1 b = some q → q ≤ b.length) := Lib.hid (idO_le hb HPL1.out)
  have HPL2b : Hid (∀ q, p2 b = some q → q ≤ b.length) := Lib.hid (idO_le hb HPL2.out)
  have HR := Lib.hid hr
  have HB := Lib.hid hb
  have HE1 := Lib.hid he1
  have HE2 : Hid (∀ p, splitL b 8 = some p → p.dst = idL b (some 5)) := Lib.hid he2
  generalize b.getD 0 0 = y at *
  obtain ⟨y0, y1⟩ := hy
  have PN0 := Blk.new w 41 #[.int .u8 0, .slice none 0 0, .slice none 0 0, .slice none 0 0, .int .i64 0, .int .i64 0]
  clear hr hb r2 h2 hok h4' q1 q2 q3 q4 HSPL he1 he2
  go_enter Try.func13, Try.ntmps13
  go_wp2_with fail
  have PA : Hid (Blk ((w.alloc (.cells #[.int .u8 0, .slice none 0 0, .slice none 0 0, .slice none 0 0, .int .i64 0, .int .i64 0] 41)).alloc (.cells #[.int .u8 0, .slice none 0 0, .slice none 0 0, .slice none 0 0, .int .i64 0, .int .i64 0] 41)) (w.heap.size + 1) 41 #[.int .u8 0, .slice none 0 0, .slice none 0 0, .slice none 0 0, .int .i64 0, .int .i64 0]) := Lib.hid (by
    have h := Blk.new (w.alloc (.cells #[.int .u8 0, .slice none 0 0, .slice none 0 0, .slice none 0 0, .int .i64 0, .int .i64 0] 41)) 41 #[.int .u8 0, .slice none 0 0, .slice none 0 0, .slice none 0 0, .int .i64 0, .int .i64 0]
    rw [World.size_alloc] at h
    exact h)
  have PB : Hid (Blk ((w.alloc (.cells #[.int .u8 0, .slice none 0 0, .slice none 0 0, .slice none 0 0, .int .i64 0, .int .i64 0] 41)).alloc (.cells #[.int .u8 0, .slice none 0 0, .slice none 0 0, .slice none 0 0, .int .i64 0, .int .i64 0] 41)) w.heap.size 41 #[.int .u8 0, .slice none 0 0, .slice none 0 0, .slice none 0 0, .int .i64 0, .int .i64 0]) := Lib.hid (PN0.alloc _)
  have BA : Hid (Below w.heap.size w ((w.alloc (.cells #[.int .u8 0, .slice none 0 0, .slice none 0 0, .slice none 0 0, .int .i64 0, .int .i64 0] 41)).alloc (.cells #[.int .u8 0, .slice none 0 0, .slice none 0 0, .slice none 0 0, .int .i64 0, .int .i64 0] 41))) := Lib.hid (((Below.refl _ _).alloc (Nat.le_refl _) _).alloc (by simp) _)
  have hA : ((w.alloc (.cells #[.int .u8 0, .slice none 0 0, .slice none 0 0, .slice none 0 0, .int .i64 0, .int .i64 0] 41)).alloc (.cells #[.int .u8 0, .slice none 0 0, .slice none 0 0, .slice none 0 0, .int .i64 0, .int .i64 0] 41)).heap.size = w.heap.size + 2 := by simp
  have C1 : Hid (Calls Try.prog 32 #[.slice (some ad) b.length c, .int .i64 5] ((w.alloc (.cells #[.int .u8 0, .slice none 0 0, .slice none 0 0, .slice none 0 0, .int .i64 0, .int .i64 0] 41)).alloc (.cells #[.int .u8 0, .slice none 0 0, .slice none 0 0, .slice none 0 0, .int .i64 0, .int .i64 0] 41)) (PlPost (idL b (some 5)) (p1 b) ((w.alloc (.cells #[.int .u8 0, .slice none 0 0, .slice none 0 0, .slice none 0 0, .int .i64 0, .int .i64 0] 41)).alloc (.cells #[.int .u8 0, .slice none 0 0, .slice none 0 0, .slice none 0 0, .int .i64 0, .int .i64 0] 41)))) := Lib.hid (rid_u (some ad) c b (some 5) _ ((HR.out.below BA.out (Nat.le_refl _)).mono (by rw [hA]; omega)) HB.out hl hc HPL1.out)
  clear m0 m1 m2 m3 m4 PN0
  generalize ((w.alloc (.cells #[.int .u8 0, .slice none 0 0, .slice none 0 0, .slice none 0 0, .int .i64 0, .int .i64 0] 41)).alloc (.cells #[.int .u8 0, .slice none 0 0, .slice none 0 0, .slice none 0 0, .int .i64 0, .int .i64 0] 41)) = v0 at *
  refine C1.out.mono ?_
  rintro e w1 ⟨A1, n1, c1, rfl, o1, hb1⟩
  have O1a := Lib.hid (o1.mono (B' := w.heap.size + 2) (by omega))
  have hz0 : w.heap.size + 2 ≤ w1.heap.size := by have := hb1.size; omega
  have PA1 := Lib.hid (PA.out.below hb1 (by omega))
  have PB1 := Lib.hid (PB.out.below hb1 (by omega))
  have BA1 := Lib.hid (BA.out.trans (hb1.mono (by omega)))
  clear C1 o1 hb1 PA PB BA hA
  obtain ⟨a0, a1, a2, a3, a4, a5⟩ := six_facts PA1.out
  obtain ⟨f0, f1, f2, f3, f4, f5⟩ := six_frozen PA1.out
  go_wp2_with fail
  have PA1s : Hid (Blk (w1.setCell ⟨w.heap.size + 1, 1, none⟩ (.slice A1 n1 c1)) (w.heap.size + 1) 41 #[.int .u8 0, .slice A1 n1 c1, .slice none 0 0, .slice none 0 0, .int .i64 0, .int .i64 0]) := Lib.hid (Blk.cast (PA1.out.set_ 1 _) (by simp))
  have PB1s : Hid (Blk (w1.setCell ⟨w.heap.size + 1, 1, none⟩ (.slice A1 n1 c1)) w.heap.size 41 #[.int .u8 0, .slice none 0 0, .slice none 0 0, .slice none 0 0, .int .i64 0, .int .i64 0]) := Lib.hid (Blk.far PB1.out (by show w.heap.size ≠ w.heap.size + 1; omega) _)
  have BA1s : Hid (Below w.heap.size w (w1.setCell ⟨w.heap.size + 1, 1, none⟩ (.slice A1 n1 c1))) := Lib.hid (BA1.out.setCell (by show w.heap.size ≤ w.heap.size + 1; omega) _)
  have hz1s : w.heap.size + 2 ≤ (w1.setCell ⟨w.heap.size + 1, 1, none⟩ (.slice A1 n1 c1)).heap.size := by simp; omega
  have O1as : Hid (Own (w.heap.size + 2) 5 .u8 (w1.setCell ⟨w.heap.size + 1, 1, none⟩ (.slice A1 n1 c1)) A1 n1 c1 (idL b (some 5))) := Lib.hid (O1a.out.kept (only_setCell (g := w.heap.size + 1) (p := ⟨w.heap.size + 1, 1, none⟩) (World.grownBy.refl _ _) (.inl rfl) _) (fun ad hA e => by have h1 := (O1a.out.block ad hA).1; injection e with e; omega))
  clear a0 a1 a2 a3 a4 a5 f0 f1 f2 f3 f4 f5 PA1 PB1 BA1 O1a
  generalize w1.setCell ⟨w.heap.size + 1, 1, none⟩ (.slice A1 n1 c1) = v1 at *
  have C2 : Hid (Calls Try.prog 32 #[.slice (some ad) b.length c, .int .i64 (atI (p1 b))] v1 (PlPost (idL b (p1 b)) (p2 b) v1)) := Lib.hid (rid_u (some ad) c b (p1 b) _ ((HR.out.below BA1s.out (Nat.le_refl _)).mono (by omega)) HB.out hl hc HPL2.out)
  refine C2.out.mono ?_
  rintro e w2 ⟨A2, n2, c2, rfl, o2, hb2⟩
  have hz2 : w.heap.size + 2 ≤ w2.heap.size := by have := hb2.size; omega
  have PA2 := Lib.hid (PA1s.out.below hb2 (by omega))
  have PB2 := Lib.hid (PB1s.out.below hb2 (by omega))
  have BA2 := Lib.hid (BA1s.out.trans (hb2.mono (by omega)))
  have O1b := Lib.hid (O1as.out.below hb2)
  clear C2 o2 hb2 PA1s PB1s BA1s O1as
  obtain ⟨a0, a1, a2, a3, a4, a5⟩ := six_facts PA2.out
  obtain ⟨f0, f1, f2, f3, f4, f5⟩ := six_frozen PA2.out
  go_wp2_with fail
  have PA2s : Hid (Blk (w2.setCell ⟨w.heap.size + 1, 2, none⟩ (.slice A2 n2 c2)) (w.heap.size + 1) 41 #[.int .u8 0, .slice A1 n1 c1, .slice A2 n2 c2, .slice none 0 0, .int .i64 0, .int .i64 0]) := Lib.hid (Blk.cast (PA2.out.set_ 2 _) (by simp))
  have PB2s : Hid (Blk (w2.setCell ⟨w.heap.size + 1, 2, none⟩ (.slice A2 n2 c2)) w.heap.size 41 #[.int .u8 0, .slice none 0 0, .slice none 0 0, .slice none 0 0, .int .i64 0, .int .i64 0]) := Lib.hid (Blk.far PB2.out (by show w.heap.size ≠ w.heap.size + 1; omega) _)
  have BA2s : Hid (Below w.heap.size w (w2.setCell ⟨w.heap.size + 1, 2, none⟩ (.slice A2 n2 c2))) := Lib.hid (BA2.out.setCell (by show w.heap.size ≤ w.heap.size + 1; omega) _)
  have hz2s : w.heap.size + 2 ≤ (w2.setCell ⟨w.heap.size + 1, 2, none⟩ (.slice A2 n2 c2)).heap.size := by simp; omega
  have O1bs : Hid (Own (w.heap.size + 2) 5 .u8 (w2.setCell ⟨w.heap.size + 1, 2, none⟩ (.slice A2 n2 c2)) A1 n1 c1 (idL b (some 5))) := Lib.hid (O1b.out.kept (only_setCell (g := w.heap.size + 1) (p := ⟨w.heap.size + 1, 2, none⟩) (World.grownBy.refl _ _) (.inl rfl) _) (fun ad hA e => by have h1 := (O1b.out.block ad hA).1; injection e with e; omega))
  clear a0 a1 a2 a3 a4 a5 f0 f1 f2 f3 f4 f5 PA2 PB2 BA2 O1b
  generalize w2.setCell ⟨w.heap.size + 1, 2, none⟩ (.slice A2 n2 c2) = v2 at *
  have C3 : Hid (Calls Try.prog 33 #[.slice (some ad) b.length c, .int .i64 (atI (p2 b))] v2 (PlPost (szL b (p2 b)) (p3 b 0) v2)) := Lib.hid (rsz_u (some ad) c b (p2 b) _ ((HR.out.below BA2s.out (Nat.le_refl _)).mono (by omega)) HB.out hl hc HPL2b.out)
  refine C3.out.mono ?_
  rintro e w3 ⟨A3, n3, c3, rfl, o3, hb3⟩
  have hz3 : w.heap.size + 2 ≤ w3.heap.size := by have := hb3.size; omega
  have PA3 := Lib.hid (PA2s.out.below hb3 (by omega))
  have PB3 := Lib.hid (PB2s.out.below hb3 (by omega))
  have BA3 := Lib.hid (BA2s.out.trans (hb3.mono (by omega)))
  have O1c := Lib.hid (O1bs.out.below hb3)
  clear C3 o3 hb3 PA2s PB2s BA2s O1bs
  obtain ⟨a0, a1, a2, a3, a4, a5⟩ := six_facts PA3.out
  obtain ⟨f0, f1, f2, f3, f4, f5⟩ := six_frozen PA3.out
  go_wp2_with fail
  have PA3s : Hid (Blk (w3.setCell ⟨w.heap.size + 1, 3, none⟩ (.slice A3 n3 c3)) (w.heap.size + 1) 41 #[.int .u8 0, .slice A1 n1 c1, .slice A2 n2 c2, .slice A3 n3 c3, .int .i64 0, .int .i64 0]) := Lib.hid (Blk.cast (PA3.out.set_ 3 _) (by simp))
  have PB3s : Hid (Blk (w3.setCell ⟨w.heap.size + 1, 3, none⟩ (.slice A3 n3 c3)) w.heap.size 41 #[.int .u8 0, .slice none 0 0, .slice none 0 0, .slice none 0 0, .int .i64 0, .int .i64 0]) := Lib.hid (Blk.far PB3.out (by show w.heap.size ≠ w.heap.size + 1; omega) _)
  have BA3s : Hid (Below w.heap.size w (w3.setCell ⟨w.heap.size + 1, 3, none⟩ (.slice A3 n3 c3))) := Lib.hid (BA3.out.setCell (by show w.heap.size ≤ w.heap.size + 1; omega) _)
  have hz3s : w.heap.size + 2 ≤ (w3.setCell ⟨w.heap.size + 1, 3, none⟩ (.slice A3 n3 c3)).heap.size := by simp; omega
  have O1cs : Hid (Own (w.heap.size + 2) 5 .u8 (w3.setCell ⟨w.heap.size + 1, 3, none⟩ (.slice A3 n3 c3)) A1 n1 c1 (idL b (some 5))) := Lib.hid (O1c.out.kept (only_setCell (g := w.heap.size + 1) (p := ⟨w.heap.size + 1, 3, none⟩) (World.grownBy.refl _ _) (.inl rfl) _) (fun ad hA e => by have h1 := (O1c.out.block ad hA).1; injection e with e; omega))
  clear a0 a1 a2 a3 a4 a5 f0 f1 f2 f3 f4 f5 PA3 PB3 BA3 O1c
  generalize w3.setCell ⟨w.heap.size + 1, 3, none⟩ (.slice A3 n3 c3) = v3 at *
  have C4 := Lib.hid (rtk_u (some ad) c b (p3 b 0) v3 ((HR.out.below BA3s.out (Nat.le_refl _)).mono (by omega)) HB.out hl HPL3.out)
  refine C4.out.mono ?_
  rintro e w' ⟨rfl, rfl⟩
  obtain ⟨a0, a1, a2, a3, a4, a5⟩ := six_facts PA3s.out
  obtain ⟨f0, f1, f2, f3, f4, f5⟩ := six_frozen PA3s.out
  obtain ⟨b0, b1, b2, b3, b4, b5⟩ := six_facts PB3s.out
  obtain ⟨g0, g1, g2, g3, g4, g5⟩ := six_frozen PB3s.out
  have HED := HE1.out
  unfold endR at HED
  have HTQ : Hid (∀ q, tkO b (p3 b 0) = some q → q ≤ b.length ∧ 0 ≤ tkV b (p3 b 0) ∧ tkV b (p3 b 0) < 18446744073709551616) := Lib.hid (fun q h => by
    unfold tkO at h
    unfold tkV
    rcases ht : tkR b (p3 b 0) with _ | ⟨v, q0⟩
    · rw [ht] at h; cases h
    · rw [ht] at h; injection h with h; subst h; exact tkR_le HB.out HPL3.out ht)
  clear C4
  generalize tkV b (p3 b 0) = v at *
  have bad : ∀ (w9 : World), (splitL b 8).isSome = false → Below w.heap.size w w9 → RSplPost b w (.returned (.tuple #[.agg #[.int .u8 0, .slice none 0 0, .slice none 0 0, .slice none 0 0, .int .i64 0, .int .i64 0], .bool false])) w9 := fun _ h hb => RSplPost.no (Option.not_isSome_iff_eq_none.1 (by rw [h]; decide)) hb
  have hfin : Hid (∀ (u0 u1 u2 u3 u4 u5 : Value), Below w.heap.size w (set6 v3 w.heap.size u0 u1 u2 u3 u4 u5)) := Lib.hid (fun _ _ _ _ _ _ => BA3s.out.grown (set6_grown v3 w.heap.size _ _ _ _ _ _) (by omega) (fun k e => by injection e with e; omega))
  rcases ht : tkO b (p3 b 0) with _ | q
  · rw [ht] at HED
    have HS := Lib.hid HED
    have BAD := Lib.hid bad
    clear HED bad ht
    rw [show atI none = -1 from rfl]
    go_wp2_with fail
    refine bodyPost_ret (results_p6 rfl rfl (set6_blk PB3s.out _ _ _ _ _ _)) rfl (BAD.out _ HS.out ?_)
    exact hfin.out _ _ _ _ _ _
  · rw [ht] at HED
    obtain ⟨hq, hv0, hv1⟩ := HTQ.out q ht
    rw [show atI (some q) = (q : Int) from rfl]
    have eLq : (b.length : Int) - (q : Int) = ((b.length - q : Nat) : Int) := by omega
    have hLq : b.length - q ≤ 1000000000000 := by omega
    by_cases hv : v < 20
    · have HS : Hid ((splitL b 8).isSome = false) := Lib.hid (by rw [HED, Bool.and_eq_false_iff, decide_eq_false_iff_not]; exact .inl (by omega))
      have BAD := Lib.hid bad
      clear HED bad ht
      go_wp2_with fail
      refine bodyPost_ret (results_p6 rfl rfl (set6_blk PB3s.out _ _ _ _ _ _)) rfl (BAD.out _ HS.out ?_)
      exact hfin.out _ _ _ _ _ _
    · have hv20 : 20 ≤ v := by omega
      rcases Int.lt_or_le ((b.length : Int) - (q : Int)) v with hs | hs
      · have HS : Hid ((splitL b 8).isSome = false) := Lib.hid (by rw [HED, Bool.and_eq_false_iff, decide_eq_false_iff_not, decide_eq_false_iff_not]; exact .inr (by omega))
        have BAD := Lib.hid bad
        rw [eLq] at hs
        generalize b.length - q = m at *
        clear HED bad ht
        go_wp2_with fail
        refine bodyPost_ret (results_p6 rfl rfl (set6_blk PB3s.out _ _ _ _ _ _)) rfl (BAD.out _ HS.out ?_)
        exact hfin.out _ _ _ _ _ _
      · have HS : Hid ((splitL b 8).isSome = true) := Lib.hid (by rw [HED, Bool.and_eq_true, decide_eq_true_eq, decide_eq_true_eq]; exact ⟨hv20, hs⟩)
        have hqv : (q : Int) + v ≤ 1000000000000 := by omega
        rw [eLq] at hs
        generalize b.length - q = m at *
        clear HED bad ht hfin
        go_wp2_with fail
        clear a0 a1 a2 a3 a4 a5 f0 f1 f2 f3 f4 f5 b0 b1 b2 b3 b4 b5 g0 g1 g2 g3 g4 g5
        obtain ⟨p, hp⟩ := Option.isSome_iff_exists.1 HS.out
        have hd : splD b = idL b (some 5) := by unfold splD; rw [hp]; exact HE2.out p hp
        have O5 : Own (w.heap.size + 2) 5 .u8 ((v3.setCell ⟨w.heap.size + 1, 4, none⟩ (.int .i64 q)).setCell ⟨w.heap.size + 1, 5, none⟩ (.int .i64 ((q : Int) + v))) A1 n1 c1 (idL b (some 5)) :=
          O1cs.out.kept (only_setCell (g := w.heap.size + 1) (p := ⟨w.heap.size + 1, 5, none⟩) (only_setCell (g := w.heap.size + 1) (p := ⟨w.heap.size + 1, 4, none⟩) (World.grownBy.refl _ _) (.inl rfl) _) (.inl rfl) _) (fun ad hA e => by have h1 := (O1cs.out.block ad hA).1; injection e with e; omega)
        have P5 : Blk ((v3.setCell ⟨w.heap.size + 1, 4, none⟩ (.int .i64 q)).setCell ⟨w.heap.size + 1, 5, none⟩ (.int .i64 ((q : Int) + v))) w.heap.size 41 #[.int .u8 0, .slice none 0 0, .slice none 0 0, .slice none 0 0, .int .i64 0, .int .i64 0] := Blk.far (Blk.far PB3s.out (by show w.heap.size ≠ w.heap.size + 1; omega) _) (by show w.heap.size ≠ w.heap.size + 1; omega) _
        have B5 : Below w.heap.size w ((v3.setCell ⟨w.heap.size + 1, 4, none⟩ (.int .i64 q)).setCell ⟨w.heap.size + 1, 5, none⟩ (.int .i64 ((q : Int) + v))) := (BA3s.out.setCell (by show w.heap.size ≤ w.heap.size + 1; omega) _).setCell (by show w.heap.size ≤ w.heap.size + 1; omega) _
        have z5 : w.heap.size + 2 ≤ ((v3.setCell ⟨w.heap.size + 1, 4, none⟩ (.int .i64 q)).setCell ⟨w.heap.size + 1, 5, none⟩ (.int .i64 ((q : Int) + v))).heap.size := by simp; omega
        generalize (v3.setCell ⟨w.heap.size + 1, 4, none⟩ (.int .i64 q)).setCell ⟨w.heap.size + 1, 5, none⟩ (.int .i64 ((q : Int) + v)) = v9 at *
        refine bodyPost_ret (results_p6 rfl rfl (set6_blk P5 _ _ _ _ _ _)) rfl ?_
        refine ⟨0, q, (q : Int) + v, A1, A2, A3, n1, c1, n2, c2, n3, c3, by rw [HS.out]; rfl, ?_, ?_, ?_, fun ad hA => by have := (O5.block ad hA).1; omega⟩
        · rw [hd]
          exact (O5.kept (set6_grown _ _ _ _ _ _ _ _) (fun ad hA e => by have h1 := (O5.block ad hA).1; injection e with e; omega)).rd
        · rw [hd]; exact O5.len
        · exact B5.grown (set6_grown v9 w.heap.size _ _ _ _ _ _) (by omega) (fun k e => by injection e with e; omega)
set_option maxRecDepth 100000 in
set_option maxHeartbeats 8000000 in
theorem rsplit_long2 (A : Option Addr) (c : Nat) (b : List Int) (w : World) (hr : Rd w.heap.size .u8 w A b) (hb : Byt b) (hl : b.length ≤ 1000000000000) (hc : b.length ≤ c)
    (h2 : b.getD 0 0 / 64 % 2 ≠ 0) (h3 : 128 ≤ b.getD 0 0) (hok : ¬ (b.length < 5 ∨ (b.drop 1).take 4 ≠ [0, 0, 0, 1] ∨ (b.getD 0 0 / 16 % 4 ≠ 0 ∧ b.getD 0 0 / 16 % 4 ≠ 2))) (hk : b.getD 0 0 / 16 % 4 = 2) :
    Calls Try.prog 13 #[.slice A b.length c, .int .i64 8] w (RSplPost b w) := by
  have h5 : 5 ≤ b.length := by rcases Nat.lt_or_ge b.length 5 with h | h; exact absurd (.inl h) hok; exact h
  have HSPL : splitL b 8 = longP b 2 := by
    have e := longP_eq hb 2 hok hk
    rw [← e]
    unfold splitL
    rw [if_neg (by omega), if_pos h3]
  have HEND := longP_some b 2
  rw [← HSPL] at HEND
  obtain ⟨he1, he2⟩ := HEND
  have h4 := four_of h5
  have h4' : (b.drop 1).take 4 = [0, 0, 0, 1] := by
    by_cases h : (b.drop 1).take 4 = [0, 0, 0, 1]
    · exact h
    · exact absurd (.inr (.inl h)) hok
  rw [h4'] at h4
  injection h4 with q1 h4
  injection h4 with q2 h4
  injection h4 with q3 h4
  injection h4 with q4 _
  have hz : ((b.length : Int) == 0) = false := by rw [beq_eq_false_iff_ne]; omega
  obtain ⟨ad, rfl, -⟩ := hr.isSome (by omega)
  have r2 := hr.two (Nat.le_refl _)
  have m0 := r2.at0 (by omega)
  have m1 := r2.atN 1 (by omega) (by decide)
  have m2 := r2.atN 2 (by omega) (by decide)
  have m3 := r2.atN 3 (by omega) (by decide)
  have m4 := r2.atN 4 (by omega) (by decide)
  rw [← q1] at m1
  rw [← q2] at m2
  rw [← q3] at m3
  rw [← q4] at m4
  have hy := hb.getD 0
  have h2' : (b.getD 0 0 / 64 % 2 == 0) = false := by rw [beq_eq_false_iff_ne]; exact h2
  have h5' : (5 : Int) ≤ (b.length : Int) := by omega
  have HPL3 := Lib.hid (p3_le (kind := 2) hb)
  have HPL1 : Hid (∀ q, (some 5 : Option Nat) = some q → q ≤ b.length) := Lib.hid (fun q h => by injection h with h; omega)
  have HPL2 : Hid (∀ q, p1 b = some q → q ≤ b.length) := Lib.hid (idO_le hb HPL1.out)
  have HPL2b : Hid (∀ q, p2 b = some q → q ≤ b.length) := Lib.hid (idO_le hb HPL2.out)
  have HR := Lib.hid hr
  have HB := Lib.hid hb
  have HE1 := Lib.hid he1
  have HE2 : Hid (∀ p, splitL b 8 = some p → p.dst = idL b (some 5)) := Lib.hid he2
  generalize b.getD 0 0 = y at *
  obtain ⟨y0, y1⟩ := hy
  have PN0 := Blk.new w 41 #[.int .u8 0, .slice none 0 0, .slice none 0 0, .slice none 0 0, .int .i64 0, .int .i64 0]
  clear hr hb r2 h2 hok h4' q1 q2 q3 q4 HSPL he1 he2
  go_enter Try.func13, Try.ntmps13
  go_wp2_with fail
  have PA : Hid (Blk ((w.alloc (.cells #[.int .u8 0, .slice none 0 0, .slice none 0 0, .slice none 0 0, .int .i64 0, .int .i64 0] 41)).alloc (.cells #[.int .u8 1, .slice none 0 0, .slice none 0 0, .slice none 0 0, .int .i64 0, .int .i64 0] 41)) (w.heap.size + 1) 41 #[.int .u8 1, .slice none 0 0, .slice none 0 0, .slice none 0 0, .int .i64 0, .int .i64 0]) := Lib.hid (by
    have h := Blk.new (w.alloc (.cells #[.int .u8 0, .slice none 0 0, .slice none 0 0, .slice none 0 0, .int .i64 0, .int .i64 0] 41)) 41 #[.int .u8 1, .slice none 0 0, .slice none 0 0, .slice none 0 0, .int .i64 0, .int .i64 0]
    rw [World.size_alloc] at h
    exact h)
  have PB : Hid (Blk ((w.alloc (.cells #[.int .u8 0, .slice none 0 0, .slice none 0 0, .slice none 0 0, .int .i64 0, .int .i64 0] 41)).alloc (.cells #[.int .u8 1, .slice none 0 0, .slice none 0 0, .slice none 0 0, .int .i64 0, .int .i64 0] 41)) w.heap.size 41 #[.int .u8 0, .slice none 0 0, .slice none 0 0, .slice none 0 0, .int .i64 0, .int .i64 0]) := Lib.hid (PN0.alloc _)
  have BA : Hid (Below w.heap.size w ((w.alloc (.cells #[.int .u8 0, .slice none 0 0, .slice none 0 0, .slice none 0 0, .int .i64 0, .int .i64 0] 41)).alloc (.cells #[.int .u8 1, .slice none 0 0, .slice none 0 0, .slice none 0 0, .int .i64 0, .int .i64 0] 41))) := Lib.hid (((Below.refl _ _).alloc (Nat.le_refl _) _).alloc (by simp) _)
  have hA : ((w.alloc (.cells #[.int .u8 0, .slice none 0 0, .slice none 0 0, .slice none 0 0, .int .i64 0, .int .i64 0] 41)).alloc (.cells #[.int .u8 1, .slice none 0 0, .slice none 0 0, .slice none 0 0, .int .i64 0, .int .i64 0] 41)).heap.size = w.heap.size + 2 := by simp
  have C1 : Hid (Calls Try.prog 32 #[.slice (some ad) b.length c, .int .i64 5] ((w.alloc (.cells #[.int .u8 0, .slice none 0 0, .slice none 0 0, .slice none 0 0, .int .i64 0, .int .i64 0] 41)).alloc (.cells #[.int .u8 1, .slice none 0 0, .slice none 0 0, .slice none 0 0, .int .i64 0, .int .i64 0] 41)) (PlPost (idL b (some 5)) (p1 b) ((w.alloc (.cells #[.int .u8 0, .slice none 0 0, .slice none 0 0, .slice none 0 0, .int .i64 0, .int .i64 0] 41)).alloc (.cells #[.int .u8 1, .slice none 0 0, .slice none 0 0, .slice none 0 0, .int .i64 0, .int .i64 0] 41)))) := Lib.hid (rid_u (some ad) c b (some 5) _ ((HR.out.below BA.out (Nat.le_refl _)).mono (by rw [hA]; omega)) HB.out hl hc HPL1.out)
  clear m0 m1 m2 m3 m4 PN0
  generalize ((w.alloc (.cells #[.int .u8 0, .slice none 0 0, .slice none 0 0, .slice none 0 0, .int .i64 0, .int .i64 0] 41)).alloc (.cells #[.int .u8 1, .slice none 0 0, .slice none 0 0, .slice none 0 0, .int .i64 0, .int .i64 0] 41)) = v0 at *
  refine C1.out.mono ?_
  rintro e w1 ⟨A1, n1, c1, rfl, o1, hb1⟩
  have O1a := Lib.hid (o1.mono (B' := w.heap.size + 2) (by omega))
  have hz0 : w.heap.size + 2 ≤ w1.heap.size := by have := hb1.size; omega
  have PA1 := Lib.hid (PA.out.below hb1 (by omega))
  have PB1 := Lib.hid (PB.out.below hb1 (by omega))
  have BA1 := Lib.hid (BA.out.trans (hb1.mono (by omega)))
  clear C1 o1 hb1 PA PB BA hA
  obtain ⟨a0, a1, a2, a3, a4, a5⟩ := six_facts PA1.out
  obtain ⟨f0, f1, f2, f3, f4, f5⟩ := six_frozen PA1.out
  go_wp2_with fail
  have PA1s : Hid (Blk (w1.setCell ⟨w.heap.size + 1, 1, none⟩ (.slice A1 n1 c1)) (w.heap.size + 1) 41 #[.int .u8 1, .slice A1 n1 c1, .slice none 0 0, .slice none 0 0, .int .i64 0, .int .i64 0]) := Lib.hid (Blk.cast (PA1.out.set_ 1 _) (by simp))
  have PB1s : Hid (Blk (w1.setCell ⟨w.heap.size + 1, 1, none⟩ (.slice A1 n1 c1)) w.heap.size 41 #[.int .u8 0, .slice none 0 0, .slice none 0 0, .slice none 0 0, .int .i64 0, .int .i64 0]) := Lib.hid (Blk.far PB1.out (by show w.heap.size ≠ w.heap.size + 1; omega) _)
  have BA1s : Hid (Below w.heap.size w (w1.setCell ⟨w.heap.size + 1, 1, none⟩ (.slice A1 n1 c1))) := Lib.hid (BA1.out.setCell (by show w.heap.size ≤ w.heap.size + 1; omega) _)
  have hz1s : w.heap.size + 2 ≤ (w1.setCell ⟨w.heap.size + 1, 1, none⟩ (.slice A1 n1 c1)).heap.size := by simp; omega
  have O1as : Hid (Own (w.heap.size + 2) 5 .u8 (w1.setCell ⟨w.heap.size + 1, 1, none⟩ (.slice A1 n1 c1)) A1 n1 c1 (idL b (some 5))) := Lib.hid (O1a.out.kept (only_setCell (g := w.heap.size + 1) (p := ⟨w.heap.size + 1, 1, none⟩) (World.grownBy.refl _ _) (.inl rfl) _) (fun ad hA e => by have h1 := (O1a.out.block ad hA).1; injection e with e; omega))
  clear a0 a1 a2 a3 a4 a5 f0 f1 f2 f3 f4 f5 PA1 PB1 BA1 O1a
  generalize w1.setCell ⟨w.heap.size + 1, 1, none⟩ (.slice A1 n1 c1) = v1 at *
  have C2 : Hid (Calls Try.prog 32 #[.slice (some ad) b.length c, .int .i64 (atI (p1 b))] v1 (PlPost (idL b (p1 b)) (p3 b 2) v1)) := Lib.hid (rid_u (some ad) c b (p1 b) _ ((HR.out.below BA1s.out (Nat.le_refl _)).mono (by omega)) HB.out hl hc HPL2.out)
  refine C2.out.mono ?_
  rintro e w2 ⟨A2, n2, c2, rfl, o2, hb2⟩
  have hz2 : w.heap.size + 2 ≤ w2.heap.size := by have := hb2.size; omega
  have PA2 := Lib.hid (PA1s.out.below hb2 (by omega))
  have PB2 := Lib.hid (PB1s.out.below hb2 (by omega))
  have BA2 := Lib.hid (BA1s.out.trans (hb2.mono (by omega)))
  have O1b := Lib.hid (O1as.out.below hb2)
  clear C2 o2 hb2 PA1s PB1s BA1s O1as
  obtain ⟨a0, a1, a2, a3, a4, a5⟩ := six_facts PA2.out
  obtain ⟨f0, f1, f2, f3, f4, f5⟩ := six_frozen PA2.out
  go_wp2_with fail
  have PA2s : Hid (Blk (w2.setCell ⟨w.heap.size + 1, 2, none⟩ (.slice A2 n2 c2)) (w.heap.size + 1) 41 #[.int .u8 1, .slice A1 n1 c1, .slice A2 n2 c2, .slice none 0 0, .int .i64 0, .int .i64 0]) := Lib.hid (Blk.cast (PA2.out.set_ 2 _) (by simp))
  have PB2s : Hid (Blk (w2.setCell ⟨w.heap.size + 1, 2, none⟩ (.slice A2 n2 c2)) w.heap.size 41 #[.int .u8 0, .slice none 0 0, .slice none 0 0, .slice none 0 0, .int .i64 0, .int .i64 0]) := Lib.hid (Blk.far PB2.out (by show w.heap.size ≠ w.heap.size + 1; omega) _)
  have BA2s : Hid (Below w.heap.size w (w2.setCell ⟨w.heap.size + 1, 2, none⟩ (.slice A2 n2 c2))) := Lib.hid (BA2.out.setCell (by show w.heap.size ≤ w.heap.size + 1; omega) _)
  have hz2s : w.heap.size + 2 ≤ (w2.setCell ⟨w.heap.size + 1, 2, none⟩ (.slice A2 n2 c2)).heap.size := by simp; omega
  have O1bs : Hid (Own (w.heap.size + 2) 5 .u8 (w2.setCell ⟨w.heap.size + 1, 2, none⟩ (.slice A2 n2 c2)) A1 n1 c1 (idL b (some 5))) := Lib.hid (O1b.out.kept (only_setCell (g := w.heap.size + 1) (p := ⟨w.heap.size + 1, 2, none⟩) (World.grownBy.refl _ _) (.inl rfl) _) (fun ad hA e => by have h1 := (O1b.out.block ad hA).1; injection e with e; omega))
  clear a0 a1 a2 a3 a4 a5 f0 f1 f2 f3 f4 f5 PA2 PB2 BA2 O1b
  generalize w2.setCell ⟨w.heap.size + 1, 2, none⟩ (.slice A2 n2 c2) = v2 at *
  have C4 := Lib.hid (rtk_u (some ad) c b (p3 b 2) v2 ((HR.out.below BA2s.out (Nat.le_refl _)).mono (by omega)) HB.out hl HPL3.out)
  refine C4.out.mono ?_
  rintro e w' ⟨rfl, rfl⟩
  obtain ⟨a0, a1, a2, a3, a4, a5⟩ := six_facts PA2s.out
  obtain ⟨f0, f1, f2, f3, f4, f5⟩ := six_frozen PA2s.out
  obtain ⟨b0, b1, b2, b3, b4, b5⟩ := six_facts PB2s.out
  obtain ⟨g0, g1, g2, g3, g4, g5⟩ := six_frozen PB2s.out
  have HED := HE1.out
  unfold endR at HED
  have HTQ : Hid (∀ q, tkO b (p3 b 2) = some q → q ≤ b.length ∧ 0 ≤ tkV b (p3 b 2) ∧ tkV b (p3 b 2) < 18446744073709551616) := Lib.hid (fun q h => by
    unfold tkO at h
    unfold tkV
    rcases ht : tkR b (p3 b 2) with _ | ⟨v, q0⟩
    · rw [ht] at h; cases h
    · rw [ht] at h; injection h with h; subst h; exact tkR_le HB.out HPL3.out ht)
  clear C4
  generalize tkV b (p3 b 2) = v at *
  have bad : ∀ (w9 : World), (splitL b 8).isSome = false → Below w.heap.size w w9 → RSplPost b w (.returned (.tuple #[.agg #[.int .u8 0, .slice none 0 0, .slice none 0 0, .slice none 0 0, .int .i64 0, .int .i64 0], .bool false])) w9 := fun _ h hb => RSplPost.no (Option.not_isSome_iff_eq_none.1 (by rw [h]; decide)) hb
  have hfin : Hid (∀ (u0 u1 u2 u3 u4 u5 : Value), Below w.heap.size w (set6 v2 w.heap.size u0 u1 u2 u3 u4 u5)) := Lib.hid (fun _ _ _ _ _ _ => BA2s.out.grown (set6_grown v2 w.heap.size _ _ _ _ _ _) (by omega) (fun k e => by injection e with e; omega))
  rcases ht : tkO b (p3 b 2) with _ | q
  · rw [ht] at HED
    have HS := Lib.hid HED
    have BAD := Lib.hid bad
    clear HED bad ht
    rw [show atI none = -1 from rfl]
    go_wp2_with fail
    refine bodyPost_ret (results_p6 rfl rfl (set6_blk PB2s.out _ _ _ _ _ _)) rfl (BAD.out _ HS.out ?_)
    exact hfin.out _ _ _ _ _ _
  · rw [ht] at HED
    obtain ⟨hq, hv0, hv1⟩ := HTQ.out q ht
    rw [show atI (some q) = (q : Int) from rfl]
    have eLq : (b.length : Int) - (q : Int) = ((b.length - q : Nat) : Int) := by omega
    have hLq : b.length - q ≤ 1000000000000 := by omega
    by_cases hv : v < 20
    · have HS : Hid ((splitL b 8).isSome = false) := Lib.hid (by rw [HED, Bool.and_eq_false_iff, decide_eq_false_iff_not]; exact .inl (by omega))
      have BAD := Lib.hid bad
      clear HED bad ht
      go_wp2_with fail
      refine bodyPost_ret (results_p6 rfl rfl (set6_blk PB2s.out _ _ _ _ _ _)) rfl (BAD.out _ HS.out ?_)
      exact hfin.out _ _ _ _ _ _
    · have hv20 : 20 ≤ v := by omega
      rcases Int.lt_or_le ((b.length : Int) - (q : Int)) v with hs | hs
      · have HS : Hid ((splitL b 8).isSome = false) := Lib.hid (by rw [HED, Bool.and_eq_false_iff, decide_eq_false_iff_not, decide_eq_false_iff_not]; exact .inr (by omega))
        have BAD := Lib.hid bad
        rw [eLq] at hs
        generalize b.length - q = m at *
        clear HED bad ht
        go_wp2_with fail
        refine bodyPost_ret (results_p6 rfl rfl (set6_blk PB2s.out _ _ _ _ _ _)) rfl (BAD.out _ HS.out ?_)
        exact hfin.out _ _ _ _ _ _
      · have HS : Hid ((splitL b 8).isSome = true) := Lib.hid (by rw [HED, Bool.and_eq_true, decide_eq_true_eq, decide_eq_true_eq]; exact ⟨hv20, hs⟩)
        have hqv : (q : Int) + v ≤ 1000000000000 := by omega
        rw [eLq] at hs
        generalize b.length - q = m at *
        clear HED bad ht hfin
        go_wp2_with fail
        clear a0 a1 a2 a3 a4 a5 f0 f1 f2 f3 f4 f5 b0 b1 b2 b3 b4 b5 g0 g1 g2 g3 g4 g5
        obtain ⟨p, hp⟩ := Option.isSome_iff_exists.1 HS.out
        have hd : splD b = idL b (some 5) := by unfold splD; rw [hp]; exact HE2.out p hp
        have O5 : Own (w.heap.size + 2) 5 .u8 ((v2.setCell ⟨w.heap.size + 1, 4, none⟩ (.int .i64 q)).setCell ⟨w.heap.size + 1, 5, none⟩ (.int .i64 ((q : Int) + v))) A1 n1 c1 (idL b (some 5)) :=
          O1bs.out.kept (only_setCell (g := w.heap.size + 1) (p := ⟨w.heap.size + 1, 5, none⟩) (only_setCell (g := w.heap.size + 1) (p := ⟨w.heap.size + 1, 4, none⟩) (World.grownBy.refl _ _) (.inl rfl) _) (.inl rfl) _) (fun ad hA e => by have h1 := (O1bs.out.block ad hA).1; injection e with e; omega)
        have P5 : Blk ((v2.setCell ⟨w.heap.size + 1, 4, none⟩ (.int .i64 q)).setCell ⟨w.heap.size + 1, 5, none⟩ (.int .i64 ((q : Int) + v))) w.heap.size 41 #[.int .u8 0, .slice none 0 0, .slice none 0 0, .slice none 0 0, .int .i64 0, .int .i64 0] := Blk.far (Blk.far PB2s.out (by show w.heap.size ≠ w.heap.size + 1; omega) _) (by show w.heap.size ≠ w.heap.size + 1; omega) _
        have B5 : Below w.heap.size w ((v2.setCell ⟨w.heap.size + 1, 4, none⟩ (.int .i64 q)).setCell ⟨w.heap.size + 1, 5, none⟩ (.int .i64 ((q : Int) + v))) := (BA2s.out.setCell (by show w.heap.size ≤ w.heap.size + 1; omega) _).setCell (by show w.heap.size ≤ w.heap.size + 1; omega) _
        have z5 : w.heap.size + 2 ≤ ((v2.setCell ⟨w.heap.size + 1, 4, none⟩ (.int .i64 q)).setCell ⟨w.heap.size + 1, 5, none⟩ (.int .i64 ((q : Int) + v))).heap.size := by simp; omega
        generalize (v2.setCell ⟨w.heap.size + 1, 4, none⟩ (.int .i64 q)).setCell ⟨w.heap.size + 1, 5, none⟩ (.int .i64 ((q : Int) + v)) = v9 at *
        refine bodyPost_ret (results_p6 rfl rfl (set6_blk P5 _ _ _ _ _ _)) rfl ?_
        refine ⟨1, q, (q : Int) + v, A1, A2, none, n1, c1, n2, c2, 0, 0, by rw [HS.out]; rfl, ?_, ?_, ?_, fun ad hA => by have := (O5.block ad hA).1; omega⟩
        · rw [hd]
          exact (O5.kept (set6_grown _ _ _ _ _ _ _ _) (fun ad hA e => by have h1 := (O5.block ad hA).1; injection e with e; omega)).rd
        · rw [hd]; exact O5.len
        · exact B5.grown (set6_grown v9 w.heap.size _ _ _ _ _ _) (by omega) (fun k e => by injection e with e; omega)
theorem rsplit_any (A : Option Addr) (c : Nat) (b : List Int) (w : World) (hr : Rd w.heap.size .u8 w A b) (hb : Byt b) (hl : b.length ≤ 1000000000000) (hc : b.length ≤ c) :
    Calls Try.prog 13 #[.slice A b.length c, .int .i64 8] w (RSplPost b w) := by
  by_cases h1 : b.length = 0 ∨ b.getD 0 0 / 64 % 2 = 0
  · exact rsplit_no A c b w hr hb hl h1
  · have h2 : b.getD 0 0 / 64 % 2 ≠ 0 := fun h => h1 (.inr h)
    have h0 : 0 < b.length := by
      rcases Nat.eq_zero_or_pos b.length with h | h
      · exact absurd (.inl h) h1
      · exact h
    rcases Int.lt_or_le (b.getD 0 0) 128 with h3 | h3
    · exact rsplit_short A c b w hr hb hl hc h0 h2 h3
    · by_cases hbad : b.length < 5 ∨ (b.drop 1).take 4 ≠ [0, 0, 0, 1] ∨ (b.getD 0 0 / 16 % 4 ≠ 0 ∧ b.getD 0 0 / 16 % 4 ≠ 2)
      · exact rsplit_bad A c b w hr hb hl h0 h2 h3 hbad
      · by_cases hk : b.getD 0 0 / 16 % 4 = 0
        · exact rsplit_long0 A c b w hr hb hl hc h2 h3 hbad hk
        · have hk2 : b.getD 0 0 / 16 % 4 = 2 := by
            by_cases h : b.getD 0 0 / 16 % 4 = 2
            · exact h
            · exact absurd (.inr (.inr ⟨hk, h⟩)) hbad
          exact rsplit_long2 A c b w hr hb hl hc h2 h3 hbad hk2
end Go.Proofs.Ytlefnddhmpgijaa
