/- Contract (layer 3): Split. Conditions: as each theorem states them. -/
import Derived.Test.YtlefnddhmpgijaaH8
import Derived.Test.YtlefnddhmpgijaaQO
namespace Go.Proofs.Ytlefnddhmpgijaa
open Go.RowKit
def allB : List Int := (List.range 256).map fun i : Nat => (i : Int)
theorem all_mem {b : Int} (h0 : 0 ≤ b) (h1 : b < 256) : b ∈ allB := List.mem_map.2 ⟨b.toNat, List.mem_range.2 (by omega), by omega⟩
theorem and_64 : (allB.all fun b => bits .and .u8 b 64 == (if b / 64 % 2 = 0 then 0 else 64)) = true := by decide +kernel
theorem and64 {b : Int} (h0 : 0 ≤ b) (h1 : b < 256) : bits .and .u8 b 64 = if b / 64 % 2 = 0 then 0 else 64 := by
  have h := List.all_eq_true.1 and_64 b (all_mem h0 h1)
  rwa [beq_iff_eq] at h
theorem and_128 : (allB.all fun b => bits .and .u8 b 128 == (if 128 ≤ b then 128 else 0)) = true := by decide +kernel
theorem and128 {b : Int} (h0 : 0 ≤ b) (h1 : b < 256) : bits .and .u8 b 128 = if 128 ≤ b then 128 else 0 := by
  have h := List.all_eq_true.1 and_128 b (all_mem h0 h1)
  rwa [beq_iff_eq] at h
/-- a slice of bytes that reads as L -/
def Sl (w : World) (v : Value) (L : List Int) : Prop := ∃ A n c, v = .slice A n c ∧ n = L.length ∧ n ≤ c ∧ Rd w.heap.size .u8 w A L
theorem Sl.own {B : Nat} {e : TypeId} {w : World} {A : Option Addr} {n c : Nat} {L : List Int} (h : Own B e .u8 w A n c L) : Sl w (.slice A n c) L := ⟨A, n, c, rfl, h.len, h.cap.1, h.rd⟩
theorem Sl.below {w w' : World} {v : Value} {L : List Int} (h : Sl w v L) (hb : Below w.heap.size w w') : Sl w' v L := by
  obtain ⟨A, n, c, h1, h2, h3, h4⟩ := h
  exact ⟨A, n, c, h1, h2, h3, (h4.below hb (Nat.le_refl _)).mono hb.size⟩
theorem Sl.nil (w : World) : Sl w (.slice none 0 0) [] := ⟨none, 0, 0, rfl, rfl, Nat.le_refl _, Rd.nil⟩
def SplitYes (b : List Int) (p : PartL) (w : World) (e : Ending) (w' : World) : Prop :=
  ∃ vd vs vt vb vr, e = .returned (.tuple #[.agg #[.int .u8 p.space, vd, vs, vt, .int .i64 (p.at_ : Nat), vb], vr, .int .i64 0]) ∧ Sl w' vd p.dst ∧ Sl w' vs p.src ∧ Sl w' vt p.tok ∧ Sl w' vb (b.take p.fin) ∧ Sl w' vr (b.drop p.fin) ∧ Below w.heap.size w w'
def SplitNo (w : World) (e : Ending) (w' : World) : Prop :=
  e = .returned (.tuple #[.agg #[.int .u8 0, .slice none 0 0, .slice none 0 0, .slice none 0 0, .int .i64 0, .slice none 0 0], .slice none 0 0, .int .i64 2]) ∧ Below w.heap.size w w'
def SplitPost (b : List Int) (own : Int) (w : World) (e : Ending) (w' : World) : Prop :=
  (∀ p, splitL b own = some p → SplitYes b p w e w') ∧ (splitL b own = none → SplitNo w e w')
/-- a slice whose block is B or beyond -/
def Fr (B : Nat) (v : Value) : Prop := ∀ A n c, v = .slice A n c → ∀ ad : Addr, A = some ad → B ≤ ad.block
def SlF (B : Nat) (w : World) (v : Value) (L : List Int) : Prop := Sl w v L ∧ Fr B v
theorem SlF.own {B B0 : Nat} {e : TypeId} {w : World} {A : Option Addr} {n c : Nat} {L : List Int} (h : Own B e .u8 w A n c L) (hB : B0 ≤ B) : SlF B0 w (.slice A n c) L :=
  ⟨Sl.own h, fun A' n' c' hv ad hA => by injection hv with h1 h2 h3; subst h1; exact Nat.le_trans hB (h.block ad hA).1⟩
def SplitYesF (b : List Int) (p : PartL) (w : World) (e : Ending) (w' : World) : Prop :=
  ∃ vd vs vt vb vr, e = .returned (.tuple #[.agg #[.int .u8 p.space, vd, vs, vt, .int .i64 (p.at_ : Nat), vb], vr, .int .i64 0]) ∧ SlF w.heap.size w' vd p.dst ∧ Sl w' vs p.src ∧ Sl w' vt p.tok ∧ Sl w' vb (b.take p.fin) ∧ Sl w' vr (b.drop p.fin) ∧ Below w.heap.size w w'
/-- and the destination's id lies in memory of the call's own -/
def SplitPostF (b : List Int) (own : Int) (w : World) (e : Ending) (w' : World) : Prop :=
  SplitPost b own w e w' ∧ ∀ vs r x, e = .returned (.tuple #[.agg vs, r, x]) → Fr w.heap.size (vs.getD 1 undef)
theorem SplitPost.no {b : List Int} {own : Int} {w : World} {e : Ending} {w' : World} (h : splitL b own = none) (h2 : SplitNo w e w') : SplitPost b own w e w' :=
  ⟨(fun p hp => by rw [h] at hp; cases hp), fun _ => h2⟩
theorem SplitPost.yes {b : List Int} {own : Int} {p : PartL} {w : World} {e : Ending} {w' : World} (h : splitL b own = some p) (h2 : SplitYes b p w e w') : SplitPost b own w e w' :=
  ⟨(fun p' hp => by rw [h] at hp; injection hp with hp; subst hp; exact h2), (fun hn => by rw [h] at hn; cases hn)⟩
theorem SplitPostF.no {b : List Int} {own : Int} {w : World} {e : Ending} {w' : World} (h : splitL b own = none) (h2 : SplitNo w e w') : SplitPostF b own w e w' :=
  ⟨SplitPost.no h h2, fun vs r x he A n c hv ad hA => by
    obtain ⟨h3, -⟩ := h2
    rw [h3] at he
    injection he with he
    injection he with he
    injection he with he
    injection he with he h5
    injection he with he
    subst he
    simp at hv
    rw [← hv.1] at hA
    cases hA⟩
theorem SplitPostF.yes {b : List Int} {own : Int} {p : PartL} {w : World} {e : Ending} {w' : World} (h : splitL b own = some p) (h2 : SplitYesF b p w e w') : SplitPostF b own w e w' := by
  obtain ⟨vd, vs, vt, vb, vr, h3, h4, h5⟩ := h2
  refine ⟨SplitPost.yes h ⟨vd, vs, vt, vb, vr, h3, h4.1, h5⟩, fun ws r x he => ?_⟩
  rw [h3] at he
  injection he with he
  injection he with he
  injection he with he
  injection he with he h6
  injection he with he
  subst he
  exact h4.2
theorem results_pt {w : World} {g : Nat} {c0 c1 c2 c3 c4 c5 : Value} {fn : Func} {x u v : Tmp} {tmps : Array Value} (hr : fn.results = #[.cell x 67, .tmp u, .tmp v]) (hx : tmps.getD x undef = .pointer (some ⟨g, 0, none⟩)) (h : Blk w g 67 #[c0, c1, c2, c3, c4, c5]) :
    (results fn tmps).run Try.prog w = .ok (.tuple #[.agg #[c0, c1, c2, c3, c4, c5], tmps.getD u undef, tmps.getD v undef]) w := by
  have a0 := Blk.cell h 0
  have a1 := Blk.cell h 1
  have a2 := Blk.cell h 2
  have a3 := Blk.cell h 3
  have a4 := Blk.cell h 4
  have a5 := Blk.cell h 5
  simp at a0 a1 a2 a3 a4 a5
  have hx' : tmps[x]?.getD undef = .pointer (some ⟨g, 0, none⟩) := by simpa using hx
  simp [results, hr, hx', go_sem, a0, a1, a2, a3, a4, a5]
theorem six {cs : Array Value} (h : cs.size = 6) : ∃ c0 c1 c2 c3 c4 c5, cs = #[c0, c1, c2, c3, c4, c5] := by
  obtain ⟨l⟩ := cs
  match l, h with
  | [c0, c1, c2, c3, c4, c5], _ => exact ⟨c0, c1, c2, c3, c4, c5, rfl⟩

theorem load_pt {w : World} {g : Nat} {c0 c1 c2 c3 c4 c5 : Value} (h : Blk w g 67 #[c0, c1, c2, c3, c4, c5]) :
    (Instr.loadAt 67 (.pointer (some ⟨g, 0, none⟩))).run Try.prog w = .ok (.agg #[c0, c1, c2, c3, c4, c5]) w := by
  have a0 := Blk.cell h 0
  have a1 := Blk.cell h 1
  have a2 := Blk.cell h 2
  have a3 := Blk.cell h 3
  have a4 := Blk.cell h 4
  have a5 := Blk.cell h 5
  simp at a0 a1 a2 a3 a4 a5
  simp [go_sem, a0, a1, a2, a3, a4, a5]
/-- only the packet's block was turned, and it reads as it did -/
def PtS (W : World) (gp : Nat) (cs : Array Value) (w' : World) : Prop := W.grownBy w' (some gp) ∧ Blk w' gp 67 cs
theorem LB.start (w : World) (A : Option Addr) (c : Nat) (b : List Int) (hr : Rd w.heap.size .u8 w A b) (hby : Byt b) (hc : b.length ≤ c) (hl : b.length ≤ 1000000000000) :
    LB w.heap.size w.heap.size (w.heap.size + 1) ((w.alloc (.cells #[.int .u8 0, .slice none 0 0, .slice none 0 0, .slice none 0 0, .int .i64 0, .slice none 0 0] 67)).alloc (.cells #[.slice A b.length c, .int .i64 0, .bool false] 92))
      ((w.alloc (.cells #[.int .u8 0, .slice none 0 0, .slice none 0 0, .slice none 0 0, .int .i64 0, .slice none 0 0] 67)).alloc (.cells #[.slice A b.length c, .int .i64 0, .bool false] 92)) A c b 0 false
      #[.int .u8 0, .slice none 0 0, .slice none 0 0, .slice none 0 0, .int .i64 0, .slice none 0 0] := by
  have hs : ((w.alloc (.cells #[.int .u8 0, .slice none 0 0, .slice none 0 0, .slice none 0 0, .int .i64 0, .slice none 0 0] 67)).heap.size) = w.heap.size + 1 := by simp
  have hb := Blk.new (w.alloc (.cells #[.int .u8 0, .slice none 0 0, .slice none 0 0, .slice none 0 0, .int .i64 0, .slice none 0 0] 67)) 92 #[.slice A b.length c, .int .i64 0, .bool false]
  rw [hs] at hb
  refine ⟨⟨hb, (hr.alloc (Nat.le_refl _) _).alloc (by simp) _, hc, hl, Nat.zero_le _, hby, by omega⟩, Blk.alloc (Blk.new _ _ _) _, Below.refl _ _, Nat.le_refl _, by omega, Nat.le_refl _, by simp⟩

set_option maxRecDepth 100000 in
set_option maxHeartbeats 3000000 in
theorem split_anyF (A : Option Addr) (c : Nat) (b : List Int) (own : Int) (w : World) (hr : Rd w.heap.size .u8 w A b) (hby : Byt b) (hc : b.length ≤ c) (hl : b.length ≤ 1000000000000) (ho0 : -9223372036854775808 ≤ own) (ho1 : own ≤ 9223372036854775807) :
    Calls Try.prog 27 #[.slice A b.length c, .int .i64 own] w (SplitPostF b own w) := by
  have HR := Lib.hid hr
  have HBY := Lib.hid hby
  have HS : Hid (splitL b own = if b.length = 0 ∨ b.getD 0 0 / 64 % 2 = 0 then none
    else if 128 ≤ b.getD 0 0 then longL b
    else if own < 0 ∨ 20 < own ∨ (b.length : Int) - 1 - own < 20 then none
    else some ⟨2, (b.drop 1).take own.toNat, [], [], 1 + own.toNat, b.length⟩) := Lib.hid rfl
  by_cases h0 : b.length = 0
  · have HNO : Hid (splitL b own = none) := Lib.hid (by rw [HS.out, if_pos (.inl h0)])
    clear hr HS
    generalize hL : b.length = L at *
    subst h0
    clear hL
    go_enter Try.func27, Try.ntmps27
    go_wp2_with fail
    refine bodyPost_ret (results_pt (g := w.heap.size) rfl rfl ?_) rfl (SplitPostF.no HNO.out ⟨rfl, ?_⟩)
    · apply Blk.cast
      · (repeat (first | with_reducible exact Blk.new _ _ _ | with_reducible apply Blk.set_ | with_reducible apply Blk.alloc))
      · simp
    · (repeat (first | with_reducible exact Below.refl _ _ | with_reducible refine Below.alloc ?_ (by simp <;> omega) _ | (with_reducible refine Below.setCell ?_ (by simp <;> omega) _)))
  have hx := hby.getD 0
  obtain ⟨ad, hA, _⟩ := hr.isSome (by omega)
  subst hA
  have c0 := hr.at0 (by omega)
  have h64 := and64 hx.1 hx.2
  have h128 := and128 hx.1 hx.2
  have hlp : 0 < b.length := by omega
  generalize hxx : b.getD 0 0 = x at *
  have HXX := Lib.hid hxx
  clear hxx hr
  obtain ⟨hx0, hx1⟩ := hx
  by_cases h1 : x / 64 % 2 = 0
  · have HNO : Hid (splitL b own = none) := Lib.hid (by rw [HS.out, if_pos (.inr h1)])
    rw [if_pos h1] at h64
    clear HS h128
    go_enter Try.func27, Try.ntmps27
    go_wp2_with fail
    refine bodyPost_ret (results_pt (g := w.heap.size) rfl rfl ?_) rfl (SplitPostF.no HNO.out ⟨rfl, ?_⟩)
    · apply Blk.cast
      · (repeat (first | with_reducible exact Blk.new _ _ _ | with_reducible apply Blk.set_ | with_reducible apply Blk.alloc))
      · simp
    · (repeat (first | with_reducible exact Below.refl _ _ | with_reducible refine Below.alloc ?_ (by simp <;> omega) _ | (with_reducible refine Below.setCell ?_ (by simp <;> omega) _)))
  rw [if_neg h1] at h64
  by_cases h2 : 128 ≤ x
  · rw [if_pos h2] at h128
    have HLE : Hid (splitL b own = longL b) := Lib.hid (by rw [HS.out, if_neg (by omega), if_pos h2])
    have HST := Lib.hid (LB.start w (some ad) c b HR.out HBY.out hc hl)
    clear HS
    go_enter Try.func27, Try.ntmps27
    go_wp2_with fail
    have HB0 : Hid (Below w.heap.size w ((w.alloc (.cells #[.int .u8 0, .slice none 0 0, .slice none 0 0, .slice none 0 0, .int .i64 0, .slice none 0 0] 67)).alloc (.cells #[.slice (some ad) b.length c, .int .i64 0, .bool false] 92))) := Lib.hid (((Below.refl w.heap.size w).alloc (Nat.le_refl _) _).alloc (by simp) _)
    generalize ((w.alloc (.cells #[.int .u8 0, .slice none 0 0, .slice none 0 0, .slice none 0 0, .int .i64 0, .slice none 0 0] 67)).alloc (.cells #[.slice (some ad) b.length c, .int .i64 0, .bool false] 92)) = w2 at *
    refine (long_any HST.out hlp).mono ?_
    rintro e w3 hpost
    have hgw := HST.out.lts.2.1
    have hzw := HST.out.2.2.1.size
    cases hlg : longL b with
    | none =>
      obtain ⟨xx, v, cs, rfl, hlb, hsz⟩ := hpost.2 hlg
      obtain ⟨z0, z1, z2, z3, z4, z5, rfl⟩ := six hsz
      have HNO : Hid (splitL b own = none) := Lib.hid (by rw [HLE.out, hlg])
      have H3 := Lib.hid hlb
      have HBK := Lib.hid hlb.2.1
      have HBB := Lib.hid (HB0.out.trans hlb.2.2.1)
      clear hlb hpost hlg hsz
      obtain ⟨d0, d1, d2, f0, f1, f2⟩ := H3.out.sp
      obtain ⟨p0, p1, p2, p3, p4, q0, q1, q2, q3, q4⟩ := H3.out.pt
      have p5 := Blk.cell H3.out.2.1 5
      have q5 := Blk.frozen H3.out.2.1 5
      have h3z := H3.out.2.2.2.1
      simp only [List.getElem?_toArray, List.getElem?_cons_succ, List.getElem?_cons_zero] at p5
      go_wp2_with fail
      refine bodyPost_ret (results_pt (g := w.heap.size) rfl rfl ?_) rfl (SplitPostF.no HNO.out ⟨rfl, ?_⟩)
      · apply Blk.cast
        · (repeat (first | with_reducible exact HBK.out | with_reducible apply Blk.set_))
        · simp
      · (repeat (first | with_reducible exact HBB.out | (with_reducible refine Below.setCell ?_ (by simp) _)))
    | some p =>
      obtain ⟨xx, A1, A2, A3, n1, c1, n2, c2, n3, c3, rfl, hlb, o1, o2, o3⟩ := hpost.1 p hlg
      have HYES : Hid (splitL b own = some p) := Lib.hid (by rw [HLE.out, hlg])
      have hfin := (longL_append hlg HBY.out []).2
      obtain ⟨sp, pd, ps, ptk, pa, pf⟩ := p
      simp only at hfin o1 o2 o3 hlb
      have H3 := Lib.hid hlb
      have HBK := Lib.hid hlb.2.1
      have HBB := Lib.hid (HB0.out.trans hlb.2.2.1)
      have O1 := Lib.hid o1
      have O2 := Lib.hid o2
      have O3 := Lib.hid o3
      clear hlb hpost hlg o1 o2 o3
      obtain ⟨d0, d1, d2, f0, f1, f2⟩ := H3.out.sp
      obtain ⟨p0, p1, p2, p3, p4, q0, q1, q2, q3, q4⟩ := H3.out.pt
      have p5 := Blk.cell H3.out.2.1 5
      have q5 := Blk.frozen H3.out.2.1 5
      have h3z := H3.out.2.2.2.1
      simp only [List.getElem?_toArray, List.getElem?_cons_succ, List.getElem?_cons_zero] at p5
      obtain ⟨Aa, ca, ka1, ka2, ra, la, runa⟩ := slice_h elU8 HR.out hc (pf : Int) pf (by omega) rfl
      obtain ⟨Ab, cb, kb1, kb2, rb, lb, runb⟩ := slice_l elU8 HR.out hc (pf : Int) (b.length - pf) (by omega) (by omega) (by omega)
      rw [Int.toNat_natCast] at rb lb
      have RA := Lib.hid ra
      have LA := Lib.hid la
      have RB := Lib.hid rb
      have LB' := Lib.hid lb
      clear ra la rb lb
      go_wp2_with (at_builtin; refine wpList_app (o := ⟨some 79, _, _, _, _, _⟩) (B := w2.heap.size) elU8 rfl _ _ rfl rfl rfl (Own.nil _ _ _ _) (RA.out.below HBB.out (Nat.le_refl _)) LA.out.symm ?_ ?_ ?_; (rw [LA.out]; simp <;> omega); exact h3z; intro A5 n5 c5 w5 h5; have H5 := Lib.hid h5; have p5' := Below.cell_some (below_of_none H5.out.2.1) p5 (cell_lt p5); have q5' := Blk.frozen (Blk.below HBK.out (below_of_none H5.out.2.1) (Blk.lt HBK.out)) 5; clear h5)
      have gpw : w.heap.size < w2.heap.size := by omega
      have bel5 := below_of_none H5.out.2.1
      have BW5 : Hid (Blk (w5.setCell ⟨w.heap.size, 5, none⟩ (.slice A5 n5 c5)) w.heap.size 67 #[.int .u8 sp, .slice A1 n1 c1, .slice A2 n2 c2, .slice A3 n3 c3, .int .i64 (pa : Nat), .slice A5 n5 c5]) := Lib.hid (Blk.cast (Blk.set_ (Blk.below HBK.out bel5 (Blk.lt HBK.out)) 5 _) (by simp))
      replace O1 := Lib.hid ((O1.out.below bel5).st (p := ⟨w.heap.size, 5, none⟩) gpw (.slice A5 n5 c5))
      replace O2 := Lib.hid ((O2.out.below bel5).st (p := ⟨w.heap.size, 5, none⟩) gpw (.slice A5 n5 c5))
      replace O3 := Lib.hid ((O3.out.below bel5).st (p := ⟨w.heap.size, 5, none⟩) gpw (.slice A5 n5 c5))
      have O5 := Lib.hid (Own.st (Own.cast H5.out.1 (List.nil_append _)) (p := ⟨w.heap.size, 5, none⟩) gpw (.slice A5 n5 c5))
      have HBW : Hid (Below w.heap.size w (w5.setCell ⟨w.heap.size, 5, none⟩ (.slice A5 n5 c5))) := Lib.hid ((HBB.out.trans (bel5.mono HBB.out.size)).setCell (by simp) _)
      have hzW : w2.heap.size ≤ (w5.setCell ⟨w.heap.size, 5, none⟩ (.slice A5 n5 c5)).heap.size := by have := H5.out.2.2.1.size; simp only [World.setCell, Array.size_modify]; omega
      clear H5 p5' q5' bel5 d0 d1 d2 f0 f1 f2 p0 p1 p2 p3 p4 p5 q0 q1 q2 q3 q4 q5 H3 HBK HBB
      generalize w5.setCell ⟨w.heap.size, 5, none⟩ (.slice A5 n5 c5) = W at *
      have hS : (PtS W w.heap.size #[.int .u8 sp, .slice A1 n1 c1, .slice A2 n2 c2, .slice A3 n3 c3, .int .i64 (pa : Nat), .slice A5 n5 c5]) W.drew := ⟨only_drew (World.grownBy.refl _ _), Blk.drew BW5.out⟩
      have hne : Nonempty (CW (PtS W w.heap.size #[.int .u8 sp, .slice A1 n1 c1, .slice A2 n2 c2, .slice A3 n3 c3, .int .i64 (pa : Nat), .slice A5 n5 c5])) := CW.inh hS
      refine wp_region_mix_class (PtS W w.heap.size #[.int .u8 sp, .slice A1 n1 c1, .slice A2 n2 c2, .slice A3 n3 c3, .int .i64 (pa : Nat), .slice A5 n5 c5]) [([0, 1, 2, 3], 4), ([], 5)] [6, 7] (by kernel_rfl) (by kernel_rfl) (by kernel_rfl) (by kernel_rfl) hS ?_
      simp only [pickL, List.map_cons, List.map_nil, List.filterMap_cons, List.filterMap_nil, List.getElem?_cons_succ, List.getElem?_cons_zero]
      refine mixS_cons ?_
      show wpQuiet _ _ _ _ (_ :: _) _
      refine wpQuiet_loadV (o := ⟨some 81, _, _, _, _, _⟩) rfl _ rfl rfl (fun w' hw' => by obtain ⟨r, rfl⟩ := hw'; exact load_pt r.holds.2) ?_
      simp only [Act.put, List.setIfInBounds_toArray, List.set_cons_zero, List.set_cons_succ]
      repeat (show wpQuiet _ _ _ _ (_ :: _) _; go_big_quiet_step (fail))
      refine wpQuiet_nil ?_
      show wpList _ _ _ [_] _ _
      go_wp2_with (at_builtin; refine wpList_app (o := ⟨some 85, _, _, _, _, _⟩) (B := w2.heap.size) elU8 rfl _ _ rfl rfl rfl (Own.nil _ _ _ _) (Rd.drew (RB.out.below HBW.out (Nat.le_refl _))) LB'.out.symm ?_ ?_ ?_; (rw [LB'.out]; simp <;> omega); exact hzW; intro A6 n6 c6 w6 h6; have H6 := Lib.hid h6; clear h6)
      have bel6 : Hid (Below W.heap.size W w6) := Lib.hid ((Below.refl W.heap.size W).drew.trans (below_of_none H6.out.2.1))
      have O6 := Lib.hid (Own.cast H6.out.1 (List.nil_append _))
      replace O1 := Lib.hid (O1.out.below bel6.out)
      replace O2 := Lib.hid (O2.out.below bel6.out)
      replace O3 := Lib.hid (O3.out.below bel6.out)
      replace O5 := Lib.hid (O5.out.below bel6.out)
      have BW6 := Lib.hid (Blk.below BW5.out bel6.out (Blk.lt BW5.out))
      have HB6 := Lib.hid (HBW.out.trans (bel6.out.mono (Nat.le_trans (Nat.le_of_lt gpw) hzW)))
      have p0 := Blk.cell BW6.out 0
      have p1 := Blk.cell BW6.out 1
      have p2 := Blk.cell BW6.out 2
      have p3 := Blk.cell BW6.out 3
      have p4 := Blk.cell BW6.out 4
      have p5 := Blk.cell BW6.out 5
      have q0 := Blk.frozen BW6.out 0
      have q1 := Blk.frozen BW6.out 1
      have q2 := Blk.frozen BW6.out 2
      have q3 := Blk.frozen BW6.out 3
      have q4 := Blk.frozen BW6.out 4
      have q5 := Blk.frozen BW6.out 5
      simp only [List.getElem?_toArray, List.getElem?_cons_succ, List.getElem?_cons_zero] at p0 p1 p2 p3 p4 p5
      refine MixQ.class ⟨only_of_below bel6.out _, BW6.out⟩ ?_
      refine mixS_cons ?_
      refine wpQuiet_nil ?_
      show wpList _ _ _ [_] _ _
      go_wp2_with fail
      refine MixQ.class ⟨?_, ?_⟩ ?_
      · (repeat (first | with_reducible exact only_of_below bel6.out _ | (with_reducible refine only_setCell ?_ (.inl rfl) _)))
      · apply Blk.cast
        · (repeat (first | with_reducible exact BW6.out | with_reducible apply Blk.set_))
        · simp
      refine mixS_nil ?_
      repeat (show wpQuiet _ _ _ _ (_ :: _) _; go_big_quiet_step (fail))
      refine wpQuiet_nil ?_
      refine NoPanic.normal ?_
      go_wp2_with fail
      refine bodyPost_ret (results_pt (g := w.heap.size) rfl rfl ?_) rfl (SplitPostF.yes HYES.out ⟨_, _, _, _, _, rfl, SlF.own (Own.kgr O1.out ?_ gpw) (Nat.le_of_lt gpw), Sl.own (Own.kgr O2.out ?_ gpw), Sl.own (Own.kgr O3.out ?_ gpw), Sl.own (Own.kgr O5.out ?_ gpw), Sl.own (Own.kgr O6.out ?_ gpw), ?_⟩)
      · apply Blk.cast
        · (repeat (first | with_reducible exact BW6.out | with_reducible apply Blk.set_))
        · simp
      · (repeat (first | with_reducible exact World.grownBy.refl _ _ | (with_reducible refine only_setCell ?_ (.inl rfl) _)))
      · (repeat (first | with_reducible exact World.grownBy.refl _ _ | (with_reducible refine only_setCell ?_ (.inl rfl) _)))
      · (repeat (first | with_reducible exact World.grownBy.refl _ _ | (with_reducible refine only_setCell ?_ (.inl rfl) _)))
      · (repeat (first | with_reducible exact World.grownBy.refl _ _ | (with_reducible refine only_setCell ?_ (.inl rfl) _)))
      · (repeat (first | with_reducible exact World.grownBy.refl _ _ | (with_reducible refine only_setCell ?_ (.inl rfl) _)))
      · (repeat (first | with_reducible exact HB6.out | (with_reducible refine Below.setCell ?_ (by simp) _)))
  · rw [if_neg h2] at h128
    have HST := Lib.hid (LB.start w (some ad) c b HR.out HBY.out hc hl)
    have HSS : Hid (splitL b own = if own < 0 ∨ 20 < own ∨ (b.length : Int) - 1 - own < 20 then none else some ⟨2, (b.drop 1).take own.toNat, [], [], 1 + own.toNat, b.length⟩) := Lib.hid (by rw [HS.out, if_neg (by omega), if_neg h2])
    clear HS
    by_cases h3 : own < 0 ∨ 20 < own
    · have HNO : Hid (splitL b own = none) := Lib.hid (by rw [HSS.out, if_pos (by omega)])
      clear HSS
      rcases h3 with h3 | h3
      · go_enter Try.func27, Try.ntmps27
        go_wp2_with fail
        refine bodyPost_ret (results_pt (g := w.heap.size) rfl rfl ?_) rfl (SplitPostF.no HNO.out ⟨rfl, ?_⟩)
        · apply Blk.cast
          · (repeat (first | with_reducible exact HST.out.2.1 | with_reducible exact Blk.alloc (Blk.new _ _ _) _ | with_reducible apply Blk.set_))
          · simp
        · (repeat (first | with_reducible exact Below.refl _ _ | with_reducible refine Below.alloc ?_ (by simp <;> omega) _ | (with_reducible refine Below.setCell ?_ (by simp <;> omega) _)))
      · go_enter Try.func27, Try.ntmps27
        go_wp2_with fail
        refine bodyPost_ret (results_pt (g := w.heap.size) rfl rfl ?_) rfl (SplitPostF.no HNO.out ⟨rfl, ?_⟩)
        · apply Blk.cast
          · (repeat (first | with_reducible exact HST.out.2.1 | with_reducible exact Blk.alloc (Blk.new _ _ _) _ | with_reducible apply Blk.set_))
          · simp
        · (repeat (first | with_reducible exact Below.refl _ _ | with_reducible refine Below.alloc ?_ (by simp <;> omega) _ | (with_reducible refine Below.setCell ?_ (by simp <;> omega) _)))
    · obtain ⟨m, rfl⟩ := Int.eq_ofNat_of_zero_le (show 0 ≤ own by omega)
      have hm20 : m ≤ 20 := by omega
      have hown1 : decide ((m : Int) < 0) = false := by simp
      have hown2 : decide (20 < (m : Int)) = false := by simp; omega
      clear h3
      have hneg : w.heap.size ≠ w.heap.size + 1 := by omega
      go_enter Try.func27, Try.ntmps27
      go_wp2_with fail
      have HB0 : Hid (Below w.heap.size w ((w.alloc (.cells #[.int .u8 0, .slice none 0 0, .slice none 0 0, .slice none 0 0, .int .i64 0, .slice none 0 0] 67)).alloc (.cells #[.slice (some ad) b.length c, .int .i64 0, .bool false] 92))) := Lib.hid (((Below.refl w.heap.size w).alloc (Nat.le_refl _) _).alloc (by simp) _)
      generalize ((w.alloc (.cells #[.int .u8 0, .slice none 0 0, .slice none 0 0, .slice none 0 0, .int .i64 0, .slice none 0 0] 67)).alloc (.cells #[.slice (some ad) b.length c, .int .i64 0, .bool false] 92)) = w2 at *
      have hgw := HST.out.lts.2.1
      have hT1 := Lib.hid (take_yes HST.out.1 1 (by omega))
      refine hT1.out.mono ?_
      rintro e w7 ⟨A7, n7, c7, rfl, ho7, hs7, hg7⟩
      have H7 := Lib.hid (HST.out.step hs7 hg7)
      have h7z := H7.out.2.2.2.1
      clear ho7 hs7 hg7 hT1
      by_cases hfit : 1 + m ≤ b.length
      · have hT2 := Lib.hid (take_yes H7.out.1 m (by omega))
        go_wp2_with fail
        refine hT2.out.mono ?_
        rintro e w8 ⟨A1, n1, c1, rfl, ho8, hs8, hg8⟩
        have H8' := H7.out.step hs8 hg8
        obtain ⟨k1, hk1⟩ : ∃ k : Nat, k = 0 + 1 + m := ⟨_, rfl⟩
        rw [← hk1] at H8'
        have H8 := Lib.hid H8'
        have hk1a : k1 ≤ 1 + m := by omega
        have hk1b : 1 + m ≤ k1 := by omega
        have HK1 := Lib.hid hk1
        clear hk1 H8'
        have O1 := Lib.hid (ho8.mono h7z)
        have H3 := Lib.hid ((((H8.out.store 0 (.int .u8 2)).store 1 (.slice A1 n1 c1)).store 4 (.int .i64 (k1 : Nat))).cast (cs' := #[.int .u8 2, .slice A1 n1 c1, .slice none 0 0, .slice none 0 0, .int .i64 (k1 : Nat), .slice none 0 0]) rfl)
        have gpw : w.heap.size < w2.heap.size := by omega
        clear ho8 hs8 hg8 hT2
        obtain ⟨d0, d1, d2, f0, f1, f2⟩ := H8.out.sp
        obtain ⟨p0, p1, p2, p3, p4, q0, q1, q2, q3, q4⟩ := H8.out.pt
        have p5 := Blk.cell H8.out.2.1 5
        have q5 := Blk.frozen H8.out.2.1 5
        have h3z := H8.out.2.2.2.1
        simp only [List.getElem?_toArray, List.getElem?_cons_succ, List.getElem?_cons_zero] at p5
        by_cases h20 : (b.length : Int) - 1 - m < 20
        · have HNO : Hid (splitL b m = none) := Lib.hid (by rw [HSS.out, if_pos (by omega)])
          have HBK := Lib.hid ((((H8.out.store 0 (.int .u8 2)).store 1 (.slice A1 n1 c1)).store 4 (.int .i64 (k1 : Nat))).setBad true).2.1
          have HBB := Lib.hid (HB0.out.trans H8.out.2.2.1)
          go_wp2_with fail
          refine bodyPost_ret (results_pt (g := w.heap.size) rfl rfl ?_) rfl (SplitPostF.no HNO.out ⟨rfl, ?_⟩)
          · apply Blk.cast
            · (repeat (first | with_reducible exact HBK.out | with_reducible apply Blk.set_))
            · simp
          · (repeat (first | with_reducible exact HBB.out | (with_reducible refine Below.setCell ?_ (by simp) _)))
        · have HYES : Hid (splitL b m = some ⟨2, (b.drop 1).take m, [], [], k1, b.length⟩) := Lib.hid (by rw [HSS.out, if_neg (by omega), Int.toNat_natCast, HK1.out, Nat.zero_add])
          have h20' : decide ((b.length : Int) - (k1 : Int) < 20) = false := by simp; omega
          have HBK := Lib.hid (Blk.far H3.out.2.1 (p := ⟨w.heap.size + 1, 2, none⟩) (by simp) (.bool false))
          have HBB := Lib.hid ((HB0.out.trans H3.out.2.2.1).setCell (p := ⟨w.heap.size + 1, 2, none⟩) (by simp) (.bool false))
          replace O1 := Lib.hid ((((O1.out.st (p := ⟨w.heap.size, 0, none⟩) gpw (.int .u8 2)).st (p := ⟨w.heap.size, 1, none⟩) gpw (.slice A1 n1 c1)).st (p := ⟨w.heap.size, 4, none⟩) gpw (.int .i64 (k1 : Nat))).st (p := ⟨w.heap.size + 1, 2, none⟩) hgw (.bool false))
          rw [Nat.zero_add] at O1
          have h3z := (H3.out.setBad false).2.2.2.1
          clear p5
          have p5 := Blk.cell HBK.out 5
          simp only [List.getElem?_toArray, List.getElem?_cons_succ, List.getElem?_cons_zero] at p5
          obtain ⟨Aa, ca, ka1, ka2, ra, la, runa⟩ := slice_h elU8 HR.out hc (b.length : Int) b.length (by omega) rfl
          obtain ⟨Ab, cb, kb1, kb2, rb, lb, runb⟩ := slice_l elU8 HR.out hc (b.length : Int) 0 (by omega) (by omega) (by omega)
          rw [Int.toNat_natCast] at rb lb
          have RA := Lib.hid ra
          have LA := Lib.hid la
          have RB := Lib.hid rb
          have LB' := Lib.hid lb
          clear ra la rb lb
          go_wp2_with (at_builtin; refine wpList_app (o := ⟨some 79, _, _, _, _, _⟩) (B := w2.heap.size) elU8 rfl _ _ rfl rfl rfl (Own.nil _ _ _ _) (RA.out.below HBB.out (Nat.le_refl _)) LA.out.symm ?_ ?_ ?_; (rw [LA.out]; simp <;> omega); exact h3z; intro A5 n5 c5 w5 h5; have H5 := Lib.hid h5; have p5' := Below.cell_some (below_of_none H5.out.2.1) p5 (cell_lt p5); have q5' := Blk.frozen (Blk.below HBK.out (below_of_none H5.out.2.1) (Blk.lt HBK.out)) 5; clear h5)
          have bel5 := below_of_none H5.out.2.1
          have BW5 : Hid (Blk (w5.setCell ⟨w.heap.size, 5, none⟩ (.slice A5 n5 c5)) w.heap.size 67 #[.int .u8 2, .slice A1 n1 c1, .slice none 0 0, .slice none 0 0, .int .i64 (k1 : Nat), .slice A5 n5 c5]) := Lib.hid (Blk.cast (Blk.set_ (Blk.below HBK.out bel5 (Blk.lt HBK.out)) 5 _) (by simp))
          replace O1 := Lib.hid ((O1.out.below bel5).st (p := ⟨w.heap.size, 5, none⟩) gpw (.slice A5 n5 c5))
          have O5 := Lib.hid (Own.st (Own.cast H5.out.1 (List.nil_append _)) (p := ⟨w.heap.size, 5, none⟩) gpw (.slice A5 n5 c5))
          have HBW : Hid (Below w.heap.size w (w5.setCell ⟨w.heap.size, 5, none⟩ (.slice A5 n5 c5))) := Lib.hid ((HBB.out.trans (bel5.mono HBB.out.size)).setCell (by simp) _)
          have hzW : w2.heap.size ≤ (w5.setCell ⟨w.heap.size, 5, none⟩ (.slice A5 n5 c5)).heap.size := by have := H5.out.2.2.1.size; simp only [World.setCell, Array.size_modify]; omega
          clear H5 p5' q5' bel5 d0 d1 d2 f0 f1 f2 p0 p1 p2 p3 p4 p5 q0 q1 q2 q3 q4 q5 H3 HBK HBB
          generalize w5.setCell ⟨w.heap.size, 5, none⟩ (.slice A5 n5 c5) = W at *
          have hS : (PtS W w.heap.size #[.int .u8 2, .slice A1 n1 c1, .slice none 0 0, .slice none 0 0, .int .i64 (k1 : Nat), .slice A5 n5 c5]) W.drew := ⟨only_drew (World.grownBy.refl _ _), Blk.drew BW5.out⟩
          have hne : Nonempty (CW (PtS W w.heap.size #[.int .u8 2, .slice A1 n1 c1, .slice none 0 0, .slice none 0 0, .int .i64 (k1 : Nat), .slice A5 n5 c5])) := CW.inh hS
          refine wp_region_mix_class (PtS W w.heap.size #[.int .u8 2, .slice A1 n1 c1, .slice none 0 0, .slice none 0 0, .int .i64 (k1 : Nat), .slice A5 n5 c5]) [([0, 1, 2, 3], 4), ([], 5)] [6, 7] (by kernel_rfl) (by kernel_rfl) (by kernel_rfl) (by kernel_rfl) hS ?_
          simp only [pickL, List.map_cons, List.map_nil, List.filterMap_cons, List.filterMap_nil, List.getElem?_cons_succ, List.getElem?_cons_zero]
          refine mixS_cons ?_
          show wpQuiet _ _ _ _ (_ :: _) _
          refine wpQuiet_loadV (o := ⟨some 81, _, _, _, _, _⟩) rfl _ rfl rfl (fun w' hw' => by obtain ⟨r, rfl⟩ := hw'; exact load_pt r.holds.2) ?_
          simp only [Act.put, List.setIfInBounds_toArray, List.set_cons_zero, List.set_cons_succ]
          repeat (show wpQuiet _ _ _ _ (_ :: _) _; go_big_quiet_step (fail))
          refine wpQuiet_nil ?_
          show wpList _ _ _ [_] _ _
          go_wp2_with (at_builtin; refine wpList_app (o := ⟨some 85, _, _, _, _, _⟩) (B := w2.heap.size) elU8 rfl _ _ rfl rfl rfl (Own.nil _ _ _ _) (Rd.drew (RB.out.below HBW.out (Nat.le_refl _))) LB'.out.symm ?_ ?_ ?_; (rw [LB'.out]; simp <;> omega); exact hzW; intro A6 n6 c6 w6 h6; have H6 := Lib.hid h6; clear h6)
          have bel6 : Hid (Below W.heap.size W w6) := Lib.hid ((Below.refl W.heap.size W).drew.trans (below_of_none H6.out.2.1))
          have O6 := Lib.hid (Own.cast H6.out.1 (List.nil_append _))
          replace O1 := Lib.hid (O1.out.below bel6.out)
          replace O5 := Lib.hid (O5.out.below bel6.out)
          have BW6 := Lib.hid (Blk.below BW5.out bel6.out (Blk.lt BW5.out))
          have HB6 := Lib.hid (HBW.out.trans (bel6.out.mono (Nat.le_trans (Nat.le_of_lt gpw) hzW)))
          have p0 := Blk.cell BW6.out 0
          have p1 := Blk.cell BW6.out 1
          have p2 := Blk.cell BW6.out 2
          have p3 := Blk.cell BW6.out 3
          have p4 := Blk.cell BW6.out 4
          have p5 := Blk.cell BW6.out 5
          have q0 := Blk.frozen BW6.out 0
          have q1 := Blk.frozen BW6.out 1
          have q2 := Blk.frozen BW6.out 2
          have q3 := Blk.frozen BW6.out 3
          have q4 := Blk.frozen BW6.out 4
          have q5 := Blk.frozen BW6.out 5
          simp only [List.getElem?_toArray, List.getElem?_cons_succ, List.getElem?_cons_zero] at p0 p1 p2 p3 p4 p5
          refine MixQ.class ⟨only_of_below bel6.out _, BW6.out⟩ ?_
          refine mixS_cons ?_
          refine wpQuiet_nil ?_
          show wpList _ _ _ [_] _ _
          go_wp2_with fail
          refine MixQ.class ⟨?_, ?_⟩ ?_
          · (repeat (first | with_reducible exact only_of_below bel6.out _ | (with_reducible refine only_setCell ?_ (.inl rfl) _)))
          · apply Blk.cast
            · (repeat (first | with_reducible exact BW6.out | with_reducible apply Blk.set_))
            · simp
          refine mixS_nil ?_
          repeat (show wpQuiet _ _ _ _ (_ :: _) _; go_big_quiet_step (fail))
          refine wpQuiet_nil ?_
          refine NoPanic.normal ?_
          go_wp2_with fail
          refine bodyPost_ret (results_pt (g := w.heap.size) rfl rfl ?_) rfl (SplitPostF.yes HYES.out ⟨_, _, _, _, _, rfl, SlF.own (Own.kgr O1.out ?_ gpw) (Nat.le_of_lt gpw), Sl.nil _, Sl.nil _, Sl.own (Own.kgr O5.out ?_ gpw), Sl.own (Own.kgr O6.out ?_ gpw), ?_⟩)
          · apply Blk.cast
            · (repeat (first | with_reducible exact BW6.out | with_reducible apply Blk.set_))
            · simp
          · (repeat (first | with_reducible exact World.grownBy.refl _ _ | (with_reducible refine only_setCell ?_ (.inl rfl) _)))
          · (repeat (first | with_reducible exact World.grownBy.refl _ _ | (with_reducible refine only_setCell ?_ (.inl rfl) _)))
          · (repeat (first | with_reducible exact World.grownBy.refl _ _ | (with_reducible refine only_setCell ?_ (.inl rfl) _)))
          · (repeat (first | with_reducible exact HB6.out | (with_reducible refine Below.setCell ?_ (by simp) _)))
      · have HNO : Hid (splitL b m = none) := Lib.hid (by rw [HSS.out, if_pos (by omega)])
        have hT2 := Lib.hid (take_no H7.out.1 (m : Int) (by omega) (by omega))
        go_wp2_with fail
        refine hT2.out.mono ?_
        rintro e w8 ⟨A1, n1, c1, rfl, ho8, hs8, hg8⟩
        have H3 := Lib.hid (H7.out.step hs8 hg8)
        have HBK := Lib.hid ((((H3.out.store 0 (.int .u8 2)).store 1 (.slice A1 n1 c1)).store 4 (.int .i64 1)).setBad true).2.1
        have HBB := Lib.hid (HB0.out.trans H3.out.2.2.1)
        clear ho8 hs8 hg8 hT2
        obtain ⟨d0, d1, d2, f0, f1, f2⟩ := H3.out.sp
        obtain ⟨p0, p1, p2, p3, p4, q0, q1, q2, q3, q4⟩ := H3.out.pt
        have p5 := Blk.cell H3.out.2.1 5
        have q5 := Blk.frozen H3.out.2.1 5
        have h3z := H3.out.2.2.2.1
        simp only [List.getElem?_toArray, List.getElem?_cons_succ, List.getElem?_cons_zero] at p5
        go_wp2_with fail
        refine bodyPost_ret (results_pt (g := w.heap.size) rfl rfl ?_) rfl (SplitPostF.no HNO.out ⟨rfl, ?_⟩)
        · apply Blk.cast
          · (repeat (first | with_reducible exact HBK.out | with_reducible apply Blk.set_))
          · simp
        · (repeat (first | with_reducible exact HBB.out | (with_reducible refine Below.setCell ?_ (by simp) _)))
theorem split_any (A : Option Addr) (c : Nat) (b : List Int) (own : Int) (w : World) (hr : Rd w.heap.size .u8 w A b) (hby : Byt b) (hc : b.length ≤ c) (hl : b.length ≤ 1000000000000) (ho0 : -9223372036854775808 ≤ own) (ho1 : own ≤ 9223372036854775807) :
    Calls Try.prog 27 #[.slice A b.length c, .int .i64 own] w (SplitPost b own w) := (split_anyF A c b own w hr hby hc hl ho0 ho1).mono fun _ _ h => h.1
end Go.Proofs.Ytlefnddhmpgijaa
