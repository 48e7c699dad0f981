/- Layer 21: the law's known. Conditions: as each theorem states them. -/
import Derived.Test.YthknncdhjicklaaH24
import Derived.Test.YthknncdhjicklaaMK
namespace Go.Proofs.Ythknncdhjicklaa
open Go.RowKit
def k7 : List Int := [7, 0, 0, 0, 0, 0, 0, 0, 0, 0, 0, 0, 0, 0, 0, 0, 0, 0, 0, 0, 0, 0, 0, 0, 0, 0, 0, 0, 0, 0, 0, 0]
def k1 : List Int := [1, 0, 0, 0, 0, 0, 0, 0, 0, 0, 0, 0, 0, 0, 0, 0, 0, 0, 0, 0, 0, 0, 0, 0, 0, 0, 0, 0, 0, 0, 0, 0]
def k2 : List Int := [2, 0, 0, 0, 0, 0, 0, 0, 0, 0, 0, 0, 0, 0, 0, 0, 0, 0, 0, 0, 0, 0, 0, 0, 0, 0, 0, 0, 0, 0, 0, 0]
def sCp : List Int := [99, 112]
def sSp : List Int := [115, 112]
theorem byt_lit {l : List Int} (h : l.all (fun x => decide (0 ≤ x ∧ x < 256)) = true) : Byt l := fun x hx => by
  have := List.all_eq_true.1 h x hx
  simpa using this
theorem k7_ok : k7.length = 32 ∧ Byt k7 := ⟨rfl, byt_lit rfl⟩
theorem k1_ok : k1.length = 32 ∧ Byt k1 := ⟨rfl, byt_lit rfl⟩
theorem k2_ok : k2.length = 32 ∧ Byt k2 := ⟨rfl, byt_lit rfl⟩
theorem sCp_ok : sCp.length = 2 ∧ Byt sCp := ⟨rfl, byt_lit rfl⟩
theorem sSp_ok : sSp.length = 2 ∧ Byt sSp := ⟨rfl, byt_lit rfl⟩
theorem ShB.m {g : Nat} {w : World} {p : PS} {vp vq v0 v1 vt : Value} (h : ShB g w p vp vq v0 v1 vt) : ShM g w p := ⟨vp, vq, v0, v1, vt, h⟩
/-- a handshake's own block is turned: what is elsewhere stays -/
theorem ShM.notU {g : Nat} {w : World} {p : PS} (h : ShM g w p) : ∀ cur, w.heap[g]? ≠ some (.cells cur 5 (0, 0)) := by
  obtain ⟨cs, k⟩ := h.blk
  exact k.notT (by decide)
theorem ShM.notS {g : Nat} {w : World} {p : PS} (h : ShM g w p) : ∀ cur, w.heap[g]? ≠ some (.cells cur 31 (0, 0)) := by
  obtain ⟨cs, k⟩ := h.blk
  exact k.notT (by decide)
theorem ShM.other {g b : Nat} {w w' : World} {p q : PS} (h : ShM g w p) (hq : ShM b w q) (hg : w.grownBy w' (some b)) (hne : b ≠ g) : ShM g w' p := by
  obtain ⟨cs, k⟩ := hq.blk
  exact h.grown hg k hne (by decide)
theorem grown_blk {w w' : World} {b g : Nat} {t : TypeId} {cs : Array Value} (hk : Blk w b t cs) (hg : w.grownBy w' (some g)) (hne : b ≠ g) : Blk w' b t cs := (hg.block b hk.lt (by intro q; injection q with q; exact hne q)).trans hk
theorem ShM.parts {g : Nat} {w : World} {p : PS} (h : ShM g w p) : ∃ vp vq v0 v1 vt, ShB g w p vp vq v0 v1 vt := h
theorem SdR.shM {B g : Nat} {w w' : World} {v : Value} {l : List SX} {p : PS} (h : SdR B w v l) (hs : ShM g w p) (hg : w.grownBy w' (some g)) : SdR B w' v l := by
  obtain ⟨_, _, _, _, _, hs⟩ := hs.parts
  exact h.sh hs hg
theorem SlT.shM {g : Nat} {w w' : World} {v : Value} {L : List Int} {p : PS} (h : SlT w v L) (hs : ShM g w p) (hg : w.grownBy w' (some g)) : SlT w' v L := by
  obtain ⟨_, _, _, _, _, hs⟩ := hs.parts
  exact h.turn hs hg
theorem done_m {g : Nat} {p : PS} {w : World} (h : ShM g w p) : Calls Try.prog 9 #[.pointer (some ⟨g, 0, none⟩)] w fun e w' => e = .returned (.bool (decide (p.st = 100))) ∧ w = w' := by
  obtain ⟨_, _, _, _, _, h⟩ := h.parts
  exact done_any g p _ _ _ _ _ w h
theorem SdR.sl {B : Nat} {w : World} {v : Value} {l : List SX} (h : SdR B w v l) : (v = .slice none 0 0 ∧ l.length = 0) ∨ ∃ g c, v = .slice (some ⟨g, 0, none⟩) l.length c := by
  rcases h.1.2 with q | ⟨g, c, _, q, _⟩
  · exact .inl q
  · exact .inr ⟨g, c, q⟩
theorem SdR.at0 {B : Nat} {w : World} {v : Value} {l : List SX} (h : SdR B w v l) (he : l.map SX.e = []) : ∃ A c, v = .slice A 0 c := by
  have hl : l = [] := List.map_eq_nil_iff.1 he
  subst hl
  rcases h.sl with ⟨rfl, _⟩ | ⟨g, c, rfl⟩
  · exact ⟨_, _, rfl⟩
  · exact ⟨_, _, rfl⟩
theorem SdR.at1 {B : Nat} {w : World} {v : Value} {l : List SX} {s0 : Int} {M0 : List Int} (h : SdR B w v l) (he : l.map SX.e = [(s0, M0)]) : ∃ gl c A0 c0, v = .slice (some ⟨gl, 0, none⟩) 1 c ∧ l = [⟨s0, A0, c0, M0⟩] := by
  match l, he with
  | [⟨s, A, c', M⟩], he =>
    injection he with h1 h2
    injection h1 with h3 h4
    simp only at h3 h4
    subst h3 h4
    rcases h.sl with ⟨_, q⟩ | ⟨g, c, q⟩
    · simp at q
    · exact ⟨g, c, A, c', q, rfl⟩
theorem SdR.at2 {B : Nat} {w : World} {v : Value} {l : List SX} {s0 s1 : Int} {M0 M1 : List Int} (h : SdR B w v l) (he : l.map SX.e = [(s0, M0), (s1, M1)]) : ∃ gl c A0 c0 A1 c1, v = .slice (some ⟨gl, 0, none⟩) 2 c ∧ l = [⟨s0, A0, c0, M0⟩, ⟨s1, A1, c1, M1⟩] := by
  match l, he with
  | [⟨s, A, c', M⟩, ⟨s', A', c2, M'⟩], he =>
    injection he with h1 h2
    injection h2 with h5 h6
    injection h1 with h3 h4
    injection h5 with h7 h8
    simp only at h3 h4 h7 h8
    subst h3 h4 h7 h8
    rcases h.sl with ⟨_, q⟩ | ⟨g, c, q⟩
    · simp at q
    · exact ⟨g, c, A, c', A', c2, q, rfl⟩
theorem SdR.c1 {B gl n c : Nat} {w : World} {x : SX} {t : List SX} (h : SdR B w (.slice (some ⟨gl, 0, none⟩) n c) (x :: t)) : w.cell? ⟨gl, 0, none⟩ = some (.int .u8 x.sp) ∧ w.cell? ⟨gl, 1, none⟩ = some (.slice x.A x.bs.length x.c) ∧ SlT w (.slice x.A x.bs.length x.c) x.bs :=
  ⟨(h.cells 0 (by simp)).1, (h.cells 0 (by simp)).2, (h.2 x (by simp)).sl⟩
theorem SdR.c2 {B gl n c : Nat} {w : World} {x y : SX} {t : List SX} (h : SdR B w (.slice (some ⟨gl, 0, none⟩) n c) (x :: y :: t)) : w.cell? ⟨gl, 2, none⟩ = some (.int .u8 y.sp) ∧ w.cell? ⟨gl, 3, none⟩ = some (.slice y.A y.bs.length y.c) ∧ SlT w (.slice y.A y.bs.length y.c) y.bs :=
  ⟨(h.cells 1 (by simp)).1, (h.cells 1 (by simp)).2, (h.2 y (by simp)).sl⟩
theorem kK : Key k7 k1 k2 sCp sSp := ⟨k7_ok.1, k1_ok.1, k2_ok.1, by decide, by decide, k7_ok.2, k1_ok.2, k2_ok.2, sCp_ok.2, sSp_ok.2⟩
theorem pre0 (M : List Int) : ∃ j, ([] : List Int) ++ M = M.take j := ⟨M.length, by simp⟩
/-- what known keeps while it goes: its key, its two sides -/
structure KN (g1 gc gs : Nat) (pc ps : PS) (w0 w : World) : Prop where
  arr : Arr w g1 22 .u8 k7
  bel : Below g1 w0 w
  lt0 : g1 < w0.heap.size + 1
  c : ShM gc w pc
  s : ShM gs w ps
  hc : g1 < gc
  hs : g1 < gs
  ne : gc ≠ gs
section
variable {g1 gc gs : Nat} {pc ps p' : PS} {w0 w w' : World}
theorem KN.below (h : KN g1 gc gs pc ps w0 w) (hb : Below w.heap.size w w') : KN g1 gc gs pc ps w0 w' := ⟨h.arr.belowAll hb, h.bel.trans (hb.mono (Nat.le_of_lt (Arr.lt h.arr))), h.lt0, h.c.below hb, h.s.below hb, h.hc, h.hs, h.ne⟩
theorem KN.bel2 (h : KN g1 gc gs pc ps w0 w) {b : Nat} (hg : w.grownBy w' (some b)) (hb : g1 < b) : Below g1 w0 w' := h.bel.trans (below_of_only hg (Nat.le_of_lt hb) (Nat.le_of_lt (Arr.lt h.arr)))
theorem KN.tc (h : KN g1 gc gs pc ps w0 w) (hg : w.grownBy w' (some gc)) (hp : ShM gc w' p') : KN g1 gc gs p' ps w0 w' := ⟨grown_blk h.arr hg (Nat.ne_of_lt h.hc), h.bel2 hg h.hc, h.lt0, hp, h.s.other h.c hg h.ne, h.hc, h.hs, h.ne⟩
theorem KN.ts (h : KN g1 gc gs pc ps w0 w) (hg : w.grownBy w' (some gs)) (hp : ShM gs w' p') : KN g1 gc gs pc p' w0 w' := ⟨grown_blk h.arr hg (Nat.ne_of_lt h.hs), h.bel2 hg h.hs, h.lt0, h.c.other h.s hg h.ne.symm, hp, h.hc, h.hs, h.ne⟩
theorem KN.tb (h : KN g1 gc gs pc ps w0 w) {b : Nat} {q : PS} (hg : w.grownBy w' (some b)) (hq : ShM b w q) (h1 : g1 < b) (h2 : b ≠ gc) (h3 : b ≠ gs) : KN g1 gc gs pc ps w0 w' := ⟨grown_blk h.arr hg (Nat.ne_of_lt h1), h.bel2 hg h1, h.lt0, h.c.other hq hg h2, h.s.other hq hg h3, h.hc, h.hs, h.ne⟩
end
set_option maxRecDepth 100000 in
set_option maxHeartbeats 16000000 in
theorem known21 (w : World) : Calls Try.prog 4 #[] w fun e w' => e = .returned (.bool true) ∧ Below w.heap.size w w' := by
  have HK7 := Lib.hid k7_ok
  go_enter Try.func4, Try.ntmps4
  go_upto_region 2 with ((with_reducible (show wpList _ _ _ (⟨none, .store 22 _ _, _, _, _, _⟩ :: _) _ _)); refine wpList_storeArr (o := ⟨none, .store 22 _ _, _, _, _, _⟩) (g := w.heap.size) (t := 22) (k := .u8) (xs := k7) (n := 32) rfl _ _ rfl rfl rfl (Blk.new _ _ _) size32 (HK7.out.1.symm) rfl ?_; intro w1 ha1 hg1; have HA1 := Lib.hid ha1; have HG1 := Lib.hid hg1; clear ha1 hg1)
  have B1 := Lib.hid (((Below.refl w.heap.size w).alloc (Nat.le_refl _) _).trans (below_of_only HG1.out (Nat.le_refl _) (by simp)))
  obtain ⟨g1, hg1⟩ : ∃ z, z = w.heap.size := ⟨_, rfl⟩
  have LT0 := Lib.hid (show g1 < w.heap.size + 1 by omega)
  have HB1 : Hid (Below g1 w w1) := Lib.hid (by rw [hg1]; exact B1.out)
  have GE := Lib.hid hg1
  rw [← hg1] at HA1 ⊢
  clear HG1 hg1 B1
  -- c
  have l30 : Hid ((Instr.loadAt 22 (.pointer (some ⟨g1, 0, none⟩))).run Try.prog w1 = .ok (.agg (cellsL .u8 k7)) w1) := Lib.hid (arr_load HA1.out Try.underlying22 size32 HK7.out.1.symm)
  have cv1 := Lib.run_convert_bytes_const (P := Try.prog) w1 23 5 #[.int .u8 99, .int .u8 112] 2 2 Try.underlying23 Try.underlying5
  simp only [List.size_toArray, List.length_cons, List.length_nil] at cv1
  have BW : Hid (Below w1.heap.size w1 (w1.alloc (.cells #[.int .u8 99, .int .u8 112] 5 (2, 3)))) := Lib.hid ((Below.refl _ _).alloc (Nat.le_refl _) _)
  have T3 : Hid (Rd (w1.alloc (.cells #[.int .u8 99, .int .u8 112] 5 (2, 3))).heap.size .u8 (w1.alloc (.cells #[.int .u8 99, .int .u8 112] 5 (2, 3))) (some ⟨w1.heap.size, 0, none⟩) sCp) := Lib.hid ((Rd.mark (xs := [99, 112]) rfl rfl).mono (by simp))
  go_wp2_with ((with_reducible (show wpList _ _ _ (⟨some 30, .load _ _, _, _, _, _⟩ :: _) _ _)); refine wpList_loadV (o := ⟨some 30, .load _ _, _, _, _, _⟩) rfl _ rfl rfl (l30.out) ?_)
  generalize hw2 : w1.alloc (.cells #[.int .u8 99, .int .u8 112] 5 (2, 3)) = w2 at *
  clear hw2 cv1 l30
  have A2 := Lib.hid (HA1.out.belowAll BW.out)
  have B2 := Lib.hid (HB1.out.trans (BW.out.mono (Nat.le_of_lt (Arr.lt HA1.out))))
  clear BW HB1 HA1
  refine Calls.mono (sbegin_any false k7 k1 (some ⟨w1.heap.size, 0, none⟩) 2 2 sCp w2 k7_ok.1 k1_ok.1 k7_ok.2 k1_ok.2 T3.out rfl sCp_ok.2 (by omega)) ?_
  clear T3
  rintro e w3 ⟨gc, vp, rfl, h3, hgc, b3⟩
  have C3 := Lib.hid h3.m
  have GC := Lib.hid (Nat.lt_of_lt_of_le (Arr.lt A2.out) hgc)
  have A3 := Lib.hid (A2.out.belowAll b3)
  have B3 := Lib.hid (B2.out.trans (b3.mono (Nat.le_of_lt (Arr.lt A2.out))))
  have L3 := Lib.hid h3.blk.lt
  clear h3 b3 A2 B2 hgc
  -- s
  have l38 : Hid ((Instr.loadAt 22 (.pointer (some ⟨g1, 0, none⟩))).run Try.prog w3 = .ok (.agg (cellsL .u8 k7)) w3) := Lib.hid (arr_load A3.out Try.underlying22 size32 HK7.out.1.symm)
  have cv1 := Lib.run_convert_bytes_const (P := Try.prog) w3 23 5 #[.int .u8 115, .int .u8 112] 2 2 Try.underlying23 Try.underlying5
  simp only [List.size_toArray, List.length_cons, List.length_nil] at cv1
  have BW : Hid (Below w3.heap.size w3 (w3.alloc (.cells #[.int .u8 115, .int .u8 112] 5 (2, 3)))) := Lib.hid ((Below.refl _ _).alloc (Nat.le_refl _) _)
  have T3 : Hid (Rd (w3.alloc (.cells #[.int .u8 115, .int .u8 112] 5 (2, 3))).heap.size .u8 (w3.alloc (.cells #[.int .u8 115, .int .u8 112] 5 (2, 3))) (some ⟨w3.heap.size, 0, none⟩) sSp) := Lib.hid ((Rd.mark (xs := [115, 112]) rfl rfl).mono (by simp))
  go_wp2_with ((with_reducible (show wpList _ _ _ (⟨some 38, .load _ _, _, _, _, _⟩ :: _) _ _)); refine wpList_loadV (o := ⟨some 38, .load _ _, _, _, _, _⟩) rfl _ rfl rfl (l38.out) ?_)
  generalize hw4 : w3.alloc (.cells #[.int .u8 115, .int .u8 112] 5 (2, 3)) = w4 at *
  clear hw4 cv1 l38
  refine Calls.mono (sbegin_any true k7 k2 (some ⟨w3.heap.size, 0, none⟩) 2 2 sSp w4 k7_ok.1 k2_ok.1 k7_ok.2 k2_ok.2 T3.out rfl sSp_ok.2 (by omega)) ?_
  clear T3
  rintro e w5 ⟨gs, vq, rfl, h5, hgs, b5⟩
  have K5 : Hid (KN g1 gc gs (PS.new false k7 k1 sCp) (PS.new true k7 k2 sSp) w w5) := Lib.hid (by
    have b35 := BW.out.trans (b5.mono BW.out.size)
    have hl3 := Arr.lt A3.out
    have hs3 := BW.out.size
    exact ⟨A3.out.belowAll b35, B3.out.trans (b35.mono (Nat.le_of_lt hl3)), LT0.out, C3.out.below b35, h5.m, GC.out, by omega, by have := L3.out; omega⟩)
  clear h5 b5 hgs BW A3 B3 C3 L3 LT0 GC
  go_wp2_with fail
  refine Calls.mono (R := fun e w' => e = .returned (.tuple #[.slice none 0 0, .int .i64 6]) ∧ Below w5.heap.size w5 w') (by obtain ⟨vp', vq', v0', v1', vt', h⟩ := K5.out.c; exact feed_not gc _ vp' vq' v0' v1' vt' 0 _ w5 h (fun _ => ⟨by decide, by decide⟩) (fun q => by cases q)) ?_
  rintro e w6 ⟨rfl, b6⟩
  have K6 := Lib.hid (K5.out.below b6)
  clear K5 b6
  go_wp2_with fail
  -- the client starts
  refine Calls.mono (R := fun e w' => ∃ A n c, e = .returned (.tuple #[.slice A n c, .int .i64 0]) ∧ SlT w' (.slice A n c) (mHel k1 sCp) ∧ ShM gc w' (pC1 k7 k1 sCp) ∧ w6.grownBy w' (some gc)) (by
    obtain ⟨vp', vq', v0', v1', vt', h⟩ := K6.out.c
    refine Calls.mono (start_any gc _ vp' vq' v0' v1' vt' w6 h rfl rfl (by decide)) ?_
    rintro e w' ⟨A, n, c, v5, h1, h2, h3, h4⟩
    exact ⟨A, n, c, h1, h2, ⟨_, _, _, _, _, h3⟩, h4⟩) ?_
  rintro e w7 ⟨Ah, nh, ch, rfl, S7, h7, g7⟩
  have SH := Lib.hid S7
  have K7 := Lib.hid (K6.out.tc g7 h7)
  clear K6 S7 h7 g7
  go_wp2_with fail
  refine Calls.mono (R := fun e w' => e = .returned (.tuple #[.slice none 0 0, .int .i64 6]) ∧ w7 = w') (by
    obtain ⟨vp', vq', v0', v1', vt', h⟩ := K7.out.c
    exact start_twice gc _ vp' vq' v0' v1' vt' w7 h rfl rfl) ?_
  rintro e w7' ⟨rfl, rfl⟩
  go_wp2_with fail
  -- the hello
  obtain ⟨eh, _, rh⟩ := SH.out.mk
  refine Calls.mono (key_h kK gs [] (mHel k1 sCp) Ah nh ch w7 K7.out.s rh eh.symm (pre0 _)) ?_
  rintro e w8 ⟨g8, f8⟩
  obtain ⟨v8, l8, B8, rfl, d8, m8, h8⟩ := f8.whole
  clear eh rh SH f8
  obtain ⟨gl, cl, A0, c0, A1, c1, rfl, rfl⟩ := d8.at2 m8
  have D8 := Lib.hid d8
  have K8 := Lib.hid (K7.out.ts g8 h8)
  clear K7 g8 h8 d8 m8
  obtain ⟨q0, q1, s1⟩ := D8.out.c1
  obtain ⟨q2, q3, s2⟩ := D8.out.c2
  obtain ⟨n0, hn0⟩ : ∃ z, (mAns k2).length = z := ⟨_, rfl⟩
  obtain ⟨n1, hn1⟩ : ∃ z, (mFin k7 k1 k2 sCp sSp).length = z := ⟨_, rfl⟩
  have HN0 := Lib.hid hn0
  have HN1 := Lib.hid hn1
  dsimp only at q0 q1 q2 q3 s1 s2
  rw [hn0] at q1 s1
  rw [hn1] at q3 s2
  clear hn0 hn1
  have S1 := Lib.hid s1
  have S2 := Lib.hid s2
  clear s1 s2
  go_wp2_with fail
  -- the answer
  obtain ⟨_, _, r0⟩ := S1.out.mk
  refine Calls.mono (key_a kK gc [] (mAns k2) A0 n0 c0 w8 K8.out.c r0 HN0.out (pre0 _)) ?_
  rintro e w9 ⟨g9, f9⟩
  obtain ⟨v9, l9, B9, rfl, d9, m9, h9⟩ := f9.whole
  obtain ⟨A9, c9, rfl⟩ := d9.at0 m9
  have D9 := Lib.hid (D8.out.shM K8.out.c g9)
  have T9 := Lib.hid (S2.out.shM K8.out.c g9)
  have K9 := Lib.hid (K8.out.tc g9 h9)
  clear f9 d9 m9 h9 g9 r0 S1 S2 K8 q0 q1 q2 q3 D8 HN0
  obtain ⟨_, q3, _⟩ := D9.out.c2
  dsimp only at q3
  rw [HN1.out] at q3
  go_wp2_with fail
  obtain ⟨_, _, r1⟩ := T9.out.mk
  refine Calls.mono (key_f kK gc [] (mFin k7 k1 k2 sCp sSp) A1 n1 c1 w9 K9.out.c r1 HN1.out (pre0 _)) ?_
  rintro e w10 ⟨g10, f10⟩
  obtain ⟨v10, l10, B10, rfl, d10, m10, h10⟩ := f10.whole
  obtain ⟨gm, cm, A2, c2, rfl, rfl⟩ := d10.at1 m10
  have D10 := Lib.hid d10
  have K10 := Lib.hid (K9.out.tc g10 h10)
  clear f10 d10 m10 h10 g10 r1 K9 q3 D9 T9 HN1
  obtain ⟨_, q1, s1⟩ := D10.out.c1
  obtain ⟨n2, hn2⟩ : ∃ z, (mLas k7 k1 k2 sCp sSp).length = z := ⟨_, rfl⟩
  dsimp only at q1 s1
  rw [hn2] at q1 s1
  have HN2 := Lib.hid hn2
  have S1 := Lib.hid s1
  clear s1 hn2
  go_wp2_with fail
  refine Calls.mono (done_m K10.out.c) ?_
  rintro e w10' ⟨rfl, rfl⟩
  rw [show decide ((pC3 k7 k1 k2 sCp sSp).st = 100) = true from rfl]
  go_wp2_with fail
  refine Calls.mono (done_m K10.out.s) ?_
  rintro e w10' ⟨rfl, rfl⟩
  rw [show decide ((pS1 k7 k1 k2 sCp sSp).st = 100) = false from rfl]
  go_wp2_with fail
  obtain ⟨_, _, r1⟩ := S1.out.mk
  refine Calls.mono (key_c kK gs [] (mLas k7 k1 k2 sCp sSp) A2 n2 c2 w10 K10.out.s r1 HN2.out (pre0 _)) ?_
  rintro e w11 ⟨g11, f11⟩
  obtain ⟨v11, l11, B11, rfl, d11, m11, h11⟩ := f11.whole
  obtain ⟨A3, c3, rfl⟩ := d11.at0 m11
  have K11 := Lib.hid (K10.out.ts g11 h11)
  clear f11 d11 m11 h11 g11 r1 K10 q1 D10 S1 HN2
  have l153 : Hid ((Instr.loadAt 22 (.pointer (some ⟨g1, 0, none⟩))).run Try.prog w11 = .ok (.agg (cellsL .u8 k7)) w11) := Lib.hid (arr_load K11.out.arr Try.underlying22 size32 HK7.out.1.symm)
  go_wp2_with ((with_reducible (show wpList _ _ _ (⟨some 153, .load _ _, _, _, _, _⟩ :: _) _ _)); refine wpList_loadV (o := ⟨some 153, .load _ _, _, _, _, _⟩) rfl _ rfl rfl (l153.out) ?_)
  refine Calls.mono (sbegin_any true k7 (zer 32) none 0 0 [] w11 k7_ok.1 (zer_len _) k7_ok.2 (zer_byt _) Rd.nil rfl Byt.nil (by omega)) ?_
  rintro e w12 ⟨gb, vb, rfl, h12, hgb, b12⟩
  have HB : Hid (ShM gb w12 (PS.new true k7 (zer 32) [])) := Lib.hid h12.m
  have NB : Hid (g1 < gb ∧ gb ≠ gc ∧ gb ≠ gs) := Lib.hid (by
    have := Arr.lt K11.out.arr
    obtain ⟨_, a⟩ := K11.out.c.blk
    obtain ⟨_, b⟩ := K11.out.s.blk
    have := a.lt
    have := b.lt
    omega)
  have K12 := Lib.hid (K11.out.below b12)
  clear h12 hgb b12 K11 l153
  have E2 := (Below.refl w12.heap.size w12).alloc (Nat.le_refl _) (.cells #[.int .u8 2, .int .u8 0, .int .u8 0, .int .u8 0] 5)
  have K13 := Lib.hid (K12.out.below E2)
  have HB13 := Lib.hid (HB.out.below E2)
  have R2 : Hid (Rd (w12.alloc (.cells #[.int .u8 2, .int .u8 0, .int .u8 0, .int .u8 0] 5)).heap.size .u8 (w12.alloc (.cells #[.int .u8 2, .int .u8 0, .int .u8 0, .int .u8 0] 5)) (some ⟨w12.heap.size, 0, none⟩) [2, 0, 0, 0]) := Lib.hid ((Rd.newAt (w := w12) rfl rfl).mono (by simp))
  clear E2 K12 HB
  go_wp2_with fail
  generalize w12.alloc (.cells #[.int .u8 2, .int .u8 0, .int .u8 0, .int .u8 0] 5) = w13 at *
  obtain ⟨x1, x2, x3, x4, x5, hx⟩ := HB13.out.parts
  refine Calls.mono (feed_bad gb _ x1 x2 x3 x4 x5 (some ⟨w12.heap.size, 0, none⟩) 4 4 [2, 0, 0, 0] w13 hx rfl rfl R2.out rfl (byt_lit rfl) (by omega) (by decide) rfl rfl rfl (by decide) rfl) ?_
  clear R2
  rintro e w14 ⟨rfl, ⟨x3', hx'⟩, g14⟩
  have K14 := Lib.hid (K13.out.tb g14 HB13.out NB.out.1 NB.out.2.1 NB.out.2.2)
  have HB14 := Lib.hid hx'.m
  clear hx hx' g14 K13 HB13
  have E2 := (Below.refl w14.heap.size w14).alloc (Nat.le_refl _) (.cells #[.int .u8 1] 5)
  have K15 := Lib.hid (K14.out.below E2)
  have HB15 := Lib.hid (HB14.out.below E2)
  clear E2 K14 HB14
  go_wp2_with fail
  generalize w14.alloc (.cells #[.int .u8 1] 5) = w15 at *
  obtain ⟨x1, x2, x3, x4, x5, hx⟩ := HB15.out.parts
  refine Calls.mono (feed_not gb _ x1 x2 x3 x4 x5 0 _ w15 hx (fun q => by cases q) (fun _ => ⟨by decide, by decide⟩)) ?_
  rintro e w16 ⟨rfl, b16⟩
  have K16 := Lib.hid (K15.out.below b16)
  clear hx HB15 b16 K15 NB
  go_wp2_with fail
  refine Calls.mono (feed_nil 0 _ w16) ?_
  rintro e w16' ⟨rfl, rfl⟩
  go_wp2_with fail
  refine Calls.mono (start_nil w16) ?_
  rintro e w16' ⟨rfl, rfl⟩
  go_wp2_with fail
  refine Calls.mono (secrets_nil w16) ?_
  rintro e w17 ⟨rfl, b17⟩
  have K17 := Lib.hid (K16.out.below b17)
  clear b17 K16
  have E2 := Lib.hid (((Below.refl w17.heap.size w17).alloc (Nat.le_refl _) (.cells (cellsL .u8 (zer 32)) 22)).alloc (by simp) (.cells (cellsL .u8 (zer 32)) 22))
  have A1 : Hid (Arr ((w17.alloc (.cells (cellsL .u8 (zer 32)) 22)).alloc (.cells (cellsL .u8 (zer 32)) 22)) w17.heap.size 22 .u8 (zer 32)) := Lib.hid ((Arr.newAt rfl rfl).alloc _)
  have A2 : Hid (Arr ((w17.alloc (.cells (cellsL .u8 (zer 32)) 22)).alloc (.cells (cellsL .u8 (zer 32)) 22)) (w17.heap.size + 1) 22 .u8 (zer 32)) := Lib.hid (Arr.newAt (by simp) rfl)
  have hz32 : Hid ((zer 32).length = 32) := Lib.hid (zer_len 32)
  go_upto_region 24 with (first
    | ((with_reducible (show wpList _ _ _ (⟨none, .store 22 _ _, _, _, _, _⟩ :: _) _ _)); refine wpList_storeArr (o := ⟨none, .store 22 _ _, _, _, _, _⟩) (g := w17.heap.size) (t := 22) (k := .u8) (xs := zer 32) (n := 32) rfl _ _ rfl rfl rfl A1.out size32 hz32.out.symm (by simp [hz32.out]) ?_; intro w18 ha18 hg18; have a2 := A2.out.grown hg18 (by intro q; injection q with q; omega))
    | ((with_reducible (show wpList _ _ _ (⟨none, .store 22 _ _, _, _, _, _⟩ :: _) _ _)); refine wpList_storeArr (o := ⟨none, .store 22 _ _, _, _, _, _⟩) (g := w17.heap.size + 1) (t := 22) (k := .u8) (xs := zer 32) (n := 32) rfl _ _ rfl rfl rfl a2 size32 hz32.out.symm (by simp [hz32.out]) ?_; intro w19 ha19 hg19))
  have K19 := Lib.hid (K17.out.below ((E2.out.trans (below_of_only hg18 (Nat.le_refl _) E2.out.size)).trans (below_of_only hg19 (Nat.le_succ _) (Nat.le_trans E2.out.size hg18.size))))
  clear E2 A1 A2 a2 ha18 hg18 ha19 hg19 K17
  have hne : Nonempty (CW (fun v : World => Arr v g1 22 .u8 k7)) := CW.inh K19.out.arr
  have K20 := Lib.hid (K19.out.below (Below.refl w19.heap.size w19).drew)
  clear K19
  refine wp_region_mix_class (fun v : World => Arr v g1 22 .u8 k7) [([0, 1], 2), ([], 3)] [4, 5, 6, 7, 8] (by kernel_rfl) (by kernel_rfl) (by kernel_rfl) (by kernel_rfl) K20.out.arr ?_
  simp only [pickL, List.map_cons, List.map_nil, List.filterMap_cons, List.filterMap_nil, List.getElem?_cons_succ, List.getElem?_cons_zero]
  refine mixS_cons ?_
  show wpQuiet _ _ _ _ (_ :: _) _
  refine wpQuiet_loadV (o := ⟨some 187, _, _, _, _, _⟩) rfl _ rfl rfl (fun w' hw' => by obtain ⟨r, rfl⟩ := hw'; exact arr_load r.holds Try.underlying22 size32 HK7.out.1.symm) ?_
  simp only [Act.put, List.setIfInBounds_toArray, List.set_cons_zero, List.set_cons_succ]
  show wpQuiet _ _ _ _ (_ :: _) _
  refine wpQuiet_loadV (o := ⟨some 188, _, _, _, _, _⟩) rfl _ rfl rfl (fun w' hw' => by obtain ⟨r, rfl⟩ := hw'; exact arr_load r.holds Try.underlying22 size32 HK7.out.1.symm) ?_
  simp only [Act.put, List.setIfInBounds_toArray, List.set_cons_zero, List.set_cons_succ]
  refine wpQuiet_nil ?_
  show wpList _ _ _ [_] _ _
  obtain ⟨zo, hzo⟩ : ∃ z, z = Obj.cells ((List.replicate 1001 (0 : Int)).map (Value.int .u8)).toArray 5 := ⟨_, rfl⟩
  have mk : (Instr.makeSlice 23 (.int .i64 1001) (.int .i64 1001)).run Try.prog w19.drew = .ok (.slice (some ⟨w19.drew.heap.size, 0, none⟩) 1001 1001) (w19.drew.alloc zo) := by rw [hzo]; exact make_any elC 1001 (by omega) w19.drew
  clear hzo
  have K21 := Lib.hid (K20.out.below ((Below.refl w19.drew.heap.size w19.drew).alloc (Nat.le_refl _) zo))
  clear K20
  generalize w19.drew = wd at *
  go_wp2_with fail
  refine MixQ.class K21.out.arr ?_
  refine mixS_cons ?_
  refine wpQuiet_nil ?_
  show wpList _ _ _ [_] _ _
  clear mk
  generalize wd.alloc zo = w21 at *
  go_wp2_with fail
  refine Calls.mono (begin_long true k7 k7 _ 1001 1001 w21 (by omega) (by omega)) ?_
  rintro e w22 ⟨rfl, b22⟩
  have K22 := Lib.hid (K21.out.below b22)
  clear K21 b22
  go_wp2_with fail
  refine MixQ.class K22.out.arr ?_
  refine mixS_nil ?_
  repeat (show wpQuiet _ _ _ _ (_ :: _) _; go_big_quiet_step (fail))
  refine wpQuiet_nil ?_
  refine NoPanic.normal ?_
  obtain ⟨ps1, ps2, ps3, ps4, ps5, hS⟩ := K22.out.s.parts
  obtain ⟨pc1, pc2, pc3, pc4, pc5, hC⟩ := K22.out.c.parts
  obtain ⟨AS, cS, rfl, _, rS⟩ := hS.pp.form
  obtain ⟨AC, cC, rfl, _, rC⟩ := hC.pp.form
  have qS : w22.cell? ⟨gs, 99, none⟩ = some (.slice AS 2 cS) := hS.c5.2.1
  have qC : w22.cell? ⟨gc, 99, none⟩ = some (.slice AC 2 cC) := hC.c5.2.1
  have vS : (convert 23 9 (.slice AS 2 cS)).run Try.prog w22 = .ok (.string ⟨#[99, 112]⟩) w22 := conv_rd elC Try.underlying9 rS cS
  have vC : (convert 23 9 (.slice AC 2 cC)).run Try.prog w22 = .ok (.string ⟨#[115, 112]⟩) w22 := conv_rd elC Try.underlying9 rC cC
  clear hS hC rS rC hne hz32 HK7
  go_wp2_with fail
  refine Calls.mono (done_m K22.out.s) ?_
  rintro e w22' ⟨rfl, rfl⟩
  rw [show decide (({ pS1 k7 k1 k2 sCp sSp with st := 100 } : PS).st = 100) = true from rfl]
  go_wp2_with fail
  refine Calls.mono (done_nil w22) ?_
  rintro e w22' ⟨rfl, rfl⟩
  go_wp2_with fail
  go_ret
  exact ⟨rfl, GE.out ▸ K22.out.bel⟩
end Go.Proofs.Ythknncdhjicklaa
