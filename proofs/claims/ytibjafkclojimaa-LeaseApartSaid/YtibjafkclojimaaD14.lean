
/- Layer 26: a store; contracts of Read, Count, Fail, New. Conditions: as each theorem states them. -/
import Derived.Test.YtibjafkclojimaaD13
namespace Go.Proofs.Ytibjafkclojimaa
open Go.RowKit
/-- bytes that lie in a block of bytes -/
def SlT (w : World) (v : Value) (L : List Int) : Prop := ∃ A c, v = .slice A L.length c ∧ L.length ≤ c ∧ Rd w.heap.size .u8 w A L ∧ ∀ ad, A = some ad → ∃ cur, w.heap[ad.block]? = some (.cells cur 5 (0, 0))
theorem SlT.nil (w : World) : SlT w (.slice none 0 0) [] := ⟨none, 0, rfl, Nat.le_refl _, Rd.nil, fun ad e => by cases e⟩
theorem SlT.own {B : Nat} {w : World} {A : Option Addr} {n c : Nat} {L : List Int} (h : Own B 5 .u8 w A n c L) : SlT w (.slice A n c) L := by
  obtain rfl := h.2
  refine ⟨A, c, rfl, h.cap.1, h.rd, fun ad e => ?_⟩
  subst e
  rcases h.1.2 with ⟨h1, _⟩ | ⟨g, cap, cur, h1, _, h3, _⟩
  · cases h1
  · injection h1 with h1
    injection h1 with h1
    subst h1
    exact ⟨cur, h3⟩
theorem SlT.below {w w' : World} {v : Value} {L : List Int} (h : SlT w v L) (hb : Below w.heap.size w w') : SlT w' v L := by
  obtain ⟨A, c, h1, h2, h3, h4⟩ := h
  refine ⟨A, c, h1, h2, (h3.below hb (Nat.le_refl _)).mono hb.size, fun ad e => ?_⟩
  obtain ⟨cur, hc⟩ := h4 ad e
  have hlt : ad.block < w.heap.size := by
    rcases Nat.lt_or_ge ad.block w.heap.size with q | q
    · exact q
    · rw [Array.getElem?_eq_none q] at hc; cases hc
  exact ⟨cur, (hb.block _ hlt).trans hc⟩
theorem SlT.grown {w w' : World} {v : Value} {L : List Int} {g : Nat} {t : TypeId} {cs : Array Value} (h : SlT w v L) (hg : w.grownBy w' (some g)) (hb : Blk w g t cs) (ht : t ≠ 5) : SlT w' v L := by
  obtain ⟨A, c, h1, h2, h3, h4⟩ := h
  have hne : ∀ ad, A = some ad → ad.block ≠ g := fun ad e q => by
    obtain ⟨cur, hc⟩ := h4 ad e
    rw [q] at hc
    have hb' : w.heap[g]? = some (.cells cs t (0, 0)) := hb
    rw [hb'] at hc
    injection hc with hc
    injection hc with _ hc
    exact ht hc
  refine ⟨A, c, h1, h2, fun i hi => ?_, fun ad e => ?_⟩
  · obtain ⟨ad, e, h5, h6⟩ := h3 i hi
    exact ⟨ad, e, Nat.lt_of_lt_of_le h5 hg.size, (World.cell?_of_block (hg.block _ (by rw [block_of_add]; exact h5) (by rw [block_of_add]; intro q; injection q with q; exact hne ad e q))).trans h6⟩
  · obtain ⟨cur, hc⟩ := h4 ad e
    have hlt : ad.block < w.heap.size := by
      rcases Nat.lt_or_ge ad.block w.heap.size with q | q
      · exact q
      · rw [Array.getElem?_eq_none q] at hc; cases hc
    exact ⟨cur, (hg.block _ hlt (by intro q; injection q with q; exact hne ad e q)).trans hc⟩
/-- a store -/
structure StB (g : Nat) (w : World) (L0 L1 : List Int) (f : Bool) (a : Int) (t : Bool) : Prop where
  b : ∃ v0 v1, Blk w g 53 #[v0, v1, .bool f, .int .i64 a, .bool t] ∧ SlT w v0 L0 ∧ SlT w v1 L1
section
variable {g : Nat} {w w' : World} {L0 L1 : List Int} {f t : Bool} {a : Int}
theorem StB.lt (h : StB g w L0 L1 f a t) : g < w.heap.size := by obtain ⟨v0, v1, h1, _⟩ := h; exact h1.lt
theorem StB.below (h : StB g w L0 L1 f a t) (hb : Below w.heap.size w w') : StB g w' L0 L1 f a t := by
  obtain ⟨v0, v1, h1, h2, h3⟩ := h
  exact ⟨v0, v1, h1.below hb h1.lt, h2.below hb, h3.below hb⟩
theorem StB.slot0 (h : StB g w L0 L1 f a t) : Slot w.heap.size g 0 L0 w := by
  obtain ⟨v0, v1, h1, ⟨A, c, rfl, h4, h5, _⟩, h3⟩ := h
  exact ⟨A, c, by simpa using Blk.cell h1 0, h4, h5⟩
theorem StB.slot1 (h : StB g w L0 L1 f a t) : Slot w.heap.size g 1 L1 w := by
  obtain ⟨v0, v1, h1, h2, ⟨A, c, rfl, h4, h5, _⟩⟩ := h
  exact ⟨A, c, by simpa using Blk.cell h1 1, h4, h5⟩
end
def ReadPost (s : Int × CL × Int) (w : World) (e : Ending) (w' : World) : Prop :=
  ∃ A n cap ts, e = .returned (.tuple #[.agg #[.int .u64 s.2.1.ep, .int .u8 s.2.1.ow, .int .u64 s.2.1.nx, .int .u64 s.2.1.sn, .slice A n cap], .bool (decide (0 ≤ s.1))]) ∧ CIn w'.heap.size w' A n cap ts ∧ FrT w.heap.size A ts ∧ s.2.1.bs = bsT ts ∧ Below w.heap.size w w'
theorem results_rd {w : World} {g : Nat} {c0 c1 c2 c3 c4 : Value} {fn : Func} {x u : Tmp} {tmps : Array Value} (hr : fn.results = #[.cell x 31, .tmp u]) (hx : tmps.getD x undef = .pointer (some ⟨g, 0, none⟩)) (h : Blk w g 31 #[c0, c1, c2, c3, c4]) :
    (results fn tmps).run Try.prog w = .ok (.tuple #[.agg #[c0, c1, c2, c3, c4], tmps.getD u undef]) w := by
  obtain ⟨a0, a1, a2, a3, a4⟩ := cb_cells h
  have hx' : tmps[x]?.getD undef = .pointer (some ⟨g, 0, none⟩) := by simpa using hx
  simp [results, hr, hx', go_sem, a0, a1, a2, a3, a4]
set_option maxRecDepth 100000 in
set_option maxHeartbeats 8000000 in
theorem read_any (g : Nat) (L0 L1 : List Int) (f t : Bool) (a : Int) (w : World) (h : StB g w L0 L1 f a t) (hb0 : Byt L0) (hb1 : Byt L1) (hl0 : L0.length ≤ 1000000000000) (hl1 : L1.length ≤ 1000000000000) :
    Calls Try.prog 8 #[.pointer (some ⟨g, 0, none⟩)] w (ReadPost (newN L0 L1) w) := by
  have HS := Lib.hid h
  have HB0 := Lib.hid hb0
  have HB1 := Lib.hid hb1
  clear h hb0 hb1
  have B0 : Hid (Below w.heap.size w (w.alloc (.cells #[.int .u64 0, .int .u8 0, .int .u64 0, .int .u64 0, .slice none 0 0] 31))) := Lib.hid ((Below.refl _ _).alloc (Nat.le_refl _) _)
  have Z0 : Hid (Blk (w.alloc (.cells #[.int .u64 0, .int .u8 0, .int .u64 0, .int .u64 0, .slice none 0 0] 31)) w.heap.size 31 #[.int .u64 0, .int .u8 0, .int .u64 0, .int .u64 0, .slice none 0 0]) := Lib.hid (Blk.new _ _ _)
  go_enter Try.func8, Try.ntmps8
  go_wp2_with fail
  generalize w.alloc (.cells #[.int .u64 0, .int .u8 0, .int .u64 0, .int .u64 0, .slice none 0 0] 31) = w0 at *
  have HS0 := Lib.hid (HS.out.below B0.out)
  refine Calls.mono (newest_any g L0 L1 w0 HS0.out.slot0 HS0.out.slot1 HS0.out.lt HB0.out HB1.out hl0 hl1) ?_
  rintro e w1 ⟨A, n, cap, ts, rfl, c1, fr, bs, b1⟩
  generalize newN L0 L1 = s at *
  have Z1 := Lib.hid (Z0.out.below b1 Z0.out.lt)
  have hz0 := Z0.out.lt
  have B1 := Lib.hid (B0.out.trans (b1.mono B0.out.size))
  have hz1 := b1.size
  have C1 := Lib.hid c1
  have FR := Lib.hid (fr.mono (show w.heap.size + 1 ≤ w0.heap.size by omega))
  have BS := Lib.hid bs
  clear c1 fr bs b1 Z0 B0 HS HS0
  go_wp2_with (first
    | ((with_reducible (show wpList _ _ _ (⟨some 15, .load _ _, _, _, _, _⟩ :: _) _ _)); refine wpList_loadV (o := ⟨some 15, .load _ _, _, _, _, _⟩) rfl _ rfl rfl (cb_load Z2.out) ?_)
    | ((with_reducible (show wpList _ _ _ (⟨none, .store 31 _ _, _, _, _, _⟩ :: _) _ _)); (have _t := FR2; clear _t); go_loud (refine wpList_storeBlk (o := ⟨none, .store 31 _ _, _, _, _, _⟩) (g := w.heap.size) (t := 31) (vs := [.int .u64 s.2.1.ep, .int .u8 s.2.1.ow, .int .u64 s.2.1.nx, .int .u64 s.2.1.sn, .slice A n cap]) rfl _ _ rfl rfl rfl Z2.out rfl (one5 rfl rfl rfl rfl rfl) size5 ?_); intro w3 z3 g3; have Z3 := Lib.hid z3; have C3 := Lib.hid ((C2.out.grownLo FR2.out g3 (by omega) (Nat.le_refl _)).mono g3.size); have B3 := Lib.hid (B2.out.trans (below_of_only (B := w.heap.size) g3 (Nat.le_refl _) (by omega))); clear z3 g3)
    | ((with_reducible (show wpList _ _ _ (⟨none, .store 31 _ _, _, _, _, _⟩ :: _) _ _)); go_loud (refine wpList_storeBlk (o := ⟨none, .store 31 _ _, _, _, _, _⟩) (g := w.heap.size) (t := 31) (vs := [.int .u64 s.2.1.ep, .int .u8 s.2.1.ow, .int .u64 s.2.1.nx, .int .u64 s.2.1.sn, .slice A n cap]) rfl _ _ rfl rfl rfl Z1.out rfl (one5 rfl rfl rfl rfl rfl) size5 ?_); intro w2 z2 g2; have Z2 := Lib.hid z2; have C2 := Lib.hid ((C1.out.grownLo FR.out g2 (by omega) (Nat.le_refl _)).mono g2.size); have FR2 := FR; have B2 := Lib.hid (B1.out.trans (below_of_only (B := w.heap.size) g2 (Nat.le_refl _) (by omega))); have hz2 := g2.size; clear z2 g2))
  exact bodyPost_ret (results_rd rfl rfl Z3.out) rfl ⟨A, n, cap, ts, rfl, C3.out, FR.out.mono (by omega), BS.out, B3.out⟩
end Go.Proofs.Ytibjafkclojimaa
