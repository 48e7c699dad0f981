/- Layer 27: a store that holds a cell with no rows. Conditions: as each theorem states them. -/
import Derived.Test.YtibjafkclojimaaD17
namespace Go.Proofs.Ytibjafkclojimaa
open Go.RowKit
theorem bsT_nil_ : bsT [] = [] := by simp [bsT]
/-- the bytes of a slot -/
def Okl (L : List Int) : Prop := Byt L ∧ L.length ≤ 1000000000000
theorem okl_nil : Okl [] := ⟨Byt.nil, by decide⟩
theorem okl_take {L : List Int} (h : Okl L) (m : Nat) : Okl (L.take m) := ⟨fun x hx => h.1 x (List.mem_of_mem_take hx), by have := h.2; rw [List.length_take]; omega⟩
/-- the newest record of two slots is the last cell, of that count -/
def LastI (L0 L1 : List Int) (last : CL) (N : Int) : Prop :=
  ∃ sl, newN L0 L1 = (sl, last, N) ∧ ((sl = 0 ∧ takeL L0 = some (last, N) ∧ 0 < N) ∨ (sl = 1 ∧ takeL L1 = some (last, N) ∧ 0 < N) ∨ (sl = -1 ∧ takeL L0 = none ∧ takeL L1 = none ∧ N = 0 ∧ last = CL.zero))
theorem lastI_nil : LastI [] [] CL.zero 0 := ⟨-1, newN_nil, .inr (.inr ⟨rfl, takeL_short (by decide), takeL_short (by decide), rfl, rfl⟩)⟩
theorem newN_two {L0 L1 : List Int} {c : CL} {k : Int} (h : takeL L0 = none) (h1 : takeL L1 = some (c, k)) : newN L0 L1 = (1, c, k) := by
  unfold newN; rw [stepN_none h, stepN_yes h1 (.inl (by decide))]
theorem newN_none {L0 L1 : List Int} (h : takeL L0 = none) (h1 : takeL L1 = none) : newN L0 L1 = (-1, CL.zero, 0) := by
  unfold newN; rw [stepN_none h, stepN_none h1]
section
variable {L0 L1 R : List Int} {last c : CL} {N : Int}
theorem put_yes (hI : LastI L0 L1 last N) (h : takeL R = some (c, N + 1)) (_h0 : 0 ≤ N) : (∃ sl, newN L0 L1 = (sl, last, N) ∧ ((sl = 0 ∧ LastI L0 R c (N + 1)) ∨ (sl ≠ 0 ∧ LastI R L1 c (N + 1)))) := by
  obtain ⟨sl, e, ⟨rfl, h1, h2⟩ | ⟨rfl, h1, h2⟩ | ⟨rfl, h1, h2, h3, h4⟩⟩ := hI
  · exact ⟨0, e, .inl ⟨rfl, 1, newN_high h1 h (by omega), .inr (.inl ⟨rfl, h, by omega⟩)⟩⟩
  · exact ⟨1, e, .inr ⟨by decide, 0, newN_low h h1 (by omega), .inl ⟨rfl, h, by omega⟩⟩⟩
  · exact ⟨-1, e, .inr ⟨by decide, 0, newN_one h h2, .inl ⟨rfl, h, by omega⟩⟩⟩
theorem put_no (hI : LastI L0 L1 last N) (h : takeL R = none) : (∃ sl, newN L0 L1 = (sl, last, N) ∧ ((sl = 0 ∧ LastI L0 R last N) ∨ (sl ≠ 0 ∧ LastI R L1 last N))) := by
  obtain ⟨sl, e, ⟨rfl, h1, h2⟩ | ⟨rfl, h1, h2⟩ | ⟨rfl, h1, h2, h3, h4⟩⟩ := hI
  · exact ⟨0, e, .inl ⟨rfl, 0, newN_one h1 h, .inl ⟨rfl, h1, h2⟩⟩⟩
  · exact ⟨1, e, .inr ⟨by decide, 1, newN_two h h1, .inr (.inl ⟨rfl, h1, h2⟩)⟩⟩
  · refine ⟨-1, e, .inr ⟨by decide, -1, ?_, .inr (.inr ⟨rfl, h, h2, h3, h4⟩)⟩⟩
    rw [newN_none h h2, h3, h4]
end
/-- what a write that is not torn leaves -/
theorem wr_whole {L0 L1 : List Int} {last c : CL} {N a : Int} {t : Bool} (hI : LastI L0 L1 last N) (o0 : Okl L0) (o1 : Okl L1) (hf : c.Fit) (hm : c.May) (h0 : 0 ≤ N) (h1 : N < 1000) :
    ∃ R0 R1, wrS c (newN L0 L1) L0 L1 false a t = (0, R0, R1, false, false) ∧ LastI R0 R1 c (N + 1) ∧ Okl R0 ∧ Okl R1 := by
  have hR : Okl (c.rcd (N + 1)) := ⟨CL.rcd_byt hf _, by rw [CL.rcd_len]; have := hm.2.2.2; omega⟩
  obtain ⟨sl, e, ⟨rfl, h⟩ | ⟨h2, h⟩⟩ := put_yes (R := c.rcd (N + 1)) (c := c) hI (takeL_rcd hf hm (by omega) (by omega)) h0
  · refine ⟨L0, c.rcd (N + 1), ?_, h, o0, hR⟩
    rw [e]; unfold wrS; rw [if_neg (fun q => q hm), if_pos rfl, if_pos rfl]
  · refine ⟨c.rcd (N + 1), L1, ?_, h, hR, o1⟩
    rw [e]; unfold wrS; rw [if_neg (fun q => q hm), if_pos rfl, if_neg h2]
/-- what a write that is torn behind all its bytes leaves -/
theorem wr_late {L0 L1 : List Int} {last c : CL} {N a : Int} {t : Bool} (hI : LastI L0 L1 last N) (o0 : Okl L0) (o1 : Okl L1) (hf : c.Fit) (hm : c.May) (h0 : 0 ≤ N) (h1 : N < 1000) (ha : ((c.rcd (N + 1)).length : Int) ≤ a) :
    ∃ R0 R1, wrS c (newN L0 L1) L0 L1 true a t = (8, R0, R1, false, true) ∧ LastI R0 R1 c (N + 1) ∧ Okl R0 ∧ Okl R1 := by
  have hR : Okl (c.rcd (N + 1)) := ⟨CL.rcd_byt hf _, by rw [CL.rcd_len]; have := hm.2.2.2; omega⟩
  have ht : (c.rcd (N + 1)).take a.toNat = c.rcd (N + 1) := List.take_of_length_le (by omega)
  obtain ⟨sl, e, ⟨rfl, h⟩ | ⟨h2, h⟩⟩ := put_yes (R := c.rcd (N + 1)) (c := c) hI (takeL_rcd hf hm (by omega) (by omega)) h0
  · refine ⟨L0, c.rcd (N + 1), ?_, h, o0, hR⟩
    rw [e]; unfold wrS; rw [if_neg (fun q => q hm), if_neg (by decide), if_neg (by omega), if_pos rfl]; simp only [ht]
  · refine ⟨c.rcd (N + 1), L1, ?_, h, hR, o1⟩
    rw [e]; unfold wrS; rw [if_neg (fun q => q hm), if_neg (by decide), if_neg (by omega), if_neg h2]; simp only [ht]
/-- what a write that is torn leaves -/
theorem wr_torn {L0 L1 : List Int} {last c : CL} {N a : Int} {t : Bool} (hI : LastI L0 L1 last N) (o0 : Okl L0) (o1 : Okl L1) (hf : c.Fit) (hm : c.May) (ha : a < ((c.rcd (N + 1)).length : Int)) :
    ∃ R0 R1, wrS c (newN L0 L1) L0 L1 true a t = (8, R0, R1, false, true) ∧ LastI R0 R1 last N ∧ Okl R0 ∧ Okl R1 := by
  have hR : Okl (c.rcd (N + 1)) := ⟨CL.rcd_byt hf _, by rw [CL.rcd_len]; have := hm.2.2.2; omega⟩
  by_cases hn : a < 0
  · refine ⟨L0, L1, ?_, hI, o0, o1⟩
    unfold wrS; rw [if_neg (fun q => q hm), if_neg (by decide), if_pos hn]
  · obtain ⟨sl, e, ⟨rfl, h⟩ | ⟨h2, h⟩⟩ := put_no (R := (c.rcd (N + 1)).take a.toNat) hI (takeL_cut hf hm (by omega))
    · refine ⟨L0, (c.rcd (N + 1)).take a.toNat, ?_, h, o0, okl_take hR _⟩
      rw [e]; unfold wrS; rw [if_neg (fun q => q hm), if_neg (by decide), if_neg hn, if_pos rfl]
    · refine ⟨(c.rcd (N + 1)).take a.toNat, L1, ?_, h, okl_take hR _, o1⟩
      rw [e]; unfold wrS; rw [if_neg (fun q => q hm), if_neg (by decide), if_neg hn, if_neg h2]
theorem LastI.ex {L0 L1 : List Int} {c : CL} {N : Int} (h : LastI L0 L1 c N) : ∃ sl, newN L0 L1 = (sl, c, N) ∧ ((0 ≤ sl ∧ 0 < N) ∨ (sl < 0 ∧ N = 0)) := by
  obtain ⟨sl, e, ⟨rfl, _, h2⟩ | ⟨rfl, _, h2⟩ | ⟨rfl, _, _, h3, _⟩⟩ := h
  · exact ⟨0, e, .inl ⟨by decide, h2⟩⟩
  · exact ⟨1, e, .inl ⟨by decide, h2⟩⟩
  · exact ⟨-1, e, .inr ⟨by decide, h3⟩⟩
/-- a cell of an epoch, an owner and a Next -/
def lc (e o n : Int) : CL := ⟨e, o, n, 0, []⟩
theorem cl_lc (e o n : Int) : cl_ e o n 0 [] = lc e o n := by unfold cl_ lc; rw [bsT_nil_]
/-- what a cell of no rows may be -/
structure COk (e o n : Int) : Prop where
  e0 : 0 ≤ e
  e1 : e < 18446744073709551616
  o0 : 0 ≤ o
  o1 : o ≤ 2
  n0 : 0 ≤ n
  n1 : n ≤ 4611686018427387904
section
variable {e o n : Int}
theorem lc_fit (h : COk e o n) : (lc e o n).Fit := ⟨h.e0, h.e1, h.o0, (by have := h.o1; show o < 256; omega), h.n0, (by have := h.n1; show n < 18446744073709551616; omega), Int.le_refl 0, (by decide : (0 : Int) < 18446744073709551616), fun x hx => by cases hx⟩
theorem lc_may (h : COk e o n) : (lc e o n).May := ⟨h.o1, h.n1, h.e0, (by have := rowsN_nil_; show 29 + rowsN [] ≤ 16777216; omega)⟩
theorem lc_len (k : Int) : ((lc e o n).rcd k).length = 49 := by rw [CL.rcd_len]; have := rowsN_nil_; show 20 + (29 + rowsN []) = 49; omega
end
/-- what a store holds: the newest cell's epoch, owner and Next, its count; whether it fails, behind how many bytes -/
structure SS where
  ep : Int
  ow : Int
  nx : Int
  N : Nat
  f : Bool
  a : Int
/-- a store that holds a cell, in memory -/
def StH (g : Nat) (w : World) (s : SS) : Prop := ∃ L0 L1 t, StB g w L0 L1 s.f s.a t ∧ Okl L0 ∧ Okl L1 ∧ LastI L0 L1 (lc s.ep s.ow s.nx) s.N ∧ 0 < s.N
/-- what a write makes of it -/
def wrP (s : SS) (e o n : Int) : Int × SS :=
  if s.f = false then (0, ⟨e, o, n, s.N + 1, false, s.a⟩) else if 49 ≤ s.a then (8, ⟨e, o, n, s.N + 1, false, s.a⟩) else (8, ⟨s.ep, s.ow, s.nx, s.N, false, s.a⟩)
section
variable {g : Nat} {w w' : World} {s : SS}
theorem StH.lt (h : StH g w s) : g < w.heap.size := by obtain ⟨_, _, _, h, _⟩ := h; exact h.lt
theorem StH.below (h : StH g w s) (hb : Below w.heap.size w w') : StH g w' s := by
  obtain ⟨L0, L1, t, h, r⟩ := h
  exact ⟨L0, L1, t, h.below hb, r⟩
theorem StH.blk (h : StH g w s) : ∃ cs, Blk w g 53 cs := by
  obtain ⟨L0, L1, t, ⟨v0, v1, h1, _⟩, r⟩ := h
  exact ⟨_, h1⟩
theorem SlT.grown2 {v : Value} {L : List Int} {b : Nat} (h : SlT w v L) (hg : w.grownBy w' (some b)) (ht : ∀ cur, w.heap[b]? ≠ some (.cells cur 5 (0, 0))) : SlT w' v L := by
  obtain ⟨A, c, h1, h2, h3, h4⟩ := h
  have hne : ∀ ad, A = some ad → ad.block ≠ b := fun ad e q => by
    obtain ⟨cur, hc⟩ := h4 ad e
    rw [q] at hc
    exact ht cur hc
  refine ⟨A, c, h1, h2, fun i hi => ?_, fun ad e => ?_⟩
  · obtain ⟨ad, e, h5, h6⟩ := h3 i hi
    exact ⟨ad, e, Nat.lt_of_lt_of_le h5 hg.size, (World.cell?_of_block (hg.block _ (by rw [block_of_add]; exact h5) (by rw [block_of_add]; intro q; injection q with q; exact hne ad e q))).trans h6⟩
  · obtain ⟨cur, hc⟩ := h4 ad e
    have hlt : ad.block < w.heap.size := by
      rcases Nat.lt_or_ge ad.block w.heap.size with q | q
      · exact q
      · rw [Array.getElem?_eq_none q] at hc; cases hc
    exact ⟨cur, (hg.block _ hlt (by intro q; injection q with q; exact hne ad e q)).trans hc⟩
/-- another block, of another type, is turned -/
theorem StH.grown {b : Nat} (h : StH g w s) (hg : w.grownBy w' (some b)) (hne : b ≠ g) (ht : ∀ cur, w.heap[b]? ≠ some (.cells cur 5 (0, 0))) : StH g w' s := by
  obtain ⟨L0, L1, t, ⟨v0, v1, h1, h2, h3⟩, r⟩ := h
  exact ⟨L0, L1, t, ⟨v0, v1, h1.grown hg (by intro q; injection q with q; exact hne q.symm), h2.grown2 hg ht, h3.grown2 hg ht⟩, r⟩
end
attribute [local irreducible] CL.rcd CL.size takeL newN wrS LastI CL.May lc
theorem read_st (g : Nat) (s : SS) (w : World) (h : StH g w s) : Calls Try.prog 8 #[.pointer (some ⟨g, 0, none⟩)] w fun e w' => ∃ A cap, e = .returned (.tuple #[.agg #[.int .u64 s.ep, .int .u8 s.ow, .int .u64 s.nx, .int .u64 0, .slice A 0 cap], .bool true]) ∧ Below w.heap.size w w' := by
  obtain ⟨L0, L1, t, h1, o0, o1, hI, hN⟩ := h
  refine Calls.mono (read_any g L0 L1 s.f t s.a w h1 o0.1 o1.1 o0.2 o1.2) ?_
  rintro e w' ⟨A, n, cap, ts, rfl, c1, fr, bs, b1⟩
  obtain ⟨sl, he, hs⟩ := hI.ex
  have hsl : 0 ≤ sl := by
    rcases hs with ⟨h, _⟩ | ⟨_, h⟩
    · exact h
    · omega
  rw [he] at bs ⊢
  have hl : (lc s.ep s.ow s.nx).bs = [] := by unfold lc; rfl
  have h4 : (lc s.ep s.ow s.nx).ep = s.ep ∧ (lc s.ep s.ow s.nx).ow = s.ow ∧ (lc s.ep s.ow s.nx).nx = s.nx ∧ (lc s.ep s.ow s.nx).sn = 0 := by unfold lc; exact ⟨rfl, rfl, rfl, rfl⟩
  simp only at bs
  rw [hl] at bs
  have hz : ts.length = 0 := by rw [← bsT_len, ← bs]; rfl
  have hn : n = 0 := by have := c1.len; omega
  subst hn
  refine ⟨A, cap, ?_, b1⟩
  simp only [h4.1, h4.2.1, h4.2.2.1, h4.2.2.2, decide_eq_true hsl]
theorem cin_none (w : World) (A : Option Addr) (cap : Nat) : CIn w.heap.size w A 0 cap [] := ⟨rfl, Nat.zero_le _, fun i hi => absurd hi (Nat.not_lt_zero i), fun x hx => by cases hx⟩
theorem write_st (g : Nat) (s : SS) (e o n : Int) (A : Option Addr) (cap : Nat) (w : World) (h : StH g w s) (hc : COk e o n) (hN : s.N < 1000) :
    Calls Try.prog 6 #[.pointer (some ⟨g, 0, none⟩), .agg #[.int .u64 e, .int .u8 o, .int .u64 n, .int .u64 0, .slice A 0 cap]] w fun r w' => r = .returned (.int .i64 (wrP s e o n).1) ∧ StH g w' (wrP s e o n).2 ∧ w.grownBy w' (some g) := by
  obtain ⟨L0, L1, t, h1, o0, o1, hI, hN0⟩ := h
  obtain ⟨sl, he, hs⟩ := hI.ex
  have hk : (newN L0 L1).2.2 = s.N := by rw [he]
  have hf := lc_fit hc
  have hm := lc_may hc
  refine Calls.mono (write_any g L0 L1 s.f t s.a e o n 0 A 0 cap [] w h1 o0.1 o1.1 o0.2 o1.2 (cin_none w A cap) (by rw [cl_lc]; exact hf) (by rw [bsT_nil_, rowsN_nil_]; decide) (by rw [hk]; omega) (by rw [hk]; omega)) ?_
  rw [cl_lc]
  obtain ⟨ep, ow, nx, N, f, a⟩ := s
  simp only at *
  have hlen : ((lc e o n).rcd ((N : Int) + 1)).length = 49 := lc_len _
  have hN1 : ((N : Int) + 1) = ((N + 1 : Nat) : Int) := by omega
  rintro r w' ⟨rfl, hS, hG⟩
  cases f with
  | false =>
    obtain ⟨R0, R1, W, hi, p0, p1⟩ := wr_whole (a := a) (t := t) hI o0 o1 hf hm (by omega) (by omega)
    rw [W] at hS ⊢
    have hp : wrP ⟨ep, ow, nx, N, false, a⟩ e o n = (0, ⟨e, o, n, N + 1, false, a⟩) := by unfold wrP; rw [if_pos rfl]
    rw [hp]
    exact ⟨rfl, ⟨R0, R1, _, hS, p0, p1, by rw [← hN1]; exact hi, Nat.succ_pos _⟩, hG⟩
  | true =>
    by_cases ha : 49 ≤ a
    · obtain ⟨R0, R1, W, hi, p0, p1⟩ := wr_late (a := a) (t := t) hI o0 o1 hf hm (by omega) (by omega) (by rw [hlen]; exact ha)
      rw [W] at hS ⊢
      have hp : wrP ⟨ep, ow, nx, N, true, a⟩ e o n = (8, ⟨e, o, n, N + 1, false, a⟩) := by unfold wrP; rw [if_neg (by simp), if_pos ha]
      rw [hp]
      exact ⟨rfl, ⟨R0, R1, _, hS, p0, p1, by rw [← hN1]; exact hi, Nat.succ_pos _⟩, hG⟩
    · obtain ⟨R0, R1, W, hi, p0, p1⟩ := wr_torn (a := a) (t := t) hI o0 o1 hf hm (by rw [hlen]; omega)
      rw [W] at hS ⊢
      have hp : wrP ⟨ep, ow, nx, N, true, a⟩ e o n = (8, ⟨ep, ow, nx, N, false, a⟩) := by unfold wrP; rw [if_neg (by simp), if_neg ha]
      rw [hp]
      exact ⟨rfl, ⟨R0, R1, _, hS, p0, p1, hi, hN0⟩, hG⟩
/-- the first cell -/
theorem write_first (g : Nat) (e o n : Int) (A : Option Addr) (cap : Nat) (w : World) (h : StB g w [] [] false 0 false) (hc : COk e o n) :
    Calls Try.prog 6 #[.pointer (some ⟨g, 0, none⟩), .agg #[.int .u64 e, .int .u8 o, .int .u64 n, .int .u64 0, .slice A 0 cap]] w fun r w' => r = .returned (.int .i64 0) ∧ StH g w' ⟨e, o, n, 1, false, 0⟩ ∧ w.grownBy w' (some g) := by
  have hI := lastI_nil
  obtain ⟨sl, he, hs⟩ := hI.ex
  have hk : (newN [] []).2.2 = 0 := by rw [he]
  have hf := lc_fit hc
  have hm := lc_may hc
  refine Calls.mono (write_any g [] [] false false 0 e o n 0 A 0 cap [] w h okl_nil.1 okl_nil.1 okl_nil.2 okl_nil.2 (cin_none w A cap) (by rw [cl_lc]; exact hf) (by rw [bsT_nil_, rowsN_nil_]; decide) (by rw [hk]; decide) (by rw [hk]; decide)) ?_
  rw [cl_lc]
  rintro r w' ⟨rfl, hS, hG⟩
  obtain ⟨R0, R1, W, hi, p0, p1⟩ := wr_whole (a := 0) (t := false) hI okl_nil okl_nil hf hm (by omega) (by omega)
  rw [W] at hS ⊢
  exact ⟨rfl, ⟨R0, R1, _, hS, p0, p1, hi, Nat.succ_pos _⟩, hG⟩
theorem fail_st (g : Nat) (s : SS) (x : Int) (w : World) (h : StH g w s) :
    Calls Try.prog 10 #[.pointer (some ⟨g, 0, none⟩), .int .i64 x] w fun e w' => e = .returned (.tuple #[]) ∧ StH g w' ⟨s.ep, s.ow, s.nx, s.N, true, x⟩ ∧ w.grownBy w' (some g) := by
  obtain ⟨L0, L1, t, h1, r⟩ := h
  refine Calls.mono (fail_any g L0 L1 s.f t s.a x w h1) ?_
  rintro e w' ⟨rfl, hS, hG⟩
  exact ⟨rfl, ⟨L0, L1, t, hS, r⟩, hG⟩
end Go.Proofs.Ytibjafkclojimaa
