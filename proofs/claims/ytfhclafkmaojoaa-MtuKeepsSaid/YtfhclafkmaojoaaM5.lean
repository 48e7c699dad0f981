/- Contracts of the methods of mtu.Search (layer 36), Again; the search of a path. Conditions: as each theorem states them. -/
import Derived.Test.YtfhclafkmaojoaaM4
namespace Go.Proofs.Ytfhclafkmaojoaa
open Go.RowKit
def againS (s : MS) (m : Int) : MS := ⟨s.size, if s.size ≤ m then m else s.size, 0, 0, 0⟩
theorem ok_again {s : MS} (h : s.Ok) (m : Int) (h2 : m ≤ 65527) : (againS s m).Ok := by
  unfold MS.Ok at *; unfold againS; split <;> simp <;> omega
theorem again_yes (b : Nat) (s : MS) (m : Int) (w : World) (Hs : MSt b w s) (h1 : 1200 ≤ m) (h2 : m ≤ 65527) :
    Calls Try.prog 16 #[.pointer (some ⟨b, 0, none⟩), .int .i64 m] w (MPost b (.int .i64 0) (againS s m) w) := by
  obtain ⟨c0, c1, c2, c3, c4, f0, f1, f2, f3, f4⟩ := Hs.facts
  have hd : decide (1200 ≤ m ∧ m ≤ 65527) = true := by simp; omega
  by_cases g : s.size ≤ m
  · have HC := Lib.hid (show againS s m = ⟨s.size, m, 0, 0, 0⟩ by unfold againS; rw [if_pos g])
    go_enter Try.func16, Try.ntmps16
    go_wp2_with (go_at_call 18; refine (may_any _ _ _).mono ?_; rintro e w' ⟨rfl, rfl⟩)
    go_region
    go_wp2_with fail
    go_ret
    refine ⟨rfl, ?_, (by repeat' (first | with_reducible exact World.grownBy.refl _ _ | with_reducible apply only_drewN | with_reducible apply only_drew | with_reducible apply only_alloc | (with_reducible refine only_setCell ?_ (.inl rfl) _)))⟩
    rw [HC.out]
    unfold MSt at *
    apply Blk.cast
    · (repeat (first | with_reducible exact Hs | with_reducible apply Blk.set_ | with_reducible apply Blk.drew))
    · simp [MS.cells]
  · have HC := Lib.hid (show againS s m = ⟨s.size, s.size, 0, 0, 0⟩ by unfold againS; rw [if_neg g])
    go_enter Try.func16, Try.ntmps16
    go_wp2_with (go_at_call 18; refine (may_any _ _ _).mono ?_; rintro e w' ⟨rfl, rfl⟩)
    go_region
    go_wp2_with fail
    go_ret
    refine ⟨rfl, ?_, (by repeat' (first | with_reducible exact World.grownBy.refl _ _ | with_reducible apply only_drewN | with_reducible apply only_drew | with_reducible apply only_alloc | (with_reducible refine only_setCell ?_ (.inl rfl) _)))⟩
    rw [HC.out]
    unfold MSt at *
    apply Blk.cast
    · (repeat (first | with_reducible exact Hs | with_reducible apply Blk.set_ | with_reducible apply Blk.drew))
    · simp [MS.cells]
theorem again_no (b : Nat) (s : MS) (m : Int) (w : World) (Hs : MSt b w s) (h1 : m < 1200 ∨ 65527 < m) :
    Calls Try.prog 16 #[.pointer (some ⟨b, 0, none⟩), .int .i64 m] w (MPost b (.int .i64 2) s w) := by
  have hd : decide (1200 ≤ m ∧ m ≤ 65527) = false := by simp; omega
  go_enter Try.func16, Try.ntmps16
  go_wp2_with (go_at_call 18; refine (may_any _ _ _).mono ?_; rintro e w' ⟨rfl, rfl⟩)
  go_ret
  exact ⟨rfl, Hs, World.grownBy.refl _ _⟩

theorem rdI_one {b g : Nat} {p : Int} {w : World} (h : w.cell? ⟨g, 0, none⟩ = some (.int .i64 p)) (hne : g ≠ b) : RdI b w (some ⟨g, 0, none⟩) [p] := by
  intro k hk
  have : k = 0 := by simpa using hk
  subst this
  exact ⟨_, rfl, hne, by simpa [Addr.add] using h⟩

/-- what holds in the search of a path: s0 at first, j halvings, n probes -/
structure SInv (s0 s : MS) (lim : Int) (j : Nat) (n : Int) : Prop where
  ok : s.Ok
  probe : s.probe = 0
  szlim : s.size ≤ lim
  low : s0.size ≤ s.size
  most : s.bound ≤ s0.bound
  least : lim ≤ s.bound ∨ s0.bound ≤ s.bound
  pow : (s.bound - s.size) * 2 ^ j ≤ 64327
  count : n ≤ 3 * j + s.tries
  pos : 0 ≤ n
  j12 : j ≤ 12
  busy : 0 < s.tries → 16 ≤ s.bound - s.size
  black : s0.black = 0 → s.black = 0

theorem SInv.start {s : MS} {lim : Int} (h : s.Ok) (hp : s.probe = 0) (ht : s.tries = 0) (hl : s.size ≤ lim) : SInv s s lim 0 0 :=
  ⟨h, hp, hl, by omega, by omega, .inr (by omega), by unfold MS.Ok at h; simp; omega, by omega, by omega, by omega, by omega, fun h => h⟩
theorem SInv.lt12 {s0 s : MS} {lim : Int} {j : Nat} {n : Int} (h : SInv s0 s lim j n) (hd : 16 ≤ s.bound - s.size) : j < 12 := by
  rcases Nat.lt_or_ge j 12 with h1 | h1
  · exact h1
  · exfalso
    have h2 : (2 : Int) ^ 12 ≤ 2 ^ j := by
      have := Nat.pow_le_pow_right (n := 2) (by omega) h1
      exact_mod_cast this
    have h3 := h.pow
    have h4 : (16 : Int) * 2 ^ 12 ≤ (s.bound - s.size) * 2 ^ j := Int.mul_le_mul hd h2 (by decide) (by omega)
    have h5 : (2 : Int) ^ 12 = 4096 := by decide
    rw [h5] at h4
    omega
theorem half_pow {d d' : Int} {j : Nat} (h : d * 2 ^ j ≤ 64327) (hd : 2 * d' ≤ d) : d' * 2 ^ (j + 1) ≤ 64327 := by
  have h1 : d' * 2 ^ (j + 1) = 2 * d' * 2 ^ j := by rw [Int.pow_succ, ← Int.mul_assoc, Int.mul_comm (d' * 2 ^ j) 2, ← Int.mul_assoc]
  have h2 : 2 * d' * 2 ^ j ≤ d * 2 ^ j := Int.mul_le_mul_of_nonneg_right hd (Int.le_of_lt (Int.pow_pos (by decide)))
  omega
theorem SInv.came {s0 s : MS} {lim : Int} {j : Nat} {n : Int} (h : SInv s0 s lim j n) (hd : 16 ≤ s.bound - s.size) (hp : (s.size + s.bound + 1) / 2 ≤ lim) :
    SInv s0 (cameS { s with probe := (s.size + s.bound + 1) / 2 } ((s.size + s.bound + 1) / 2)) lim (j + 1) (n + 1) := by
  have okp := ok_probe h.ok hd
  have h12 := h.lt12 hd
  generalize hpp : (s.size + s.bound + 1) / 2 = p at *
  have ho := h.ok
  have ok' := ok_came okp p (by unfold MS.Ok at ho; omega) (by unfold MS.Ok at ho; omega)
  have e : cameS { s with probe := p } p = ⟨p, s.bound, 0, 0, 0⟩ := by
    unfold MS.Ok at ho
    have a1 : s.size < p := by omega
    have a2 : ¬ s.bound ≤ p := by omega
    have a3 : 1200 < p := by omega
    simp [cameS, a1, a2, a3]
  rw [e] at ok' ⊢
  unfold MS.Ok at ho
  refine ⟨ok', rfl, hp, ?_, h.most, h.least, half_pow h.pow ?_, ?_, ?_, ?_, ?_, fun _ => rfl⟩
  · have := h.low; simp only; omega
  · simp only; omega
  · have := h.count; simp only; omega
  · have := h.pos; omega
  · omega
  · simp
theorem SInv.lost {s0 s : MS} {lim : Int} {j : Nat} {n : Int} (h : SInv s0 s lim j n) (hd : 16 ≤ s.bound - s.size) (hp : lim < (s.size + s.bound + 1) / 2) :
    ∃ j', SInv s0 (lostS { s with probe := (s.size + s.bound + 1) / 2 } [(s.size + s.bound + 1) / 2]) lim j' (n + 1) := by
  have okp := ok_probe h.ok hd
  have h12 := h.lt12 hd
  generalize hpp : (s.size + s.bound + 1) / 2 = p at *
  have ho := h.ok
  have ok' := ok_one okp p (by unfold MS.Ok at ho; omega) (by unfold MS.Ok at ho; omega)
  unfold lostS
  simp only [List.foldl]
  unfold MS.Ok at ho
  by_cases ht : s.tries + 1 = 3
  · have e : oneS { s with probe := p } p = { s with probe := 0, bound := p - 1, tries := 0 } := by
      unfold oneS; rw [if_pos rfl]; simp only; rw [if_pos ht]
    rw [e] at ok' ⊢
    refine ⟨j + 1, ok', rfl, h.szlim, h.low, ?_, .inl ?_, half_pow h.pow ?_, ?_, ?_, ?_, ?_, h.black⟩
    · have := h.most; simp only; omega
    · simp only; omega
    · simp only; omega
    · have := h.count; simp only; omega
    · have := h.pos; omega
    · omega
    · simp
  · have e : oneS { s with probe := p } p = { s with probe := 0, tries := s.tries + 1 } := by
      unfold oneS; rw [if_pos rfl]; simp only; rw [if_neg ht]
    rw [e] at ok' ⊢
    refine ⟨j, ok', rfl, h.szlim, h.low, h.most, h.least, h.pow, ?_, ?_, h.j12, fun _ => hd, h.black⟩
    · have := h.count; simp only; omega
    · have := h.pos; omega

def SPost (b : Nat) (s0 : MS) (lim : Int) (w : World) (e : Ending) (w' : World) : Prop :=
  ∃ (s : MS) (j : Nat) (n : Int), e = .returned (.int .i64 n) ∧ SInv s0 s lim j n ∧ s.bound - s.size < 16 ∧ MSt b w' s ∧ w.grownBy w' (some b)

set_option maxHeartbeats 2000000 in
theorem search_any (b : Nat) (s0 : MS) (lim : Int) (w : World) (Hs : MSt b w s0) (ho : s0.Ok) (hp : s0.probe = 0) (ht : s0.tries = 0) (hl : s0.size ≤ lim) :
    Calls Try.prog 9 #[.pointer (some ⟨b, 0, none⟩), .int .i64 lim] w (SPost b s0 lim w) := by
  have HS := Lib.hid (SInv.start ho hp ht hl)
  have HB := Lib.hid Hs
  have hbl : b < w.heap.size := Blk.lt Hs
  clear Hs ho hp ht hl
  go_enter Try.func9, Try.ntmps9
  go_wp2_with fail
  go_loopw [5] (fun i wr => ∃ (s : MS) (j : Nat) (n : Int), i = .int .i64 n ∧ n ≤ 38 ∧ 0 ≤ n ∧ Hid (SInv s0 s lim j n) ∧ Hid (MSt b wr s) ∧ Hid (w.grownBy wr (some b))) (fun i _ => (50 - intOf i).toNat)
  case atStart => exact ⟨s0, 0, 0, rfl, by omega, by omega, HS, HB, Lib.hid (World.grownBy.refl _ _)⟩
  case round =>
    obtain ⟨s, j, n, rfl, hn, hn0, HI, HM, HG⟩ := hrel
    by_cases hd : s.bound - s.size < 16
    · go_wp2_with (go_at_call 12; refine (probe_no b s _ HM.out HI.out.ok.fit (.inl hd)).mono ?_; rintro e w2 ⟨rfl, hm2, hg2⟩; have HM2 := Lib.hid hm2; have HG2 := Lib.hid hg2; clear hm2 hg2)
      go_ret
      exact ⟨s, j, n, rfl, HI.out, hd, HM2.out, only_trans HG.out HG2.out⟩
    · have hI := HI.out
      have ho := hI.ok
      have hpb := hI.probe
      have hnext : n + 1 ≤ 38 := by
        have h1 := hI.lt12 (by omega)
        have h2 := hI.count
        unfold MS.Ok at ho
        omega
      have HO := Lib.hid ho
      have HPB := Lib.hid hpb
      have hc := Lib.hid (SInv.came hI (by omega))
      have hls := Lib.hid (SInv.lost hI (by omega))
      have hpr : 1 ≤ (s.size + s.bound + 1) / 2 ∧ (s.size + s.bound + 1) / 2 ≤ 65527 := by unfold MS.Ok at ho; omega
      have okp := Lib.hid (ok_probe ho (by omega))
      clear hI ho hpb
      go_wp2_with fail
      refine (probe_yes b s _ HM.out HO.out.fit (by omega) HPB.out).mono ?_
      rintro e w2 ⟨rfl, hm2, hg2⟩
      have HM2 := Lib.hid hm2
      have HG2 := Lib.hid (only_trans HG.out hg2)
      clear hm2 hg2 hd HM HG HPB
      generalize (s.size + s.bound + 1) / 2 = p at *
      by_cases hpl : p ≤ lim
      · go_wp2_with fail
        refine (came_yes b _ p _ HM2.out hpr.1 hpr.2).mono ?_
        rintro e w3 ⟨rfl, hm3, hg3⟩
        have HM3 := Lib.hid hm3
        have HG3 := Lib.hid (only_trans HG2.out hg3)
        clear hm3 hg3
        go_wp2_with fail
        go_roundw
        case rel => exact ⟨_, j + 1, n + 1, rfl, by omega, by omega, Lib.hid (hc.out hpl), HM3, HG3⟩
        case measure => simp [intOf]; omega
      · have hb2 : b < w2.heap.size := by have := HG2.out.size; omega
        go_wp2_with fail
        have hm3 := HM2.out.alloc (.cells #[.int .i64 p] 3)
        have hrd : RdI b (w2.alloc (.cells #[.int .i64 p] 3)) (some ⟨w2.heap.size, 0, none⟩) [p] := rdI_one (by go_simp) (by omega)
        refine (lost_yes b _ _ _ [p] _ hm3 okp.out hrd (by simp) (by simp [inB]; omega)).mono ?_
        rintro e w3 ⟨rfl, hm3, hg3⟩
        have HM3 := Lib.hid hm3
        have HG3 := Lib.hid (only_trans (only_alloc HG2.out _) hg3)
        clear hm3 hg3
        go_wp2_with fail
        obtain ⟨j', hj'⟩ := hls.out (by omega)
        go_roundw
        case rel => exact ⟨_, j', n + 1, rfl, by omega, by omega, Lib.hid hj', HM3, HG3⟩
        case measure => simp [intOf]; omega
end Go.Proofs.Ytfhclafkmaojoaa
