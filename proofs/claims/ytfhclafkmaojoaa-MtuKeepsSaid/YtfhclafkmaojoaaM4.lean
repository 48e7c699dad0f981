/- Contracts of the methods of mtu.Search (layer 36), Lost and Again; the invariant. Conditions: as each theorem states them. -/
import Derived.Test.YtfhclafkmaojoaaM2
import Derived.Test.YtfhclafkmaojoaaM3
namespace Go.Proofs.Ytfhclafkmaojoaa
open Go.RowKit

/-- the invariant of a search -/
def MS.Ok (s : MS) : Prop := 1200 ≤ s.size ∧ s.size ≤ s.bound ∧ s.bound ≤ 65527 ∧ 0 ≤ s.probe ∧ s.probe ≤ 65527 ∧ 0 ≤ s.tries ∧ s.tries ≤ 2 ∧ 0 ≤ s.black ∧ s.black ≤ 5 ∧ (s.probe ≠ 0 → 0 < s.tries → s.size < s.probe)
theorem MS.Ok.fit {s : MS} (h : s.Ok) : s.Fit := by unfold MS.Ok at h; unfold MS.Fit; omega
theorem ok_one {s : MS} (h : s.Ok) (n : Int) (h1 : 1 ≤ n) (h2 : n ≤ 65527) : (oneS s n).Ok := by
  unfold MS.Ok at *; unfold oneS
  by_cases g1 : n = s.probe
  · rw [if_pos g1]; split <;> simp <;> omega
  · rw [if_neg g1]
    by_cases g2 : n ≤ 1200 ∨ s.size < n
    · rw [if_pos g2]; omega
    · rw [if_neg g2]; split <;> simp <;> omega
theorem ok_came {s : MS} (h : s.Ok) (n : Int) (h1 : 1 ≤ n) (h2 : n ≤ 65527) : (cameS s n).Ok := by
  unfold MS.Ok at *; unfold cameS
  by_cases g1 : n = s.probe <;> by_cases g2 : s.size < n <;> by_cases g3 : s.bound ≤ n <;> by_cases g4 : 1200 < n <;> simp only [g1, g2, g3, g4, if_true, if_false] <;> omega
theorem ok_probe {s : MS} (h : s.Ok) (h1 : 16 ≤ s.bound - s.size) : ({ s with probe := (s.size + s.bound + 1) / 2 } : MS).Ok := by
  unfold MS.Ok at *; simp; omega

/-- a slice of ints off block b -/
def RdI (b : Nat) (w : World) (A : Option Addr) (zs : List Int) : Prop := ∀ k, k < zs.length → ∃ ad, A = some ad ∧ ad.block ≠ b ∧ w.cell? (ad.add k) = some (.int .i64 (zs.getD k 0))
def inB (n : Int) : Bool := decide (1 ≤ n ∧ n ≤ 65527)
def lostS (s : MS) (zs : List Int) : MS := zs.foldl oneS s
theorem lostS_snoc (s : MS) (zs : List Int) (k : Nat) (h : k < zs.length) : lostS s (zs.take (k + 1)) = oneS (lostS s (zs.take k)) (zs.getD k 0) := by
  unfold lostS
  rw [List.take_succ_eq_append_getElem h, List.foldl_append]
  simp [h]
theorem ok_lost {s : MS} (h : s.Ok) (zs : List Int) (hz : ∀ n ∈ zs, inB n = true) : (lostS s zs).Ok := by
  unfold lostS
  induction zs generalizing s with
  | nil => exact h
  | cons n l ih =>
    have hn : 1 ≤ n ∧ n ≤ 65527 := by have := hz n (by simp); simpa [inB] using this
    exact ih (ok_one h n hn.1 hn.2) (fun m hm => hz m (by simp [hm]))

set_option maxHeartbeats 1000000 in
theorem lost_no (b : Nat) (s : MS) (A : Option Addr) (cap : Nat) (zs : List Int) (w : World) (Hs : MSt b w s) (hr : RdI b w A zs) (hl : zs.length ≤ 9223372036854775807) (hz : ∃ n ∈ zs, inB n = false) :
    Calls Try.prog 15 #[.pointer (some ⟨b, 0, none⟩), .slice A zs.length cap] w (MPost b (.int .i64 2) s w) := by
  have HZ := Lib.hid hz
  have HR := Lib.hid hr
  clear hz hr
  go_enter Try.func15, Try.ntmps15
  go_wp2_with fail
  go_loop [13] (fun i => ∃ k : Nat, k ≤ zs.length ∧ i = .int .i64 k ∧ Hid (∀ j, j < k → inB (zs.getD j 0) = true)) (fun i => zs.length - (intOf i).toNat)
  case atStart => exact ⟨0, by omega, rfl, Lib.hid (by intro j hj; omega)⟩
  case round =>
    obtain ⟨k, hk, rfl, HJ⟩ := hrel
    by_cases hlt : k < zs.length
    · obtain ⟨ad, rfl, hne, hc⟩ := HR.out k hlt
      obtain ⟨n, hn⟩ : ∃ n, n = zs.getD k 0 := ⟨_, rfl⟩
      rw [← hn] at hc
      have HN := Lib.hid hn
      clear hn
      by_cases hin : 1 ≤ n ∧ n ≤ 65527
      · have hd : decide (1 ≤ n ∧ n ≤ 65527) = true := by simp; omega
        go_wp2_with (go_at_call 18; refine (may_any _ _ _).mono ?_; rintro e w' ⟨rfl, rfl⟩)
        go_round
        case rel => exact ⟨k + 1, by omega, by go_num, Lib.hid (by
          intro j hj
          by_cases e : j = k
          · rw [e, ← HN.out]; exact hd
          · exact HJ.out j (by omega))⟩
        case measure => simp [intOf]; omega
      · have hd : decide (1 ≤ n ∧ n ≤ 65527) = false := by simp; omega
        go_wp2_with (go_at_call 18; refine (may_any _ _ _).mono ?_; rintro e w' ⟨rfl, rfl⟩)
        go_ret
        exact ⟨rfl, Hs, World.grownBy.refl _ _⟩
    · exfalso
      obtain ⟨n, hn, hb⟩ := HZ.out
      obtain ⟨j, hj, rfl⟩ := List.getElem_of_mem hn
      have := HJ.out j (by omega)
      rw [List.getD_eq_getElem?_getD, List.getElem?_eq_getElem hj] at this
      simp [hb] at this

set_option maxHeartbeats 1000000 in
theorem lost_yes (b : Nat) (s : MS) (A : Option Addr) (cap : Nat) (zs : List Int) (w : World) (Hs : MSt b w s) (ho : s.Ok) (hr : RdI b w A zs) (hl : zs.length ≤ 9223372036854775807) (hz : ∀ n ∈ zs, inB n = true) :
    Calls Try.prog 15 #[.pointer (some ⟨b, 0, none⟩), .slice A zs.length cap] w (MPost b (.int .i64 0) (lostS s zs) w) := by
  have HZ := Lib.hid hz
  have HR := Lib.hid hr
  clear hz hr
  have hin : ∀ k, k < zs.length → 1 ≤ zs.getD k 0 ∧ zs.getD k 0 ≤ 65527 := by
    intro k hk
    have := HZ.out (zs.getD k 0) (by rw [List.getD_eq_getElem?_getD, List.getElem?_eq_getElem hk]; simp)
    simpa [inB] using this
  have HIN := Lib.hid hin
  clear hin
  go_enter Try.func15, Try.ntmps15
  go_wp2_with fail
  go_loop [13] (fun i => ∃ k : Nat, k ≤ zs.length ∧ i = .int .i64 k) (fun i => zs.length - (intOf i).toNat)
  case atStart => exact ⟨0, by omega, rfl⟩
  case round =>
    obtain ⟨k, hk, rfl⟩ := hrel
    by_cases hlt : k < zs.length
    · obtain ⟨ad, rfl, hne, hc⟩ := HR.out k hlt
      have hb := HIN.out k hlt
      obtain ⟨n, hn⟩ : ∃ n, n = zs.getD k 0 := ⟨_, rfl⟩
      rw [← hn] at hc hb
      clear hn
      have hd : decide (1 ≤ n ∧ n ≤ 65527) = true := by simp; omega
      go_wp2_with (go_at_call 18; refine (may_any _ _ _).mono ?_; rintro e w' ⟨rfl, rfl⟩)
      go_round
      case rel => exact ⟨k + 1, by omega, by go_num⟩
      case measure => simp [intOf]; omega
    · go_wp2_with fail
      go_loopw [23] (fun i wr => ∃ k : Nat, k ≤ zs.length ∧ i = .int .i64 k ∧ Hid (MSt b wr (lostS s (zs.take k))) ∧ Hid (w.grownBy wr (some b))) (fun i _ => zs.length - (intOf i).toNat)
      case atStart => exact ⟨0, by omega, rfl, Lib.hid Hs, Lib.hid (World.grownBy.refl _ _)⟩
      case round =>
        obtain ⟨k, hk, rfl, HM, HG⟩ := hrel
        by_cases hlt : k < zs.length
        · obtain ⟨ad, rfl, hne, hc⟩ := HR.out k hlt
          have hb := HIN.out k hlt
          have hc' := only_cell HG.out hc (by rw [block_of_add]; exact hne)
          have hok : Hid (lostS s (zs.take k)).Ok := Lib.hid (ok_lost ho _ (fun n hn => HZ.out n (List.mem_of_mem_take hn)))
          have hsn := Lib.hid (lostS_snoc s zs k hlt)
          obtain ⟨n, hn⟩ : ∃ n, n = zs.getD k 0 := ⟨_, rfl⟩
          rw [← hn] at hc' hb hsn
          clear hn hc
          go_wp2_with (go_at_call 19; refine (one_any b _ n _ HM.out hok.out.fit hb.1 hb.2).mono ?_; rintro e w2 ⟨rfl, hm2, hg2⟩)
          have HM2 := Lib.hid hm2
          have HG2 := Lib.hid hg2
          clear hm2 hg2
          go_wp2_with fail
          go_roundw
          case rel => exact ⟨k + 1, by omega, by go_num, Lib.hid (by rw [hsn.out]; exact HM2.out), Lib.hid (only_trans HG.out HG2.out)⟩
          case measure => simp [intOf]; omega
        · go_wp2_with fail
          go_ret
          refine ⟨rfl, ?_, HG.out⟩
          have := HM.out
          rwa [List.take_of_length_le (by omega)] at this

end Go.Proofs.Ytfhclafkmaojoaa
