/- Layer 26: the reference's Same, of two cells that are one. Conditions: as each theorem states them. -/
import Derived.Test.YtnagpaaiaaaamaaD10
namespace Go.Proofs.Ytnagpaaiaaaamaa
open Go.RowKit
theorem conv_n {B : Nat} {w : World} {A : Option Addr} {xs : List Int} {n : Nat} (hr : Rd B .u8 w A xs) (hn : xs.length = n) (c : Nat) : (convert 29 9 (.slice A n c)).run Try.prog w = .ok (.string (strOfNums xs)) w := by
  subst hn; exact conv_rd elC Try.underlying9 hr c
theorem str_same (X : List Int) : ((strOfNums X).toList == (strOfNums X).toList) = true := by simp
theorem bsT_get {ts ts2 : List Tx} (h : bsT ts = bsT ts2) {k : Nat} (hk : k < ts.length) : k < ts2.length ∧ (ts.getD k Tx.none).xs = (ts2.getD k Tx.none).xs := by
  have hl := congrArg List.length h
  rw [bsT_len, bsT_len] at hl
  have h1 := bsT_take hk
  have h2 := bsT_take (show k < ts2.length by omega)
  have ht : ∀ (l : List Tx) (j : Nat), bsT (l.take j) = (bsT l).take j := fun l j => by unfold bsT; rw [List.map_take]
  rw [ht, ht, h] at h1
  rw [ht, ht] at h2
  rw [h1] at h2
  have := List.append_cancel_left h2
  exact ⟨by omega, by injection this⟩
set_option maxRecDepth 100000 in
set_option maxHeartbeats 4000000 in
theorem csame_yes (ep ow nx sn : Int) (A : Option Addr) (n cap : Nat) (ts : List Tx) (A2 : Option Addr) (n2 cap2 : Nat) (ts2 : List Tx) (w : World) (hc : CIn w.heap.size w A n cap ts) (hc2 : CIn w.heap.size w A2 n2 cap2 ts2) (hb : bsT ts = bsT ts2) (hn0 : n ≤ 140737488355328) :
    Calls Try.prog 18 #[.agg #[.int .u64 ep, .int .u8 ow, .int .u64 nx, .int .u64 sn, .slice A n cap], .agg #[.int .u64 ep, .int .u8 ow, .int .u64 nx, .int .u64 sn, .slice A2 n2 cap2]] w fun e w' => e = .returned (.bool true) ∧ Below w.heap.size w w' := by
  have hl := congrArg List.length hb
  rw [bsT_len, bsT_len, hc.len, hc2.len] at hl
  subst hl
  have HB := Lib.hid hb
  have HN := Lib.hid hc.len
  have B0 := Lib.hid (((Below.refl w.heap.size w).alloc (Nat.le_refl _) (.cells #[.int .u64 ep, .int .u8 ow, .int .u64 nx, .int .u64 sn, .slice A n cap] 25)).alloc (by simp) (.cells #[.int .u64 ep, .int .u8 ow, .int .u64 nx, .int .u64 sn, .slice A2 n cap2] 25))
  have Z1 : Hid (Blk ((w.alloc (.cells #[.int .u64 ep, .int .u8 ow, .int .u64 nx, .int .u64 sn, .slice A n cap] 25)).alloc (.cells #[.int .u64 ep, .int .u8 ow, .int .u64 nx, .int .u64 sn, .slice A2 n cap2] 25)) w.heap.size 25 #[.int .u64 ep, .int .u8 ow, .int .u64 nx, .int .u64 sn, .slice A n cap]) := Lib.hid ((Blk.new _ _ _).alloc _)
  have Z2 : Hid (Blk ((w.alloc (.cells #[.int .u64 ep, .int .u8 ow, .int .u64 nx, .int .u64 sn, .slice A n cap] 25)).alloc (.cells #[.int .u64 ep, .int .u8 ow, .int .u64 nx, .int .u64 sn, .slice A2 n cap2] 25)) (w.heap.size + 1) 25 #[.int .u64 ep, .int .u8 ow, .int .u64 nx, .int .u64 sn, .slice A2 n cap2]) := Lib.hid (blk_new_at (by simp))
  have T1 := Lib.hid (hc.txs.below B0.out (Nat.le_refl _))
  have T2 := Lib.hid (hc2.txs.below B0.out (Nat.le_refl _))
  have HN2 := Lib.hid hc2.len
  clear hc hc2 hb
  go_enter Try.func18, Try.ntmps18
  go_wp2_with fail
  obtain ⟨g, hg⟩ : ∃ g, w.heap.size = g := ⟨_, rfl⟩
  have HG := Lib.hid hg
  generalize (w.alloc (.cells #[.int .u64 ep, .int .u8 ow, .int .u64 nx, .int .u64 sn, .slice A n cap] 25)).alloc (.cells #[.int .u64 ep, .int .u8 ow, .int .u64 nx, .int .u64 sn, .slice A2 n cap2] 25) = w1 at *
  rw [hg] at Z1 Z2 T1 T2 ⊢
  clear hg
  have e4 := (cb_cells Z1.out).2.2.2.2
  have e5 := (cb_cells Z2.out).2.2.2.2
  go_loopw [5, 6] (fun ok i wr => ∃ k j : Nat, k ≤ n ∧ i = .int .i64 k ∧ ok = .bool true ∧ wr = w1.drewN j) (fun _ i _ => n - (intOf i).toNat)
  case atStart => exact ⟨0, 0, by omega, rfl, rfl, rfl⟩
  case round =>
    obtain ⟨k, j, hk, rfl, rfl, rfl⟩ := hrel
    by_cases hlt : k < n
    · obtain ⟨pa, hA, p1, p2, p3, p4⟩ := T1.out k (by rw [HN.out]; exact hlt)
      obtain ⟨pb, hA2, q1, q2, q3, q4⟩ := T2.out k (by rw [HN2.out]; exact hlt)
      obtain ⟨hk2, hxs⟩ := bsT_get HB.out (show k < ts.length by rw [HN.out]; exact hlt)
      generalize ts.getD k Tx.none = t at *
      generalize ts2.getD k Tx.none = t2 at *
      obtain ⟨tA, tc, tx⟩ := t
      obtain ⟨uA, uc, ux⟩ := t2
      simp only at p2 p3 q2 q3 hxs
      subst hxs
      obtain ⟨l, hl⟩ : ∃ l, tx.length = l := ⟨_, rfl⟩
      rw [hl] at p2 q2
      have v1 := fun m : Nat => conv_n (w := w1.drewN m) p3 hl tc
      have v2 := fun m : Nat => conv_n (w := w1.drewN m) q3 hl uc
      have ss := str_same tx
      subst hA; subst hA2
      clear p3 q3 hl hk2
      go_wp2_with fail
      go_quiet (fail)
      go_wp2_with fail
      go_roundw
      case rel => exact ⟨k + 1, _, by omega, by go_num, rfl, by first | rfl | rw [World.drewN_drewN]⟩
      case measure => simp [intOf]; omega
    · go_wp2_with fail
      go_ret
      exact ⟨rfl, below_drewN (by exact B0.out) j⟩
end Go.Proofs.Ytnagpaaiaaaamaa
