/- Layer 5: contracts. Conditions: as each theorem states them. -/
import Derived.Test.YthpacdondnenmaaRows
import Derived.WalkKit
import Derived.Outline
import Derived.BigQuiet
import Derived.Lib.Hide
import Derived.Laws.EntriesVeiled
/- Contracts of the Go functions that the laws of layer 5 (pnum) reach, and plain lemmas on them. Conditions: as each theorem states them. -/
namespace Go.Proofs.Ythpacdondnenmaa.Pn
open Go.RowKit

def farS (n m : Int) : Int := if n ≤ m then m - n else n - m
theorem ret_int {k : IntKind} {a b : Int} (h : a = b) : Ending.returned (.int k a) = .returned (.int k b) := by rw [h]

theorem far_any (n m : Int) (a : Addr) (w : World) (hn : 0 ≤ n) (hn' : n < 18446744073709551616) (hm : 0 ≤ m) (hm' : m < 18446744073709551616)
    (hc : w.cell? a = some (.int .u64 m)) :
    Calls Try.prog 41 #[.int .u64 n, .pointer (some a)] w fun e w' => e = .returned (.int .u64 (farS n m)) ∧ w' = w := by
  by_cases h : n ≤ m
  all_goals go_enter Try.func41, Try.ntmps41
  all_goals go_wp2
  all_goals go_ret
  all_goals exact ⟨ret_int (by unfold farS; split <;> omega), rfl⟩

def bytesW (w : Int) : Int := if w < 128 then 1 else if w < 32768 then 2 else if w < 8388608 then 3 else 4
def bytesS (full acked : Int) (has : Bool) : Int := bytesW (if has then (if full ≤ acked then 0 else full - acked) else full + 1)

theorem bytesW1 (x : Int) (h : x < 128) : bytesW x = 1 := by unfold bytesW; rw [if_pos h]
theorem bytesW2 (x : Int) (h' : 128 ≤ x) (h : x < 32768) : bytesW x = 2 := by unfold bytesW; rw [if_neg (by omega), if_pos h]
theorem bytesW3 (x : Int) (h' : 32768 ≤ x) (h : x < 8388608) : bytesW x = 3 := by unfold bytesW; rw [if_neg (by omega), if_neg (by omega), if_pos h]
theorem bytesW4 (x : Int) (h' : 8388608 ≤ x) : bytesW x = 4 := by unfold bytesW; rw [if_neg (by omega), if_neg (by omega), if_neg (by omega)]

end Go.Proofs.Ythpacdondnenmaa.Pn
/- Contracts of the Go functions that the laws of layer 5 (pnum) reach, and plain lemmas on them. Conditions: as each theorem states them. -/
namespace Go.Proofs.Ythpacdondnenmaa.Pn
open Go.RowKit

theorem trunc_in (full : Int) (n : Int) (w : World) (h0 : 0 ≤ full) (h1 : full < 18446744073709551616) (hn : 1 ≤ n) (hn' : n ≤ 4) :
    Calls Try.prog 15 #[.int .u64 full, .int .i64 n] w fun e w' => e = .returned (.int .u64 (full % 256 ^ n.toNat)) ∧ w = w' := by
  obtain rfl | rfl | rfl | rfl : n = 1 ∨ n = 2 ∨ n = 3 ∨ n = 4 := by omega
  all_goals go_enter Try.func15, Try.ntmps15
  all_goals go_wp2
  all_goals go_ret
  all_goals exact ⟨rfl, rfl⟩
theorem trunc_out (full : Int) (n : Int) (w : World) (hn : n < 1 ∨ 4 < n) :
    Calls Try.prog 15 #[.int .u64 full, .int .i64 n] w fun e w' => e = .returned (.int .u64 0) ∧ w = w' := by
  rcases hn with hn | hn
  all_goals go_enter Try.func15, Try.ntmps15
  all_goals go_wp2
  all_goals go_ret
  all_goals exact ⟨rfl, rfl⟩
/-- what is expanded, W: the window -/
def lowS (nx t W : Int) : Int := nx - nx % W + t % W
def expandS (next t W : Int) : Int :=
  let nx := if next ≤ 4611686018427387903 then next else 4611686018427387903
  let here := lowS nx t W
  let b1 := if here + W ≤ 4611686018427387903 ∧ farS (here + W) nx ≤ farS here nx then here + W else here
  if W ≤ here ∧ here - W ≤ 4611686018427387903 ∧ (4611686018427387903 < b1 ∨ farS (here - W) nx < farS b1 nx) then here - W else b1

def TryPost (best : Addr) (n : Int) (b : Prop) (w : World) (e : Ending) (w' : World) : Prop := e = .returned (.tuple #[]) ∧ ((b ∧ ∃ k, w' = (w.setCell best (.int .u64 n)).drewN k) ∨ (¬ b ∧ ∃ k, w' = w.drewN k))

def tryC (n b m : Int) (may : Bool) : Prop := may = true ∧ n ≤ 4611686018427387903 ∧ (4611686018427387903 < b ∨ farS n m < farS b m ∨ (farS n m = farS b m ∧ b < n))
set_option maxHeartbeats 2000000 in
theorem try_any (n b m : Int) (may : Bool) (ab af an : Addr) (w : World) (hn : 0 ≤ n) (hn' : n < 18446744073709551616) (hm : 0 ≤ m) (hm' : m < 18446744073709551616) (hb0 : 0 ≤ b) (hb' : b < 18446744073709551616)
    (hc : w.cell? ab = some (.int .u64 b)) (hfz : w.frozen? ab = false) (hcn : w.cell? an = some (.int .u64 m)) (hcf : w.cell? af = some (.func (.func 41) #[] #[.pointer (some an)])) :
    Calls Try.prog 42 #[.int .u64 n, .bool may, .pointer (some ab), .pointer (some af)] w
      (TryPost ab n (tryC n b m may) w) := by
  have hfn : farS n m = farS n m := rfl
  have b1 : 0 ≤ farS n m ∧ farS n m < 18446744073709551616 := by unfold farS; split <;> omega
  have b2 : 0 ≤ farS b m ∧ farS b m < 18446744073709551616 := by unfold farS; split <;> omega
  clear hfn
  cases may
  · go_enter Try.func42, Try.ntmps42
    go_wp2
    go_quiet (fail)
    go_wp2
    refine bodyPost_end (results_none rfl _ _ _) rfl ⟨rfl, .inr ⟨by simp [tryC], _, rfl⟩⟩
  by_cases h1 : n ≤ 4611686018427387903
  case neg =>
    have hd : decide (n ≤ 4611686018427387903) = false := by simp; omega
    go_enter Try.func42, Try.ntmps42
    go_wp2
    go_quiet (fail)
    go_wp2
    refine bodyPost_end (results_none rfl _ _ _) rfl ⟨rfl, .inr ⟨by unfold tryC; omega, _, rfl⟩⟩
  by_cases h2 : 4611686018427387903 < b
  · go_enter Try.func42, Try.ntmps42
    go_wp2
    go_quiet (fail)
    go_wp2
    refine bodyPost_end (results_none rfl _ _ _) rfl ⟨rfl, .inl ⟨⟨rfl, h1, .inl h2⟩, _, rfl⟩⟩
  have hd2 : decide (4611686018427387903 < b) = false := by simp; omega
  by_cases h3 : farS n m < farS b m
  · go_enter Try.func42, Try.ntmps42
    go_wp2
    go_quiet ((go_at_call 41; exact Calls.quiet_of_same (far_any _ _ _ _ (by omega) (by omega) (by omega) (by omega) hcn)))
    go_wp2
    refine bodyPost_end (results_none rfl _ _ _) rfl ⟨rfl, .inl ⟨⟨rfl, h1, .inr (.inl h3)⟩, _, rfl⟩⟩
  have hd3 : decide (farS n m < farS b m) = false := by simp; omega
  by_cases h4 : farS n m = farS b m
  case neg =>
    have hd4 : (farS n m == farS b m) = false := by simp [h4]
    have H4 := Lib.hid h4
    clear h4
    go_enter Try.func42, Try.ntmps42
    go_wp2
    go_quiet ((go_at_call 41; exact Calls.quiet_of_same (far_any _ _ _ _ (by omega) (by omega) (by omega) (by omega) hcn)))
    go_wp2
    refine bodyPost_end (results_none rfl _ _ _) rfl ⟨rfl, .inr ⟨?_, _, rfl⟩⟩
    have := H4.out
    unfold tryC
    omega
  have hd4 : (farS n m == farS b m) = true := by simp [h4]
  have H4 := Lib.hid h4
  clear h4 h3
  by_cases h5 : b < n
  · go_enter Try.func42, Try.ntmps42
    go_wp2
    go_quiet ((go_at_call 41; exact Calls.quiet_of_same (far_any _ _ _ _ (by omega) (by omega) (by omega) (by omega) hcn)))
    go_wp2
    refine bodyPost_end (results_none rfl _ _ _) rfl ⟨rfl, .inl ⟨⟨rfl, h1, .inr (.inr ⟨H4.out, h5⟩)⟩, _, rfl⟩⟩
  · have hd5 : decide (b < n) = false := by simp; omega
    go_enter Try.func42, Try.ntmps42
    go_wp2
    go_quiet ((go_at_call 41; exact Calls.quiet_of_same (far_any _ _ _ _ (by omega) (by omega) (by omega) (by omega) hcn)))
    go_wp2
    refine bodyPost_end (results_none rfl _ _ _) rfl ⟨rfl, .inr ⟨?_, _, rfl⟩⟩
    have := H4.out
    unfold tryC
    omega

end Go.Proofs.Ythpacdondnenmaa.Pn
/- Contracts of the Go functions that the laws of layer 5 (pnum) reach, and plain lemmas on them. Conditions: as each theorem states them. -/
namespace Go.Proofs.Ythpacdondnenmaa.Pn
open Go.RowKit

theorem expand_fin (next t W nx h b1 d r : Int) (h0 : 0 ≤ next) (hW : W = 256 ∨ W = 65536 ∨ W = 16777216 ∨ W = 4294967296) (hnx : nx = if next ≤ 4611686018427387903 then next else 4611686018427387903)
    (hh : h = nx - nx % W + t % W)
    (h1 : (tryC (h + W) h nx true ∧ b1 = h + W) ∨ (¬ tryC (h + W) h nx true ∧ b1 = h))
    (hd : W ≤ h → d = h - W) (h2 : (tryC d b1 nx (decide (W ≤ h)) ∧ r = d) ∨ (¬ tryC d b1 nx (decide (W ≤ h)) ∧ r = b1)) : r = expandS next t W := by
  have hb : 0 ≤ nx ∧ nx ≤ 4611686018427387903 := by rw [hnx]; split <;> omega
  unfold expandS
  simp only [← hnx]
  have hl : lowS nx t W = h := by unfold lowS; exact hh.symm
  rw [hl]
  clear hl hnx
  have hm : h % W = t % W ∧ nx - nx % W ≤ h ∧ h < nx - nx % W + W ∧ 0 ≤ nx % W ∧ nx % W < W ∧ 0 ≤ h := by
    rcases hW with rfl | rfl | rfl | rfl <;> omega
  obtain ⟨_, m1, m2, m3, m4, m5⟩ := hm
  have hw : 256 ≤ W ∧ W ≤ 4294967296 := by omega
  clear hW hh
  generalize nx % W = z at *
  have b1e : b1 = if h + W ≤ 4611686018427387903 ∧ farS (h + W) nx ≤ farS h nx then h + W else h := by
    rcases h1 with ⟨⟨_, c1, c2⟩, e⟩ | ⟨c, e⟩
    · rw [e, if_pos]
      refine ⟨c1, ?_⟩
      rcases c2 with c2 | c2 | c2 <;> omega
    · rw [e]
      unfold tryC at c
      by_cases hc : h + W ≤ 4611686018427387903 ∧ farS (h + W) nx ≤ farS h nx
      · exfalso
        apply c
        refine ⟨rfl, hc.1, ?_⟩
        by_cases hq : farS (h + W) nx < farS h nx
        · exact .inr (.inl hq)
        · exact .inr (.inr ⟨by omega, by omega⟩)
      · rw [if_neg hc]
  rw [← b1e]
  have hb1 : h ≤ b1 := by rw [b1e]; split <;> omega
  rcases h2 with ⟨⟨c0, c1, c2⟩, e⟩ | ⟨c, e⟩
  · obtain rfl := hd (by simpa using c0)
    rw [e, if_pos]
    refine ⟨by simpa using c0, c1, ?_⟩
    rcases c2 with c2 | c2 | c2
    · exact .inl c2
    · exact .inr c2
    · omega
  · rw [e, if_neg]
    rintro ⟨d1, d2, d3⟩
    obtain rfl := hd d1
    exact c ⟨by simpa using d1, d2, by rcases d3 with d3 | d3; exact .inl d3; exact .inr (.inl d3)⟩

theorem below_drewN {B : Nat} {a w : World} (h : Below B a w) (n : Nat) : Below B a (w.drewN n) := ⟨h.os, h.tape, h.output, h.size, h.block⟩
theorem wrapU_range (x : Int) : 0 ≤ IntKind.u64.wrap x ∧ IntKind.u64.wrap x < 18446744073709551616 := by
  rw [IntKind.wrap_u64]; omega
theorem wrapU_in (x : Int) (h : 0 ≤ x) (h' : x < 18446744073709551616) : IntKind.u64.wrap x = x := by
  rw [IntKind.wrap_u64]; omega

set_option maxHeartbeats 2000000 in
theorem expand_1_0 (next t : Int) (w : World) (h0 : 0 ≤ next) (h1 : next < 18446744073709551616) (ht0 : 0 ≤ t) (ht1 : t < 18446744073709551616) (hx : next ≤ 4611686018427387903) :
    Calls Try.prog 14 #[.int .u64 next, .int .u64 t, .int .i64 1] w fun e w' => e = .returned (.int .u64 (expandS next t 256)) ∧ Below w.heap.size w w' := by
  have hfin := Lib.hid (fun b1 d r => expand_fin next t 256 next (next - next % 256 + t % 256) b1 d r h0 (by omega) (by split <;> omega) (by omega))
  obtain ⟨d, hd⟩ : ∃ d, d = IntKind.u64.wrap ((next - next % 256 + t % 256) - 256) := ⟨_, rfl⟩
  have hr := wrapU_range ((next - next % 256 + t % 256) - 256)
  rw [← hd] at hr
  have hdd := Lib.hid (fun h : 256 ≤ (next - next % 256 + t % 256) => wrapU_in ((next - next % 256 + t % 256) - 256) (by omega) (by omega))
  rw [← hd] at hdd
  have HD := Lib.hid hd
  clear hd
  go_enter Try.func14, Try.ntmps14
  go_wp2_with fail
  go_region
  go_wp2_with fail
  refine (try_any _ (next - next % 256 + t % 256) next true _ _ ⟨w.heap.size, 0, none⟩ _ (by omega) (by omega) (by omega) (by omega) (by omega) (by omega) (by go_simp) (by go_simp) (by go_simp) (by go_simp)).mono ?_
  rintro e w' ⟨rfl, ⟨hc, k, rfl⟩ | ⟨hc, k, rfl⟩⟩
  · have Hc := Lib.hid hc
    clear hc
    go_wp2_with fail
    rw [← HD.out]
    refine (try_any d ((next - next % 256 + t % 256) + 256) next _ _ _ ⟨w.heap.size, 0, none⟩ _ (by omega) (by omega) (by omega) (by omega) (by omega) (by omega) (by go_simp) (by go_simp) (by go_simp) (by go_simp)).mono ?_
    rintro e w' ⟨rfl, ⟨hc2, k2, rfl⟩ | ⟨hc2, k2, rfl⟩⟩
    · have Hc2 := Lib.hid hc2
      clear hc2
      go_wp2_with fail
      go_ret
      refine ⟨ret_int (hfin.out ((next - next % 256 + t % 256) + 256) d d (.inl ⟨Hc.out, rfl⟩) hdd.out (.inl ⟨Hc2.out, rfl⟩)), ?_⟩
      clear hfin hdd HD Hc Hc2
      (repeat' (first | exact Below.refl _ _ | apply below_drewN | apply Below.drew | apply Below.alloc | apply Below.setCell)) <;> (simp <;> omega)
    · have Hc2 := Lib.hid hc2
      clear hc2
      go_wp2_with fail
      go_ret
      refine ⟨ret_int (hfin.out ((next - next % 256 + t % 256) + 256) d ((next - next % 256 + t % 256) + 256) (.inl ⟨Hc.out, rfl⟩) hdd.out (.inr ⟨Hc2.out, rfl⟩)), ?_⟩
      clear hfin hdd HD Hc Hc2
      (repeat' (first | exact Below.refl _ _ | apply below_drewN | apply Below.drew | apply Below.alloc | apply Below.setCell)) <;> (simp <;> omega)
  · have Hc := Lib.hid hc
    clear hc
    go_wp2_with fail
    rw [← HD.out]
    refine (try_any d ((next - next % 256 + t % 256)) next _ _ _ ⟨w.heap.size, 0, none⟩ _ (by omega) (by omega) (by omega) (by omega) (by omega) (by omega) (by go_simp) (by go_simp) (by go_simp) (by go_simp)).mono ?_
    rintro e w' ⟨rfl, ⟨hc2, k2, rfl⟩ | ⟨hc2, k2, rfl⟩⟩
    · have Hc2 := Lib.hid hc2
      clear hc2
      go_wp2_with fail
      go_ret
      refine ⟨ret_int (hfin.out ((next - next % 256 + t % 256)) d d (.inr ⟨Hc.out, rfl⟩) hdd.out (.inl ⟨Hc2.out, rfl⟩)), ?_⟩
      clear hfin hdd HD Hc Hc2
      (repeat' (first | exact Below.refl _ _ | apply below_drewN | apply Below.drew | apply Below.alloc | apply Below.setCell)) <;> (simp <;> omega)
    · have Hc2 := Lib.hid hc2
      clear hc2
      go_wp2_with fail
      go_ret
      refine ⟨ret_int (hfin.out ((next - next % 256 + t % 256)) d ((next - next % 256 + t % 256)) (.inr ⟨Hc.out, rfl⟩) hdd.out (.inr ⟨Hc2.out, rfl⟩)), ?_⟩
      clear hfin hdd HD Hc Hc2
      (repeat' (first | exact Below.refl _ _ | apply below_drewN | apply Below.drew | apply Below.alloc | apply Below.setCell)) <;> (simp <;> omega)

set_option maxHeartbeats 2000000 in
theorem expand_1_1 (next t : Int) (w : World) (h0 : 0 ≤ next) (h1 : next < 18446744073709551616) (ht0 : 0 ≤ t) (ht1 : t < 18446744073709551616) (hx : 4611686018427387903 < next) :
    Calls Try.prog 14 #[.int .u64 next, .int .u64 t, .int .i64 1] w fun e w' => e = .returned (.int .u64 (expandS next t 256)) ∧ Below w.heap.size w w' := by
  have hfin := Lib.hid (fun b1 d r => expand_fin next t 256 4611686018427387903 (4611686018427387648 + t % 256) b1 d r h0 (by omega) (by split <;> omega) (by omega))
  obtain ⟨d, hd⟩ : ∃ d, d = (4611686018427387648 + t % 256) - 256 := ⟨_, rfl⟩
  have hr : 0 ≤ d ∧ d < 18446744073709551616 := by omega
  have hdd := Lib.hid (fun _ : 256 ≤ (4611686018427387648 + t % 256) => hd)
  have HD := Lib.hid hd
  clear hd
  go_enter Try.func14, Try.ntmps14
  go_wp2_with fail
  go_region
  go_wp2_with fail
  refine (try_any _ (4611686018427387648 + t % 256) 4611686018427387903 true _ _ ⟨w.heap.size, 0, none⟩ _ (by omega) (by omega) (by omega) (by omega) (by omega) (by omega) (by go_simp) (by go_simp) (by go_simp) (by go_simp)).mono ?_
  rintro e w' ⟨rfl, ⟨hc, k, rfl⟩ | ⟨hc, k, rfl⟩⟩
  · have Hc := Lib.hid hc
    clear hc
    go_wp2_with fail
    rw [← HD.out]
    refine (try_any d ((4611686018427387648 + t % 256) + 256) 4611686018427387903 _ _ _ ⟨w.heap.size, 0, none⟩ _ (by omega) (by omega) (by omega) (by omega) (by omega) (by omega) (by go_simp) (by go_simp) (by go_simp) (by go_simp)).mono ?_
    rintro e w' ⟨rfl, ⟨hc2, k2, rfl⟩ | ⟨hc2, k2, rfl⟩⟩
    · have Hc2 := Lib.hid hc2
      clear hc2
      go_wp2_with fail
      go_ret
      refine ⟨ret_int (hfin.out ((4611686018427387648 + t % 256) + 256) d d (.inl ⟨Hc.out, rfl⟩) hdd.out (.inl ⟨Hc2.out, rfl⟩)), ?_⟩
      clear hfin hdd HD Hc Hc2
      (repeat' (first | exact Below.refl _ _ | apply below_drewN | apply Below.drew | apply Below.alloc | apply Below.setCell)) <;> (simp <;> omega)
    · have Hc2 := Lib.hid hc2
      clear hc2
      go_wp2_with fail
      go_ret
      refine ⟨ret_int (hfin.out ((4611686018427387648 + t % 256) + 256) d ((4611686018427387648 + t % 256) + 256) (.inl ⟨Hc.out, rfl⟩) hdd.out (.inr ⟨Hc2.out, rfl⟩)), ?_⟩
      clear hfin hdd HD Hc Hc2
      (repeat' (first | exact Below.refl _ _ | apply below_drewN | apply Below.drew | apply Below.alloc | apply Below.setCell)) <;> (simp <;> omega)
  · have Hc := Lib.hid hc
    clear hc
    go_wp2_with fail
    rw [← HD.out]
    refine (try_any d ((4611686018427387648 + t % 256)) 4611686018427387903 _ _ _ ⟨w.heap.size, 0, none⟩ _ (by omega) (by omega) (by omega) (by omega) (by omega) (by omega) (by go_simp) (by go_simp) (by go_simp) (by go_simp)).mono ?_
    rintro e w' ⟨rfl, ⟨hc2, k2, rfl⟩ | ⟨hc2, k2, rfl⟩⟩
    · have Hc2 := Lib.hid hc2
      clear hc2
      go_wp2_with fail
      go_ret
      refine ⟨ret_int (hfin.out ((4611686018427387648 + t % 256)) d d (.inr ⟨Hc.out, rfl⟩) hdd.out (.inl ⟨Hc2.out, rfl⟩)), ?_⟩
      clear hfin hdd HD Hc Hc2
      (repeat' (first | exact Below.refl _ _ | apply below_drewN | apply Below.drew | apply Below.alloc | apply Below.setCell)) <;> (simp <;> omega)
    · have Hc2 := Lib.hid hc2
      clear hc2
      go_wp2_with fail
      go_ret
      refine ⟨ret_int (hfin.out ((4611686018427387648 + t % 256)) d ((4611686018427387648 + t % 256)) (.inr ⟨Hc.out, rfl⟩) hdd.out (.inr ⟨Hc2.out, rfl⟩)), ?_⟩
      clear hfin hdd HD Hc Hc2
      (repeat' (first | exact Below.refl _ _ | apply below_drewN | apply Below.drew | apply Below.alloc | apply Below.setCell)) <;> (simp <;> omega)

set_option maxHeartbeats 2000000 in
theorem expand_2_0 (next t : Int) (w : World) (h0 : 0 ≤ next) (h1 : next < 18446744073709551616) (ht0 : 0 ≤ t) (ht1 : t < 18446744073709551616) (hx : next ≤ 4611686018427387903) :
    Calls Try.prog 14 #[.int .u64 next, .int .u64 t, .int .i64 2] w fun e w' => e = .returned (.int .u64 (expandS next t 65536)) ∧ Below w.heap.size w w' := by
  have hfin := Lib.hid (fun b1 d r => expand_fin next t 65536 next (next - next % 65536 + t % 65536) b1 d r h0 (by omega) (by split <;> omega) (by omega))
  obtain ⟨d, hd⟩ : ∃ d, d = IntKind.u64.wrap ((next - next % 65536 + t % 65536) - 65536) := ⟨_, rfl⟩
  have hr := wrapU_range ((next - next % 65536 + t % 65536) - 65536)
  rw [← hd] at hr
  have hdd := Lib.hid (fun h : 65536 ≤ (next - next % 65536 + t % 65536) => wrapU_in ((next - next % 65536 + t % 65536) - 65536) (by omega) (by omega))
  rw [← hd] at hdd
  have HD := Lib.hid hd
  clear hd
  go_enter Try.func14, Try.ntmps14
  go_wp2_with fail
  go_region
  go_wp2_with fail
  refine (try_any _ (next - next % 65536 + t % 65536) next true _ _ ⟨w.heap.size, 0, none⟩ _ (by omega) (by omega) (by omega) (by omega) (by omega) (by omega) (by go_simp) (by go_simp) (by go_simp) (by go_simp)).mono ?_
  rintro e w' ⟨rfl, ⟨hc, k, rfl⟩ | ⟨hc, k, rfl⟩⟩
  · have Hc := Lib.hid hc
    clear hc
    go_wp2_with fail
    rw [← HD.out]
    refine (try_any d ((next - next % 65536 + t % 65536) + 65536) next _ _ _ ⟨w.heap.size, 0, none⟩ _ (by omega) (by omega) (by omega) (by omega) (by omega) (by omega) (by go_simp) (by go_simp) (by go_simp) (by go_simp)).mono ?_
    rintro e w' ⟨rfl, ⟨hc2, k2, rfl⟩ | ⟨hc2, k2, rfl⟩⟩
    · have Hc2 := Lib.hid hc2
      clear hc2
      go_wp2_with fail
      go_ret
      refine ⟨ret_int (hfin.out ((next - next % 65536 + t % 65536) + 65536) d d (.inl ⟨Hc.out, rfl⟩) hdd.out (.inl ⟨Hc2.out, rfl⟩)), ?_⟩
      clear hfin hdd HD Hc Hc2
      (repeat' (first | exact Below.refl _ _ | apply below_drewN | apply Below.drew | apply Below.alloc | apply Below.setCell)) <;> (simp <;> omega)
    · have Hc2 := Lib.hid hc2
      clear hc2
      go_wp2_with fail
      go_ret
      refine ⟨ret_int (hfin.out ((next - next % 65536 + t % 65536) + 65536) d ((next - next % 65536 + t % 65536) + 65536) (.inl ⟨Hc.out, rfl⟩) hdd.out (.inr ⟨Hc2.out, rfl⟩)), ?_⟩
      clear hfin hdd HD Hc Hc2
      (repeat' (first | exact Below.refl _ _ | apply below_drewN | apply Below.drew | apply Below.alloc | apply Below.setCell)) <;> (simp <;> omega)
  · have Hc := Lib.hid hc
    clear hc
    go_wp2_with fail
    rw [← HD.out]
    refine (try_any d ((next - next % 65536 + t % 65536)) next _ _ _ ⟨w.heap.size, 0, none⟩ _ (by omega) (by omega) (by omega) (by omega) (by omega) (by omega) (by go_simp) (by go_simp) (by go_simp) (by go_simp)).mono ?_
    rintro e w' ⟨rfl, ⟨hc2, k2, rfl⟩ | ⟨hc2, k2, rfl⟩⟩
    · have Hc2 := Lib.hid hc2
      clear hc2
      go_wp2_with fail
      go_ret
      refine ⟨ret_int (hfin.out ((next - next % 65536 + t % 65536)) d d (.inr ⟨Hc.out, rfl⟩) hdd.out (.inl ⟨Hc2.out, rfl⟩)), ?_⟩
      clear hfin hdd HD Hc Hc2
      (repeat' (first | exact Below.refl _ _ | apply below_drewN | apply Below.drew | apply Below.alloc | apply Below.setCell)) <;> (simp <;> omega)
    · have Hc2 := Lib.hid hc2
      clear hc2
      go_wp2_with fail
      go_ret
      refine ⟨ret_int (hfin.out ((next - next % 65536 + t % 65536)) d ((next - next % 65536 + t % 65536)) (.inr ⟨Hc.out, rfl⟩) hdd.out (.inr ⟨Hc2.out, rfl⟩)), ?_⟩
      clear hfin hdd HD Hc Hc2
      (repeat' (first | exact Below.refl _ _ | apply below_drewN | apply Below.drew | apply Below.alloc | apply Below.setCell)) <;> (simp <;> omega)

set_option maxHeartbeats 2000000 in
theorem expand_2_1 (next t : Int) (w : World) (h0 : 0 ≤ next) (h1 : next < 18446744073709551616) (ht0 : 0 ≤ t) (ht1 : t < 18446744073709551616) (hx : 4611686018427387903 < next) :
    Calls Try.prog 14 #[.int .u64 next, .int .u64 t, .int .i64 2] w fun e w' => e = .returned (.int .u64 (expandS next t 65536)) ∧ Below w.heap.size w w' := by
  have hfin := Lib.hid (fun b1 d r => expand_fin next t 65536 4611686018427387903 (4611686018427322368 + t % 65536) b1 d r h0 (by omega) (by split <;> omega) (by omega))
  obtain ⟨d, hd⟩ : ∃ d, d = (4611686018427322368 + t % 65536) - 65536 := ⟨_, rfl⟩
  have hr : 0 ≤ d ∧ d < 18446744073709551616 := by omega
  have hdd := Lib.hid (fun _ : 65536 ≤ (4611686018427322368 + t % 65536) => hd)
  have HD := Lib.hid hd
  clear hd
  go_enter Try.func14, Try.ntmps14
  go_wp2_with fail
  go_region
  go_wp2_with fail
  refine (try_any _ (4611686018427322368 + t % 65536) 4611686018427387903 true _ _ ⟨w.heap.size, 0, none⟩ _ (by omega) (by omega) (by omega) (by omega) (by omega) (by omega) (by go_simp) (by go_simp) (by go_simp) (by go_simp)).mono ?_
  rintro e w' ⟨rfl, ⟨hc, k, rfl⟩ | ⟨hc, k, rfl⟩⟩
  · have Hc := Lib.hid hc
    clear hc
    go_wp2_with fail
    rw [← HD.out]
    refine (try_any d ((4611686018427322368 + t % 65536) + 65536) 4611686018427387903 _ _ _ ⟨w.heap.size, 0, none⟩ _ (by omega) (by omega) (by omega) (by omega) (by omega) (by omega) (by go_simp) (by go_simp) (by go_simp) (by go_simp)).mono ?_
    rintro e w' ⟨rfl, ⟨hc2, k2, rfl⟩ | ⟨hc2, k2, rfl⟩⟩
    · have Hc2 := Lib.hid hc2
      clear hc2
      go_wp2_with fail
      go_ret
      refine ⟨ret_int (hfin.out ((4611686018427322368 + t % 65536) + 65536) d d (.inl ⟨Hc.out, rfl⟩) hdd.out (.inl ⟨Hc2.out, rfl⟩)), ?_⟩
      clear hfin hdd HD Hc Hc2
      (repeat' (first | exact Below.refl _ _ | apply below_drewN | apply Below.drew | apply Below.alloc | apply Below.setCell)) <;> (simp <;> omega)
    · have Hc2 := Lib.hid hc2
      clear hc2
      go_wp2_with fail
      go_ret
      refine ⟨ret_int (hfin.out ((4611686018427322368 + t % 65536) + 65536) d ((4611686018427322368 + t % 65536) + 65536) (.inl ⟨Hc.out, rfl⟩) hdd.out (.inr ⟨Hc2.out, rfl⟩)), ?_⟩
      clear hfin hdd HD Hc Hc2
      (repeat' (first | exact Below.refl _ _ | apply below_drewN | apply Below.drew | apply Below.alloc | apply Below.setCell)) <;> (simp <;> omega)
  · have Hc := Lib.hid hc
    clear hc
    go_wp2_with fail
    rw [← HD.out]
    refine (try_any d ((4611686018427322368 + t % 65536)) 4611686018427387903 _ _ _ ⟨w.heap.size, 0, none⟩ _ (by omega) (by omega) (by omega) (by omega) (by omega) (by omega) (by go_simp) (by go_simp) (by go_simp) (by go_simp)).mono ?_
    rintro e w' ⟨rfl, ⟨hc2, k2, rfl⟩ | ⟨hc2, k2, rfl⟩⟩
    · have Hc2 := Lib.hid hc2
      clear hc2
      go_wp2_with fail
      go_ret
      refine ⟨ret_int (hfin.out ((4611686018427322368 + t % 65536)) d d (.inr ⟨Hc.out, rfl⟩) hdd.out (.inl ⟨Hc2.out, rfl⟩)), ?_⟩
      clear hfin hdd HD Hc Hc2
      (repeat' (first | exact Below.refl _ _ | apply below_drewN | apply Below.drew | apply Below.alloc | apply Below.setCell)) <;> (simp <;> omega)
    · have Hc2 := Lib.hid hc2
      clear hc2
      go_wp2_with fail
      go_ret
      refine ⟨ret_int (hfin.out ((4611686018427322368 + t % 65536)) d ((4611686018427322368 + t % 65536)) (.inr ⟨Hc.out, rfl⟩) hdd.out (.inr ⟨Hc2.out, rfl⟩)), ?_⟩
      clear hfin hdd HD Hc Hc2
      (repeat' (first | exact Below.refl _ _ | apply below_drewN | apply Below.drew | apply Below.alloc | apply Below.setCell)) <;> (simp <;> omega)

set_option maxHeartbeats 2000000 in
theorem expand_3_0 (next t : Int) (w : World) (h0 : 0 ≤ next) (h1 : next < 18446744073709551616) (ht0 : 0 ≤ t) (ht1 : t < 18446744073709551616) (hx : next ≤ 4611686018427387903) :
    Calls Try.prog 14 #[.int .u64 next, .int .u64 t, .int .i64 3] w fun e w' => e = .returned (.int .u64 (expandS next t 16777216)) ∧ Below w.heap.size w w' := by
  have hfin := Lib.hid (fun b1 d r => expand_fin next t 16777216 next (next - next % 16777216 + t % 16777216) b1 d r h0 (by omega) (by split <;> omega) (by omega))
  obtain ⟨d, hd⟩ : ∃ d, d = IntKind.u64.wrap ((next - next % 16777216 + t % 16777216) - 16777216) := ⟨_, rfl⟩
  have hr := wrapU_range ((next - next % 16777216 + t % 16777216) - 16777216)
  rw [← hd] at hr
  have hdd := Lib.hid (fun h : 16777216 ≤ (next - next % 16777216 + t % 16777216) => wrapU_in ((next - next % 16777216 + t % 16777216) - 16777216) (by omega) (by omega))
  rw [← hd] at hdd
  have HD := Lib.hid hd
  clear hd
  go_enter Try.func14, Try.ntmps14
  go_wp2_with fail
  go_region
  go_wp2_with fail
  refine (try_any _ (next - next % 16777216 + t % 16777216) next true _ _ ⟨w.heap.size, 0, none⟩ _ (by omega) (by omega) (by omega) (by omega) (by omega) (by omega) (by go_simp) (by go_simp) (by go_simp) (by go_simp)).mono ?_
  rintro e w' ⟨rfl, ⟨hc, k, rfl⟩ | ⟨hc, k, rfl⟩⟩
  · have Hc := Lib.hid hc
    clear hc
    go_wp2_with fail
    rw [← HD.out]
    refine (try_any d ((next - next % 16777216 + t % 16777216) + 16777216) next _ _ _ ⟨w.heap.size, 0, none⟩ _ (by omega) (by omega) (by omega) (by omega) (by omega) (by omega) (by go_simp) (by go_simp) (by go_simp) (by go_simp)).mono ?_
    rintro e w' ⟨rfl, ⟨hc2, k2, rfl⟩ | ⟨hc2, k2, rfl⟩⟩
    · have Hc2 := Lib.hid hc2
      clear hc2
      go_wp2_with fail
      go_ret
      refine ⟨ret_int (hfin.out ((next - next % 16777216 + t % 16777216) + 16777216) d d (.inl ⟨Hc.out, rfl⟩) hdd.out (.inl ⟨Hc2.out, rfl⟩)), ?_⟩
      clear hfin hdd HD Hc Hc2
      (repeat' (first | exact Below.refl _ _ | apply below_drewN | apply Below.drew | apply Below.alloc | apply Below.setCell)) <;> (simp <;> omega)
    · have Hc2 := Lib.hid hc2
      clear hc2
      go_wp2_with fail
      go_ret
      refine ⟨ret_int (hfin.out ((next - next % 16777216 + t % 16777216) + 16777216) d ((next - next % 16777216 + t % 16777216) + 16777216) (.inl ⟨Hc.out, rfl⟩) hdd.out (.inr ⟨Hc2.out, rfl⟩)), ?_⟩
      clear hfin hdd HD Hc Hc2
      (repeat' (first | exact Below.refl _ _ | apply below_drewN | apply Below.drew | apply Below.alloc | apply Below.setCell)) <;> (simp <;> omega)
  · have Hc := Lib.hid hc
    clear hc
    go_wp2_with fail
    rw [← HD.out]
    refine (try_any d ((next - next % 16777216 + t % 16777216)) next _ _ _ ⟨w.heap.size, 0, none⟩ _ (by omega) (by omega) (by omega) (by omega) (by omega) (by omega) (by go_simp) (by go_simp) (by go_simp) (by go_simp)).mono ?_
    rintro e w' ⟨rfl, ⟨hc2, k2, rfl⟩ | ⟨hc2, k2, rfl⟩⟩
    · have Hc2 := Lib.hid hc2
      clear hc2
      go_wp2_with fail
      go_ret
      refine ⟨ret_int (hfin.out ((next - next % 16777216 + t % 16777216)) d d (.inr ⟨Hc.out, rfl⟩) hdd.out (.inl ⟨Hc2.out, rfl⟩)), ?_⟩
      clear hfin hdd HD Hc Hc2
      (repeat' (first | exact Below.refl _ _ | apply below_drewN | apply Below.drew | apply Below.alloc | apply Below.setCell)) <;> (simp <;> omega)
    · have Hc2 := Lib.hid hc2
      clear hc2
      go_wp2_with fail
      go_ret
      refine ⟨ret_int (hfin.out ((next - next % 16777216 + t % 16777216)) d ((next - next % 16777216 + t % 16777216)) (.inr ⟨Hc.out, rfl⟩) hdd.out (.inr ⟨Hc2.out, rfl⟩)), ?_⟩
      clear hfin hdd HD Hc Hc2
      (repeat' (first | exact Below.refl _ _ | apply below_drewN | apply Below.drew | apply Below.alloc | apply Below.setCell)) <;> (simp <;> omega)

set_option maxHeartbeats 2000000 in
theorem expand_3_1 (next t : Int) (w : World) (h0 : 0 ≤ next) (h1 : next < 18446744073709551616) (ht0 : 0 ≤ t) (ht1 : t < 18446744073709551616) (hx : 4611686018427387903 < next) :
    Calls Try.prog 14 #[.int .u64 next, .int .u64 t, .int .i64 3] w fun e w' => e = .returned (.int .u64 (expandS next t 16777216)) ∧ Below w.heap.size w w' := by
  have hfin := Lib.hid (fun b1 d r => expand_fin next t 16777216 4611686018427387903 (4611686018410610688 + t % 16777216) b1 d r h0 (by omega) (by split <;> omega) (by omega))
  obtain ⟨d, hd⟩ : ∃ d, d = (4611686018410610688 + t % 16777216) - 16777216 := ⟨_, rfl⟩
  have hr : 0 ≤ d ∧ d < 18446744073709551616 := by omega
  have hdd := Lib.hid (fun _ : 16777216 ≤ (4611686018410610688 + t % 16777216) => hd)
  have HD := Lib.hid hd
  clear hd
  go_enter Try.func14, Try.ntmps14
  go_wp2_with fail
  go_region
  go_wp2_with fail
  refine (try_any _ (4611686018410610688 + t % 16777216) 4611686018427387903 true _ _ ⟨w.heap.size, 0, none⟩ _ (by omega) (by omega) (by omega) (by omega) (by omega) (by omega) (by go_simp) (by go_simp) (by go_simp) (by go_simp)).mono ?_
  rintro e w' ⟨rfl, ⟨hc, k, rfl⟩ | ⟨hc, k, rfl⟩⟩
  · have Hc := Lib.hid hc
    clear hc
    go_wp2_with fail
    rw [← HD.out]
    refine (try_any d ((4611686018410610688 + t % 16777216) + 16777216) 4611686018427387903 _ _ _ ⟨w.heap.size, 0, none⟩ _ (by omega) (by omega) (by omega) (by omega) (by omega) (by omega) (by go_simp) (by go_simp) (by go_simp) (by go_simp)).mono ?_
    rintro e w' ⟨rfl, ⟨hc2, k2, rfl⟩ | ⟨hc2, k2, rfl⟩⟩
    · have Hc2 := Lib.hid hc2
      clear hc2
      go_wp2_with fail
      go_ret
      refine ⟨ret_int (hfin.out ((4611686018410610688 + t % 16777216) + 16777216) d d (.inl ⟨Hc.out, rfl⟩) hdd.out (.inl ⟨Hc2.out, rfl⟩)), ?_⟩
      clear hfin hdd HD Hc Hc2
      (repeat' (first | exact Below.refl _ _ | apply below_drewN | apply Below.drew | apply Below.alloc | apply Below.setCell)) <;> (simp <;> omega)
    · have Hc2 := Lib.hid hc2
      clear hc2
      go_wp2_with fail
      go_ret
      refine ⟨ret_int (hfin.out ((4611686018410610688 + t % 16777216) + 16777216) d ((4611686018410610688 + t % 16777216) + 16777216) (.inl ⟨Hc.out, rfl⟩) hdd.out (.inr ⟨Hc2.out, rfl⟩)), ?_⟩
      clear hfin hdd HD Hc Hc2
      (repeat' (first | exact Below.refl _ _ | apply below_drewN | apply Below.drew | apply Below.alloc | apply Below.setCell)) <;> (simp <;> omega)
  · have Hc := Lib.hid hc
    clear hc
    go_wp2_with fail
    rw [← HD.out]
    refine (try_any d ((4611686018410610688 + t % 16777216)) 4611686018427387903 _ _ _ ⟨w.heap.size, 0, none⟩ _ (by omega) (by omega) (by omega) (by omega) (by omega) (by omega) (by go_simp) (by go_simp) (by go_simp) (by go_simp)).mono ?_
    rintro e w' ⟨rfl, ⟨hc2, k2, rfl⟩ | ⟨hc2, k2, rfl⟩⟩
    · have Hc2 := Lib.hid hc2
      clear hc2
      go_wp2_with fail
      go_ret
      refine ⟨ret_int (hfin.out ((4611686018410610688 + t % 16777216)) d d (.inr ⟨Hc.out, rfl⟩) hdd.out (.inl ⟨Hc2.out, rfl⟩)), ?_⟩
      clear hfin hdd HD Hc Hc2
      (repeat' (first | exact Below.refl _ _ | apply below_drewN | apply Below.drew | apply Below.alloc | apply Below.setCell)) <;> (simp <;> omega)
    · have Hc2 := Lib.hid hc2
      clear hc2
      go_wp2_with fail
      go_ret
      refine ⟨ret_int (hfin.out ((4611686018410610688 + t % 16777216)) d ((4611686018410610688 + t % 16777216)) (.inr ⟨Hc.out, rfl⟩) hdd.out (.inr ⟨Hc2.out, rfl⟩)), ?_⟩
      clear hfin hdd HD Hc Hc2
      (repeat' (first | exact Below.refl _ _ | apply below_drewN | apply Below.drew | apply Below.alloc | apply Below.setCell)) <;> (simp <;> omega)

set_option maxHeartbeats 2000000 in
theorem expand_4_0 (next t : Int) (w : World) (h0 : 0 ≤ next) (h1 : next < 18446744073709551616) (ht0 : 0 ≤ t) (ht1 : t < 18446744073709551616) (hx : next ≤ 4611686018427387903) :
    Calls Try.prog 14 #[.int .u64 next, .int .u64 t, .int .i64 4] w fun e w' => e = .returned (.int .u64 (expandS next t 4294967296)) ∧ Below w.heap.size w w' := by
  have hfin := Lib.hid (fun b1 d r => expand_fin next t 4294967296 next (next - next % 4294967296 + t % 4294967296) b1 d r h0 (by omega) (by split <;> omega) (by omega))
  obtain ⟨d, hd⟩ : ∃ d, d = IntKind.u64.wrap ((next - next % 4294967296 + t % 4294967296) - 4294967296) := ⟨_, rfl⟩
  have hr := wrapU_range ((next - next % 4294967296 + t % 4294967296) - 4294967296)
  rw [← hd] at hr
  have hdd := Lib.hid (fun h : 4294967296 ≤ (next - next % 4294967296 + t % 4294967296) => wrapU_in ((next - next % 4294967296 + t % 4294967296) - 4294967296) (by omega) (by omega))
  rw [← hd] at hdd
  have HD := Lib.hid hd
  clear hd
  go_enter Try.func14, Try.ntmps14
  go_wp2_with fail
  go_region
  go_wp2_with fail
  refine (try_any _ (next - next % 4294967296 + t % 4294967296) next true _ _ ⟨w.heap.size, 0, none⟩ _ (by omega) (by omega) (by omega) (by omega) (by omega) (by omega) (by go_simp) (by go_simp) (by go_simp) (by go_simp)).mono ?_
  rintro e w' ⟨rfl, ⟨hc, k, rfl⟩ | ⟨hc, k, rfl⟩⟩
  · have Hc := Lib.hid hc
    clear hc
    go_wp2_with fail
    rw [← HD.out]
    refine (try_any d ((next - next % 4294967296 + t % 4294967296) + 4294967296) next _ _ _ ⟨w.heap.size, 0, none⟩ _ (by omega) (by omega) (by omega) (by omega) (by omega) (by omega) (by go_simp) (by go_simp) (by go_simp) (by go_simp)).mono ?_
    rintro e w' ⟨rfl, ⟨hc2, k2, rfl⟩ | ⟨hc2, k2, rfl⟩⟩
    · have Hc2 := Lib.hid hc2
      clear hc2
      go_wp2_with fail
      go_ret
      refine ⟨ret_int (hfin.out ((next - next % 4294967296 + t % 4294967296) + 4294967296) d d (.inl ⟨Hc.out, rfl⟩) hdd.out (.inl ⟨Hc2.out, rfl⟩)), ?_⟩
      clear hfin hdd HD Hc Hc2
      (repeat' (first | exact Below.refl _ _ | apply below_drewN | apply Below.drew | apply Below.alloc | apply Below.setCell)) <;> (simp <;> omega)
    · have Hc2 := Lib.hid hc2
      clear hc2
      go_wp2_with fail
      go_ret
      refine ⟨ret_int (hfin.out ((next - next % 4294967296 + t % 4294967296) + 4294967296) d ((next - next % 4294967296 + t % 4294967296) + 4294967296) (.inl ⟨Hc.out, rfl⟩) hdd.out (.inr ⟨Hc2.out, rfl⟩)), ?_⟩
      clear hfin hdd HD Hc Hc2
      (repeat' (first | exact Below.refl _ _ | apply below_drewN | apply Below.drew | apply Below.alloc | apply Below.setCell)) <;> (simp <;> omega)
  · have Hc := Lib.hid hc
    clear hc
    go_wp2_with fail
    rw [← HD.out]
    refine (try_any d ((next - next % 4294967296 + t % 4294967296)) next _ _ _ ⟨w.heap.size, 0, none⟩ _ (by omega) (by omega) (by omega) (by omega) (by omega) (by omega) (by go_simp) (by go_simp) (by go_simp) (by go_simp)).mono ?_
    rintro e w' ⟨rfl, ⟨hc2, k2, rfl⟩ | ⟨hc2, k2, rfl⟩⟩
    · have Hc2 := Lib.hid hc2
      clear hc2
      go_wp2_with fail
      go_ret
      refine ⟨ret_int (hfin.out ((next - next % 4294967296 + t % 4294967296)) d d (.inr ⟨Hc.out, rfl⟩) hdd.out (.inl ⟨Hc2.out, rfl⟩)), ?_⟩
      clear hfin hdd HD Hc Hc2
      (repeat' (first | exact Below.refl _ _ | apply below_drewN | apply Below.drew | apply Below.alloc | apply Below.setCell)) <;> (simp <;> omega)
    · have Hc2 := Lib.hid hc2
      clear hc2
      go_wp2_with fail
      go_ret
      refine ⟨ret_int (hfin.out ((next - next % 4294967296 + t % 4294967296)) d ((next - next % 4294967296 + t % 4294967296)) (.inr ⟨Hc.out, rfl⟩) hdd.out (.inr ⟨Hc2.out, rfl⟩)), ?_⟩
      clear hfin hdd HD Hc Hc2
      (repeat' (first | exact Below.refl _ _ | apply below_drewN | apply Below.drew | apply Below.alloc | apply Below.setCell)) <;> (simp <;> omega)

set_option maxHeartbeats 2000000 in
theorem expand_4_1 (next t : Int) (w : World) (h0 : 0 ≤ next) (h1 : next < 18446744073709551616) (ht0 : 0 ≤ t) (ht1 : t < 18446744073709551616) (hx : 4611686018427387903 < next) :
    Calls Try.prog 14 #[.int .u64 next, .int .u64 t, .int .i64 4] w fun e w' => e = .returned (.int .u64 (expandS next t 4294967296)) ∧ Below w.heap.size w w' := by
  have hfin := Lib.hid (fun b1 d r => expand_fin next t 4294967296 4611686018427387903 (4611686014132420608 + t % 4294967296) b1 d r h0 (by omega) (by split <;> omega) (by omega))
  obtain ⟨d, hd⟩ : ∃ d, d = (4611686014132420608 + t % 4294967296) - 4294967296 := ⟨_, rfl⟩
  have hr : 0 ≤ d ∧ d < 18446744073709551616 := by omega
  have hdd := Lib.hid (fun _ : 4294967296 ≤ (4611686014132420608 + t % 4294967296) => hd)
  have HD := Lib.hid hd
  clear hd
  go_enter Try.func14, Try.ntmps14
  go_wp2_with fail
  go_region
  go_wp2_with fail
  refine (try_any _ (4611686014132420608 + t % 4294967296) 4611686018427387903 true _ _ ⟨w.heap.size, 0, none⟩ _ (by omega) (by omega) (by omega) (by omega) (by omega) (by omega) (by go_simp) (by go_simp) (by go_simp) (by go_simp)).mono ?_
  rintro e w' ⟨rfl, ⟨hc, k, rfl⟩ | ⟨hc, k, rfl⟩⟩
  · have Hc := Lib.hid hc
    clear hc
    go_wp2_with fail
    rw [← HD.out]
    refine (try_any d ((4611686014132420608 + t % 4294967296) + 4294967296) 4611686018427387903 _ _ _ ⟨w.heap.size, 0, none⟩ _ (by omega) (by omega) (by omega) (by omega) (by omega) (by omega) (by go_simp) (by go_simp) (by go_simp) (by go_simp)).mono ?_
    rintro e w' ⟨rfl, ⟨hc2, k2, rfl⟩ | ⟨hc2, k2, rfl⟩⟩
    · have Hc2 := Lib.hid hc2
      clear hc2
      go_wp2_with fail
      go_ret
      refine ⟨ret_int (hfin.out ((4611686014132420608 + t % 4294967296) + 4294967296) d d (.inl ⟨Hc.out, rfl⟩) hdd.out (.inl ⟨Hc2.out, rfl⟩)), ?_⟩
      clear hfin hdd HD Hc Hc2
      (repeat' (first | exact Below.refl _ _ | apply below_drewN | apply Below.drew | apply Below.alloc | apply Below.setCell)) <;> (simp <;> omega)
    · have Hc2 := Lib.hid hc2
      clear hc2
      go_wp2_with fail
      go_ret
      refine ⟨ret_int (hfin.out ((4611686014132420608 + t % 4294967296) + 4294967296) d ((4611686014132420608 + t % 4294967296) + 4294967296) (.inl ⟨Hc.out, rfl⟩) hdd.out (.inr ⟨Hc2.out, rfl⟩)), ?_⟩
      clear hfin hdd HD Hc Hc2
      (repeat' (first | exact Below.refl _ _ | apply below_drewN | apply Below.drew | apply Below.alloc | apply Below.setCell)) <;> (simp <;> omega)
  · have Hc := Lib.hid hc
    clear hc
    go_wp2_with fail
    rw [← HD.out]
    refine (try_any d ((4611686014132420608 + t % 4294967296)) 4611686018427387903 _ _ _ ⟨w.heap.size, 0, none⟩ _ (by omega) (by omega) (by omega) (by omega) (by omega) (by omega) (by go_simp) (by go_simp) (by go_simp) (by go_simp)).mono ?_
    rintro e w' ⟨rfl, ⟨hc2, k2, rfl⟩ | ⟨hc2, k2, rfl⟩⟩
    · have Hc2 := Lib.hid hc2
      clear hc2
      go_wp2_with fail
      go_ret
      refine ⟨ret_int (hfin.out ((4611686014132420608 + t % 4294967296)) d d (.inr ⟨Hc.out, rfl⟩) hdd.out (.inl ⟨Hc2.out, rfl⟩)), ?_⟩
      clear hfin hdd HD Hc Hc2
      (repeat' (first | exact Below.refl _ _ | apply below_drewN | apply Below.drew | apply Below.alloc | apply Below.setCell)) <;> (simp <;> omega)
    · have Hc2 := Lib.hid hc2
      clear hc2
      go_wp2_with fail
      go_ret
      refine ⟨ret_int (hfin.out ((4611686014132420608 + t % 4294967296)) d ((4611686014132420608 + t % 4294967296)) (.inr ⟨Hc.out, rfl⟩) hdd.out (.inr ⟨Hc2.out, rfl⟩)), ?_⟩
      clear hfin hdd HD Hc Hc2
      (repeat' (first | exact Below.refl _ _ | apply below_drewN | apply Below.drew | apply Below.alloc | apply Below.setCell)) <;> (simp <;> omega)

theorem expand_in (next t n W : Int) (w : World) (h0 : 0 ≤ next) (h1 : next < 18446744073709551616) (ht0 : 0 ≤ t) (ht1 : t < 18446744073709551616)
    (hn : (n = 1 ∧ W = 256) ∨ (n = 2 ∧ W = 65536) ∨ (n = 3 ∧ W = 16777216) ∨ (n = 4 ∧ W = 4294967296)) :
    Calls Try.prog 14 #[.int .u64 next, .int .u64 t, .int .i64 n] w fun e w' => e = .returned (.int .u64 (expandS next t W)) ∧ Below w.heap.size w w' := by
  rcases (by omega : 4611686018427387903 < next ∨ next ≤ 4611686018427387903) with hx | hx <;> rcases hn with ⟨rfl, rfl⟩ | ⟨rfl, rfl⟩ | ⟨rfl, rfl⟩ | ⟨rfl, rfl⟩
  · exact expand_1_1 next t w h0 h1 ht0 ht1 hx
  · exact expand_2_1 next t w h0 h1 ht0 ht1 hx
  · exact expand_3_1 next t w h0 h1 ht0 ht1 hx
  · exact expand_4_1 next t w h0 h1 ht0 ht1 hx
  · exact expand_1_0 next t w h0 h1 ht0 ht1 hx
  · exact expand_2_0 next t w h0 h1 ht0 ht1 hx
  · exact expand_3_0 next t w h0 h1 ht0 ht1 hx
  · exact expand_4_0 next t w h0 h1 ht0 ht1 hx
theorem expand_out (next t n : Int) (w : World) (hn : n < 1 ∨ 4 < n) :
    Calls Try.prog 14 #[.int .u64 next, .int .u64 t, .int .i64 n] w fun e w' => e = .returned (.int .u64 0) ∧ Below w.heap.size w w' := by
  rcases hn with hn | hn
  all_goals go_enter Try.func14, Try.ntmps14
  all_goals go_wp2
  all_goals go_ret
  all_goals exact ⟨rfl, (Below.refl _ _).alloc (Nat.le_refl _) _⟩
end Go.Proofs.Ythpacdondnenmaa.Pn
