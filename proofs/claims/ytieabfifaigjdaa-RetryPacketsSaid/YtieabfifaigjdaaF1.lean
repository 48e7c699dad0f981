/- Contracts of bytes.Clone, bytes.Equal, slices.Grow, slices.Concat. Conditions: as each theorem states them. -/
import Derived.Test.YtieabfifaigjdaaJS
import Derived.Test.YtieabfifaigjdaaBZ
import Derived.Test.YtieabfifaigjdaaLV
import Derived.Test.YtieabfifaigjdaaQP
import Derived.Test.YtieabfifaigjdaaH1
namespace Go.Proofs.Ytieabfifaigjdaa
open Go.RowKit
theorem elC : ElT Try.prog 22 5 .u8 1 := ⟨Try.underlying22, Try.underlying5, by kernel_rfl, by decide⟩
theorem clone_any (A : Option Addr) (c : Nat) (xs : List Int) (w : World) (hr : Rd w.heap.size .u8 w A xs) (hl : xs.length ≤ 1099511627776) :
    Calls Try.prog 25 #[.slice A xs.length c] w (RetOwn 5 .u8 xs w) := by
  have HR := Lib.hid hr
  have hnil := fun (w : World) (a : Option Addr) (n c : Nat) => Lib.run_eql_slice_nil (P := Try.prog) w 22 5 a n c 0 0 Try.underlying22
  rcases A with _ | ad
  · have hx : xs = [] := by
      rcases xs with _ | ⟨x, r⟩
      · rfl
      · obtain ⟨ad, h, _⟩ := hr 0 (by simp); cases h
    subst hx
    clear hr HR
    go_enter Try.func25, Try.ntmps25
    go_wp2_with fail
    go_ret
    exact ⟨none, 0, 0, rfl, Own.nil _ _ _ _, Below.refl _ _⟩
  · clear hr
    go_enter Try.func25, Try.ntmps25
    go_wp2_with (first
      | (at_builtin; refine wpList_app (o := ⟨some 7, _, _, _, _, _⟩) elC rfl _ _ rfl rfl rfl (Own.litAt (xs := []) rfl rfl rfl (Nat.le_refl _) (by simp)) (HR.out.alloc (Nat.le_refl _) _) (by first | rfl | simp) ?_ ?_ ?_; (simp <;> omega); exact Below.size ((Below.refl w.heap.size w).alloc (Nat.le_refl _) _); intro A1 n1 c1 w1 h1; have H1 := Lib.hid h1; have B1 := Lib.hid (Below.trans ((Below.refl w.heap.size w).alloc (Nat.le_refl _) _) h1.2.2.1); clear h1))
    go_ret
    exact ⟨A1, n1, c1, rfl, H1.out.1, B1.out⟩
theorem clone_n (A : Option Addr) (c n : Nat) (xs : List Int) (w : World) (hr : Rd w.heap.size .u8 w A xs) (hn : n = xs.length) (hl : n ≤ 1099511627776) :
    Calls Try.prog 25 #[.slice A n c] w (RetOwn 5 .u8 xs w) := by
  subst hn; exact clone_any A c xs w hr hl
theorem equal_any (A A2 : Option Addr) (c c2 : Nat) (xs ys : List Int) (w : World) (hr : Rd w.heap.size .u8 w A xs) (hr2 : Rd w.heap.size .u8 w A2 ys) (hb : Byt xs) (hb2 : Byt ys) :
    Calls Try.prog 26 #[.slice A xs.length c, .slice A2 ys.length c2] w fun e w' => e = .returned (.bool (decide (xs = ys))) ∧ w = w' := by
  have h1 := conv_rd elC Try.underlying9 hr c
  have h2 := conv_rd elC Try.underlying9 hr2 c2
  have HE := Lib.hid (str_eq hb hb2)
  clear hr hr2 hb hb2
  generalize strOfNums xs = s1 at *
  generalize strOfNums ys = s2 at *
  go_enter Try.func26, Try.ntmps26
  go_wp2_with fail
  go_ret
  exact ⟨ret_bool HE.out, rfl⟩
theorem equal_n {A A2 : Option Addr} {n n2 c c2 : Nat} {xs ys : List Int} {w : World} (h1 : xs.length = n) (h2 : ys.length = n2) (hr : Rd w.heap.size .u8 w A xs) (hr2 : Rd w.heap.size .u8 w A2 ys) (hb : Byt xs) (hb2 : Byt ys) :
    Calls Try.prog 26 #[.slice A n c, .slice A2 n2 c2] w fun e w' => e = .returned (.bool (decide (xs = ys))) ∧ w = w' := by subst h1; subst h2; exact equal_any A A2 c c2 xs ys w hr hr2 hb hb2
/-- the first cells of a slice of the call's own -/
theorem Own.head {B : Nat} {e : TypeId} {k : IntKind} {w : World} {A : Option Addr} {n c : Nat} {xs : List Int} (h : Own B e k w A n c xs) (m : Nat) (hm : m ≤ n) : Own B e k w A m c (xs.take m) := by
  have hl := h.len
  refine ⟨⟨by simp; omega, ?_⟩, by rw [List.length_take]; omega⟩
  rcases h.1.2 with ⟨h1, h2⟩ | ⟨g, cap, cur, h1, h2, h3, h4, h5, h6, h7⟩
  · left
    injection h1 with e1 e2 e3
    subst e1; subst e3
    have : m = 0 := by omega
    subst this
    exact ⟨rfl, rfl⟩
  · right
    injection h1 with e1 e2 e3
    subst e1; subst e3
    refine ⟨g, c, cur, rfl, h2, h3, by omega, h5, h6, ?_⟩
    rw [List.map_take, ← h7, List.take_take]
    congr 1
    omega
theorem joinT_snoc (ts : List Tx) (k : Nat) (h : k < ts.length) : joinT (ts.take (k + 1)) = joinT (ts.take k) ++ (ts.getD k Tx.none).xs := by
  unfold joinT
  rw [List.take_succ_eq_append_getElem h, List.flatMap_append, List.getD_eq_getElem?_getD, List.getElem?_eq_getElem h]
  simp
theorem joinT_le (ts : List Tx) (k : Nat) : (joinT (ts.take k)).length ≤ (joinT ts).length := by
  conv => rhs; rw [← List.take_append_drop k ts]
  unfold joinT
  rw [List.flatMap_append, List.length_append]
  omega
set_option maxHeartbeats 1000000 in
theorem grow_any (n : Nat) (w : World) (hn : n ≤ 1000000000000) :
    Calls Try.prog 31 #[.slice none 0 0, .int .i64 (n : Nat)] w (RetOwn 5 .u8 [] w) := by
  by_cases h0 : n = 0
  · subst h0
    go_enter Try.func31, Try.ntmps31
    go_wp2_with fail
    go_ret
    exact ⟨none, 0, 0, rfl, Own.nil _ _ _ _, Below.refl _ _⟩
  · have h1 : 0 < n := by omega
    have h2 : (0 : Int) < (n : Int) := by omega
    go_enter Try.func31, Try.ntmps31
    go_wp2_with (at_builtin; go_loud (refine wpList_appz (o := ⟨some 22, _, _, _, _, _⟩) (B := w.heap.size) elC Try.underlying3 rfl _ _ rfl rfl rfl (Own.nil _ _ _ _) h1 ?_ (Nat.le_refl _) ?_); (simp; omega); intro A1 n1 c1 w1 h1; have H1 := Lib.hid h1; clear h1)
    go_ret
    have hl := H1.out.1.cap
    exact ⟨_, _, _, rfl, H1.out.1.head 0 (Nat.zero_le _), H1.out.2.2.1⟩
set_option maxRecDepth 100000 in
set_option maxHeartbeats 4000000 in
theorem concat_any (A : Option Addr) (n c : Nat) (ts : List Tx) (w : World) (hn : ts.length = n) (hT : Txs w.heap.size w A ts) (hl : (joinT ts).length ≤ 1000000000000) (hn2 : n ≤ 1000000000) :
    Calls Try.prog 19 #[.slice A n c] w (RetOwn 5 .u8 (joinT ts) w) := by
  have HN := Lib.hid hn
  have HT := Lib.hid hT
  have HL := Lib.hid hl
  clear hn hT hl
  go_enter Try.func19, Try.ntmps19
  go_wp2_with fail
  go_loop [3, 11] (fun s i => ∃ k m : Nat, k ≤ n ∧ i = .int .i64 k ∧ s = .int .i64 m ∧ m ≤ 1000000000000 ∧ Hid (m = (joinT (ts.take k)).length)) (fun _ i => n - (intOf i).toNat)
  case atStart => exact ⟨0, 0, by omega, rfl, rfl, by omega, Lib.hid (by rw [List.take_zero]; simp [joinT])⟩
  case round =>
    obtain ⟨k, m, hk, rfl, rfl, hm, HM⟩ := hrel
    by_cases hlt : k < n
    · obtain ⟨ad, hA, h1, h2, h3, h4⟩ := HT.out k (by rw [HN.out]; exact hlt)
      have HS := Lib.hid (joinT_snoc ts k (by rw [HN.out]; exact hlt))
      have HB := Lib.hid (joinT_le ts (k + 1))
      generalize ts.getD k Tx.none = t at *
      obtain ⟨tA, tc, tx⟩ := t
      simp only at h2 HS
      obtain ⟨q, hq⟩ : ∃ q, tx.length = q := ⟨_, rfl⟩
      rw [hq] at h2
      have HX : Hid (m + q = (joinT (ts.take (k + 1))).length) := Lib.hid (by rw [HS.out, List.length_append, HM.out, hq])
      have hmq : m + q ≤ 1000000000000 := by have h1 := HX.out; have h2 := HB.out; have h3 := HL.out; omega
      subst hA
      clear h1 h3 h4 hq HS HM
      go_wp2_with fail
      go_round
      case rel => exact ⟨k + 1, m + q, by omega, by go_num, by go_num, hmq, HX⟩
      case measure => simp [intOf]; omega
    · obtain rfl : k = n := by omega
      clear hlt
      go_wp2_with fail
      refine Calls.mono (grow_any m w hm) ?_
      rintro e w1 ⟨A1, n1, c1, rfl, o1, b1⟩
      have O1 := Lib.hid o1
      have B1 := Lib.hid b1
      have hn1 : n1 = 0 := o1.len
      subst hn1
      clear o1 b1 HM
      go_wp2_with fail
      go_loopw [6, 27] (fun v i wr => ∃ (j : Nat) (Av : Option Addr) (nv cv : Nat), j ≤ k ∧ i = .int .i64 j ∧ v = .slice Av nv cv ∧ Hid (Own w.heap.size 5 .u8 wr Av nv cv (joinT (ts.take j))) ∧ Hid (Below w.heap.size w wr)) (fun _ i _ => k - (intOf i).toNat)
      case atStart => exact ⟨0, A1, 0, c1, by omega, rfl, rfl, Lib.hid (by rw [List.take_zero]; simpa [joinT] using O1.out), B1⟩
      case round =>
        obtain ⟨j, Av, nv, cv, hj, rfl, rfl, HO, HB⟩ := hrel
        clear O1 B1
        by_cases hlt : j < k
        · obtain ⟨ad, hA, h1, h2, h3, h4⟩ := HT.out.below HB.out (Nat.le_refl _) j (by rw [HN.out]; exact hlt)
          have HS := Lib.hid (joinT_snoc ts j (by rw [HN.out]; exact hlt))
          have HJ := Lib.hid (joinT_le ts (j + 1))
          generalize ts.getD j Tx.none = t at *
          obtain ⟨tA, tc, tx⟩ := t
          simp only at h2 h3 HS
          obtain ⟨q, hq⟩ : ∃ q, tx.length = q := ⟨_, rfl⟩
          rw [hq] at h2
          have HQ := Lib.hid hq
          have HR := Lib.hid h3
          subst hA
          clear h1 h3 h4 hq
          have hz := HB.out.size
          go_wp2_with (at_builtin; go_loud (refine wpList_app (o := ⟨some 33, _, _, _, _, _⟩) elC rfl _ _ rfl rfl rfl HO.out HR.out HQ.out.symm ?_ hz ?_); (have h1 := HJ.out; have h2 := HL.out; rw [HS.out, List.length_append] at h1; omega); intro A2 n2 c2 w2 h2; have H2 := Lib.hid h2; clear h2)
          refine ⟨⟨j + 1, A2, n2, c2, by omega, by go_num, rfl, Lib.hid (by rw [HS.out]; exact H2.out.1), Lib.hid (HB.out.trans H2.out.2.2.1)⟩, ?_⟩
          simp [intOf]
          omega
        · obtain rfl : j = k := by omega
          go_wp2_with fail
          go_ret
          refine ⟨_, _, _, rfl, ?_, HB.out⟩
          have h := HO.out
          rwa [List.take_of_length_le (by rw [HN.out]; omega)] at h
end Go.Proofs.Ytieabfifaigjdaa
