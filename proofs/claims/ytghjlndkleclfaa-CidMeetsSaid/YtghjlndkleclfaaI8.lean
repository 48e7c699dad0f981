/- Layer 20: slices.BinarySearchFunc over entries by rising numbers. Conditions: as each theorem states them. -/
import Derived.Test.YtghjlndkleclfaaI7
namespace Go.Proofs.Ytghjlndkleclfaa
open Go.RowKit
def Rising (l : List CX) : Prop := ∀ i j, i < j → j < l.length → (l.getD i CX.zero).seq < (l.getD j CX.zero).seq
theorem cmp_cl (q : Int) (x : CX) (w : World) : Calls Try.prog 27 #[.agg x.vs.toArray, .int .u64 q] w fun e w' => e = .returned (.int .i64 (if x.seq < q then -1 else 1)) ∧ Below w.heap.size w w' := by
  have x0 : x.vs[0]? = some (.int .u64 x.seq) := rfl
  have HB := Lib.hid ((Below.refl w.heap.size w).alloc (Nat.le_refl _) (.cells x.vs.toArray 47))
  by_cases h : x.seq < q
  · rw [if_pos h]
    go_enter Try.func27, Try.ntmps27
    go_wp2_with fail
    go_ret
    exact ⟨rfl, HB.out⟩
  · rw [if_neg h]
    go_enter Try.func27, Try.ntmps27
    go_wp2_with fail
    go_ret
    exact ⟨rfl, HB.out⟩
set_option maxRecDepth 100000 in
set_option maxHeartbeats 2000000 in
theorem search_any (l : List CX) (A : Option Addr) (n c : Nat) (q : Int) (w : World) (h : EntS w A l) (hn : l.length = n) (hn2 : n ≤ 100000) (hr : Rising l) :
    Calls Try.prog 26 #[.slice A n c, .int .u64 q, .func (.func 27) #[] #[]] w fun e w' => ∃ m : Nat, e = .returned (.tuple #[.int .i64 m, .bool false]) ∧ m ≤ n ∧ (∀ t, t < m → (l.getD t CX.zero).seq < q) ∧ (∀ t, m ≤ t → t < n → q ≤ (l.getD t CX.zero).seq) ∧ Below w.heap.size w w' := by
  have HS := Lib.hid h
  have HN := Lib.hid hn
  have HR := Lib.hid hr
  clear h hn hr
  go_enter Try.func26, Try.ntmps26
  go_wp2_with fail
  go_loopw [9, 10] (fun a b wr => ∃ i j : Nat, i ≤ j ∧ j ≤ n ∧ a = .int .i64 i ∧ b = .int .i64 j ∧ Hid (∀ t, t < i → (l.getD t CX.zero).seq < q) ∧ Hid (∀ t, j ≤ t → t < n → q ≤ (l.getD t CX.zero).seq) ∧ Hid (Below w.heap.size w wr)) (fun a b _ => (intOf b).toNat - (intOf a).toNat)
  case atStart => exact ⟨0, n, by omega, by omega, rfl, rfl, Lib.hid (fun t ht => absurd ht (Nat.not_lt_zero t)), Lib.hid (fun t h1 h2 => by omega), Lib.hid (Below.refl _ _)⟩
  case round =>
    obtain ⟨i, j, hij, hjn, rfl, rfl, HL, HG, HB⟩ := hrel
    by_cases hlt : i < j
    · obtain ⟨m, hm, him, hmj⟩ : ∃ m : Nat, ((i : Int) + (j : Int)) / 2 = (m : Int) ∧ i ≤ m ∧ m < j := ⟨(i + j) / 2, by omega, by omega, by omega⟩
      have hm2 : m < l.length := by rw [HN.out]; omega
      have hmn : m < n := by omega
      obtain ⟨g, rfl, hg, hc⟩ := (HS.out.below HB.out).2 m hm2
      have hx := memD hm2
      have hok := HS.out.1 _ hx
      have HROW : Hid ((Instr.loadAt 47 (.pointer (some ⟨g, m * 18, none⟩))).run Try.prog wr = .ok (.agg (l.getD m CX.zero).vs.toArray) wr) := Lib.hid (row_load (P := Try.prog) (vs := (l.getD m CX.zero).vs) (fun j v hv => by
        have := hc j v hv
        rw [show (⟨g, m * 18, none⟩ : Addr) = (⟨g, 0, none⟩ : Addr).add (m * 18) by rw [add_zero_addr2], add_of_add, add_zero_addr2]
        exact this) Try.underlying47 (by rw [sizeE, CX.vs_len hok.tl]))
      have HIL : Hid ((l.getD m CX.zero).seq < q → ∀ t, t < m + 1 → (l.getD t CX.zero).seq < q) := Lib.hid (fun h t ht => by
        rcases Nat.lt_or_ge t m with z | z
        · exact Int.lt_trans (HR.out t m z hm2) h
        · rw [show t = m by omega]; exact h)
      have HIG : Hid (¬ (l.getD m CX.zero).seq < q → ∀ t, m ≤ t → t < n → q ≤ (l.getD t CX.zero).seq) := Lib.hid (fun h t h1 h2 => by
        rcases Nat.lt_or_ge m t with z | z
        · have := HR.out m t z (by rw [HN.out]; exact h2)
          omega
        · rw [show t = m by omega]; omega)
      generalize l.getD m CX.zero = x at *
      clear hx hok hc hm2
      go_wp2_with ((with_reducible (show wpList _ _ _ (⟨some 28, .load _ _, _, _, _, _⟩ :: _) _ _)); refine wpList_loadV (o := ⟨some 28, .load _ _, _, _, _, _⟩) rfl _ rfl rfl (HROW.out) ?_)
      refine Calls.mono (cmp_cl q x wr) ?_
      rintro e w1 ⟨rfl, b1⟩
      have B1 := Lib.hid (HB.out.trans (b1.mono HB.out.size))
      clear b1 HROW
      by_cases z : x.seq < q
      · rw [if_pos z]
        have HL2 := Lib.hid (HIL.out z)
        clear z
        go_wp2_with fail
        refine ⟨⟨m + 1, j, by omega, hjn, by go_num, rfl, HL2, HG, B1⟩, ?_⟩
        simp [intOf]
        omega
      · rw [if_neg z]
        have HG2 := Lib.hid (HIG.out (Int.not_lt.1 z))
        clear z
        go_wp2_with fail
        refine ⟨⟨i, m, by omega, by omega, rfl, rfl, HL, HG2, B1⟩, ?_⟩
        simp [intOf]
        omega
    · obtain rfl : i = j := by omega
      by_cases hin : i < n
      · have hm2 : i < l.length := by rw [HN.out]; omega
        obtain ⟨g, rfl, hg, hc⟩ := (HS.out.below HB.out).2 i hm2
        have hx := memD hm2
        have hok := HS.out.1 _ hx
        have HROW : Hid ((Instr.loadAt 47 (.pointer (some ⟨g, i * 18, none⟩))).run Try.prog wr = .ok (.agg (l.getD i CX.zero).vs.toArray) wr) := Lib.hid (row_load (P := Try.prog) (vs := (l.getD i CX.zero).vs) (fun j v hv => by
          have := hc j v hv
          rw [show (⟨g, i * 18, none⟩ : Addr) = (⟨g, 0, none⟩ : Addr).add (i * 18) by rw [add_zero_addr2], add_of_add, add_zero_addr2]
          exact this) Try.underlying47 (by rw [sizeE, CX.vs_len hok.tl]))
        have hge : ¬ (l.getD i CX.zero).seq < q := by have := HG.out i (Nat.le_refl _) hin; omega
        generalize l.getD i CX.zero = x at *
        clear hx hok hc hm2
        go_wp2_with ((with_reducible (show wpList _ _ _ (⟨some 44, .load _ _, _, _, _, _⟩ :: _) _ _)); go_loud (refine wpList_unguard rfl ?_; refine wpList_loadV (o := ⟨some 44, .load _ _, _, _, _, _⟩) rfl _ rfl rfl HROW.out ?_))
        refine Calls.mono (cmp_cl q x wr) ?_
        rw [if_neg (Int.not_lt.2 hge)]
        rintro e w1 ⟨rfl, b1⟩
        have B1 := Lib.hid (HB.out.trans (b1.mono HB.out.size))
        clear b1 HROW hge
        go_wp2_with fail
        exact bodyPost_ret (results_tmp2 rfl _ _ _) rfl ⟨i, rfl, by omega, HL.out, HG.out, B1.out⟩
      · go_wp2_with fail
        exact bodyPost_ret (results_tmp2 rfl _ _ _) rfl ⟨i, rfl, by omega, HL.out, HG.out, HB.out⟩
/-- the place of a number among rising ones -/
def posL (q : Int) (l : List CX) : Nat := (l.filter (fun x => decide (x.seq < q))).length
theorem posL_eq (q : Int) : ∀ (l : List CX) (m : Nat), m ≤ l.length → (∀ t, t < m → (l.getD t CX.zero).seq < q) → (∀ t, m ≤ t → t < l.length → q ≤ (l.getD t CX.zero).seq) → m = posL q l
  | [], m, h, _, _ => by simp at h; subst h; rfl
  | x :: l, 0, _, _, h2 => by
    have h3 : posL q (x :: l) = 0 := by
      unfold posL
      rw [List.length_eq_zero_iff, List.filter_eq_nil_iff]
      intro y hy
      obtain ⟨t, ht, rfl⟩ := List.getElem_of_mem hy
      have := h2 t (Nat.zero_le _) ht
      rw [List.getD_eq_getElem?_getD, List.getElem?_eq_getElem ht] at this
      simp at this ⊢
      exact this
    exact h3.symm
  | x :: l, m + 1, h, h1, h2 => by
    have ih := posL_eq q l m (by simpa using h) (fun t ht => by have := h1 (t + 1) (by omega); rwa [List.getD_cons_succ] at this) (fun t ht hl => by have := h2 (t + 1) (by omega) (by simpa using hl); rwa [List.getD_cons_succ] at this)
    have hx := h1 0 (by omega)
    rw [List.getD_cons_zero] at hx
    unfold posL at ih ⊢
    rw [List.filter_cons_of_pos (by simpa using hx), List.length_cons, ← ih]
theorem search_det (l : List CX) (A : Option Addr) (n c : Nat) (q : Int) (w : World) (h : EntS w A l) (hn : l.length = n) (hn2 : n ≤ 100000) (hr : Rising l) :
    Calls Try.prog 26 #[.slice A n c, .int .u64 q, .func (.func 27) #[] #[]] w fun e w' => e = .returned (.tuple #[.int .i64 (posL q l : Nat), .bool false]) ∧ Below w.heap.size w w' := by
  refine Calls.mono (search_any l A n c q w h hn hn2 hr) ?_
  rintro e w' ⟨m, rfl, h1, h2, h3, h4⟩
  rw [← posL_eq q l m (by omega) h2 (fun t ht hl => h3 t ht (by omega))]
  exact ⟨rfl, h4⟩
end Go.Proofs.Ytghjlndkleclfaa
