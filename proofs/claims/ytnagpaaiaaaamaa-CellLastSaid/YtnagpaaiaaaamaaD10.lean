/- Layer 26: the reference's Great and Same. Conditions: as each theorem states them. -/
import Derived.Test.YtnagpaaiaaaamaaD9
namespace Go.Proofs.Ytnagpaaiaaaamaa
open Go.RowKit
/-- a cell in memory -/
structure CX where
  ep : Int
  ow : Int
  nx : Int
  sn : Int
  A : Option Addr
  cap : Nat
  ts : List Tx
def CX.zero : CX := ⟨0, 0, 0, 0, none, 0, []⟩
def CX.vs (x : CX) : List Value := [.int .u64 x.ep, .int .u8 x.ow, .int .u64 x.nx, .int .u64 x.sn, .slice x.A x.ts.length x.cap]
/-- a slice of cells -/
def CXs (B : Nat) (w : World) (A : Option Addr) (l : List CX) : Prop :=
  ∀ i, i < l.length → ∃ ad, A = some ad ∧ ad.block < B ∧ (∀ j v, (l.getD i CX.zero).vs[j]? = some v → w.cell? (ad.add (i * 5 + j)) = some v) ∧ CIn B w (l.getD i CX.zero).A (l.getD i CX.zero).ts.length (l.getD i CX.zero).cap (l.getD i CX.zero).ts
def rowsX (l : List CX) : Nat := (l.map fun x => rowsN (bsT x.ts)).sum
def greatN (l : List CX) : Nat := l.length + rowsX l
theorem rowsX_take {l : List CX} {k : Nat} (h : k < l.length) : rowsX (l.take (k + 1)) = rowsX (l.take k) + rowsN (bsT (l.getD k CX.zero).ts) := by
  unfold rowsX
  rw [List.take_succ_eq_append_getElem h, List.map_append, List.sum_append, List.getD_eq_getElem?_getD, List.getElem?_eq_getElem h]
  simp
theorem rowsX_le (l : List CX) (k : Nat) : rowsX (l.take k) ≤ rowsX l := by
  have : rowsX l = rowsX (l.take k) + rowsX (l.drop k) := by
    unfold rowsX; rw [← List.sum_append, ← List.map_append, List.take_append_drop]
  omega
attribute [irreducible] rowsX
set_option maxRecDepth 100000 in
set_option maxHeartbeats 4000000 in
theorem great_any (A : Option Addr) (n cap : Nat) (l : List CX) (w : World) (hn : l.length = n) (h : CXs w.heap.size w A l) (hn2 : n ≤ 140737488355328) (hb : ∀ x ∈ l, x.ts.length ≤ 140737488355328 ∧ ∀ t ∈ x.ts, t.xs.length ≤ 140737488355328) :
    Calls Try.prog 7 #[.slice A n cap] w fun e w' => e = .returned (.bool (decide (20000 < greatN l))) ∧ w = w' := by
  have HN := Lib.hid hn
  have HC := Lib.hid h
  have HB := Lib.hid hb
  clear hn h hb
  go_enter Try.func7, Try.ntmps7
  go_wp2_with fail
  go_loop [3, 4] (fun s i => ∃ k N : Nat, k ≤ n ∧ i = .int .i64 k ∧ s = .int .i64 N ∧ N ≤ 281474976710656 ∧ Hid (N ≤ greatN l) ∧ Hid (N = n + rowsX (l.take k) ∨ 20000 < N)) (fun _ i => n - (intOf i).toNat)
  case atStart => exact ⟨0, n, by omega, rfl, rfl, by omega, Lib.hid (by unfold greatN; rw [HN.out]; omega), Lib.hid (.inl (by rw [List.take_zero]; unfold rowsX; rfl))⟩
  case round =>
    obtain ⟨k, N, hk, rfl, rfl, hN, HL, HS⟩ := hrel
    by_cases hlt : k < n
    · by_cases hbig : N ≤ 20000
      · obtain ⟨ad, hA, p1, p2, p3⟩ := HC.out k (by rw [HN.out]; exact hlt)
        have p4 := p2 4 _ rfl
        have hmem := getD_mem (z := CX.zero) (show k < l.length by rw [HN.out]; exact hlt)
        have HXB := Lib.hid (HB.out _ hmem)
        have HRX := Lib.hid (rowsX_take (show k < l.length by rw [HN.out]; exact hlt))
        have HRL := Lib.hid (rowsX_le l (k + 1))
        generalize l.getD k CX.zero = x at *
        obtain ⟨xe, xo, xn, xs, xA, xc, xt⟩ := x
        simp only at p3 p4 HXB HRX
        obtain ⟨q, hq⟩ : ∃ q, xt.length = q := ⟨_, rfl⟩
        rw [hq] at p4 p3 HXB
        have HQ := Lib.hid hq
        have PC := Lib.hid p3
        have hq2 : q ≤ 140737488355328 := HXB.out.1
        subst hA
        clear p2 p3 hq hmem
        have p5 := p4
        rw [← add_of_add] at p5
        have p6 : w.cell? ⟨(ad.add (k * 5)).block, (ad.add (k * 5)).off + 4, none⟩ = some (.slice xA q xc) := p5
        clear p4 p5
        have hkN : (N : Int) ≤ 20000 := by omega
        obtain ⟨B5, hB5⟩ : ∃ z, rowsX (l.take k) = z := ⟨_, rfl⟩
        rw [hB5] at HS HRX
        have hNB : N = n + B5 := by rcases HS.out with h | h <;> omega
        have HNB := Lib.hid hNB
        have HRX2 : Hid (rowsX (l.take (k + 1)) = B5 + rowsN (bsT xt)) := HRX
        clear hB5 HS HRX hNB
        go_wp2_with fail
        go_loop [3, 5] (fun s i => ∃ j M : Nat, j ≤ q ∧ i = .int .i64 j ∧ s = .int .i64 M ∧ M ≤ 281474976710656 ∧ Hid (M ≤ greatN l) ∧ Hid (M = n + B5 + rowsN (bsT (xt.take j)) ∨ 20000 < M)) (fun _ i => q - (intOf i).toNat)
        case atStart => exact ⟨0, N, by omega, rfl, rfl, hN, HL, Lib.hid (.inl (by rw [List.take_zero, bsT_nil, rowsN_nil]; exact HNB.out))⟩
        case round =>
          obtain ⟨j, M, hj, rfl, rfl, hM, HML, HMS⟩ := hrel
          by_cases hj2 : j < q
          · by_cases hM2 : M ≤ 20000
            · have hM3 : (M : Int) ≤ 20000 := by omega
              obtain ⟨pa, hA2, e1, e2, e3, e4⟩ := PC.out.txs j (by rw [HQ.out]; exact hj2)
              have hmem2 := getD_mem (z := Tx.none) (show j < xt.length by rw [HQ.out]; exact hj2)
              have hlen := HXB.out.2 _ hmem2
              have HT : Hid (rowsN (bsT (xt.take (j + 1))) = rowsN (bsT (xt.take j)) + (4 + (xt.getD j Tx.none).xs.length)) := Lib.hid (by rw [bsT_take (by rw [HQ.out]; exact hj2), rowsN_snoc])
              have HT2 := Lib.hid (bsT_takeN xt (j + 1))
              generalize xt.getD j Tx.none = t at *
              obtain ⟨tA, tc, tx⟩ := t
              simp only at e2 hlen HT
              obtain ⟨r, hr⟩ : ∃ r, tx.length = r := ⟨_, rfl⟩
              rw [hr] at e2 hlen HT
              subst hA2
              have HMN : Hid (M + 4 + r = n + B5 + rowsN (bsT (xt.take (j + 1)))) := Lib.hid (by
                rw [HT.out]
                rcases HMS.out with h | h
                · omega
                · omega)
              have HG : Hid (M + 4 + r ≤ greatN l) := Lib.hid (by have h1 := HMN.out; have h2 := HT2.out; have h3 := HRX2.out; have h4 := HRL.out; unfold greatN; rw [HN.out]; omega)
              clear e3 e4 hr hmem2 HT HT2 HMS HML
              go_wp2_with fail
              go_round
              case rel => exact ⟨j + 1, M + 4 + r, by omega, by go_num, by go_num, by omega, HG, Lib.hid (.inl HMN.out)⟩
              case measure => simp [intOf]; omega
            · have hM3 : decide ((M : Int) ≤ 20000) = false := decide_eq_false (by omega)
              have FIN : Hid (M = n + rowsX (l.take (k + 1)) ∨ 20000 < M) := Lib.hid (.inr (by omega))
              clear HMS
              go_wp2_with fail
              go_round
              case rel => exact ⟨k + 1, M, by omega, by go_num, rfl, hM, HML, FIN⟩
              case measure => simp [intOf]; omega
          · have FIN : Hid (M = n + rowsX (l.take (k + 1)) ∨ 20000 < M) := Lib.hid (by
              rcases HMS.out with h | h
              · rw [List.take_of_length_le (by rw [HQ.out]; omega)] at h
                exact .inl (by rw [HRX2.out]; omega)
              · exact .inr h)
            clear HMS
            go_wp2_with fail
            go_round
            case rel => exact ⟨k + 1, M, by omega, by go_num, rfl, hM, HML, FIN⟩
            case measure => simp [intOf]; omega
      · have hb2 : decide ((N : Int) ≤ 20000) = false := decide_eq_false (by omega)
        have hF : Hid (decide (20000 < greatN l) = decide ((20000 : Int) < (N : Int))) := Lib.hid (by have := HL.out; rw [decide_eq_true (by omega), decide_eq_true (by omega)])
        clear HL HS
        go_wp2_with fail
        go_ret
        exact ⟨ret_bool hF.out.symm, rfl⟩
    · have hF : Hid (decide (20000 < greatN l) = decide ((20000 : Int) < (N : Int))) := Lib.hid (by
        have h1 := HL.out
        rcases HS.out with h | h
        · rw [List.take_of_length_le (by rw [HN.out]; omega)] at h
          have h2 : greatN l = N := by unfold greatN; rw [HN.out]; omega
          rw [h2]; congr 1; rw [eq_iff_iff]; omega
        · rw [decide_eq_true (by omega), decide_eq_true (by omega)])
      clear HL HS
      go_wp2_with fail
      go_ret
      exact ⟨ret_bool hF.out.symm, rfl⟩
end Go.Proofs.Ytnagpaaiaaaamaa
