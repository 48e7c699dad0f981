/- The iterator of slices.Chunk, at the number 4. Conditions: as each theorem states them. -/
import Derived.Test.YtakmaocfcmdpmaaV11
import Derived.Test.YtakmaocfcmdpmaaQI
namespace Go.Proofs.Ytakmaocfcmdpmaa
open Go.RowKit Go.Shelf
attribute [local go_sem] Oper.semAt_some

/-- what a round keeps: what lies below n₀, but for the block g -/
def KeepN (n₀ g : Nat) (W W' : World) : Prop := ∀ i, i < n₀ → i ≠ g → W'.heap[i]? = W.heap[i]?
theorem KeepN.refl (n₀ g : Nat) (W : World) : KeepN n₀ g W W := fun _ _ _ => rfl
theorem KeepN.trans {n₀ g : Nat} {A B C : World} (h : KeepN n₀ g A B) (k : KeepN n₀ g B C) : KeepN n₀ g A C := fun i hi hg => (k i hi hg).trans (h i hi hg)
theorem KeepN.below {n₀ g : Nat} {A B : World} (h : Below n₀ A B) : KeepN n₀ g A B := fun i hi _ => h.block i hi
theorem KeepN.cell {n₀ g : Nat} {A B : World} (h : KeepN n₀ g A B) {p : Addr} (hp : p.block < n₀) (hg : p.block ≠ g) : B.cell? p = A.cell? p := by
  have := h p.block hp hg
  unfold World.cell?
  rw [this]
theorem slice_len {P : Program} {t e : TypeId} {k : IntKind} {bytes : Nat} (E : ElT P t e k bytes) (A : Option Addr) (n c l m : Nat) (hl : l ≤ n) (hm : m = n - l) :
    ∃ A' c', ∀ (w : World) (kl : IntKind), (Instr.sliceAt t (.slice A n c) (some (.int kl l)) none none).run P w = .ok (.slice A' m c') w := by
  subst hm
  refine ⟨if c = l then A else A.map (·.add (l * 1)), c - l, fun w kl => ?_⟩
  rw [run_sliceAt_slice _ _ _ _ _ _ (by rw [E.elem]; exact E.ht), run_slice_l _ _ _ _ _ (by rw [E.elem]; exact E.ht) kl l (by omega) (by omega), E.elem, E.size]
  simp [Result.andThen, sliced]
theorem slice_four {P : Program} {t e : TypeId} {k : IntKind} {bytes : Nat} (E : ElT P t e k bytes) (ad : Addr) (n c l : Nat) (hl : l + 4 ≤ n) (hc : n ≤ c) (w : World) (kl kh km : IntKind) :
    (Instr.sliceAt t (.slice (some ad) n c) (some (.int kl l)) (some (.int kh ((l : Int) + 4))) (some (.int km ((l : Int) + 4)))).run P w = .ok (.slice (some (ad.add l)) 4 4) w := by
  rw [run_sliceAt_slice _ _ _ _ _ _ (by rw [E.elem]; exact E.ht), run_slice_lhm _ _ _ _ _ (by rw [E.elem]; exact E.ht) kl kh km l ((l : Int) + 4) ((l : Int) + 4) (by omega) (by omega) (by omega) (by omega), E.elem, E.size]
  have h1 : ((l : Int) + 4).toNat = l + 4 := by omega
  simp [Result.andThen, sliced, h1]

theorem finR_succ {m k : Nat} (h : k < m) : (List.finRange m).take (k + 1) = (List.finRange m).take k ++ [⟨k, h⟩] := by
  rw [List.take_succ_eq_append_getElem (by simpa using h)]
  simp
set_option maxRecDepth 100000 in
set_option maxHeartbeats 2000000 in
theorem chunk_stops (n : Nat) (hn : 1 ≤ n) (b1 b2 g n₀ : Nat) (ad : Addr) (L c m : Nat) (hL : L = 4 * m) (hm : L ≤ 1099511627776) (hc : L ≤ c) (w : World) (h1 : w.cell? ⟨b1, 0, none⟩ = some (.slice (some ad) L c)) (h2 : w.cell? ⟨b2, 0, none⟩ = some (.int .i64 4))
    (g1 : b1 ≠ g) (g2 : b2 ≠ g) (l1 : b1 < n₀) (l2 : b2 < n₀) (hw : n₀ ≤ w.heap.size) :
    SeqStopsK Fence.wide n Try.prog 31 #[.pointer (some ⟨b1, 0, none⟩), .pointer (some ⟨b2, 0, none⟩)] (fun k : Fin m => #[Value.slice (some (ad.add (4 * k.1))) 4 4]) (KeepN n₀ g) (fun ys => ys = List.finRange m) (fun _ => True) m w := by
  intro l J Jx W hW hJ hJx hY h0
  have c1 := (hW.cell (p := ⟨b1, 0, none⟩) (by simp; omega)).trans h1
  have c2 := (hW.cell (p := ⟨b2, 0, none⟩) (by simp; omega)).trans h2
  clear h1 h2 hJx
  refine callsIn_of_wp Try.func31 rfl trivial ?_ rfl
  simp only [Try.ntmps31, List.size_toArray, List.length_cons, List.length_nil, Nat.reduceAdd, Nat.reduceSub, Array.replicate_succ, Array.replicate_zero, List.push_toArray, List.append_toArray, List.nil_append, List.cons_append]
  gi_wp2
  gi_loopw [4] (fun i wr => ∃ q k : Nat, k ≤ m ∧ i = .int .i64 (q : Nat) ∧ Hid (q = 4 * k) ∧ q ≤ L ∧ J ((List.finRange m).take k) wr ∧ KeepN n₀ g W wr)
    (fun i _ => L - (intOf i).toNat)
  case atStart => exact ⟨0, 0, Nat.zero_le _, rfl, Lib.hid rfl, Nat.zero_le _, h0, KeepN.refl _ _ _⟩
  case round =>
    obtain ⟨q, k, hk, rfl, HQ, hqL, hJs, hnx⟩ := hrel
    have d1 := (hnx.cell (p := ⟨b1, 0, none⟩) l1 g1).trans c1
    have d2 := (hnx.cell (p := ⟨b2, 0, none⟩) l2 g2).trans c2
    by_cases hlt : k < m
    · have hq4 : q + 4 ≤ L := by have := HQ.out; omega
      obtain ⟨A', c', hs1⟩ := slice_len elU8 (some ad) L c q (L - q) hqL rfl
      have hs2 := slice_four elU8 ad L c q hq4 hc
      have hr4 : 4 ≤ L - q := by omega
      generalize hrr : L - q = r at *
      have HL := Lib.hid hL
      have HRR := Lib.hid hrr
      clear hL hrr
      gi_wp2
      refine wpIn_wide.2 ?_
      go_quiet (fail)
      have hJ2 : J ((List.finRange m).take k) (wr.drewN nq) := hJ _ wr _ none hJs (only_drewN (World.grownBy.refl _ _) nq) (fun r e => by cases e)
      have hn2 : KeepN n₀ g W (wr.drewN nq) := hnx
      have e1 : (wr.drewN nq).cell? ⟨b1, 0, none⟩ = some (.slice (some ad) L c) := d1
      have e2 : (wr.drewN nq).cell? ⟨b2, 0, none⟩ = some (.int .i64 4) := d2
      clear hJs hnx d1 d2
      generalize wr.drewN nq = wq at *
      obtain ⟨fn, tmps, assign, body, hy, hR⟩ := hY _ ⟨k, hlt⟩ wq hJ2 (by rw [List.length_take, List.length_finRange]; omega)
      dsimp only at hy
      rw [← HQ.out] at hy
      clear hY
      gi_wp2
      refine hR.mono ?_
      rintro e W3 (⟨rfl, hJ3, hk3⟩ | ⟨rfl, hJx3⟩)
      · have i2 := (hk3.cell (p := ⟨b2, 0, none⟩) l2 g2).trans e2
        gi_wp2
        go_roundw
        case rel => exact ⟨q + 4, k + 1, by omega, by go_num, Lib.hid (by have := HQ.out; omega), by omega, by rw [finR_succ hlt]; exact hJ3, hn2.trans hk3⟩
        case measure => simp [intOf]; omega
      · gi_wp2
        refine bodyPost_ret (results_none rfl _ _ _) rfl ?_
        exact ⟨⟨_, rfl⟩, .inr ⟨_, trivial, hJx3⟩⟩
    · have hqe : q = L := by have := HQ.out; omega
      have hk' : k = m := by omega
      have HL := Lib.hid hL
      clear hL
      subst hqe hk'
      gi_wp2
      go_end0
      rw [List.take_of_length_le (by simp)] at hJs
      exact ⟨⟨_, rfl⟩, .inl ⟨_, rfl, hJs⟩⟩
theorem chunk_any (A : Option Addr) (n c : Nat) (w : World) :
    Calls Try.prog 26 #[.slice A n c, .int .i64 4] w fun e w' => e = .returned (.func (.func 31) #[] #[.pointer (some ⟨w.heap.size, 0, none⟩), .pointer (some ⟨w.heap.size + 1, 0, none⟩)]) ∧
      w' = (w.alloc (.cells #[.slice A n c] 30)).alloc (.cells #[.int .i64 4] 3) := by
  go_enter Try.func26, Try.ntmps26
  go_wp2_with fail
  go_ret
  simp
end Go.Proofs.Ytakmaocfcmdpmaa
