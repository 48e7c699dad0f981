/- Append of so many noughts (append of a make) to a slice of the call's own. Conditions: as each theorem states them. -/
import Derived.Test.YthknncdhjicklaaB
import Derived.Lib.AppendZerosOnto
namespace Go.Proofs.Ythknncdhjicklaa
open Go.RowKit
theorem zeroCells_one (v : Value) (m : Nat) : (Builtin.zeroCells #[v] m).toList = List.replicate m v := by
  unfold Builtin.zeroCells
  simp [Nat.mod_one, List.map_const']
theorem run_append_room_zeros {P : Program} (w : World) (t tn ty e : TypeId) (i : TypeInfo) (z : Value) (kq kn : IntKind) (ht : P.underlying t = some (.slice e)) (htn : P.underlying tn = some (.int kn)) (hi : P.info? e = some i) (hz : i.zero = some z) (h1 : z.oneCell' = true) (hz1 : z.cells = #[z]) (hs : i.size = 1)
    (g sLen sCap : Nat) (cur : Array Value) (hg : w.heap[g]? = some (.cells cur e (0, 0))) (k : Nat) (h0 : 0 < k) (hroom : sLen + k ≤ sCap) (hfit : sLen + k ≤ cur.size) (h63 : (k : Int) ≤ 9223372036854775807) (h48 : k * i.bytes ≤ 281474976710656) :
    (Builtin.append_ #[t, tn] ty #[.slice (some ⟨g, 0, none⟩) sLen sCap, .int kq k]).run P w =
      .ok (.slice (some ⟨g, 0, none⟩) (sLen + k) sCap) (w.setRow g (cur.toList.take sLen ++ List.replicate k z ++ cur.toList.drop (sLen + k)).toArray) := by
  have hk : k ≠ 0 := by omega
  have hw : IntKind.i64.wrap (k : Int) = k := by rw [IntKind.wrap_i64]; omega
  have h48i : ¬ (281474976710656 < (k : Int) * (i.bytes : Int)) := by
    rw [← Int.natCast_mul]
    omega
  have hneg : ¬ ((k : Int) < 0) := by omega
  have hns : ¬ (k * i.size = 0) := Nat.mul_ne_zero hk (by omega)
  have hst := run_storeCells_at P g sLen e (List.replicate k z) 0 cur w hg (by simpa using hfit) (by intro u hu; rw [(List.mem_replicate.1 hu).2]; exact h1)
  simp only [Nat.add_zero, List.length_replicate] at hst
  have hzc := zeroCells_one z k
  simp [Builtin.append_, run_underlying ht, run_underlying htn, sizeOf, typeInfo, zeroValue, hi, hz, asInt, asIntOf, hw, hneg, hk, hs, h48i, hroom, hz1, hzc, Addr.add_lit, hst]
theorem append_zeros {P : Program} {t tn e : TypeId} {k kn : IntKind} {bytes B : Nat} {w : World} {A : Option Addr} {n c : Nat} {xs : List Int} (E : ElT P t e k bytes) (htn : P.underlying tn = some (.int kn)) (ty : TypeId) (ho : Own B e k w A n c xs) (m : Nat) (kq : IntKind) (h0 : 0 < m) (hl0 : xs.length + m ≤ 17592186044416) (hB : B ≤ w.heap.size) :
    ∃ A' n' c' w', (Builtin.append_ #[t, tn] ty #[.slice A n c, .int kq m]).run P w = .ok (.slice A' n' c') w' ∧ Apd B e k w A (xs ++ List.replicate m 0) A' n' c' w' := by
  obtain ⟨i, hi, hz, hs, hby⟩ := info_parts E.info
  have hn := ho.2
  subst hn
  have hmost := E.most
  have hb1 : (xs.length + m) * i.bytes ≤ 140737488355328 := by rw [hby]; exact Nat.le_trans (Nat.mul_le_mul hl0 hmost) (by decide)
  have hb2 : m * i.bytes ≤ 140737488355328 := Nat.le_trans (Nat.mul_le_mul_right _ (by omega)) hb1
  have hml : xs.length + m ≤ maxLen := Nat.le_trans hl0 (by decide)
  have hzc : (Value.int k 0).cells = #[Value.int k 0] := rfl
  have hcells : (Builtin.zeroCells #[Value.int k 0] m) = ((List.replicate m (0 : Int)).map (Value.int k)).toArray := by
    apply Array.toList_inj.1
    rw [zeroCells_one]; simp
  have grown : ∀ (old : Nat), old < xs.length + m →
      Apd B e k w A (xs ++ List.replicate m 0) (some ⟨w.heap.size, 0, none⟩) (xs.length + m) (grownCap w (xs.length + m) old e)
        (w.drew.alloc (.cells ((xs.map (Value.int k)).toArray ++ Builtin.zeroCells #[Value.int k 0] m ++ Builtin.zeroCells #[Value.int k 0] (grownCap w (xs.length + m) old e - (xs.length + m))) e)) := by
    intro old ho'
    have hge := grownCap_ge w (xs.length + m) old e
    have hcm : grownCap w (xs.length + m) old e ≤ maxLen := grownCap_le_maxLen w (xs.length + m) old e hml
    refine ⟨⟨⟨by simp, .inr ⟨w.heap.size, _, _, rfl, hB, heap_alloc_new w.drew _, hge, hcm, ?_, ?_⟩⟩, by simp⟩, ⟨rfl, rfl, rfl, by simp, fun j hj _ => Below.heap_alloc w.drew _ j hj⟩, ⟨rfl, rfl, rfl, by simp, fun j hj => Below.heap_alloc w.drew _ j (Nat.lt_of_lt_of_le hj hB)⟩, .inr ⟨_, rfl, Nat.le_refl _⟩⟩
    · simp only [Array.size_append, List.size_toArray, size_zeroCells, List.length_map]
      simp
      omega
    · rw [hcells]
      simp only [Array.toList_append, List.append_assoc]
      rw [← List.append_assoc, ← List.map_append, Nat.mul_one, List.take_append_of_le_length (by simp), List.take_of_length_le (by simp)]
  rcases ho.1.2 with ⟨h1, h2⟩ | ⟨g, cap, cur, h1, hbg, hg, hnc, hcm, hcs, htake⟩
  · injection h1 with h1 h3 h4
    subst h1
    subst h4
    have hx : xs = [] := List.eq_nil_of_length_eq_zero h2
    subst hx
    have hr := Lib.run_append_nil_zeros (P := P) w t tn ty e i (.int k 0) kq kn E.ht htn hi hz m h0 (by omega) (by simp only [List.length_nil] at hml; unfold maxLen at hml; omega) (by omega)
    have hg := grown 0 (by simp; omega)
    simp only [List.length_nil, Nat.zero_add, List.map_nil, Array.empty_append] at hg
    exact ⟨_, _, _, _, hr, hg⟩
  · injection h1 with h1 h3 h4
    subst h1
    subst h4
    simp only [Nat.mul_one] at hcs htake
    by_cases hroom : xs.length + m ≤ c
    · have hr := run_append_room_zeros (P := P) w t tn ty e i (.int k 0) kq kn E.ht htn hi hz rfl rfl hs g xs.length c cur hg m h0 hroom (by omega) (by unfold maxLen at hml; omega) (by omega)
      refine ⟨_, _, _, _, hr, ⟨⟨by simp, .inr ⟨g, c, _, rfl, hbg, setRow_heap w g cur _ e _ hg, hroom, hcm, ?_, ?_⟩⟩, by simp⟩, ⟨rfl, rfl, rfl, by simp, fun j _ hj => setRow_other w g j _ (fun e => hj (by simp [ablk, e]))⟩, ⟨rfl, rfl, rfl, by simp, fun j hj => setRow_other w g j _ (by omega)⟩, .inl rfl⟩
      · simp only [List.size_toArray, List.length_append, List.length_take, List.length_drop, Array.length_toList, List.length_replicate]
        omega
      · rw [htake, Nat.mul_one, List.take_append_of_le_length (by simp), List.take_of_length_le (by simp)]
        simp
    · have holds : ∀ j u, (xs.map (Value.int k))[j]? = some u → w.drew.cell? ((⟨g, 0, none⟩ : Addr).add j) = some u := ho.1.cells (g := g) rfl
      have hold := run_firstCells_some (P := P) w.drew i.size xs.length ⟨g, 0, none⟩ xs.length c (xs.map (Value.int k)) (by rw [hs]; simp) holds
      have hfit := growslice_fits (need := xs.length + m) (show c < xs.length + m by omega) hb1
      have hr := Lib.run_append_grow_zeros (P := P) w t tn ty e i (.int k 0) kq kn E.ht htn hi hz (some ⟨g, 0, none⟩) xs.length c (xs.map (Value.int k)) hold m h0 (by omega) (by omega) (by unfold maxLen at hml; omega) (by omega) (by omega)
      exact ⟨_, _, _, _, hr, grown c (by omega)⟩
theorem wpList_appz {P : Program} {t tn e : TypeId} {k kn kq : IntKind} {bytes B : Nat} {w : World} {A : Option Addr} {n c m : Nat} {xs : List Int} {ops : Array Oper} {rest : List Oper} {o : Oper} {a : Act} {Q : Exit → Act → World → Prop}
    (E : ElT P t e k bytes) (htn : P.underlying tn = some (.int kn)) (hgd : o.guard = none) (s x : Operand) (hop : o.op = .call { callee := .builtin .append, args := #[s, x], argTypes := #[t, tn] })
    (hs : a.eval s = .slice A n c) (hx : a.eval x = .int kq m) (ho : Own B e k w A n c xs) (h0 : 0 < m) (hl : xs.length + m ≤ 17592186044416) (hB : B ≤ w.heap.size)
    (h : ∀ A' n' c' w', Apd B e k w A (xs ++ List.replicate m 0) A' n' c' w' → wpList P ops Q rest (a.put o.dst (.slice A' n' c')) w') : wpList P ops Q (o :: rest) a w := by
  obtain ⟨A', n', c', w', hrun, hA⟩ := append_zeros E htn o.type ho m kq h0 hl hB
  exact Lib.wpList_append_run w hgd s x t tn hop _ _ hs hx _ w' hrun (h _ _ _ _ hA)
end Go.Proofs.Ythknncdhjicklaa
