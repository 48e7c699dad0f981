/- A string's bytes appended to a slice of bytes of the call's own; strings as lists of numbers. Conditions: as each theorem states them. -/
import Derived.Test.YthknncdhjicklaaB2
import Derived.Deep.AppendSrc
namespace Go.Proofs.Ythknncdhjicklaa
open Go.RowKit
/-- a string's bytes -/
def strL (s : ByteArray) : List Int := s.data.toList.map fun b => (b.toNat : Int)
theorem strL_len (s : ByteArray) : (strL s).length = s.size := by unfold strL; rw [List.length_map, Array.length_toList]; rfl
theorem strL_byt (s : ByteArray) : Byt (strL s) := fun x hx => by
  obtain ⟨b, _, rfl⟩ := List.mem_map.1 hx
  have := b.toNat_lt
  omega
theorem strL_append (a b : ByteArray) : strL (a ++ b) = strL a ++ strL b := by unfold strL; rw [ByteArray.data_append, Array.toList_append, List.map_append]
theorem size_append' (a b : ByteArray) : (a ++ b).size = a.size + b.size := by rw [← strL_len, strL_append, List.length_append, strL_len, strL_len]
theorem strL_cells (s : ByteArray) : byteCells s = (strL s).map (Value.int .u8) := by unfold byteCells strL; rw [List.map_map]; rfl
section
variable {P : Program} {t e tx : TypeId} {bytes B : Nat} {w w' : World} {g n c : Nat} {xs : List Int}
theorem append_str (E : ElT P t e .u8 bytes) (hk : P.underlying tx = some .string) (ty : TypeId) (ho : Own B e .u8 w (some ⟨g, 0, none⟩) n c xs) (s : ByteArray) (hl0 : xs.length + s.size ≤ 17592186044416) (hB : B ≤ w.heap.size) :
    ∃ A' n' c' w', (Builtin.append_ #[t, tx] ty #[.slice (some ⟨g, 0, none⟩) n c, .string s]).run P w = .ok (.slice A' n' c') w' ∧ Own B e .u8 w' A' n' c' (xs ++ strL s) ∧ Below B w w' := by
  have hl : (xs.length + s.size) * bytes ≤ 140737488355328 := Nat.le_trans (Nat.mul_le_mul hl0 E.most) (by decide)
  have hl' : xs.length + s.size ≤ maxLen := Nat.le_trans hl0 (by decide)
  obtain ⟨i, hi, hz, hs, hby⟩ := info_parts E.info
  have hn := ho.2
  subst hn
  obtain ⟨cur, hg, hnc, hcm, hcs, htake, hBg⟩ := ho.heap
  have hsrc : Src P i.size tx (.string s) s.size (byteCells s) w := by rw [hs]; exact Src.ofString w hk s
  have hbl : (byteCells s).length = s.size := byteCells_length s
  have hlen : ((xs ++ strL s).map (Value.int .u8)).length = (xs.length + s.size) * 1 := by rw [List.length_map, List.length_append, strL_len, Nat.mul_one]
  by_cases hroom : xs.length + s.size ≤ c
  · have hst := run_storeCells_at P g (xs.length * i.size) e (byteCells s) 0 cur w hg (by rw [hs, hbl, hcs]; omega) hsrc.one
    simp only [Nat.add_zero] at hst
    have hrun : (Builtin.append_ #[t, tx] ty #[.slice (some ⟨g, 0, none⟩) xs.length c, .string s]).run P w = .ok (.slice (some ⟨g, 0, none⟩) (xs.length + s.size) c) (w.setRow g (cur.toList.take (xs.length * i.size) ++ byteCells s ++ cur.toList.drop (xs.length * i.size + (byteCells s).length)).toArray) := by
      simp [Builtin.append_, run_underlying E.ht, run_underlying hk, sizeOf, typeInfo, hi, hsrc.len, hroom, hsrc.cells, Addr.add_lit, hst]
    refine ⟨_, _, _, _, hrun, ⟨⟨hlen, .inr ⟨g, c, _, rfl, hBg, setRow_heap w g cur _ e _ hg, hroom, hcm, ?_, ?_⟩⟩, by rw [List.length_append, strL_len]⟩, ?_⟩
    · simp only [List.size_toArray, List.length_append, List.length_take, List.length_drop, Array.length_toList, hbl, hs, hcs]
      omega
    · have hcl : cur.toList.length = c := by rw [Array.length_toList, hcs, Nat.mul_one]
      have htk : (cur.toList.take (xs.length * i.size)).length = xs.length := by rw [hs, List.length_take, hcl]; omega
      rw [Nat.mul_one] at htake
      rw [List.toList_toArray, List.take_append_of_le_length (by rw [List.length_append, htk, hbl]; omega), List.take_of_length_le (by rw [List.length_append, htk, hbl]; omega), List.map_append, ← strL_cells, hs, Nat.mul_one, htake]
    · exact ⟨rfl, rfl, rfl, by simp, fun k hk' => setRow_other w g k _ (by omega)⟩
  · have holds : ∀ j u, (xs.map (Value.int .u8))[j]? = some u → w.cell? ((⟨g, 0, none⟩ : Addr).add j) = some u := ho.1.cells (g := g) rfl
    have hfo := run_firstCells_some (P := P) w.drew i.size xs.length ⟨g, 0, none⟩ xs.length c (xs.map (Value.int .u8)) (by rw [hs, List.length_map, Nat.mul_one]) (by simpa using holds)
    have hrun := run_append_grow_src (P := P) w t tx ty e i _ E.ht hi hz (some ⟨g, 0, none⟩) xs.length c _ hfo _ _ _ hsrc (by omega) (by unfold maxLen at hl'; omega) (growslice_fits (by omega) (by rw [hby]; exact hl))
    have hge := grownCap_ge w (xs.length + s.size) c e
    have hgm : grownCap w (xs.length + s.size) c e ≤ maxLen := grownCap_le_maxLen w (xs.length + s.size) c e hl'
    refine ⟨_, _, _, _, hrun, ⟨⟨hlen, .inr ⟨w.heap.size, _, _, rfl, hB, heap_alloc_new w.drew _, hge, hgm, ?_, ?_⟩⟩, by rw [List.length_append, strL_len]⟩, ?_⟩
    · simp only [Array.size_append, List.size_toArray, List.length_append, List.length_map, size_zeroCells, hbl]
      show xs.length + s.size + (grownCap w (xs.length + s.size) c e - (xs.length + s.size)) * 1 = _
      omega
    · simp only [Array.toList_append]
      rw [List.take_append_of_le_length (by simp [hbl]), List.take_of_length_le (by simp [hbl]), List.map_append, ← strL_cells]
    · exact (Below.refl B w).drew.alloc hB _
theorem wpList_appStr {ops : Array Oper} {rest : List Oper} {o : Oper} {a : Act} {Q : Exit → Act → World → Prop} {s : ByteArray} (E : ElT P t e .u8 bytes) (hk : P.underlying tx = some .string) (hgd : o.guard = none) (d x : Operand)
    (hop : o.op = .call { callee := .builtin .append, args := #[d, x], argTypes := #[t, tx] }) (hs : a.eval d = .slice (some ⟨g, 0, none⟩) n c) (hx : a.eval x = .string s) (ho : Own B e .u8 w (some ⟨g, 0, none⟩) n c xs) (hl : xs.length + s.size ≤ 17592186044416) (hB : B ≤ w.heap.size)
    (h : ∀ A' n' c' w', Own B e .u8 w' A' n' c' (xs ++ strL s) → Below B w w' → wpList P ops Q rest (a.put o.dst (.slice A' n' c')) w') : wpList P ops Q (o :: rest) a w := by
  refine wpList_plain hgd fun K hK => ?_
  obtain ⟨A', n', c', w', hrun, h1, h2⟩ := append_str E hk o.type ho s hl hB
  unfold Oper.wp execOp
  simp only [hop, resolve, invoke, builtin, Sem.run_bind, Sem.run_pure, Result.andThen_ok, List.map_toArray, List.map_cons, List.map_nil, hs, hx, hrun]
  exact hK _ _ (h A' n' c' w' h1 h2)
end
end Go.Proofs.Ythknncdhjicklaa
