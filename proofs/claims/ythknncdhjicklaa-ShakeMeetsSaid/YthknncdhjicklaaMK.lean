/- A make of so many integers: its cells are noughts. Conditions: as each theorem states them. -/
import Derived.Test.YthknncdhjicklaaB
import Derived.Laws.MakeOwn
namespace Go.Proofs.Ythknncdhjicklaa
open Go.RowKit
theorem madeCells_one (v : Value) (m : Nat) : madeCells #[v] m = (List.replicate m v).toArray := by
  unfold madeCells
  apply Array.toList_inj.1
  simp [Nat.mod_one, List.map_const']
theorem make_any {P : Program} {t e : TypeId} {k : IntKind} {bytes : Nat} (E : ElT P t e k bytes) (n : Nat) (hn : n ≤ 1099511627776) (W : World) :
    (Instr.makeSlice t (.int .i64 (n : Nat)) (.int .i64 (n : Nat))).run P W = .ok (.slice (some ⟨W.heap.size, 0, none⟩) n n) (W.alloc (.cells ((List.replicate n (0 : Int)).map (Value.int k)).toArray e)) := by
  obtain ⟨i, hi, hz, hs, hby⟩ := info_parts E.info
  have hmost := E.most
  have hb1 : i.bytes * n ≤ 281474976710656 := by rw [hby]; exact Nat.le_trans (Nat.mul_le_mul hmost hn) (by decide)
  have hb : (i.bytes : Int) * (n : Int) ≤ 281474976710656 := by rw [← Int.natCast_mul]; omega
  have h := run_make (P := P) W t e i (.int k 0) E.ht hi hz .i64 .i64 n n (by omega) (by omega) hb (by omega)
  have hc : madeCells (Value.int k 0).cells (n * i.size) = ((List.replicate n (0 : Int)).map (Value.int k)).toArray := by
    rw [hs, Nat.mul_one]
    show madeCells #[Value.int k 0] n = _
    rw [madeCells_one]; simp
  simp only [Int.toNat_natCast] at h
  rw [hc] at h
  exact h
end Go.Proofs.Ythknncdhjicklaa
