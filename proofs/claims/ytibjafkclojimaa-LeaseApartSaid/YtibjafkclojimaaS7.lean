
/- Texts that the call itself lays; contract: the law's own known. Conditions: as each theorem states them. -/
import Derived.Test.YtibjafkclojimaaS6
import Derived.Test.YtibjafkclojimaaS1k
import Derived.Lib.SmallJoins
namespace Go.Proofs.Ytibjafkclojimaa
open Go.RowKit

theorem Rd.mark {w : World} {g : Nat} {e : TypeId} {k : IntKind} {cs : Array Value} {fr : Nat × Nat} {xs : List Int} (hg : w.heap.size = g) (hc : cs = (xs.map (Value.int k)).toArray) : Rd (g + 1) k (w.alloc (.cells cs e fr)) (some ⟨g, 0, none⟩) xs := fun i hi => by
  subst hg
  subst hc
  refine ⟨_, rfl, Nat.lt_succ_self _, ?_⟩
  rw [add_zero_addr, World.cell?_alloc_mark]
  simp [List.getElem?_map, List.getD_eq_getElem?_getD, List.getElem?_eq_getElem hi]
def txV (t : Tx) : Value := .slice t.A t.xs.length t.c
theorem Txs.newAt {w : World} {g : Nat} {e : TypeId} {cs : Array Value} {ts : List Tx} (hg : w.heap.size = g) (hc : cs = (ts.map txV).toArray) (ht : ∀ t ∈ ts, Rd g .u8 w t.A t.xs ∧ t.xs.length ≤ t.c) :
    Txs (w.alloc (.cells cs e)).heap.size (w.alloc (.cells cs e)) (some ⟨g, 0, none⟩) ts := fun i hi => by
  subst hg
  subst hc
  obtain ⟨h1, h2⟩ := ht _ (getD_mem (z := Tx.none) hi)
  refine ⟨_, rfl, by simp, ?_, (h1.alloc (Nat.le_refl _) _).mono (by simp), h2⟩
  rw [add_zero_addr, Blk.cell (Blk.new _ _ _) i]
  simp [List.getElem?_map, List.getElem?_eq_getElem hi, List.getD_eq_getElem?_getD, txV]
theorem join_one (A : Option Addr) (c : Nat) (xs : List Int) : joinT [⟨A, c, xs⟩] = xs := by unfold joinT; simp
theorem byt_abc : Byt [97, 98, 99] := by intro x hx; simp at hx; omega
theorem join_nil : joinT [] = [] := by unfold joinT; rfl

theorem conv_arr {w : World} {g : Nat} {t : TypeId} {xs : List Int} (h : Arr w g t .u8 xs) (n : Nat) (hn : n = xs.length) (c : Nat) :
    (convert 50 9 (.slice (some ⟨g, 0, none⟩) n c)).run Try.prog w = .ok (.string (strOfNums xs)) w := by
  subst hn; exact conv_rd elU8 Try.underlying9 h.rd c

theorem str_abc : strOfNums [186, 120, 22, 191, 143, 1, 207, 234, 65, 65, 64, 222, 93, 174, 34, 35, 176, 3, 97, 163, 150, 23, 122, 156, 180, 16, 255, 97, 242, 0, 21, 173] = ⟨#[186, 120, 22, 191, 143, 1, 207, 234, 65, 65, 64, 222, 93, 174, 34, 35, 176, 3, 97, 163, 150, 23, 122, 156, 180, 16, 255, 97, 242, 0, 21, 173]⟩ := by kernel_rfl
theorem conv_abc {w : World} {g : Nat} {t : TypeId} {X : List Int} (h : Arr w g t .u8 X) (hX : X = [186, 120, 22, 191, 143, 1, 207, 234, 65, 65, 64, 222, 93, 174, 34, 35, 176, 3, 97, 163, 150, 23, 122, 156, 180, 16, 255, 97, 242, 0, 21, 173]) :
    (convert 50 9 (.slice (some ⟨g, 0, none⟩) 32 32)).run Try.prog w = .ok (.string ⟨#[186, 120, 22, 191, 143, 1, 207, 234, 65, 65, 64, 222, 93, 174, 34, 35, 176, 3, 97, 163, 150, 23, 122, 156, 180, 16, 255, 97, 242, 0, 21, 173]⟩) w := by
  rw [conv_arr h 32 (by rw [hX]; rfl) 32, hX, str_abc]
theorem str_nil : strOfNums [227, 176, 196, 66, 152, 252, 28, 20, 154, 251, 244, 200, 153, 111, 185, 36, 39, 174, 65, 228, 100, 155, 147, 76, 164, 149, 153, 27, 120, 82, 184, 85] = ⟨#[227, 176, 196, 66, 152, 252, 28, 20, 154, 251, 244, 200, 153, 111, 185, 36, 39, 174, 65, 228, 100, 155, 147, 76, 164, 149, 153, 27, 120, 82, 184, 85]⟩ := by kernel_rfl
theorem conv_nil {w : World} {g : Nat} {t : TypeId} {X : List Int} (h : Arr w g t .u8 X) (hX : X = [227, 176, 196, 66, 152, 252, 28, 20, 154, 251, 244, 200, 153, 111, 185, 36, 39, 174, 65, 228, 100, 155, 147, 76, 164, 149, 153, 27, 120, 82, 184, 85]) :
    (convert 50 9 (.slice (some ⟨g, 0, none⟩) 32 32)).run Try.prog w = .ok (.string ⟨#[227, 176, 196, 66, 152, 252, 28, 20, 154, 251, 244, 200, 153, 111, 185, 36, 39, 174, 65, 228, 100, 155, 147, 76, 164, 149, 153, 27, 120, 82, 184, 85]⟩) w := by
  rw [conv_arr h 32 (by rw [hX]; rfl) 32, hX, str_nil]
end Go.Proofs.Ytibjafkclojimaa
