/- Texts that the call itself lays; contract: the law's own known. Conditions: as each theorem states them. -/
import Derived.Test.YtepkbllcaeceeaaS6
import Derived.Test.YtepkbllcaeceeaaS1k
import Derived.Lib.SmallJoins
namespace Go.Proofs.Ytepkbllcaeceeaa
open Go.RowKit

theorem Rd.mark {w : World} {g : Nat} {e : TypeId} {k : IntKind} {cs : Array Value} {fr : Nat × Nat} {xs : List Int} (hg : w.heap.size = g) (hc : cs = (xs.map (Value.int k)).toArray) : Rd (g + 1) k (w.alloc (.cells cs e fr)) (some ⟨g, 0, none⟩) xs := fun i hi => by
  subst hg
  subst hc
  refine ⟨_, rfl, Nat.lt_succ_self _, ?_⟩
  rw [add_zero_addr, World.cell?_alloc_mark]
  simp [List.getElem?_map, List.getD_eq_getElem?_getD, List.getElem?_eq_getElem hi]
def txV (t : Tx) : Value := .slice t.A t.xs.length t.c
theorem Txs.newAt {w : World} {g : Nat} {e : TypeId} {cs : Array Value} {ts : List Tx} (hg : w.heap.size = g) (hc : cs = (ts.map txV).toArray) (ht : ∀ t ∈ ts, Rd g .u8 w t.A t.xs ∧ t.xs.length ≤ t.c) :
    Txs (w.alloc (.cells cs e)).heap.size (w.alloc (.cells cs e)) (some ⟨g, 0, none⟩) ts := fun i hi => by
  subst hg
  subst hc
  obtain ⟨h1, h2⟩ := ht _ (getD_mem (z := Tx.none) hi)
  refine ⟨_, rfl, by simp, ?_, (h1.alloc (Nat.le_refl _) _).mono (by simp), h2⟩
  rw [add_zero_addr, Blk.cell (Blk.new _ _ _) i]
  simp [List.getElem?_map, List.getElem?_eq_getElem hi, List.getD_eq_getElem?_getD, txV]
theorem join_one (A : Option Addr) (c : Nat) (xs : List Int) : joinT [⟨A, c, xs⟩] = xs := by unfold joinT; simp
theorem byt_abc : Byt [97, 98, 99] := by intro x hx; simp at hx; omega
theorem join_nil : joinT [] = [] := by unfold joinT; rfl

theorem conv_arr {w : World} {g : Nat} {t : TypeId} {xs : List Int} (h : Arr w g t .u8 xs) (n : Nat) (hn : n = xs.length) (c : Nat) :
    (convert 28 9 (.slice (some ⟨g, 0, none⟩) n c)).run Try.prog w = .ok (.string (strOfNums xs)) w := by
  subst hn; exact conv_rd elU8 Try.underlying9 h.rd c

theorem str_abc : strOfNums [186, 120, 22, 191, 143, 1, 207, 234, 65, 65, 64, 222, 93, 174, 34, 35, 176, 3, 97, 163, 150, 23, 122, 156, 180, 16, 255, 97, 242, 0, 21, 173] = ⟨#[186, 120, 22, 191, 143, 1, 207, 234, 65, 65, 64, 222, 93, 174, 34, 35, 176, 3, 97, 163, 150, 23, 122, 156, 180, 16, 255, 97, 242, 0, 21, 173]⟩ := by kernel_rfl
theorem conv_abc {w : World} {g : Nat} {t : TypeId} {X : List Int} (h : Arr w g t .u8 X) (hX : X = [186, 120, 22, 191, 143, 1, 207, 234, 65, 65, 64, 222, 93, 174, 34, 35, 176, 3, 97, 163, 150, 23, 122, 156, 180, 16, 255, 97, 242, 0, 21, 173]) :
    (convert 28 9 (.slice (some ⟨g, 0, none⟩) 32 32)).run Try.prog w = .ok (.string ⟨#[186, 120, 22, 191, 143, 1, 207, 234, 65, 65, 64, 222, 93, 174, 34, 35, 176, 3, 97, 163, 150, 23, 122, 156, 180, 16, 255, 97, 242, 0, 21, 173]⟩) w := by
  rw [conv_arr h 32 (by rw [hX]; rfl) 32, hX, str_abc]
theorem str_nil : strOfNums [227, 176, 196, 66, 152, 252, 28, 20, 154, 251, 244, 200, 153, 111, 185, 36, 39, 174, 65, 228, 100, 155, 147, 76, 164, 149, 153, 27, 120, 82, 184, 85] = ⟨#[227, 176, 196, 66, 152, 252, 28, 20, 154, 251, 244, 200, 153, 111, 185, 36, 39, 174, 65, 228, 100, 155, 147, 76, 164, 149, 153, 27, 120, 82, 184, 85]⟩ := by kernel_rfl
theorem conv_nil {w : World} {g : Nat} {t : TypeId} {X : List Int} (h : Arr w g t .u8 X) (hX : X = [227, 176, 196, 66, 152, 252, 28, 20, 154, 251, 244, 200, 153, 111, 185, 36, 39, 174, 65, 228, 100, 155, 147, 76, 164, 149, 153, 27, 120, 82, 184, 85]) :
    (convert 28 9 (.slice (some ⟨g, 0, none⟩) 32 32)).run Try.prog w = .ok (.string ⟨#[227, 176, 196, 66, 152, 252, 28, 20, 154, 251, 244, 200, 153, 111, 185, 36, 39, 174, 65, 228, 100, 155, 147, 76, 164, 149, 153, 27, 120, 82, 184, 85]⟩) w := by
  rw [conv_arr h 32 (by rw [hX]; rfl) 32, hX, str_nil]
set_option maxRecDepth 100000 in
set_option maxHeartbeats 2000000 in
theorem known06_any (w : World) : Calls Try.prog 13 #[] w fun e w' => e = .returned (.bool true) ∧ Below w.heap.size w w' := by
  have hcv := Lib.run_convert_bytes_const w 28 5 #[.int .u8 97, .int .u8 98, .int .u8 99] 3 3 Try.underlying28 Try.underlying5
  go_enter Try.func13, Try.ntmps13
  go_wp2_with fail
  clear hcv
  refine Calls.mono (sum_any _ _ [⟨some ⟨w.heap.size, 0, none⟩, 3, [97, 98, 99]⟩] _ ?_ ?_ ?_ ?_) ?_
  · refine Txs.newAt (by simp) rfl ?_
    intro t ht
    rw [List.mem_singleton] at ht
    subst ht
    exact ⟨Rd.mark (xs := [97, 98, 99]) rfl rfl, (by decide : (3 : Nat) ≤ 3)⟩
  · intro t ht
    rw [List.mem_singleton] at ht
    subst ht
    exact byt_abc
  · rw [join_one]; decide
  · simp
  rintro e w1 ⟨rfl, hb1⟩
  rw [join_one]
  have HX := Lib.hid sha_abc
  generalize shaL [97, 98, 99] = X at *
  have B1 := Lib.hid ((((Below.refl w.heap.size w).alloc (Nat.le_refl _) _).alloc (by simp) _).trans (hb1.mono (by simp; omega)))
  clear hb1
  go_wp2_with fail
  refine (sum_any none 0 [] w1 Txs.nil (by intro t ht; cases ht) (by rw [join_nil]; decide) (by decide)).mono ?_
  rintro e w2 ⟨rfl, hb2⟩
  rw [join_nil]
  have HY := Lib.hid sha_nil
  generalize shaL [] = Y at *
  have B2 := Lib.hid (B1.out.trans (hb2.mono B1.out.size))
  clear hb2
  have hX : Hid (X.length = 32) := Lib.hid (by rw [HX.out]; rfl)
  have hY : Hid (Y.length = 32) := Lib.hid (by rw [HY.out]; rfl)
  go_wp2_with (first
    | (with_reducible (show wpList _ _ _ (⟨none, .store 25 (.tmp 1) _, _, _, _, _⟩ :: _) _ _); refine wpList_storeArr (o := ⟨none, .store 25 (.tmp 1) _, _, _, _, _⟩) (g := w2.heap.size) (t := 25) (k := .u8) (xs := X) (n := 32) rfl _ _ rfl rfl rfl (Blk.alloc (Blk.new _ _ _) _) size32 hX.out.symm rfl ?_; intro w3 ha3 hg3; have hk3 := blk_grown_new hg3 (g := w2.heap.size + 1) (by simp) (by simp))
    | (with_reducible (show wpList _ _ _ (⟨none, .store 25 (.tmp 2) _, _, _, _, _⟩ :: _) _ _); refine wpList_storeArr (o := ⟨none, .store 25 (.tmp 2) _, _, _, _, _⟩) (g := w2.heap.size + 1) (t := 25) (k := .u8) (xs := Y) (n := 32) rfl _ _ rfl rfl rfl hk3 size32 hY.out.symm rfl ?_; intro w4 ha4 hg4; have q1 := conv_abc (ha3.grown hg4 (by simp)) HX.out; have q2 := conv_nil ha4 HY.out; have B4 := Lib.hid ((((B2.out.alloc B2.out.size _).alloc (by have := B2.out.size; simp; omega) _).trans (below_of_only hg3 B2.out.size (by have := B2.out.size; simp; omega))).trans (below_of_only hg4 (by have := B2.out.size; omega) (by have := B2.out.size; have := hg3.size; simp at this; omega))); clear ha3 hg3 hk3 ha4 hg4))
  go_ret
  exact ⟨rfl, B4.out⟩
end Go.Proofs.Ytepkbllcaeceeaa
