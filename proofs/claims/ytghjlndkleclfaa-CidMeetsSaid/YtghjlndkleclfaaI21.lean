/- Layer 20: the law's told, is, retires; the reference's Same, of two frames that are one. Conditions: as each theorem states them. -/
import Derived.Test.YtghjlndkleclfaaI20
namespace Go.Proofs.Ytghjlndkleclfaa
open Go.RowKit
theorem results_fr1 {w : World} {gF : Nat} {cs : List Value} {fn : Func} {x : Tmp} {tmps : Array Value} (hr : fn.results = #[.cell x 34]) (hx : tmps.getD x undef = .pointer (some ⟨gF, 0, none⟩)) (h : Blk w gF 34 cs.toArray) (hl : cs.length = 30) :
    (results fn tmps).run Try.prog w = .ok (.agg cs.toArray) w := by
  have hx' : tmps[x]?.getD undef = .pointer (some ⟨gF, 0, none⟩) := by simpa using hx
  have hld := fr_load h hl
  simp [Instr.loadAt, Instr.sureAddr] at hld
  simp [results, hr, hx', hld, asAddr]
theorem frT_one (A : Option Addr) (n c : Nat) (q m : Int) : ∀ u ∈ ([.int .u64 24, .int .u64 q, .int .u64 0, .int .u64 m, .int .u64 0, .int .u64 0, .bool false, .slice none 0 0, .slice A n c, .int .u8 0, .int .u8 0, .int .u8 0, .int .u8 0, .int .u8 0, .int .u8 0, .int .u8 0, .int .u8 0, .int .u8 0, .int .u8 0, .int .u8 0, .int .u8 0, .int .u8 0, .int .u8 0, .int .u8 0, .int .u8 0, .slice none 0 0, .int .u64 0, .int .u64 0, .int .u64 0, .int .u64 0] : List Value), u.oneCell' = true := by
  intro u hu
  simp only [List.mem_cons, List.not_mem_nil, or_false] at hu
  rcases hu with rfl | rfl | rfl | rfl | rfl | rfl | rfl | rfl | rfl | rfl | rfl | rfl | rfl | rfl | rfl | rfl | rfl | rfl | rfl | rfl | rfl | rfl | rfl | rfl | rfl | rfl | rfl | rfl | rfl | rfl <;> rfl
set_option maxRecDepth 100000 in
set_option maxHeartbeats 2000000 in
theorem told_any (q m o : Int) (w : World) : Calls Try.prog 13 #[.int .u64 q, .int .u64 m, .int .u8 o] w fun e w' => ∃ A, e = .returned (.agg #[.int .u64 24, .int .u64 q, .int .u64 0, .int .u64 m, .int .u64 0, .int .u64 0, .bool false, .slice none 0 0, .slice A 1 1, .int .u8 0, .int .u8 0, .int .u8 0, .int .u8 0, .int .u8 0, .int .u8 0, .int .u8 0, .int .u8 0, .int .u8 0, .int .u8 0, .int .u8 0, .int .u8 0, .int .u8 0, .int .u8 0, .int .u8 0, .int .u8 0, .slice none 0 0, .int .u64 0, .int .u64 0, .int .u64 0, .int .u64 0]) ∧ Rd w'.heap.size .u8 w' A [o] ∧ Below w.heap.size w w' := by
  have b1 := (Below.refl w.heap.size w).alloc (Nat.le_refl _) (.cells #[.int .u64 0, .int .u64 0, .int .u64 0, .int .u64 0, .int .u64 0, .int .u64 0, .bool false, .slice none 0 0, .slice none 0 0, .int .u8 0, .int .u8 0, .int .u8 0, .int .u8 0, .int .u8 0, .int .u8 0, .int .u8 0, .int .u8 0, .int .u8 0, .int .u8 0, .int .u8 0, .int .u8 0, .int .u8 0, .int .u8 0, .int .u8 0, .int .u8 0, .slice none 0 0, .int .u64 0, .int .u64 0, .int .u64 0, .int .u64 0] 34)
  have B2 := Lib.hid (b1.alloc b1.size (.cells #[.int .u8 o] 5))
  have F2 : Hid (Blk ((w.alloc (.cells #[.int .u64 0, .int .u64 0, .int .u64 0, .int .u64 0, .int .u64 0, .int .u64 0, .bool false, .slice none 0 0, .slice none 0 0, .int .u8 0, .int .u8 0, .int .u8 0, .int .u8 0, .int .u8 0, .int .u8 0, .int .u8 0, .int .u8 0, .int .u8 0, .int .u8 0, .int .u8 0, .int .u8 0, .int .u8 0, .int .u8 0, .int .u8 0, .int .u8 0, .slice none 0 0, .int .u64 0, .int .u64 0, .int .u64 0, .int .u64 0] 34)).alloc (.cells #[.int .u8 o] 5)) w.heap.size 34 #[.int .u64 0, .int .u64 0, .int .u64 0, .int .u64 0, .int .u64 0, .int .u64 0, .bool false, .slice none 0 0, .slice none 0 0, .int .u8 0, .int .u8 0, .int .u8 0, .int .u8 0, .int .u8 0, .int .u8 0, .int .u8 0, .int .u8 0, .int .u8 0, .int .u8 0, .int .u8 0, .int .u8 0, .int .u8 0, .int .u8 0, .int .u8 0, .int .u8 0, .slice none 0 0, .int .u64 0, .int .u64 0, .int .u64 0, .int .u64 0]) := Lib.hid ((Blk.new _ _ _).alloc _)
  have S2 : Hid (Rd (w.heap.size + 1 + 1) .u8 ((w.alloc (.cells #[.int .u64 0, .int .u64 0, .int .u64 0, .int .u64 0, .int .u64 0, .int .u64 0, .bool false, .slice none 0 0, .slice none 0 0, .int .u8 0, .int .u8 0, .int .u8 0, .int .u8 0, .int .u8 0, .int .u8 0, .int .u8 0, .int .u8 0, .int .u8 0, .int .u8 0, .int .u8 0, .int .u8 0, .int .u8 0, .int .u8 0, .int .u8 0, .int .u8 0, .slice none 0 0, .int .u64 0, .int .u64 0, .int .u64 0, .int .u64 0] 34)).alloc (.cells #[.int .u8 o] 5)) (some ⟨w.heap.size + 1, 0, none⟩) [o]) := Lib.hid (Rd.newAt (by simp) rfl)
  clear b1
  go_enter Try.func13, Try.ntmps13
  go_wp2_with ((with_reducible (show wpList _ _ _ (⟨none, .store 34 _ _, _, _, _, _⟩ :: _) _ _)); go_loud (refine wpList_storeBlk (o := ⟨none, .store 34 _ _, _, _, _, _⟩) (g := w.heap.size) (t := 34) (vs := [.int .u64 24, .int .u64 q, .int .u64 0, .int .u64 m, .int .u64 0, .int .u64 0, .bool false, .slice none 0 0, .slice (some ⟨w.heap.size + 1, 0, none⟩) 1 1, .int .u8 0, .int .u8 0, .int .u8 0, .int .u8 0, .int .u8 0, .int .u8 0, .int .u8 0, .int .u8 0, .int .u8 0, .int .u8 0, .int .u8 0, .int .u8 0, .int .u8 0, .int .u8 0, .int .u8 0, .int .u8 0, .slice none 0 0, .int .u64 0, .int .u64 0, .int .u64 0, .int .u64 0]) rfl _ _ rfl rfl rfl F2.out rfl (frT_one _ _ _ _ _) sizeF34 ?_); intro w3 z3 g3)
  refine bodyPost_ret (results_fr1 rfl rfl z3 rfl) rfl ⟨_, rfl, ?_, B2.out.trans (below_of_only g3 (Nat.le_refl _) B2.out.size)⟩
  have hs : w.heap.size + 1 + 1 ≤ ((w.alloc (.cells #[.int .u64 0, .int .u64 0, .int .u64 0, .int .u64 0, .int .u64 0, .int .u64 0, .bool false, .slice none 0 0, .slice none 0 0, .int .u8 0, .int .u8 0, .int .u8 0, .int .u8 0, .int .u8 0, .int .u8 0, .int .u8 0, .int .u8 0, .int .u8 0, .int .u8 0, .int .u8 0, .int .u8 0, .int .u8 0, .int .u8 0, .int .u8 0, .int .u8 0, .slice none 0 0, .int .u64 0, .int .u64 0, .int .u64 0, .int .u64 0] 34)).alloc (.cells #[.int .u8 o] 5)).heap.size := by simp
  exact (S2.out.far g3 hs (by intro ad h; injection h with h; subst h; simp)).mono (Nat.le_trans hs g3.size)
theorem conv_nC {B : Nat} {w : World} {A : Option Addr} {xs : List Int} {n : Nat} (hr : Rd B .u8 w A xs) (hn : xs.length = n) (c : Nat) : (convert 26 9 (.slice A n c)).run Try.prog w = .ok (.string (strOfNums xs)) w := by
  subst hn; exact conv_rd elC Try.underlying9 hr c
theorem str_sameC (X : List Int) : ((strOfNums X).toList == (strOfNums X).toList) = true := by simp
set_option maxRecDepth 100000 in
set_option maxHeartbeats 2000000 in
theorem is_yes (B g : Nat) (vo vp : Value) (s : IS) (x : CX) (rest : List CX) (q : Int) (w : World) (h : IdR B g w vo vp s) (hp : s.peer = x :: rest) (hx : x.seq = s.us) (hq : x.bs = [q]) (l2 : s.peer.length ≤ 1000) :
    Calls Try.prog 14 #[.pointer (some ⟨g, 0, none⟩), .int .u8 q] w fun e w' => e = .returned (.bool true) ∧ Below w.heap.size w w' := by
  have RC := current_head B g vo vp s x rest w h hp hx l2
  rw [hq] at RC
  clear h hp hx hq l2
  go_enter Try.func14, Try.ntmps14
  go_wp2_with fail
  refine Calls.mono RC ?_
  clear RC
  rintro e w2 ⟨A, c, rfl, o2, b2⟩
  have B3 := Lib.hid (b2.alloc b2.size (.cells #[.int .u8 q] 5))
  have v1 := conv_nC (n := 1) o2.rd rfl c
  have v2 := conv_nC (n := 1) (Rd.newAt (w := w2) (g := w2.heap.size) (e := 5) (k := .u8) (cs := #[.int .u8 q]) (xs := [q]) rfl rfl) rfl 1
  have ss := str_sameC [q]
  clear o2 b2
  go_wp2_with fail
  go_ret
  exact ⟨rfl, B3.out⟩
end Go.Proofs.Ytghjlndkleclfaa
