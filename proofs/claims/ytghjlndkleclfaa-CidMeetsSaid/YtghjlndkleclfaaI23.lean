/- Layer 20: the reference's Same, of two frames that are one. Conditions: as each theorem states them. -/
import Derived.Test.YtghjlndkleclfaaI22
namespace Go.Proofs.Ytghjlndkleclfaa
open Go.RowKit
theorem tok_eql {t : Int} (h0 : 0 ≤ t) (h1 : t < 256) (w : World) : (Op.equalIn 10000 30 (.agg #[.int .u8 t, .int .u8 0, .int .u8 0, .int .u8 0, .int .u8 0, .int .u8 0, .int .u8 0, .int .u8 0, .int .u8 0, .int .u8 0, .int .u8 0, .int .u8 0, .int .u8 0, .int .u8 0, .int .u8 0, .int .u8 0]) (.agg #[.int .u8 t, .int .u8 0, .int .u8 0, .int .u8 0, .int .u8 0, .int .u8 0, .int .u8 0, .int .u8 0, .int .u8 0, .int .u8 0, .int .u8 0, .int .u8 0, .int .u8 0, .int .u8 0, .int .u8 0, .int .u8 0])).run Try.prog w = .ok true w := by
  have h := eqIn_self (P := Try.prog) 9998 (t := 30) (e := 5) (n := 16) (xs := tk t) w Try.underlying30 Try.underlying5 (fun w => by kernel_rfl) (fun z hz => by
    unfold tk at hz
    rcases List.mem_cons.1 hz with rfl | hz
    · omega
    · rw [List.eq_of_mem_replicate hz]; decide) rfl
  have e : cellsL .u8 (tk t) = #[.int .u8 t, .int .u8 0, .int .u8 0, .int .u8 0, .int .u8 0, .int .u8 0, .int .u8 0, .int .u8 0, .int .u8 0, .int .u8 0, .int .u8 0, .int .u8 0, .int .u8 0, .int .u8 0, .int .u8 0, .int .u8 0] := rfl
  rw [e] at h
  exact h
theorem ecn_eq (w : World) : (Op.equalIn 10000 32 (.agg #[.int .u64 0, .int .u64 0, .int .u64 0]) (.agg #[.int .u64 0, .int .u64 0, .int .u64 0])).run Try.prog w = .ok true w := by kernel_rfl
set_option maxRecDepth 100000 in
set_option maxHeartbeats 4000000 in
theorem same_yes (id mx t : Int) (A1 A2 : Option Addr) (n c1 c2 : Nat) (bs : List Int) (w : World) (h1 : Rd w.heap.size .u8 w A1 bs) (h2 : Rd w.heap.size .u8 w A2 bs) (hn : bs.length = n) (ht0 : 0 ≤ t) (ht1 : t < 256) :
    Calls Try.prog 12 #[.agg #[.int .u64 24, .int .u64 id, .int .u64 0, .int .u64 mx, .int .u64 0, .int .u64 0, .bool false, .slice none 0 0, .slice A1 n c1, .int .u8 t, .int .u8 0, .int .u8 0, .int .u8 0, .int .u8 0, .int .u8 0, .int .u8 0, .int .u8 0, .int .u8 0, .int .u8 0, .int .u8 0, .int .u8 0, .int .u8 0, .int .u8 0, .int .u8 0, .int .u8 0, .slice none 0 0, .int .u64 0, .int .u64 0, .int .u64 0, .int .u64 0], .agg #[.int .u64 24, .int .u64 id, .int .u64 0, .int .u64 mx, .int .u64 0, .int .u64 0, .bool false, .slice none 0 0, .slice A2 n c2, .int .u8 t, .int .u8 0, .int .u8 0, .int .u8 0, .int .u8 0, .int .u8 0, .int .u8 0, .int .u8 0, .int .u8 0, .int .u8 0, .int .u8 0, .int .u8 0, .int .u8 0, .int .u8 0, .int .u8 0, .int .u8 0, .slice none 0 0, .int .u64 0, .int .u64 0, .int .u64 0, .int .u64 0]] w fun e w' => e = .returned (.bool true) ∧ Below w.heap.size w w' := by
  have B1 := (Below.refl w.heap.size w).alloc (Nat.le_refl _) (.cells #[.int .u64 24, .int .u64 id, .int .u64 0, .int .u64 mx, .int .u64 0, .int .u64 0, .bool false, .slice none 0 0, .slice A1 n c1, .int .u8 t, .int .u8 0, .int .u8 0, .int .u8 0, .int .u8 0, .int .u8 0, .int .u8 0, .int .u8 0, .int .u8 0, .int .u8 0, .int .u8 0, .int .u8 0, .int .u8 0, .int .u8 0, .int .u8 0, .int .u8 0, .slice none 0 0, .int .u64 0, .int .u64 0, .int .u64 0, .int .u64 0] 34)
  have B2 := Lib.hid (B1.alloc B1.size (.cells #[.int .u64 24, .int .u64 id, .int .u64 0, .int .u64 mx, .int .u64 0, .int .u64 0, .bool false, .slice none 0 0, .slice A2 n c2, .int .u8 t, .int .u8 0, .int .u8 0, .int .u8 0, .int .u8 0, .int .u8 0, .int .u8 0, .int .u8 0, .int .u8 0, .int .u8 0, .int .u8 0, .int .u8 0, .int .u8 0, .int .u8 0, .int .u8 0, .int .u8 0, .slice none 0 0, .int .u64 0, .int .u64 0, .int .u64 0, .int .u64 0] 34))
  have F1 : Hid (FrB w.heap.size ((w.alloc (.cells #[.int .u64 24, .int .u64 id, .int .u64 0, .int .u64 mx, .int .u64 0, .int .u64 0, .bool false, .slice none 0 0, .slice A1 n c1, .int .u8 t, .int .u8 0, .int .u8 0, .int .u8 0, .int .u8 0, .int .u8 0, .int .u8 0, .int .u8 0, .int .u8 0, .int .u8 0, .int .u8 0, .int .u8 0, .int .u8 0, .int .u8 0, .int .u8 0, .int .u8 0, .slice none 0 0, .int .u64 0, .int .u64 0, .int .u64 0, .int .u64 0] 34)).alloc (.cells #[.int .u64 24, .int .u64 id, .int .u64 0, .int .u64 mx, .int .u64 0, .int .u64 0, .bool false, .slice none 0 0, .slice A2 n c2, .int .u8 t, .int .u8 0, .int .u8 0, .int .u8 0, .int .u8 0, .int .u8 0, .int .u8 0, .int .u8 0, .int .u8 0, .int .u8 0, .int .u8 0, .int .u8 0, .int .u8 0, .int .u8 0, .int .u8 0, .int .u8 0, .slice none 0 0, .int .u64 0, .int .u64 0, .int .u64 0, .int .u64 0] 34)) id mx t A1 n c1) := Lib.hid ((Blk.new _ _ _).alloc _)
  have F2 : Hid (FrB (w.heap.size + 1) ((w.alloc (.cells #[.int .u64 24, .int .u64 id, .int .u64 0, .int .u64 mx, .int .u64 0, .int .u64 0, .bool false, .slice none 0 0, .slice A1 n c1, .int .u8 t, .int .u8 0, .int .u8 0, .int .u8 0, .int .u8 0, .int .u8 0, .int .u8 0, .int .u8 0, .int .u8 0, .int .u8 0, .int .u8 0, .int .u8 0, .int .u8 0, .int .u8 0, .int .u8 0, .int .u8 0, .slice none 0 0, .int .u64 0, .int .u64 0, .int .u64 0, .int .u64 0] 34)).alloc (.cells #[.int .u64 24, .int .u64 id, .int .u64 0, .int .u64 mx, .int .u64 0, .int .u64 0, .bool false, .slice none 0 0, .slice A2 n c2, .int .u8 t, .int .u8 0, .int .u8 0, .int .u8 0, .int .u8 0, .int .u8 0, .int .u8 0, .int .u8 0, .int .u8 0, .int .u8 0, .int .u8 0, .int .u8 0, .int .u8 0, .int .u8 0, .int .u8 0, .int .u8 0, .slice none 0 0, .int .u64 0, .int .u64 0, .int .u64 0, .int .u64 0] 34)) id mx t A2 n c2) := Lib.hid (blk_new_at (by simp))
  have v1 := fun c => conv_nC (h1.below B2.out (Nat.le_refl _)) hn c
  have v2 := fun c => conv_nC (h2.below B2.out (Nat.le_refl _)) hn c
  have vz := conv_nC (n := 0) (w := (w.alloc (.cells #[.int .u64 24, .int .u64 id, .int .u64 0, .int .u64 mx, .int .u64 0, .int .u64 0, .bool false, .slice none 0 0, .slice A1 n c1, .int .u8 t, .int .u8 0, .int .u8 0, .int .u8 0, .int .u8 0, .int .u8 0, .int .u8 0, .int .u8 0, .int .u8 0, .int .u8 0, .int .u8 0, .int .u8 0, .int .u8 0, .int .u8 0, .int .u8 0, .int .u8 0, .slice none 0 0, .int .u64 0, .int .u64 0, .int .u64 0, .int .u64 0] 34)).alloc (.cells #[.int .u64 24, .int .u64 id, .int .u64 0, .int .u64 mx, .int .u64 0, .int .u64 0, .bool false, .slice none 0 0, .slice A2 n c2, .int .u8 t, .int .u8 0, .int .u8 0, .int .u8 0, .int .u8 0, .int .u8 0, .int .u8 0, .int .u8 0, .int .u8 0, .int .u8 0, .int .u8 0, .int .u8 0, .int .u8 0, .int .u8 0, .int .u8 0, .int .u8 0, .slice none 0 0, .int .u64 0, .int .u64 0, .int .u64 0, .int .u64 0] 34)) (B := 0) (A := none) (Rd.nil) (rfl : ([] : List Int).length = 0) 0
  have ss := str_sameC bs
  have sz := str_sameC []
  have te := fun w => tok_eql ht0 ht1 w
  have tc := fun w => ecn_eq w
  clear h1 h2 hn B1
  go_enter Try.func12, Try.ntmps12
  go_wp2_with (first
    | ((with_reducible (show wpList _ _ _ (⟨some 74, .load _ _, _, _, _, _⟩ :: _) _ _)); refine wpList_loadV (o := ⟨some 74, .load _ _, _, _, _, _⟩) rfl _ rfl rfl (tok_load F1.out) ?_)
    | ((with_reducible (show wpList _ _ _ (⟨some 76, .load _ _, _, _, _, _⟩ :: _) _ _)); refine wpList_loadV (o := ⟨some 76, .load _ _, _, _, _, _⟩) rfl _ rfl rfl (tok_load F2.out) ?_))
  refine wp_loop_rounds 2 ?_
  rw [rounds_succ]
  go_wp2_with fail
  go_ret
  exact ⟨rfl, B2.out⟩
end Go.Proofs.Ytghjlndkleclfaa
