/- Layer 20: contract of Tell. Conditions: as each theorem states them. -/
import Derived.Test.YtghjlndkleclfaaI14
namespace Go.Proofs.Ytghjlndkleclfaa
open Go.RowKit
/-- the cells of a frame that tells a number as retired -/
def frV (q : Int) : List Value := [.int .u64 25, .int .u64 q, .int .u64 0, .int .u64 0, .int .u64 0, .int .u64 0, .bool false, .slice none 0 0, .slice none 0 0, .int .u8 0, .int .u8 0, .int .u8 0, .int .u8 0, .int .u8 0, .int .u8 0, .int .u8 0, .int .u8 0, .int .u8 0, .int .u8 0, .int .u8 0, .int .u8 0, .int .u8 0, .int .u8 0, .int .u8 0, .int .u8 0, .slice none 0 0, .int .u64 0, .int .u64 0, .int .u64 0, .int .u64 0]
def frL (xs : List Int) : List Value := xs.flatMap frV
theorem frV_len (q : Int) : (frV q).length = 30 := rfl
theorem frL_len (xs : List Int) : (frL xs).length = xs.length * 30 := by
  induction xs with
  | nil => rfl
  | cons x l ih => unfold frL at ih ⊢; rw [List.flatMap_cons, List.length_append, ih, List.length_cons, frV_len]; omega
theorem frL_snoc (xs : List Int) (q : Int) : frL (xs ++ [q]) = frL xs ++ frV q := by unfold frL; rw [List.flatMap_append]; simp
theorem frV_one (q : Int) : ∀ u ∈ frV q, u.oneCell' = true := by
  intro u hu
  unfold frV at hu
  simp only [List.mem_cons, List.not_mem_nil, or_false] at hu
  rcases hu with rfl | rfl | rfl | rfl | rfl | rfl | rfl | rfl | rfl | rfl | rfl | rfl | rfl | rfl | rfl | rfl | rfl | rfl | rfl | rfl | rfl | rfl | rfl | rfl | rfl | rfl | rfl | rfl | rfl | rfl <;> rfl
theorem infoF : (Try.prog.info? 34).map (fun i => (i.zero, i.size, i.bytes)) = some (some (.agg #[.int .u64 0, .int .u64 0, .int .u64 0, .int .u64 0, .int .u64 0, .int .u64 0, .bool false, .slice none 0 0, .slice none 0 0, .int .u8 0, .int .u8 0, .int .u8 0, .int .u8 0, .int .u8 0, .int .u8 0, .int .u8 0, .int .u8 0, .int .u8 0, .int .u8 0, .int .u8 0, .int .u8 0, .int .u8 0, .int .u8 0, .int .u8 0, .int .u8 0, .slice none 0 0, .int .u64 0, .int .u64 0, .int .u64 0, .int .u64 0]), 30, 176) := by kernel_rfl
theorem sizeF : (Try.prog.info? 34).map (·.size) = some 30 := by kernel_rfl
set_option maxRecDepth 100000 in
set_option maxHeartbeats 4000000 in
theorem tell_any (B g : Nat) (vo vp : Value) (s : IS) (w : World) (h : IdR B g w vo vp s) (l3 : s.ret.length ≤ 100) :
    Calls Try.prog 10 #[.pointer (some ⟨g, 0, none⟩)] w fun e w' => ∃ v, e = .returned v ∧ w'.ownsRow w.heap.size 34 30 v s.ret.length (frL s.ret) ∧ IdR B g w' vo vp ⟨s.own, s.nx, s.peer, s.us, s.pr, []⟩ ∧ w.grownBy w' (some g) := by
  obtain ⟨own, nx, peer, us, pr, ret⟩ := s
  simp only at l3
  obtain ⟨vr, k1, k2⟩ := h.blk
  obtain ⟨Ar, nr, cr, rfl, k3⟩ := k2
  have I1 := Lib.hid h
  have K1 := Lib.hid k1
  have R1 := Lib.hid k3
  have hnr := k3.len
  have HNR := Lib.hid hnr
  obtain ⟨i0, hi0, hz0, hz1, hz2⟩ := info_parts infoF
  have HI0 := Lib.hid hi0
  have HZ0 := Lib.hid hz0
  have HZ1 := Lib.hid hz1
  have HZ2 := Lib.hid hz2
  have hnr1 : nr ≤ 100 := by simp only at hnr; omega
  obtain ⟨c0, c1, c2, c3, c4, c5⟩ := id_cells k1
  clear h k1 k3 hnr hi0 hz0 hz1 hz2 l3
  go_enter Try.func10, Try.ntmps10
  go_wp2_with fail
  clear c0 c1 c2 c3 c4 c5
  go_loopw [3, 14] (fun v i wr => ∃ (k : Nat) (A : Option Addr) (c : Nat), k ≤ nr ∧ i = .int .i64 k ∧ v = .slice A k c ∧ Hid (wr.ownsRow w.heap.size 34 30 (.slice A k c) k (frL (ret.take k))) ∧ Hid (Below w.heap.size w wr)) (fun _ i _ => nr - (intOf i).toNat)
  case atStart => exact ⟨0, none, 0, by omega, rfl, rfl, Lib.hid (World.ownsRow_nil _ _ _ _), Lib.hid (Below.refl _ _)⟩
  case round =>
    obtain ⟨k, A, c, hk, rfl, rfl, HO, HB⟩ := hrel
    by_cases hlt : k < nr
    · have hkl : k < ret.length := by have h := HNR.out; have h2 : nr = ret.length := h; omega
      obtain ⟨ad, hA, _, hc⟩ := ((R1.out.below HB.out).rd) k hkl
      have HSN : Hid (ret.take (k + 1) = ret.take k ++ [ret.getD k 0]) := Lib.hid (by rw [List.take_succ_eq_append_getElem hkl, List.getD_eq_getElem?_getD, List.getElem?_eq_getElem hkl]; rfl)
      subst hA
      generalize ret.getD k 0 = q at *
      clear hkl
      have hzw := HB.out.size
      go_wp2_with (at_builtin; go_loud (refine wpList_append_own (o := ⟨some 22, _, _, _, _, _⟩) _ rfl _ _ 28 rfl w.heap.size 34 i0 (.agg #[.int .u64 0, .int .u64 0, .int .u64 0, .int .u64 0, .int .u64 0, .int .u64 0, .bool false, .slice none 0 0, .slice none 0 0, .int .u8 0, .int .u8 0, .int .u8 0, .int .u8 0, .int .u8 0, .int .u8 0, .int .u8 0, .int .u8 0, .int .u8 0, .int .u8 0, .int .u8 0, .int .u8 0, .int .u8 0, .int .u8 0, .int .u8 0, .int .u8 0, .slice none 0 0, .int .u64 0, .int .u64 0, .int .u64 0, .int .u64 0]) 30 176 Try.underlying28 HI0.out HZ0.out HZ1.out HZ2.out rfl (by decide) _ _ _ rfl (HO.out.alloc _) ⟨wr.heap.size, 0, none⟩ 1 1 (frV q) rfl rfl (blk_at (Blk.new _ _ _)) (frV_one q) ?_ ?_ ?_ ?_); (unfold maxLen; omega); omega; (simp; omega); intro v2 w2 ho2 hg2 _)
      have bla := (Below.refl wr.heap.size wr).alloc (Nat.le_refl _) (.cells (frV q).toArray 34)
      have bo := below_own (HO.out.alloc (.cells (frV q).toArray 34)) hg2 (Nat.le_trans hzw bla.size)
      have B2 := Lib.hid (HB.out.trans ((bla.mono hzw).trans bo))
      have HO2 := Lib.hid ho2
      clear ho2 hg2 bla bo
      obtain ⟨A2, c2, hv2, _⟩ := own_form HO2.out
      subst hv2
      refine ⟨⟨k + 1, A2, c2, by omega, by go_num, rfl, Lib.hid ?_, B2⟩, ?_⟩
      · rw [HSN.out, frL_snoc]
        exact HO2.out
      · simp [intOf]
        omega
    · have K2 := Lib.hid (Blk.below K1.out HB.out (Blk.lt K1.out))
      have I2 := Lib.hid (I1.out.below HB.out)
      have hkn : k = nr := by omega
      have HKN := Lib.hid hkn
      clear hkn
      obtain ⟨c0, c1, c2, c3, c4, c5⟩ := id_cells K2.out
      have f5 := Blk.frozen K2.out 5
      go_wp2_with fail
      have G3 : wr.grownBy (wr.setCell ⟨g, 5, none⟩ (.slice none 0 0)) (some g) := set_only
      have hk := K2.out.notT (e := 47) (by decide)
      have hk8 := K2.out.notT (e := 5) (by decide)
      have hkF := K2.out.notT (e := 34) (by decide)
      have KK : Blk (wr.setCell ⟨g, 5, none⟩ (.slice none 0 0)) g 45 #[vo, .int .u64 nx, vp, .int .u64 us, .int .u64 pr, .slice none 0 0] := Blk.cast (Blk.set_ K2.out 5 _) (by simp)
      have OO := row_kept HO.out G3 hkF
      go_ret
      refine ⟨_, rfl, ?_, ⟨⟨_, KK, none, 0, 0, rfl, Own.nil _ _ _ _⟩, I2.out.own.grown G3 (row_ne I2.out.own hk) hk8, I2.out.peer.grown G3 (row_ne I2.out.peer hk) hk8⟩, grown_cat_ (only_of_below HB.out (some g)) G3⟩
      have e : ret.take k = ret := List.take_of_length_le (by have h := HNR.out; have h2 : nr = ret.length := h; have := HKN.out; omega)
      rw [e] at OO
      have e2 : ret.length = k := by have h := HNR.out; have h2 : nr = ret.length := h; have := HKN.out; omega
      show World.ownsRow _ _ _ _ _ ret.length (frL ret)
      rw [e2]
      exact OO
end Go.Proofs.Ytghjlndkleclfaa
