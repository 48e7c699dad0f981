/- Layer 20: the law's retires, one number. Conditions: as each theorem states them. -/
import Derived.Test.YtghjlndkleclfaaI21
namespace Go.Proofs.Ytghjlndkleclfaa
open Go.RowKit
/-- an own row of frames that is not empty -/
theorem frow_blk {B n : Nat} {w : World} {v : Value} {xs : List Value} (h : w.ownsRow B 34 30 v n xs) (hn : 0 < n) : ∃ (g c : Nat) (cur : List Value), v = .slice (some ⟨g, 0, none⟩) n c ∧ Blk w g 34 cur.toArray ∧ n ≤ c ∧ cur.length = c * 30 ∧ cur.take (n * 30) = xs ∧ B ≤ g := by
  rcases h.2 with ⟨_, h2, _⟩ | ⟨g', cap, cur, h1, h2, h3, h4, h5, h6, h7⟩
  · omega
  · exact ⟨g', cap, cur.toList, h1, by simpa [Blk] using h3, h4, by simpa using h6, h7, h2⟩
theorem frow_load {g n i : Nat} {w : World} {cur vs xs : List Value} (hk : Blk w g 34 cur.toArray) (hx : cur.take (n * 30) = xs) (hi : i < n) (hv : vs.length = 30) (hg : (xs.drop (i * 30)).take 30 = vs) : (Instr.loadAt 34 (.pointer (some ⟨g, i * 30, none⟩))).run Try.prog w = .ok (.agg vs.toArray) w :=
  row_load (P := Try.prog) (vs := vs) (fun j v hj => by
    have hjl : j < vs.length := by
      rcases Nat.lt_or_ge j vs.length with hc | hc
      · exact hc
      · rw [List.getElem?_eq_none hc] at hj; cases hj
    subst hg hx
    rw [List.getElem?_take, if_pos (by rw [hv] at hjl; exact hjl), List.getElem?_drop, List.getElem?_take] at hj
    have h3 : i * 30 + j < n * 30 := by rw [hv] at hjl; have : (i + 1) * 30 ≤ n * 30 := Nat.mul_le_mul_right 30 hi; omega
    rw [if_pos h3] at hj
    rw [show (⟨g, i * 30, none⟩ : Addr).add j = ⟨g, i * 30 + j, none⟩ from by simp [Addr.add]]
    rw [Blk.cell hk]
    simpa using hj) Try.underlying34 (by rw [sizeF34, hv])
set_option maxRecDepth 100000 in
set_option maxHeartbeats 4000000 in
theorem retires_one (B g gw : Nat) (vo vp : Value) (s : IS) (q : Int) (w : World) (h : IdR B g w vo vp s) (hr : s.ret = [q]) (hw : Blk w gw 27 #[.int .u64 q]) :
    Calls Try.prog 15 #[.pointer (some ⟨g, 0, none⟩), .slice (some ⟨gw, 0, none⟩) 1 1] w fun e w' => e = .returned (.bool true) ∧ IdR B g w' vo vp ⟨s.own, s.nx, s.peer, s.us, s.pr, []⟩ ∧ w.grownBy w' (some g) := by
  obtain ⟨own, nx, peer, us, pr, ret⟩ := s
  simp only at hr
  subst hr
  have RT := tell_any B g vo vp _ w h (by simp)
  obtain ⟨vr, kg, _⟩ := h.blk
  have HWG : gw ≠ g := Blk.ne_ hw kg (by decide)
  have HW := Lib.hid hw
  clear h kg hw
  go_enter Try.func15, Try.ntmps15
  go_wp2_with fail
  refine Calls.mono RT ?_
  clear RT
  rintro e w2 ⟨v, rfl, f2, i2, g2⟩
  obtain ⟨gl, cl, cur, rfl, kl, hn, hl, hx, hB⟩ := frow_blk f2 (by simp)
  have I2 := Lib.hid i2
  have G2 := Lib.hid g2
  have L2 := Lib.hid kl
  have W2 := Lib.hid (Blk.grown HW.out g2 (by intro q; injection q with q; exact HWG q))
  have hrow := frow_load (vs := frV q) (i := 0) kl hx (by simp) rfl (by simp [frL, frV])
  have HGL : Hid (gl < w2.heap.size) := Lib.hid kl.lt
  clear f2 i2 g2 kl HW
  go_wp2_with fail
  refine wp_loop_rounds 3 ?_
  rw [rounds_succ]
  have F3 : Hid (Blk (w2.alloc (.cells #[.int .u64 0, .int .u64 0, .int .u64 0, .int .u64 0, .int .u64 0, .int .u64 0, .bool false, .slice none 0 0, .slice none 0 0, .int .u8 0, .int .u8 0, .int .u8 0, .int .u8 0, .int .u8 0, .int .u8 0, .int .u8 0, .int .u8 0, .int .u8 0, .int .u8 0, .int .u8 0, .int .u8 0, .int .u8 0, .int .u8 0, .int .u8 0, .int .u8 0, .slice none 0 0, .int .u64 0, .int .u64 0, .int .u64 0, .int .u64 0] 34)) w2.heap.size 34 #[.int .u64 0, .int .u64 0, .int .u64 0, .int .u64 0, .int .u64 0, .int .u64 0, .bool false, .slice none 0 0, .slice none 0 0, .int .u8 0, .int .u8 0, .int .u8 0, .int .u8 0, .int .u8 0, .int .u8 0, .int .u8 0, .int .u8 0, .int .u8 0, .int .u8 0, .int .u8 0, .int .u8 0, .int .u8 0, .int .u8 0, .int .u8 0, .int .u8 0, .slice none 0 0, .int .u64 0, .int .u64 0, .int .u64 0, .int .u64 0]) := Lib.hid (Blk.new _ _ _)
  go_wp2_with (first
    | ((with_reducible (show wpList _ _ _ (⟨some 21, .load _ _, _, _, _, _⟩ :: _) _ _)); refine wpList_loadV (o := ⟨some 21, .load _ _, _, _, _, _⟩) rfl _ rfl rfl (hrow) ?_)
    | ((with_reducible (show wpList _ _ _ (⟨none, .store 34 _ _, _, _, _, _⟩ :: _) _ _)); go_loud (refine wpList_storeBlk (o := ⟨none, .store 34 _ _, _, _, _, _⟩) (g := w2.heap.size) (t := 34) (vs := frV q) rfl _ _ rfl rfl rfl F3.out rfl (frV_one q) sizeF34 ?_); intro w4 z4 g4))
  have Z4 := Lib.hid z4
  have BB := Lib.hid (((Below.refl w2.heap.size w2).alloc (Nat.le_refl _) (.cells #[.int .u64 0, .int .u64 0, .int .u64 0, .int .u64 0, .int .u64 0, .int .u64 0, .bool false, .slice none 0 0, .slice none 0 0, .int .u8 0, .int .u8 0, .int .u8 0, .int .u8 0, .int .u8 0, .int .u8 0, .int .u8 0, .int .u8 0, .int .u8 0, .int .u8 0, .int .u8 0, .int .u8 0, .int .u8 0, .int .u8 0, .int .u8 0, .int .u8 0, .slice none 0 0, .int .u64 0, .int .u64 0, .int .u64 0, .int .u64 0] 34)).trans (below_of_only g4 (Nat.le_refl _) (by simp)))
  have I4 := Lib.hid (I2.out.below BB.out)
  have W4 := Lib.hid (W2.out.below BB.out W2.out.lt)
  obtain ⟨g3, hg3⟩ : ∃ z, w2.heap.size = z := ⟨_, rfl⟩
  rw [hg3] at Z4 ⊢
  have HG3 := Lib.hid hg3
  have z0 := Blk.cell Z4.out 0
  have z1 := Blk.cell Z4.out 1
  have y0 := Blk.cell W4.out 0
  simp [frV] at z0 z1 y0
  clear z4 g4 hrow F3 hg3
  go_wp2_with fail
  go_region
  go_wp2_with fail
  all_goals
    rw [rounds_succ]
    go_wp2_with fail
    have I5 := Lib.hid (I4.out.below (Below.refl w4.heap.size w4).drew)
    have RT := tell_any B g vo vp _ w4.drew I5.out (by simp)
    refine Calls.mono RT ?_
    clear RT
    rintro e w6 ⟨v, rfl, f6, i6, g6⟩
    obtain ⟨A6, c6, hv6, _⟩ := own_form f6
    subst hv6
    have GG := Lib.hid (grown_cat_ (grown_cat_ G2.out (only_of_below BB.out (some g))) (grown_cat_ (only_of_below (Below.refl w4.heap.size w4).drew (some g)) g6))
    have I6 := Lib.hid i6
    clear f6 i6 g6
    go_wp2_with fail
    go_ret
    exact ⟨rfl, I6.out, GG.out⟩
end Go.Proofs.Ytghjlndkleclfaa
