/- Layer 20: slices.Insert of one entry. Conditions: as each theorem states them. -/
import Derived.Test.YtghjlndkleclfaaI4
import Derived.Lib.Overlaps
import Derived.Lib.AppendZerosOnto
namespace Go.Proofs.Ytghjlndkleclfaa
open Go.RowKit
theorem run_copy_e (w : World) (ty : TypeId) (b o dLen dCap : Nat) (a : Addr) (sLen sCap : Nat) (cs : List Value) (hn : cs.length = Nat.min sLen dLen * 18)
    (hsrc : ∀ j v, cs[j]? = some v → w.cell? (a.add j) = some v) (hc : ∀ j, j < cs.length → (w.cell? ⟨b, o + j, none⟩).isSome = true) (hf : ∀ j, j < cs.length → w.frozen? ⟨b, o + j, none⟩ = false) (h1 : ∀ v ∈ cs, v.oneCell' = true) :
    (Builtin.copy_ #[40, 40] ty #[.slice (some ⟨b, o, none⟩) dLen dCap, .slice (some a) sLen sCap]).run Try.prog w = .ok (goInt (Nat.min sLen dLen)) (w.setCells b o cs) := by
  have hl := run_loadCells_list (P := Try.prog) w a cs hsrc
  have hst := run_storeCells_cells (P := Try.prog) b o cs 0 w (by simpa using hc) (by simpa using hf) h1
  have hs := sizeE
  cases hq : Try.prog.info? 47 with
  | none => simp [hq] at hs
  | some i =>
    have hi : i.size = 18 := by simpa [hq] using hs
    simp [Builtin.copy_, run_underlying Try.underlying40, Builtin.lenOf, Builtin.firstCells, sizeOf, typeInfo, hq, hi, ← hn, hl, hst]
theorem wpList_copy_run {P : Program} (w : World) {ops : Array Oper} {rest : List Oper} {o : Oper} {a : Act} {Q : Exit → Act → World → Prop} (hg : o.guard = none) (d s : Operand) (t t' : TypeId)
    (hop : o.op = .call { callee := .builtin .copy, args := #[d, s], argTypes := #[t, t'] }) (v u : Value) (hd : a.eval d = v) (hs : a.eval s = u) (v' : Value) (w' : World)
    (hr : (Builtin.copy_ #[t, t'] o.type #[v, u]).run P w = .ok v' w') (h : wpList P ops Q rest (a.put o.dst v') w') : wpList P ops Q (o :: rest) a w := by
  refine wpList_plain hg fun K' hK' => ?_
  unfold Oper.wp
  simp [execOp, hop, resolve, invoke, builtin, hd, hs, hr, Result.andThen]
  exact hK' _ _ h
theorem vs_one (x : CX) : ∀ v ∈ x.vs, v.oneCell' = true := by
  intro v hv
  unfold CX.vs at hv
  rcases List.mem_cons.1 hv with rfl | h
  · rfl
  · rcases List.mem_cons.1 h with rfl | h
    · rfl
    · obtain ⟨y, _, rfl⟩ := List.mem_map.1 h
      rfl
theorem ok_row {w w' : World} {B n : Nat} {v : Value} {xs : List Value} {x : CX} (h : w.ownsRow B 47 18 v n xs) (hg : w.grownBy w' v.ownBlock) (hx : x.Ok w) : x.Ok w' := by
  rcases row_block h hg with hb | ⟨b, cs, hg2, hk⟩
  · exact hx.below hb
  · exact hx.grown hg2 (hk.notT (by decide))
theorem vsE_snoc (l : List CX) (x : CX) : vsE (l ++ [x]) = vsE l ++ x.vs := by rw [vsE_app]; simp [vsE]
theorem vsE_cons (x : CX) (l : List CX) : vsE (x :: l) = x.vs ++ vsE l := by simp [vsE]
set_option maxRecDepth 100000 in
set_option maxHeartbeats 2000000 in
theorem insert_end (B vb n : Nat) (v : Value) (l : List CX) (x : CX) (w : World) (h : EntR B w v l) (hn : l.length = n) (hx : x.Ok w) (hv : Blk w vb 47 x.vs.toArray) (hB : B ≤ w.heap.size) (hl : n ≤ 1000) :
    Calls Try.prog 28 #[v, .int .i64 n, .slice (some ⟨vb, 0, none⟩) 1 1] w fun e w' => ∃ v', e = .returned v' ∧ EntR B w' v' (l ++ [x]) ∧ w.grownBy w' v.ownBlock := by
  obtain ⟨i0, hi0, hz0, hz1, hz2⟩ := info_parts infoE
  have HI0 := Lib.hid hi0
  have HZ0 := Lib.hid hz0
  have HZ1 := Lib.hid hz1
  have HZ2 := Lib.hid hz2
  have hR := h.1
  rw [hn] at hR
  have HR := Lib.hid hR
  have HH := Lib.hid h
  have HX := Lib.hid hx
  have HN := Lib.hid hn
  have HS : Hid (∀ j u, x.vs[j]? = some u → w.cell? ((⟨vb, 0, none⟩ : Addr).add j) = some u) := Lib.hid (blk_at hv)
  have HV := Lib.hid (show x.vs.length = 1 * 18 by rw [CX.vs_len hx.tl])
  have hform : (v = .slice none 0 0 ∧ n = 0) ∨ ∃ g c, v = .slice (some ⟨g, 0, none⟩) n c ∧ n ≤ c := by
    rcases h.form with ⟨h1, h2⟩ | ⟨g, c, h1, _, _, h4⟩
    · exact .inl ⟨h1, by rw [← hn, h2]; rfl⟩
    · exact .inr ⟨g, c, by rw [← hn]; exact h1, by omega⟩
  clear h hx hv hi0 hz0 hz1 hz2 hR hn
  rcases hform with ⟨rfl, rfl⟩ | ⟨g, c, rfl, hc⟩
  · go_enter Try.func28, Try.ntmps28
    go_wp2_with (at_builtin; go_loud (refine wpList_append_own (o := ⟨some 25, _, _, _, _, _⟩) _ rfl _ _ 40 rfl B 47 i0 (.agg #[.int .u64 0, .slice none 0 0, .int .u8 0, .int .u8 0, .int .u8 0, .int .u8 0, .int .u8 0, .int .u8 0, .int .u8 0, .int .u8 0, .int .u8 0, .int .u8 0, .int .u8 0, .int .u8 0, .int .u8 0, .int .u8 0, .int .u8 0, .int .u8 0]) 18 48 Try.underlying40 HI0.out HZ0.out HZ1.out HZ2.out rfl (by decide) _ _ _ rfl HR.out ⟨vb, 0, none⟩ 1 1 x.vs rfl HV.out HS.out (vs_one x) ?_ ?_ ?_ ?_); (unfold maxLen; omega); omega; omega; intro v2 w2 ho2 hg2 _)
    have HO2 := Lib.hid ho2
    have HG2 := Lib.hid hg2
    clear ho2 hg2
    go_ret
    refine ⟨_, rfl, ⟨?_, fun y hy => ?_⟩, HG2.out⟩
    · have e := HO2.out
      rw [vsE_snoc, List.length_append, HN.out]
      exact e
    · rcases List.mem_append.1 hy with hy | hy
      · exact ok_row HR.out HG2.out (HH.out.2 y hy)
      · simp at hy; subst hy; exact ok_row HR.out HG2.out HX.out
  · go_enter Try.func28, Try.ntmps28
    go_wp2_with (at_builtin; go_loud (refine wpList_append_own (o := ⟨some 25, _, _, _, _, _⟩) _ rfl _ _ 40 rfl B 47 i0 (.agg #[.int .u64 0, .slice none 0 0, .int .u8 0, .int .u8 0, .int .u8 0, .int .u8 0, .int .u8 0, .int .u8 0, .int .u8 0, .int .u8 0, .int .u8 0, .int .u8 0, .int .u8 0, .int .u8 0, .int .u8 0, .int .u8 0, .int .u8 0, .int .u8 0]) 18 48 Try.underlying40 HI0.out HZ0.out HZ1.out HZ2.out rfl (by decide) _ _ _ rfl HR.out ⟨vb, 0, none⟩ 1 1 x.vs rfl HV.out HS.out (vs_one x) ?_ ?_ ?_ ?_); (unfold maxLen; omega); omega; omega; intro v2 w2 ho2 hg2 _)
    all_goals (
      have HO2 := Lib.hid ho2
      have HG2 := Lib.hid hg2
      clear ho2 hg2
      go_ret
      refine ⟨_, rfl, ⟨?_, fun y hy => ?_⟩, HG2.out⟩
      · have e := HO2.out
        rw [vsE_snoc, List.length_append, HN.out]
        exact e
      · rcases List.mem_append.1 hy with hy | hy
        · exact ok_row HR.out HG2.out (HH.out.2 y hy)
        · simp at hy; subst hy; exact ok_row HR.out HG2.out HX.out)
end Go.Proofs.Ytghjlndkleclfaa
