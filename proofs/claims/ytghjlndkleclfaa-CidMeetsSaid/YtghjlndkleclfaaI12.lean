/- Layer 20: contract of drop, where the first id alone is given up. Conditions: as each theorem states them. -/
import Derived.Test.YtghjlndkleclfaaI11
namespace Go.Proofs.Ytghjlndkleclfaa
open Go.RowKit
def oldL (k : Nat) (q : Int) : List Int := if k = 0 then [] else [q]
theorem zeros18 : (18 : Nat) = ([.int .u64 0, .slice none 0 0, .int .u8 0, .int .u8 0, .int .u8 0, .int .u8 0, .int .u8 0, .int .u8 0, .int .u8 0, .int .u8 0, .int .u8 0, .int .u8 0, .int .u8 0, .int .u8 0, .int .u8 0, .int .u8 0, .int .u8 0, .int .u8 0] : List Value).length := rfl
/-- a block of ids, one cell of them turned -/
theorem IdV.setB {B gc : Nat} {w w' : World} {vo vp : Value} {s s' : IS} (h : IdV B gc w vo vp s) (hg : w.grownBy w' (some gc)) (hk : ∃ vr, Blk w' gc 45 #[vo, .int .u64 s'.nx, vp, .int .u64 s'.us, .int .u64 s'.pr, vr] ∧ RetR B w' vr s'.ret) (ho : s'.own = s.own) (hp : s'.peer = s.peer) : IdV B gc w' vo vp s' := by
  obtain ⟨vr, k1, _⟩ := h.blk
  exact ⟨hk, by rw [ho]; exact h.own.grown hg (row_ne h.own (k1.notT (by decide))) (k1.notT (by decide)), by rw [hp]; exact h.peer.grown hg (row_ne h.peer (k1.notT (by decide))) (k1.notT (by decide)), h.ap⟩
set_option maxRecDepth 100000 in
set_option maxHeartbeats 4000000 in
theorem drop_one (B gc : Nat) (vo vp : Value) (s : IS) (x : CX) (rest : List CX) (q : Int) (w : World) (h : IdV B gc w vo vp s) (hp : s.peer = x :: rest) (hlt : x.seq < q) (hge : ∀ y ∈ rest, q ≤ y.seq) (hB : B ≤ w.heap.size) (hgc : B ≤ gc) (l2 : s.peer.length ≤ 1000) (l3 : s.ret.length ≤ 1000) :
    Calls Try.prog 24 #[.pointer (some ⟨gc, 0, none⟩), .int .u64 q] w fun e w' => ∃ vp', e = .returned (.tuple #[]) ∧ IdV B gc w' vo vp' ⟨s.own, s.nx, rest, useP s.us x.seq rest, q, s.ret ++ [x.seq]⟩ ∧ vp'.ownBlock = vp.ownBlock ∧ Below B w w' := by
  obtain ⟨own, nx, peer, us, pr, ret⟩ := s
  simp only at hp
  subst hp
  obtain ⟨vr, k1, k2⟩ := h.blk
  have G1 : Hid (w.grownBy (w.setCell ⟨gc, 4, none⟩ (.int .u64 q)) (some gc)) := Lib.hid set_only
  have I1 : Hid (IdV B gc (w.setCell ⟨gc, 4, none⟩ (.int .u64 q)) vo vp ⟨own, nx, x :: rest, us, q, ret⟩) := Lib.hid (h.setB G1.out ⟨vr, Blk.cast (Blk.set_ k1 4 _) (by simp), k2.grown G1.out (k1.notT (by decide))⟩ rfl rfl)
  have B1 := Lib.hid (below_of_only G1.out hgc hB)
  rcases h.peer.form with ⟨_, z⟩ | ⟨gp, cp, rfl, hgp1, hgp2, hcp⟩
  · cases z
  obtain ⟨m, hm⟩ : ∃ z, rest.length = z := ⟨_, rfl⟩
  have hnp : (x :: rest).length = m + 1 := by rw [← hm]; rfl
  have HNP := Lib.hid hnp
  have HX : Hid (x.seq < q) := Lib.hid hlt
  have HGE : Hid (∀ k, 0 < k → k < m + 1 → ¬ ((x :: rest).getD k CX.zero).seq < q) := Lib.hid (fun k h0 h1 => by
    obtain ⟨j, rfl⟩ : ∃ j, k = j + 1 := ⟨k - 1, by omega⟩
    rw [List.getD_cons_succ]
    have := hge _ (memD (l := rest) (i := j) (by omega))
    omega)
  obtain ⟨c0, c1, c2, c3, c4, c5⟩ := id_cells k1
  have f4 := Blk.frozen k1 4
  have hl2 : m + 1 ≤ 1000 := by simp only at l2; omega
  have hl3 : ret.length ≤ 1000 := l3
  obtain ⟨vr1, k3, _⟩ := I1.out.blk
  obtain ⟨d0, d1, d2, d3, d4, d5⟩ := id_cells k3
  have HM := Lib.hid hm
  simp only [List.length_cons, hm] at I1 hcp c2 d2
  clear h k1 k2 k3 hlt hge l2 l3 hm hnp
  go_enter Try.func24, Try.ntmps24
  go_wp2_with fail
  clear c0 c1 c2 c3 c4 c5 d0 d1 d2 d3 d4 d5 f4
  have HB1 := Nat.le_trans hB G1.out.size
  generalize w.setCell ⟨gc, 4, none⟩ (.int .u64 q) = w1 at *
  go_loopw [4, 18] (fun v i wr => ∃ (k : Nat) (A : Option Addr) (n c : Nat), k ≤ m + 1 ∧ i = .int .i64 k ∧ v = .slice A n c ∧ Hid (Own w1.heap.size 27 .u64 wr A n c (oldL k x.seq)) ∧ Hid (Below w1.heap.size w1 wr)) (fun _ i _ => m + 1 - (intOf i).toNat)
  case atStart => exact ⟨0, none, 0, 0, by omega, rfl, rfl, Lib.hid (Own.nil _ _ _ _), Lib.hid (Below.refl _ _)⟩
  case round =>
    obtain ⟨k, A, n, c, hk, rfl, rfl, HO, HB⟩ := hrel
    by_cases hlt : k < m + 1
    · have IR := Lib.hid (I1.out.below HB.out)
      have hk2 : k < (x :: rest).length := by rw [HNP.out]; exact hlt
      obtain ⟨g', hg', hg2, hc⟩ := IR.out.peer.s.2 k hk2
      injection hg' with hg'
      injection hg' with hg'
      subst hg'
      have hok := IR.out.peer.2 _ (memD hk2)
      obtain ⟨y, hy⟩ : ∃ y, (x :: rest).getD k CX.zero = y := ⟨_, rfl⟩
      simp only [hy] at hc hok
      have HROW : Hid ((Instr.loadAt 47 (.pointer (some ⟨gp, k * 18, none⟩))).run Try.prog wr = .ok (.agg y.vs.toArray) wr) := Lib.hid (row_load (P := Try.prog) (vs := y.vs) (fun j v hv => by
        have := hc j v hv
        rw [show (⟨gp, k * 18, none⟩ : Addr) = (⟨gp, 0, none⟩ : Addr).add (k * 18) by rw [add_zero_addr2], add_of_add, add_zero_addr2]
        exact this) Try.underlying47 (by rw [sizeE, CX.vs_len hok.tl]))
      have HVL := Lib.hid (show y.vs.length = 18 from CX.vs_len hok.tl)
      have y0 : y.vs[0]? = some (.int .u64 y.seq) := rfl
      by_cases hk0 : k = 0
      · have hyx : y = x := by rw [← hy, hk0]; rfl
        have hlt2 : y.seq < q := by rw [hyx]; exact HX.out
        have HYX := Lib.hid hyx
        have HK0 := Lib.hid hk0
        clear hc hok hy hyx hk0 hk2
        have hzw := HB.out.size
        go_wp2_with (first
          | ((with_reducible (show wpList _ _ _ (⟨some 21, .load _ _, _, _, _, _⟩ :: _) _ _)); refine wpList_loadV (o := ⟨some 21, .load _ _, _, _, _, _⟩) rfl _ rfl rfl (HROW.out) ?_)
          | ((with_reducible (show wpList _ _ _ (⟨none, .store 47 _ _, _, _, _, _⟩ :: _) _ _)); go_loud (refine wpList_storeBlk (o := ⟨none, .store 47 _ _, _, _, _, _⟩) (g := wr.heap.size) (t := 47) (vs := y.vs) rfl _ _ rfl rfl rfl (Blk.new _ _ _) (by rw [HVL.out]; rfl) (vs_one y) (by rw [sizeE, HVL.out]) ?_); intro w3 z3 g3; have G3 := Lib.hid (((Below.refl wr.heap.size wr).alloc (Nat.le_refl _) _).trans (below_of_only g3 (Nat.le_refl _) (by simp))); have x0 := Blk.cell z3 0; have HO3 := Lib.hid (HO.out.below G3.out); have hz3 := Nat.le_trans hzw G3.out.size; have bla := (Below.refl w3.heap.size w3).alloc (Nat.le_refl _) (.cells #[.int .u64 y.seq] 27); clear z3 g3)
          | (at_builtin; go_loud (refine wpList_app (o := ⟨some 30, _, _, _, _, _⟩) elU rfl _ _ rfl rfl rfl (HO3.out.alloc (.cells #[.int .u64 y.seq] 27)) (Rd.newAt (xs := [y.seq]) (by simp) rfl) rfl ?_ ?_ ?_); (simp [oldL, HK0.out]); exact (Nat.le_trans hz3 bla.size); intro A5 n5 c5 w5 h5; have H5 := Lib.hid h5; clear h5))
        have B5 := Lib.hid ((HB.out.trans (G3.out.mono hzw)).trans ((bla.mono hz3).trans H5.out.2.2.1))
        refine ⟨⟨k + 1, A5, n5, c5, by omega, by go_num, rfl, Lib.hid ?_, B5⟩, ?_⟩
        · have e : oldL (k + 1) x.seq = oldL k x.seq ++ [y.seq] := by rw [HK0.out, HYX.out]; rfl
          rw [e]
          exact H5.out.1
        · simp [intOf]
          omega
      · have hge2 : ¬ y.seq < q := by rw [← hy]; exact Int.not_lt.2 (HGE.out k (by omega) hlt)
        have HK0 := Lib.hid hk0
        clear hc hok hy hk0 hk2
        have hzw := HB.out.size
        go_wp2_with (first
          | ((with_reducible (show wpList _ _ _ (⟨some 21, .load _ _, _, _, _, _⟩ :: _) _ _)); refine wpList_loadV (o := ⟨some 21, .load _ _, _, _, _, _⟩) rfl _ rfl rfl (HROW.out) ?_)
          | ((with_reducible (show wpList _ _ _ (⟨none, .store 47 _ _, _, _, _, _⟩ :: _) _ _)); go_loud (refine wpList_storeBlk (o := ⟨none, .store 47 _ _, _, _, _, _⟩) (g := wr.heap.size) (t := 47) (vs := y.vs) rfl _ _ rfl rfl rfl (Blk.new _ _ _) (by rw [HVL.out]; rfl) (vs_one y) (by rw [sizeE, HVL.out]) ?_); intro w3 z3 g3; have G3 := Lib.hid (((Below.refl wr.heap.size wr).alloc (Nat.le_refl _) _).trans (below_of_only g3 (Nat.le_refl _) (by simp))); have x0 := Blk.cell z3 0; have HO3 := Lib.hid (HO.out.below G3.out); clear z3 g3))
        refine ⟨⟨k + 1, A, n, c, by omega, by go_num, rfl, Lib.hid ?_, Lib.hid (HB.out.trans (G3.out.mono hzw))⟩, ?_⟩
        · have e : oldL (k + 1) x.seq = oldL k x.seq := by unfold oldL; rw [if_neg (by omega), if_neg HK0.out]
          rw [e]
          exact HO3.out
        · simp [intOf]
          omega
    · have hkm : k ≠ 0 := by omega
      have HO2 := HO.out
      have e : oldL k x.seq = [x.seq] := by unfold oldL; rw [if_neg hkm]
      rw [e] at HO2
      obtain ⟨go, hA, _⟩ := HO2.addr (by rw [HO2.len]; simp)
      have hn1 : n = 1 := HO2.len
      subst hA
      subst hn1
      have hcell := HO2.cell0 (i := 0) (by simp)
      have IR := Lib.hid (I1.out.below HB.out)
      have RG := Lib.hid (giveUp_one B gc go c vo (.slice (some ⟨gp, 0, none⟩) (m + 1) cp) ⟨own, nx, x :: rest, us, q, ret⟩ x rest wr IR.out rfl hcell (Nat.le_trans HB1 HB.out.size) hgc (by show (x :: rest).length ≤ 1000; rw [HNP.out]; exact hl2) hl3)
      clear HO2 hcell e hkm
      go_wp2_with fail
      refine Calls.mono RG.out ?_
      rintro e w3 ⟨vp', rfl, i3, o3, b3⟩
      have I3 := Lib.hid i3
      have B3 := Lib.hid ((B1.out.trans (HB.out.mono HB1)).trans b3)
      have O3 := Lib.hid o3
      clear i3 b3 o3 RG
      go_wp2_with fail
      exact bodyPost_end (results_none rfl _ _ _) rfl ⟨vp', rfl, I3.out, O3.out, B3.out⟩
end Go.Proofs.Ytghjlndkleclfaa
