/- Layer 20: an id of the peer is given up; contracts of giveUp, drop. Conditions: as each theorem states them. -/
import Derived.Test.YtghjlndkleclfaaI10
import Derived.LoopN
namespace Go.Proofs.Ytghjlndkleclfaa
open Go.RowKit
theorem idx_head (p : CX → Bool) (x : CX) (l : List CX) (h : p x = true) : idx p (x :: l) = 0 := by unfold idx idxN; rw [if_pos h]; rfl
theorem set_only {w : World} {g i : Nat} {u : Value} : w.grownBy (w.setCell ⟨g, i, none⟩ u) (some g) := only_setCell (p := ⟨g, i, none⟩) (World.grownBy.refl w (some g)) (.inl rfl) u
theorem apd_keep {B n c n' c' : Nat} {w w' : World} {A A' : Option Addr} {xs zs : List Int} (ho : Own B 27 .u64 w A n c xs) (h : Apd B 27 .u64 w A zs A' n' c' w') : Below w.heap.size w w' ∨ ∃ b cs, w.grownBy w' (some b) ∧ Blk w b 27 cs := row_block ho.1 (by rw [ownBlock_slice]; exact h.2.1)
theorem blk_apd {B n c n' c' g : Nat} {w w' : World} {A A' : Option Addr} {xs zs : List Int} {t : TypeId} {cs : Array Value} (ho : Own B 27 .u64 w A n c xs) (h : Apd B 27 .u64 w A zs A' n' c' w') (hk : Blk w g t cs) (ht : t ≠ 27) : Blk w' g t cs := by
  rcases apd_keep ho h with hb | ⟨b, cs2, hg, hk2⟩
  · exact hk.below hb hk.lt
  · exact hk.grown hg (by intro q; injection q with q; exact Blk.ne_ hk hk2 ht q)
theorem ent_apd {B B' n c n' c' : Nat} {w w' : World} {A A' : Option Addr} {xs zs : List Int} {v : Value} {l : List CX} (ho : Own B 27 .u64 w A n c xs) (h : Apd B 27 .u64 w A zs A' n' c' w') (he : EntR B' w v l) : EntR B' w' v l := by
  rcases apd_keep ho h with hb | ⟨b, cs2, hg, hk2⟩
  · exact he.below hb
  · exact he.grown hg (row_ne he (hk2.notT (by decide))) (hk2.notT (by decide))
/-- which one is used when one is given up -/
def useP (us q : Int) (rest : List CX) : Int := if q = us ∧ 0 < rest.length then (rest.getD 0 CX.zero).seq else us
set_option maxRecDepth 100000 in
set_option maxHeartbeats 4000000 in
theorem giveUp_one (B gc go c : Nat) (vo vp : Value) (s : IS) (x : CX) (rest : List CX) (w : World) (h : IdV B gc w vo vp s) (hp : s.peer = x :: rest) (hq : w.cell? ⟨go, 0, none⟩ = some (.int .u64 x.seq)) (hB : B ≤ w.heap.size) (hgc : B ≤ gc) (l2 : s.peer.length ≤ 1000) (l3 : s.ret.length ≤ 1000) :
    Calls Try.prog 39 #[.pointer (some ⟨gc, 0, none⟩), .slice (some ⟨go, 0, none⟩) 1 c] w fun e w' => ∃ vp', e = .returned (.tuple #[]) ∧ IdV B gc w' vo vp' ⟨s.own, s.nx, rest, useP s.us x.seq rest, s.pr, s.ret ++ [x.seq]⟩ ∧ vp'.ownBlock = vp.ownBlock ∧ Below B w w' := by
  obtain ⟨own, nx, peer, us, pr, ret⟩ := s
  simp only at hp
  subst hp
  obtain ⟨vr, k1, k2⟩ := h.blk
  obtain ⟨Ar, nr, cr, rfl, k3⟩ := k2
  have HOW := h.own
  have HPE := h.peer
  have HAP := Lib.hid h.ap
  rcases HPE.form with ⟨_, q⟩ | ⟨gp, cp, rfl, hgp1, hgp2, hcp⟩
  · cases q
  obtain ⟨m, hm⟩ : ∃ z, rest.length = z := ⟨_, rfl⟩
  have hnp : (x :: rest).length = m + 1 := by rw [← hm]; rfl
  simp only at HPE k1 hcp l2
  rw [hnp] at HPE k1 hcp l2 HAP
  have HNP := Lib.hid hnp
  have HM := Lib.hid hm
  have K1 := Lib.hid k1
  have R1 := Lib.hid k3
  have O1 := Lib.hid HOW
  have P1 := Lib.hid HPE
  have RF := Lib.hid (find_any (x :: rest) (some ⟨gp, 0, none⟩) (m + 1) cp x.seq w HPE.s hnp (by omega))
  have HIX : Hid (idx (fun y => y.seq == x.seq) (x :: rest) = 0) := Lib.hid (idx_head _ _ _ (by simp))
  have hnr := k3.len
  have HNR := Lib.hid hnr
  have hret : ret.length ≤ 1000 := l3
  obtain ⟨c0, c1, c2, c3, c4, c5⟩ := id_cells k1
  clear h k1 k3 HOW HPE hnp hnr l3 hm
  go_enter Try.func39, Try.ntmps39
  go_wp2_with fail
  refine wp_loop_rounds 2 ?_
  rw [rounds_succ]
  go_wp2_with fail
  refine Calls.mono RF.out ?_
  rw [HIX.out]
  rintro e w2 ⟨rfl, b2⟩
  have K2 := Lib.hid (Blk.below K1.out b2 (Blk.lt K1.out))
  have R2 := Lib.hid (R1.out.below b2)
  have O2 := Lib.hid (O1.out.below b2)
  have P2 := Lib.hid (P1.out.below b2)
  have B2 := Lib.hid ((b2.mono hB : Below B w w2))
  clear c0 c1 c2 c3 c4 c5 K1 R1 O1 P1 RF HIX b2 hq
  obtain ⟨c0, c1, c2, c3, c4, c5⟩ := id_cells K2.out
  go_wp2_with fail
  have RD : Calls Try.prog 31 #[.slice (some ⟨gp, 0, none⟩) (m + 1) cp, .int .i64 0, .int .i64 1] w2 _ := delete_any B gp (m + 1) cp 0 (x :: rest) w2 P2.out (by omega) (by omega)
  simp only [List.eraseIdx_cons_zero, Nat.add_sub_cancel] at RD
  refine Calls.mono RD ?_
  clear RD
  rintro e w3 ⟨rfl, p3, g3⟩
  obtain ⟨cur, hbp, _⟩ := P2.out.blk
  have P3 := Lib.hid p3
  have K3 := Lib.hid (Blk.grown K2.out g3 (by intro q; injection q with q; exact Blk.ne_ K2.out hbp (by decide) q))
  have O3 := Lib.hid (O2.out.grown g3 (fun q => HAP.out gp q rfl) (hbp.notT (by decide)))
  have R3 : Hid (Own B 27 .u64 w3 Ar nr cr ret) := Lib.hid ⟨row_kept R2.out.1 g3 (hbp.notT (by decide)), R2.out.2⟩
  have B3 := Lib.hid (B2.out.trans (below_of_only g3 hgp1 (Nat.le_trans hB B2.out.size)))
  clear c0 c1 c2 c3 c4 c5 K2 R2 O2 P2 B2 p3 g3 hbp
  have G4 : Hid (w3.grownBy (w3.setCell ⟨gc, 2, none⟩ (.slice (some ⟨gp, 0, none⟩) m cp)) (some gc)) := Lib.hid set_only
  have K4 : Hid (Blk (w3.setCell ⟨gc, 2, none⟩ (.slice (some ⟨gp, 0, none⟩) m cp)) gc 45 #[vo, .int .u64 nx, (.slice (some ⟨gp, 0, none⟩) m cp), .int .u64 us, .int .u64 pr, (.slice Ar nr cr)]) := Lib.hid (Blk.cast (Blk.set_ K3.out 2 _) (by simp))
  have O4 := Lib.hid (O3.out.grown G4.out (row_ne O3.out (K3.out.notT (by decide))) (K3.out.notT (by decide)))
  have P4 := Lib.hid (P3.out.grown G4.out (row_ne P3.out (K3.out.notT (by decide))) (K3.out.notT (by decide)))
  have R4 : Hid (Own B 27 .u64 (w3.setCell ⟨gc, 2, none⟩ (.slice (some ⟨gp, 0, none⟩) m cp)) Ar nr cr ret) := Lib.hid ⟨row_kept R3.out.1 G4.out (K3.out.notT (by decide)), R3.out.2⟩
  have B4 := Lib.hid (B3.out.trans (below_of_only G4.out hgc (Nat.le_trans hB B3.out.size)))
  have HB4 := Nat.le_trans hB B4.out.size
  obtain ⟨c0, c1, c2, c3, c4, c5⟩ := id_cells K3.out
  obtain ⟨d0, d1, d2, d3, d4, d5⟩ := id_cells K4.out
  have f2 := Blk.frozen K3.out 2
  have hnw : nr = ret.length := HNR.out
  clear hnw
  by_cases hus : x.seq = us ∧ 0 < m
  · have q1 : (x.seq == us) = true := by simp [hus.1]
    have q2 : 0 < m := hus.2
    have HU : Hid (useP us x.seq rest = (rest.getD 0 CX.zero).seq) := Lib.hid (by unfold useP; rw [if_pos (by rw [HM.out]; exact hus)])
    obtain ⟨ru, hru⟩ : ∃ z, (rest.getD 0 CX.zero).seq = z := ⟨_, rfl⟩
    have HRU := Lib.hid hru
    rw [hru] at HU
    clear hru
    clear hus
    have bla := (Below.refl (w3.setCell ⟨gc, 2, none⟩ (.slice (some ⟨gp, 0, none⟩) m cp)).heap.size (w3.setCell ⟨gc, 2, none⟩ (.slice (some ⟨gp, 0, none⟩) m cp))).alloc (Nat.le_refl _) (.cells #[.int .u64 x.seq] 27)
    have HB4a := Nat.le_trans HB4 bla.size
    go_wp2_with (at_builtin; go_loud (refine wpList_app (o := ⟨some 41, _, _, _, _, _⟩) elU rfl _ _ rfl rfl rfl (R4.out.alloc (.cells #[.int .u64 x.seq] 27)) (Rd.newAt (xs := [x.seq]) (by simp) rfl) rfl ?_ ?_ ?_); (simp; omega); exact HB4a; intro A5 n5 c5 w5 h5; have H5 := Lib.hid h5; have K5 := Lib.hid (blk_apd (R4.out.alloc _) h5 (K4.out.alloc _) (by decide)); have P5 := Lib.hid (ent_apd (R4.out.alloc _) h5 (P4.out.below bla)); have O5 := Lib.hid (ent_apd (R4.out.alloc _) h5 (O4.out.below bla)); have B5 := Lib.hid ((B4.out.trans (bla.mono HB4)).trans h5.2.2.1); obtain ⟨e0, e1, e2, e3, e4, e5⟩ := id_cells K5.out; have ff5 := Blk.frozen K5.out 5; have ff3 := Blk.frozen K5.out 3; have pc := P5.out.cells (i := 0) (show 0 < rest.length by rw [HM.out]; exact q2) 0 (.int .u64 (rest.getD 0 CX.zero).seq) rfl; rw [HRU.out] at pc; have hne5 := Blk.ne_ K5.out (P5.out.blk).choose_spec.1 (by decide); clear h5)
    have G6 : Hid (w5.grownBy ((w5.setCell ⟨gc, 5, none⟩ (.slice A5 n5 c5)).setCell ⟨gc, 3, none⟩ (.int .u64 ru)) (some gc)) := Lib.hid (only_setCell (p := ⟨gc, 3, none⟩) set_only (.inl rfl) _)
    have K6 : Hid (Blk ((w5.setCell ⟨gc, 5, none⟩ (.slice A5 n5 c5)).setCell ⟨gc, 3, none⟩ (.int .u64 ru)) gc 45 #[vo, .int .u64 nx, (.slice (some ⟨gp, 0, none⟩) m cp), .int .u64 ru, .int .u64 pr, .slice A5 n5 c5]) := Lib.hid (Blk.cast ((Blk.set_ K5.out 5 _).set_ 3 _) (by simp))
    clear pc hne5 e0 e1 e2 e3 e4 e5 ff5 ff3 d0 d1 d2 d3 d4 d5 f2
    rw [rounds_succ]
    go_wp2_with fail
    refine bodyPost_end (results_none rfl _ _ _) rfl ⟨.slice (some ⟨gp, 0, none⟩) m cp, rfl, ⟨⟨_, by rw [HU.out]; exact K6.out, A5, n5, c5, rfl, row_kept H5.out.1.1 G6.out (K5.out.notT (by decide)), H5.out.1.2⟩, O5.out.grown G6.out (row_ne O5.out (K5.out.notT (by decide))) (K5.out.notT (by decide)), ?_, HAP.out⟩, rfl, B5.out.trans (below_of_only G6.out hgc (Nat.le_trans hB B5.out.size))⟩
    exact P5.out.grown G6.out (row_ne P5.out (K5.out.notT (by decide))) (K5.out.notT (by decide))
  · have HU : Hid (useP us x.seq rest = us) := Lib.hid (by unfold useP; rw [if_neg (by rw [HM.out]; exact hus)])
    have q1 : (x.seq == us && decide (0 < m)) = false := by
      by_cases z : x.seq = us
      · have : ¬ 0 < m := fun q => hus ⟨z, q⟩
        simp [z]; omega
      · simp [z]
    clear hus
    by_cases z : x.seq = us
    · have q2 : (x.seq == us) = true := by simp [z]
      have q3 : ¬ 0 < m := fun q => by simp [z, q] at q1
      clear q1 z
      obtain rfl : m = 0 := by omega
      have bla := (Below.refl (w3.setCell ⟨gc, 2, none⟩ (.slice (some ⟨gp, 0, none⟩) 0 cp)).heap.size (w3.setCell ⟨gc, 2, none⟩ (.slice (some ⟨gp, 0, none⟩) 0 cp))).alloc (Nat.le_refl _) (.cells #[.int .u64 x.seq] 27)
      have HB4a := Nat.le_trans HB4 bla.size
      go_wp2_with (at_builtin; go_loud (refine wpList_app (o := ⟨some 41, _, _, _, _, _⟩) elU rfl _ _ rfl rfl rfl (R4.out.alloc (.cells #[.int .u64 x.seq] 27)) (Rd.newAt (xs := [x.seq]) (by simp) rfl) rfl ?_ ?_ ?_); (simp; omega); exact HB4a; intro A5 n5 c5 w5 h5; have H5 := Lib.hid h5; have K5 := Lib.hid (blk_apd (R4.out.alloc _) h5 (K4.out.alloc _) (by decide)); have P5 := Lib.hid (ent_apd (R4.out.alloc _) h5 (P4.out.below bla)); have O5 := Lib.hid (ent_apd (R4.out.alloc _) h5 (O4.out.below bla)); have B5 := Lib.hid ((B4.out.trans (bla.mono HB4)).trans h5.2.2.1); obtain ⟨e0, e1, e2, e3, e4, e5⟩ := id_cells K5.out; have ff5 := Blk.frozen K5.out 5; have ff3 := Blk.frozen K5.out 3; clear h5)
      have G6 : Hid (w5.grownBy (w5.setCell ⟨gc, 5, none⟩ (.slice A5 n5 c5)) (some gc)) := Lib.hid set_only
      have K6 : Hid (Blk (w5.setCell ⟨gc, 5, none⟩ (.slice A5 n5 c5)) gc 45 #[vo, .int .u64 nx, (.slice (some ⟨gp, 0, none⟩) 0 cp), .int .u64 us, .int .u64 pr, .slice A5 n5 c5]) := Lib.hid (Blk.cast (Blk.set_ K5.out 5 _) (by simp))
      clear e0 e1 e2 e3 e4 e5 ff5 ff3 d0 d1 d2 d3 d4 d5 f2
      rw [rounds_succ]
      go_wp2_with fail
      refine bodyPost_end (results_none rfl _ _ _) rfl ⟨.slice (some ⟨gp, 0, none⟩) 0 cp, rfl, ⟨⟨_, by rw [HU.out]; exact K6.out, A5, n5, c5, rfl, row_kept H5.out.1.1 G6.out (K5.out.notT (by decide)), H5.out.1.2⟩, O5.out.grown G6.out (row_ne O5.out (K5.out.notT (by decide))) (K5.out.notT (by decide)), ?_, HAP.out⟩, rfl, B5.out.trans (below_of_only G6.out hgc (Nat.le_trans hB B5.out.size))⟩
      exact P5.out.grown G6.out (row_ne P5.out (K5.out.notT (by decide))) (K5.out.notT (by decide))
    · have q2 : (x.seq == us) = false := by simp [z]
      clear q1 z
      have bla := (Below.refl (w3.setCell ⟨gc, 2, none⟩ (.slice (some ⟨gp, 0, none⟩) m cp)).heap.size (w3.setCell ⟨gc, 2, none⟩ (.slice (some ⟨gp, 0, none⟩) m cp))).alloc (Nat.le_refl _) (.cells #[.int .u64 x.seq] 27)
      have HB4a := Nat.le_trans HB4 bla.size
      go_wp2_with (at_builtin; go_loud (refine wpList_app (o := ⟨some 41, _, _, _, _, _⟩) elU rfl _ _ rfl rfl rfl (R4.out.alloc (.cells #[.int .u64 x.seq] 27)) (Rd.newAt (xs := [x.seq]) (by simp) rfl) rfl ?_ ?_ ?_); (simp; omega); exact HB4a; intro A5 n5 c5 w5 h5; have H5 := Lib.hid h5; have K5 := Lib.hid (blk_apd (R4.out.alloc _) h5 (K4.out.alloc _) (by decide)); have P5 := Lib.hid (ent_apd (R4.out.alloc _) h5 (P4.out.below bla)); have O5 := Lib.hid (ent_apd (R4.out.alloc _) h5 (O4.out.below bla)); have B5 := Lib.hid ((B4.out.trans (bla.mono HB4)).trans h5.2.2.1); obtain ⟨e0, e1, e2, e3, e4, e5⟩ := id_cells K5.out; have ff5 := Blk.frozen K5.out 5; have ff3 := Blk.frozen K5.out 3; clear h5)
      have G6 : Hid (w5.grownBy (w5.setCell ⟨gc, 5, none⟩ (.slice A5 n5 c5)) (some gc)) := Lib.hid set_only
      have K6 : Hid (Blk (w5.setCell ⟨gc, 5, none⟩ (.slice A5 n5 c5)) gc 45 #[vo, .int .u64 nx, (.slice (some ⟨gp, 0, none⟩) m cp), .int .u64 us, .int .u64 pr, .slice A5 n5 c5]) := Lib.hid (Blk.cast (Blk.set_ K5.out 5 _) (by simp))
      clear e0 e1 e2 e3 e4 e5 ff5 ff3 d0 d1 d2 d3 d4 d5 f2
      rw [rounds_succ]
      go_wp2_with fail
      refine bodyPost_end (results_none rfl _ _ _) rfl ⟨.slice (some ⟨gp, 0, none⟩) m cp, rfl, ⟨⟨_, by rw [HU.out]; exact K6.out, A5, n5, c5, rfl, row_kept H5.out.1.1 G6.out (K5.out.notT (by decide)), H5.out.1.2⟩, O5.out.grown G6.out (row_ne O5.out (K5.out.notT (by decide))) (K5.out.notT (by decide)), ?_, HAP.out⟩, rfl, B5.out.trans (below_of_only G6.out hgc (Nat.le_trans hB B5.out.size))⟩
      exact P5.out.grown G6.out (row_ne P5.out (K5.out.notT (by decide))) (K5.out.notT (by decide))
end Go.Proofs.Ytghjlndkleclfaa
