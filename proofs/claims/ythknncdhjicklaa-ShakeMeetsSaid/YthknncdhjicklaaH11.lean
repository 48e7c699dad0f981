/- Layer 21: contract of hello. Conditions: as each theorem states them. -/
import Derived.Test.YthknncdhjicklaaH10
namespace Go.Proofs.Ythknncdhjicklaa
open Go.RowKit
theorem SlT.rdF {g n c : Nat} {w : World} {A : Option Addr} {L : List Int} {p : PS} {vp vq v0 v1 vt : Value} (h : SlT w (.slice A n c) L) (hs : ShB g w p vp vq v0 v1 vt) : RdF g w A L := by
  obtain ⟨A', c', e, _, h2, h3⟩ := h
  injection e with e1 e2 e3
  subst e1
  refine ⟨h2, fun ad q hb => ?_⟩
  obtain ⟨cur, hc⟩ := h3 ad q
  rw [hb] at hc
  exact hs.blk.notT (e := 5) (by decide) cur hc
theorem SlT.turn {g : Nat} {w w' : World} {v : Value} {L : List Int} {p : PS} {vp vq v0 v1 vt : Value} (h : SlT w v L) (hs : ShB g w p vp vq v0 v1 vt) (hg : w.grownBy w' (some g)) : SlT w' v L := h.grown2 hg (hs.blk.notT (by decide))
theorem rd_take {B : Nat} {k : IntKind} {w : World} {A : Option Addr} {xs : List Int} (h : Rd B k w A xs) (m : Nat) : Rd B k w A (xs.take m) := fun i hi => by
  have h1 : i < m ∧ i < xs.length := by rw [List.length_take] at hi; omega
  obtain ⟨ad, e, hb, hc⟩ := h i h1.2
  refine ⟨ad, e, hb, ?_⟩
  rw [hc, List.getD_eq_getElem?_getD, List.getD_eq_getElem?_getD, List.getElem?_take, if_pos h1.1]
theorem RdF.take {g : Nat} {w : World} {A : Option Addr} {X : List Int} (h : RdF g w A X) (m : Nat) : RdF g w A (X.take m) := ⟨rd_take h.1 m, h.2⟩
def PS.hello1 (p : PS) (b body : List Int) : PS := PS.fst { p with peer := body.take 32, pp := body.drop 32, tr := p.tr ++ b ++ msgL 2 p.rnd }
def PS.hfin (p : PS) (b body : List Int) : List Int := msgL 20 (p.par ++ proL (p.hello1 b body).a0 (p.tr ++ b ++ msgL 2 p.rnd ++ p.par))
def PS.hello (p : PS) (b body : List Int) : PS := { PS.snd { p.hello1 b body with tr := p.tr ++ b ++ msgL 2 p.rnd ++ p.hfin b body } with st := 3 }
set_option maxRecDepth 100000 in
set_option maxHeartbeats 4000000 in
theorem hello_any (g : Nat) (p : PS) (vp vq v0 v1 vt : Value) (A : Option Addr) (n c : Nat) (b : List Int) (A2 : Option Addr) (m c2 : Nat) (body : List Int) (w : World) (h : ShB g w p vp vq v0 v1 vt) (hr : RdF g w A b) (hn : b.length = n) (hb : Byt b) (hr2 : RdF g w A2 body) (hn2 : body.length = m) (hc2 : m ≤ c2) (hb2 : Byt body) (hm1 : 32 ≤ m) (hm2 : m ≤ 1032) (hl : n ≤ 100000) (ht : p.tr.length ≤ 100000) (hp : p.par.length ≤ 1000) :
    Calls Try.prog 15 #[.pointer (some ⟨g, 0, none⟩), .slice A n c, .slice A2 m c2] w fun e w' => ∃ v x y, e = .returned (.tuple #[v, .int .i64 0]) ∧ SdR w.heap.size w' v [x, y] ∧ x.e = (0, msgL 2 p.rnd) ∧ y.e = (1, p.hfin b body) ∧ (∃ vq' vt', ShB g w' (p.hello b body) vp vq' v0 v1 vt') ∧ w.grownBy w' (some g) := by
  have HR := Lib.hid hr
  have HN := Lib.hid hn
  have HB := Lib.hid hb
  have HR2 := Lib.hid hr2
  have H0 := Lib.hid h
  obtain ⟨k, hk⟩ : ∃ k, m = k + 32 := ⟨m - 32, by omega⟩
  subst hk
  have l3 : (body.take 32).length = 32 := by rw [List.length_take, hn2]; omega
  obtain ⟨A4, c4, hc4, _, r4, l4, run4⟩ := slice_l elC hr2.1 (by rw [hn2]; exact hc2) 32 k (by omega) (by rw [hn2]; omega) (by rw [hn2]; push_cast; omega)
  rw [hn2] at run4
  rw [show (32 : Int).toNat = 32 from rfl] at r4 l4
  have hbP := hb2.take 32
  have hbQ := hb2.drop 32
  have HE1 : Hid (p.hello1 b body = PS.fst { p with peer := body.take 32, pp := body.drop 32, tr := p.tr ++ b ++ msgL 2 p.rnd }) := Lib.hid rfl
  have f3 : RdF g w A2 (body.take 32) := hr2.take 32
  have HLD : Hid (∀ v : World, RdF g v A2 (body.take 32) → (Instr.loadAt 22 (.pointer A2)).run Try.prog v = .ok (.agg (cellsL .u8 (body.take 32))) v) := Lib.hid (fun v hv => by
    have := rd_loadArr hv.1 Try.underlying22 size32 (by rw [l3]; exact Nat.le_refl _) (by decide)
    rwa [List.take_of_length_le (by rw [l3]; exact Nat.le_refl _)] at this)
  have F3 := Lib.hid f3
  have L3 : Hid ((body.take 32).length = 32 ∧ Byt (body.take 32)) := Lib.hid ⟨l3, hbP⟩
  have R4 := Lib.hid r4
  have L4 : Hid ((body.drop 32).length = k ∧ Byt (body.drop 32)) := Lib.hid ⟨l4, hbQ⟩
  have HRN : Hid (p.rnd.length = 32 ∧ Byt p.rnd ∧ Byt p.par) := Lib.hid ⟨h.ok.rnd, h.ok.brnd, h.ok.bpar⟩
  clear h hr hn hb hr2 hb2 r4 l3 l4 hbP hbQ f3
  have hne : Nonempty (CW (fun v : World => RdF g v A2 (body.take 32))) := CW.inh F3.out
  go_enter Try.func15, Try.ntmps15
  go_wp2_with fail
  refine wp_region_mixO (fun w' => ∃ r : CW (fun v : World => RdF g v A2 (body.take 32)), w' = r.world) [([0, 1, 2, 3, 4, 5, 6, 7], 8), ([9, 10, 11], 12), ([13, 14, 15], 16)] (by kernel_rfl) (by kernel_rfl) (by kernel_rfl) (by kernel_rfl) (by kernel_rfl) ⟨CW.mk' (F3.out.below (Below.refl w.heap.size w).drew), rfl⟩ ?_
  try (rw [put_none])
  simp only [pickL, List.map_cons, List.map_nil, List.filterMap_cons, List.filterMap_nil, List.getElem?_cons_succ, List.getElem?_cons_zero]
  refine mixO_cons ?_
  show wpQuiet _ _ _ _ (_ :: _) _
  go_big_quiet_step (fail)
  show wpQuiet _ _ _ _ (_ :: _) _
  go_big_quiet_step (fail)
  show wpQuiet _ _ _ _ (_ :: _) _
  go_big_quiet_step (fail)
  show wpQuiet _ _ _ _ (_ :: _) _
  go_big_quiet_step (fail)
  show wpQuiet _ _ _ _ (_ :: _) _
  refine wpQuiet_arrayAt (o := ⟨some 20, _, _, _, _, _⟩) rfl _ rfl rfl (fun w' => arrayAt_run Try.underlying22 A2 c2 (Nat.le_refl _) w') ?_
  simp only [Act.put, List.setIfInBounds_toArray, List.set_cons_zero, List.set_cons_succ]
  show wpQuiet _ _ _ _ (_ :: _) _
  refine wpQuiet_loadV (o := ⟨some 21, _, _, _, _, _⟩) rfl _ rfl rfl (fun w' hw' => by obtain ⟨r, rfl⟩ := hw'; exact HLD.out _ r.2) ?_
  simp only [Act.put, List.setIfInBounds_toArray, List.set_cons_zero, List.set_cons_succ]
  repeat (show wpQuiet _ _ _ _ (_ :: _) _; go_big_quiet_step (fail))
  refine wpQuiet_nil ?_
  show wpList _ _ _ [_] _ _
  go_wp2_with fail
  refine Calls.mono (clone_n A4 c4 k (body.drop 32) _ (R4.out.below (Below.refl w.heap.size w).drew (Nat.le_refl _)) L4.out.1.symm (by omega)) ?_
  rintro e w1 ⟨A5, n5, c5, rfl, o5, b5⟩
  have O5 := Lib.hid o5
  have B5 := Lib.hid ((Below.refl w.heap.size w).drew.trans b5)
  clear o5 b5
  obtain ⟨w2, s2, h2, g2⟩ := (H0.out.below B5.out).st_peer _ L3.out.1 L3.out.2
  have S2 := Lib.hid s2
  have F5 := Lib.hid (F3.out.below B5.out)
  have F2 := Lib.hid (F5.out.grown g2)
  have q2 := h2.c5.2.1
  have f2 := h2.fz 99
  have H3 := Lib.hid (h2.set_pp ((SlT.own O5.out).turn (H0.out.below B5.out) g2) L4.out.2)
  have G3 := Lib.hid (grown_st (p := ⟨g, 99, none⟩) (v := .slice A5 n5 c5) (grown_cat_ (only_of_below B5.out (some g)) g2) rfl)
  clear s2 h2 g2
  go_wp2_with fail
  refine MixO.narrow (fun _ h => h) (⟨CW.mk' F5.out, rfl⟩) ?_
  refine mixO_cons ?_
  repeat (show wpQuiet _ _ _ _ (_ :: _) _; go_big_quiet_step (fail))
  refine wpQuiet_nil ?_
  show wpList _ _ _ [_] _ _
  go_wp2_with ((with_reducible (show wpList _ _ _ (⟨none, .store 22 _ _, _, _, _, _⟩ :: _) _ _)); refine wpList_storeV (o := ⟨none, .store 22 _ _, _, _, _, _⟩) rfl _ _ rfl rfl rfl (S2.out) ?_)
  refine MixO.narrow (fun _ h => h) (⟨CW.mk' F2.out, rfl⟩) ?_
  refine mixO_cons ?_
  repeat (show wpQuiet _ _ _ _ (_ :: _) _; go_big_quiet_step (fail))
  refine wpQuiet_nil ?_
  show wpList _ _ _ [_] _ _
  go_wp2_with fail
  refine MixO.last ?_
  refine mixO_nil ?_
  refine wpQuiet_nil ?_
  refine NoPanic.normal ?_
  have RR3 := Lib.hid (HR.out.grown G3.out)
  clear run4 HLD F3 F5 F2 L3 L4 R4 O5 B5 S2 q2 f2 H0 HR HR2 hne
  generalize w2.setCell ⟨g, 99, none⟩ (.slice A5 n5 c5) = w3 at *
  have E4 := (Below.refl w3.heap.size w3).alloc (Nat.le_refl _) (.cells #[.slice (some ⟨g, 34, none⟩) 32 32] 23)
  have H4 := Lib.hid (H3.out.below E4)
  have RR4 := Lib.hid (RR3.out.below E4)
  have G4 := Lib.hid (grown_cat_ G3.out (only_of_below E4 _))
  have C4 : Hid ((w3.alloc (.cells #[.slice (some ⟨g, 34, none⟩) 32 32] 23)).cell? ⟨w3.heap.size, 0, none⟩ = some (.slice (some ⟨g, 34, none⟩) p.rnd.length 32)) := Lib.hid (by rw [Blk.cell (Blk.new _ _ _), HRN.out.1]; rfl)
  clear E4 H3 RR3 G3
  go_wp2_with fail
  generalize w3.alloc (.cells #[.slice (some ⟨g, 34, none⟩) 32 32] 23) = w4 at *
  refine Calls.mono (message_one 2 w3.heap.size 1 ⟨some ⟨g, 34, none⟩, 32, p.rnd⟩ w4 C4.out H4.out.rd_rnd HRN.out.2.1 (by show 0 < p.rnd.length; rw [HRN.out.1]; omega) (by show p.rnd.length ≤ _; rw [HRN.out.1]; omega)) ?_
  rintro e w5 ⟨A6, n6, c6, rfl, o6, b6⟩
  have HAN : Hid (n6 = 36 ∧ (msgL 2 p.rnd).length = 36 ∧ Byt (msgL 2 p.rnd)) := Lib.hid ⟨by rw [o6.len, msgL_len, HRN.out.1], by rw [msgL_len, HRN.out.1], msgL_byt ⟨by omega, by omega⟩ HRN.out.2.1⟩
  obtain rfl := HAN.out.1
  have T5 := Lib.hid (SlT.own o6)
  have H5 := Lib.hid (H4.out.below b6)
  have RR5 := Lib.hid (RR4.out.below b6)
  have G5 := Lib.hid (grown_cat_ G4.out (only_of_below b6 _))
  clear o6 b6 C4 H4 RR4 G4
  go_wp2_with fail
  refine Calls.mono (notes_any g _ vp _ v0 v1 vt A n c b w5 H5.out RR5.out.1 HN.out HB.out (by omega) (by show p.tr.length ≤ _; omega)) ?_
  rintro e w6 ⟨vt6, rfl, h6, g6⟩
  have H6 := Lib.hid h6
  have G6 := Lib.hid (grown_cat_ G5.out g6)
  have T6 := Lib.hid (T5.out.turn H5.out g6)
  clear h6 g6 H5 RR5 G5 T5
  go_wp2_with fail
  refine Calls.mono (notes_any g _ vp _ v0 v1 vt6 A6 36 c6 (msgL 2 p.rnd) w6 H6.out (T6.out.rdF H6.out).1 HAN.out.2.1 HAN.out.2.2 (by omega) (by show (p.tr ++ b).length ≤ _; rw [List.length_append, HN.out]; omega)) ?_
  rintro e w7 ⟨vt7, rfl, h7, g7⟩
  have H7 := Lib.hid h7
  have G7 := Lib.hid (grown_cat_ G6.out g7)
  have T7 := Lib.hid (T6.out.turn H6.out g7)
  clear h7 g7 H6 G6 T6
  have HT7 : Hid ((p.tr ++ b ++ msgL 2 p.rnd).length ≤ 200036) := Lib.hid (by rw [List.length_append, List.length_append, HN.out, HAN.out.2.1]; omega)
  go_wp2_with fail
  refine Calls.mono (sfirst_any g _ vp _ v0 v1 vt7 w7 H7.out (by show (p.tr ++ b ++ msgL 2 p.rnd).length ≤ _; have := HT7.out; omega)) ?_
  rintro e w8 ⟨rfl, h8, g8⟩
  have H8 : Hid (ShB g w8 (p.hello1 b body) vp (.slice A5 n5 c5) v0 v1 vt7) := Lib.hid h8
  have G8 := Lib.hid (grown_cat_ G7.out g8)
  have T8 := Lib.hid (T7.out.turn H7.out g8)
  clear h8 g8 H7 G7 T7
  obtain ⟨Ap, cp, hvp, hcp, hrp⟩ := H8.out.par.form
  subst hvp
  have PL : Hid ((p.hello1 b body).par = p.par) := Lib.hid rfl
  rw [PL.out] at hcp hrp
  have RP := Lib.hid hrp
  obtain ⟨kp, hkp⟩ : ∃ z, p.par.length = z := ⟨_, rfl⟩
  have HKP := Lib.hid hkp
  have q98 : ∀ r : BW w8.heap.size w8, r.world.cell? ⟨g, 98, none⟩ = some (.slice Ap kp cp) := fun r => by
    have := (H8.out.below r.below).c5.1
    rw [PL.out, hkp] at this
    exact this
  have la : Hid (∀ r : BW w8.heap.size w8, (Instr.loadAt 22 (.pointer (some ⟨g, 167, none⟩))).run Try.prog r.world = .ok (.agg (cellsL .u8 (p.hello1 b body).a0)) r.world) := Lib.hid (fun r => (H8.out.below r.below).ld_a0)
  rw [hkp] at hcp
  have hkp2 : kp ≤ 1000 := by omega
  clear hrp hkp hp
  go_wp2_with fail
  refine wp_region_mix_below w8.heap.size [([0, 1, 2, 3, 4, 5, 6, 7, 8, 9, 10, 11, 12, 13, 14, 15, 16], 17), ([], 18), ([], 19), ([], 20)] [21] (by kernel_rfl) (by kernel_rfl) (by kernel_rfl) (by kernel_rfl) ?_
  simp only [pickL, List.map_cons, List.map_nil, List.filterMap_cons, List.filterMap_nil, List.getElem?_cons_succ, List.getElem?_cons_zero]
  refine mixS_cons ?_
  show wpQuiet _ _ _ _ (_ :: _) _
  go_big_quiet_step (fail)
  show wpQuiet _ _ _ _ (_ :: _) _
  go_big_quiet_step (fail)
  show wpQuiet _ _ _ _ (_ :: _) _
  go_big_quiet_step (fail)
  show wpQuiet _ _ _ _ (_ :: _) _
  go_big_quiet_step (fail)
  show wpQuiet _ _ _ _ (_ :: _) _
  go_big_quiet_step (fail)
  show wpQuiet _ _ _ _ (_ :: _) _
  go_big_quiet_step (fail)
  show wpQuiet _ _ _ _ (_ :: _) _
  go_big_quiet_step (fail)
  show wpQuiet _ _ _ _ (_ :: _) _
  go_big_quiet_step (fail)
  show wpQuiet _ _ _ _ (_ :: _) _
  go_big_quiet_step (fail)
  show wpQuiet _ _ _ _ (_ :: _) _
  go_big_quiet_step (fail)
  show wpQuiet _ _ _ _ (_ :: _) _
  go_big_quiet_step (fail)
  show wpQuiet _ _ _ _ (_ :: _) _
  refine wpQuiet_loadV (o := ⟨some 57, _, _, _, _, _⟩) rfl _ rfl rfl (fun w' hw' => by obtain ⟨r, rfl⟩ := hw'; exact la.out r) ?_
  simp only [Act.put, List.setIfInBounds_toArray, List.set_cons_zero, List.set_cons_succ]
  repeat (show wpQuiet _ _ _ _ (_ :: _) _; go_big_quiet_step (fail))
  refine wpQuiet_nil ?_
  show wpList _ _ _ [_] _ _
  clear q98 la
  have TX9 : Hid (Txs (w8.alloc (.cells #[.slice Ap kp cp] 23)).drew.heap.size (w8.alloc (.cells #[.slice Ap kp cp] 23)).drew (some ⟨w8.heap.size, 0, none⟩) [⟨Ap, cp, p.par⟩]) := Lib.hid (Txs.newAt (w := w8) rfl (by simp [txV, HKP.out]) (fun t ht => by
    simp only [List.mem_cons, List.not_mem_nil, or_false] at ht
    subst ht
    exact ⟨RP.out, by show p.par.length ≤ cp; rw [HKP.out]; exact hcp⟩))
  have B9 : Hid (Below w8.heap.size w8 (w8.alloc (.cells #[.slice Ap kp cp] 23)).drew) := Lib.hid ((Below.refl w8.heap.size w8).alloc (Nat.le_refl _) _).drew
  go_wp2_with fail
  generalize (w8.alloc (.cells #[.slice Ap kp cp] 23)).drew = w9 at *
  refine MixQ.below B9.out ?_
  refine mixS_cons ?_
  refine wpQuiet_nil ?_
  show wpList _ _ _ [_] _ _
  go_wp2_with fail
  have HAL : Hid ((p.hello1 b body).a0.length = 32 ∧ Byt (p.hello1 b body).a0) := Lib.hid ⟨H8.out.ok.a0, H8.out.ok.ba0⟩
  have SM : Calls Try.prog 23 #[.pointer (some ⟨g, 0, none⟩), .agg (cellsL .u8 (p.hello1 b body).a0), .slice (some ⟨w8.heap.size, 0, none⟩) 1 1] w9 (SliPost (proL (p.hello1 b body).a0 (p.tr ++ b ++ msgL 2 p.rnd ++ p.par)) w9) := by
    have := smac_any g _ _ _ v0 v1 vt7 (p.hello1 b body).a0 (some ⟨w8.heap.size, 0, none⟩) 1 1 [⟨Ap, cp, p.par⟩] w9 (H8.out.below B9.out) HAL.out.1 HAL.out.2 TX9.out rfl (fun t ht => by
      simp only [List.mem_cons, List.not_mem_nil, or_false] at ht
      subst ht
      exact HRN.out.2.2) (by simp [joinT, HKP.out]; omega) (by omega) (by show (p.tr ++ b ++ msgL 2 p.rnd).length ≤ _; have := HT7.out; omega)
    rw [show joinT [(⟨Ap, cp, p.par⟩ : Tx)] = p.par by simp [joinT]] at this
    exact this
  refine Calls.mono SM ?_
  clear SM TX9
  have HFE : Hid (p.hfin b body = msgL 20 (p.par ++ proL (p.hello1 b body).a0 (p.tr ++ b ++ msgL 2 p.rnd ++ p.par))) := Lib.hid rfl
  rintro e w10 ⟨A10, n10, c10, rfl, hn10, hc10, r10, b10⟩
  have HQL : Hid ((proL (p.hello1 b body).a0 (p.tr ++ b ++ msgL 2 p.rnd ++ p.par)).length = 32 ∧ Byt (proL (p.hello1 b body).a0 (p.tr ++ b ++ msgL 2 p.rnd ++ p.par))) := Lib.hid ⟨proL_len _ _, proL_byt _ _⟩
  rw [HQL.out.1] at hn10
  subst hn10
  generalize proL (p.hello1 b body).a0 (p.tr ++ b ++ msgL 2 p.rnd ++ p.par) = Q at *
  have R10 := Lib.hid r10
  have B10 := Lib.hid (B9.out.trans (b10.mono B9.out.size))
  have RP10 := Lib.hid ((RP.out.below B10.out (Nat.le_refl _)).mono B10.out.size)
  clear r10 b10 B9
  go_wp2_with fail
  refine MixQ.below B10.out ?_
  refine mixS_cons ?_
  refine wpQuiet_nil ?_
  show wpList _ _ _ [_] _ _
  have E11 := (Below.refl w10.heap.size w10).alloc (Nat.le_refl _) (.cells #[.slice Ap kp cp, .slice A10 32 c10] 23)
  have B11 := Lib.hid (B10.out.trans (E11.mono B10.out.size))
  have R11 := Lib.hid ((R10.out.below E11 (Nat.le_refl _)).mono E11.size)
  have RP11 := Lib.hid ((RP10.out.below E11 (Nat.le_refl _)).mono E11.size)
  have C11 : Hid ((w10.alloc (.cells #[.slice Ap kp cp, .slice A10 32 c10] 23)).cell? ⟨w10.heap.size, 0, none⟩ = some (.slice Ap p.par.length cp) ∧ (w10.alloc (.cells #[.slice Ap kp cp, .slice A10 32 c10] 23)).cell? ⟨w10.heap.size, 1, none⟩ = some (.slice A10 Q.length c10)) := Lib.hid ⟨by rw [Blk.cell (Blk.new _ _ _), HKP.out]; rfl, by rw [Blk.cell (Blk.new _ _ _), HQL.out.1]; rfl⟩
  clear E11 R10 RP10 B10
  go_wp2_with fail
  generalize w10.alloc (.cells #[.slice Ap kp cp, .slice A10 32 c10] 23) = w11 at *
  refine MixQ.below B11.out ?_
  refine mixS_cons ?_
  refine wpQuiet_nil ?_
  show wpList _ _ _ [_] _ _
  go_wp2_with fail
  refine Calls.mono (message_two 20 w10.heap.size 2 ⟨Ap, cp, p.par⟩ ⟨A10, c10, Q⟩ w11 (Nat.le_refl _) C11.out.1 C11.out.2 RP11.out R11.out HRN.out.2.2 HQL.out.2 (by show p.par.length ≤ _; rw [HKP.out]; omega) (by show Q.length ≤ _; rw [HQL.out.1]; omega)) ?_
  rintro e w12 ⟨A12, n12, c12, rfl, o12, b12⟩
  have HFN : Hid ((p.hfin b body).length = n12 ∧ n12 ≤ 1036 ∧ Byt (p.hfin b body)) := Lib.hid ⟨by rw [HFE.out]; exact o12.len.symm, by rw [o12.len, msgL_len]; show (p.par ++ Q).length + 4 ≤ _; rw [List.length_append, HKP.out, HQL.out.1]; omega, by rw [HFE.out]; exact msgL_byt ⟨by omega, by omega⟩ (HRN.out.2.2.append HQL.out.2)⟩
  have T12 : Hid (SlT w12 (.slice A12 n12 c12) (p.hfin b body)) := Lib.hid (by rw [HFE.out]; exact SlT.own o12)
  have B12 := Lib.hid (B11.out.trans (b12.mono B11.out.size))
  clear o12 b12 C11 R11 RP11 B11 HFE
  go_wp2_with fail
  refine MixQ.below B12.out ?_
  refine mixS_nil ?_
  repeat (show wpQuiet _ _ _ _ (_ :: _) _; go_big_quiet_step (fail))
  refine wpQuiet_nil ?_
  refine NoPanic.normal ?_
  have H12 := Lib.hid (H8.out.below B12.out)
  have TA12 := Lib.hid (T8.out.below B12.out)
  have G12 := Lib.hid (grown_cat_ G8.out (only_of_below B12.out _))
  clear H8 T8 G8 B12 RP
  go_wp2_with fail
  refine Calls.mono (notes_any g _ _ _ v0 v1 vt7 A12 n12 c12 (p.hfin b body) w12 H12.out (T12.out.rdF H12.out).1 HFN.out.1 HFN.out.2.2 (by have := HFN.out.2.1; omega) (by show (p.tr ++ b ++ msgL 2 p.rnd).length ≤ _; have := HT7.out; omega)) ?_
  rintro e w13 ⟨vt13, rfl, h13, g13⟩
  have H13 := Lib.hid h13
  have G13 := Lib.hid (grown_cat_ G12.out g13)
  have TA13 := Lib.hid (TA12.out.turn H12.out g13)
  have TF13 := Lib.hid (T12.out.turn H12.out g13)
  clear h13 g13 H12 G12 TA12 T12
  go_wp2_with fail
  refine Calls.mono (ssecond_any g _ _ _ v0 v1 vt13 w13 H13.out (by show (p.tr ++ b ++ msgL 2 p.rnd ++ p.hfin b body).length ≤ _; have h1 := HT7.out; have h2 := HFN.out; rw [List.length_append]; omega)) ?_
  rintro e w14 ⟨rfl, h14, g14⟩
  have H14 := Lib.hid h14
  have G14 := Lib.hid (grown_cat_ G13.out g14)
  have TA14 := Lib.hid (TA13.out.turn H13.out g14)
  have TF14 := Lib.hid (TF13.out.turn H13.out g14)
  have q14 := h14.c1
  have f14 := h14.fz 1
  clear h14 g14 H13 G13 TA13 TF13
  have H15 : Hid (ShB g (w14.setCell ⟨g, 1, none⟩ (.int .u8 3)) (p.hello b body) (.slice Ap kp cp) (.slice A5 n5 c5) v0 v1 vt13) := Lib.hid (by
    have h := H14.out.set_st 3
    rw [PL.out, HKP.out] at *
    exact h)
  have g15 := grown_st (p := ⟨g, 1, none⟩) (v := .int .u8 3) (World.grownBy.refl w14 (some g)) rfl
  have G15 := Lib.hid (grown_cat_ G14.out g15)
  have TA15 := Lib.hid (TA14.out.turn H14.out g15)
  have TF15 := Lib.hid (TF14.out.turn H14.out g15)
  clear g15 H14 G14 TA14 TF14
  go_wp2_with fail
  clear q14 f14
  have HW15 : Hid ((w14.setCell ⟨g, 1, none⟩ (.int .u8 3)).heap.size = w14.heap.size) := Lib.hid (by simp)
  generalize w14.setCell ⟨g, 1, none⟩ (.int .u8 3) = w15 at *
  have E16 := (Below.refl w15.heap.size w15).alloc (Nat.le_refl _) (.cells #[.int .u8 0, .slice A6 36 c6, .int .u8 1, .slice A12 n12 c12] 31)
  have SR := SdR.lit (B := w.heap.size) (w := w15) (cs := #[.int .u8 0, .slice A6 36 c6, .int .u8 1, .slice A12 n12 c12]) (n := 2) (l := [⟨0, A6, c6, msgL 2 p.rnd⟩, ⟨1, A12, c12, p.hfin b body⟩]) (by simp [vsS, SX.vs, HAN.out.2.1, HFN.out.1]) rfl G15.out.size (by decide) (fun x hx => by
    simp only [List.mem_cons, List.not_mem_nil, or_false] at hx
    rcases hx with rfl | rfl
    · exact ⟨by show SlT w15 (.slice A6 (msgL 2 p.rnd).length c6) _; rw [HAN.out.2.1]; exact TA15.out, HAN.out.2.2⟩
    · exact ⟨by show SlT w15 (.slice A12 (p.hfin b body).length c12) _; rw [HFN.out.1]; exact TF15.out, HFN.out.2.2⟩)
  rw [HW15.out] at SR
  refine bodyPost_ret (results_tmp2 rfl _ _ _) rfl ⟨_, _, _, rfl, SR, rfl, rfl, ⟨.slice A5 n5 c5, vt13, ?_⟩, grown_cat_ G15.out (only_of_below E16 _)⟩
  have := H15.out.below E16
  rw [PL.out, HKP.out]
  exact this
end Go.Proofs.Ythknncdhjicklaa
