/- Layer 21: what is said, in memory; contract of finish. Conditions: as each theorem states them. -/
import Derived.Test.YthknncdhjicklaaH9
namespace Go.Proofs.Ythknncdhjicklaa
open Go.RowKit
/-- bytes that go out in a space, in memory -/
structure SX where
  sp : Int
  A : Option Addr
  c : Nat
  bs : List Int
def SX.e (x : SX) : Int × List Int := (x.sp, x.bs)
def SX.vs (x : SX) : List Value := [.int .u8 x.sp, .slice x.A x.bs.length x.c]
structure SX.Ok (w : World) (x : SX) : Prop where
  sl : SlT w (.slice x.A x.bs.length x.c) x.bs
  byt : Byt x.bs
def vsS (l : List SX) : List Value := l.flatMap SX.vs
theorem vsS_len (l : List SX) : (vsS l).length = l.length * 2 := by
  induction l with
  | nil => rfl
  | cons x t ih => unfold vsS at ih ⊢; rw [List.flatMap_cons, List.length_append, ih, List.length_cons]; simp [SX.vs]; omega
theorem vsS_app (l m : List SX) : vsS (l ++ m) = vsS l ++ vsS m := by unfold vsS; rw [List.flatMap_append]
theorem SX.one (x : SX) : ∀ u ∈ x.vs, u.oneCell' = true := by
  intro u hu
  unfold SX.vs at hu
  simp only [List.mem_cons, List.not_mem_nil, or_false] at hu
  rcases hu with rfl | rfl <;> rfl
theorem vsS_one {l : List SX} : ∀ u ∈ vsS l, u.oneCell' = true := by
  intro u hu
  obtain ⟨x, _, h⟩ := List.mem_flatMap.1 hu
  exact x.one u h
/-- an own row of what is said -/
def SdR (B : Nat) (w : World) (v : Value) (l : List SX) : Prop := w.ownsRow B 31 2 v l.length (vsS l) ∧ ∀ x ∈ l, x.Ok w
section
variable {B g b : Nat} {w w' : World} {v : Value} {l : List SX} {x : SX}
theorem SX.Ok.below (h : x.Ok w) (hb : Below w.heap.size w w') : x.Ok w' := ⟨h.sl.below hb, h.byt⟩
theorem SX.Ok.grown (h : x.Ok w) (hg : w.grownBy w' (some b)) (ht : ∀ cur, w.heap[b]? ≠ some (.cells cur 5 (0, 0))) : x.Ok w' := ⟨h.sl.grown2 hg ht, h.byt⟩
theorem SdR.below (h : SdR B w v l) (hb : Below w.heap.size w w') : SdR B w' v l := ⟨own_below h.1 hb, fun x hx => (h.2 x hx).below hb⟩
/-- another block is turned -/
theorem SdR.grown (h : SdR B w v l) (hg : w.grownBy w' (some b)) (hk : ∀ cur, w.heap[b]? ≠ some (.cells cur 31 (0, 0))) (ht : ∀ cur, w.heap[b]? ≠ some (.cells cur 5 (0, 0))) : SdR B w' v l := ⟨row_kept h.1 hg hk, fun x hx => (h.2 x hx).grown hg ht⟩
theorem SdR.sh {p : PS} {vp vq v0 v1 vt : Value} (h : SdR B w v l) (hs : ShB g w p vp vq v0 v1 vt) (hg : w.grownBy w' (some g)) : SdR B w' v l := h.grown hg (hs.blk.notT (by decide)) (hs.blk.notT (by decide))
theorem SdR.nil (B : Nat) (w : World) : SdR B w (.slice none 0 0) [] := ⟨World.ownsRow_nil _ _ _ _, fun x hx => by simp at hx⟩
theorem SdR.lit {cs : Array Value} {n : Nat} (hc : cs = (vsS l).toArray) (hn : n = l.length) (hB : B ≤ w.heap.size) (hm : n ≤ maxLen) (hx : ∀ x ∈ l, x.Ok w) : SdR B (w.alloc (.cells cs 31)) (.slice (some ⟨w.heap.size, 0, none⟩) n n) l := by
  subst hc hn
  refine ⟨?_, fun x h => (hx x h).below ((Below.refl _ _).alloc (Nat.le_refl _) _)⟩
  have := World.ownsRow_lit (e := 31) (size := 2) (base := B) w (vsS l).toArray l.length hB hm (by simp [vsS_len])
  simpa using this
end
def PS.finish (p : PS) (b X : List Int) : PS := { PS.snd { p with pp := X, tr := p.tr ++ b } with st := 100 }
set_option maxRecDepth 100000 in
set_option maxHeartbeats 4000000 in
theorem finish_any (g : Nat) (p : PS) (vp vq v0 v1 vt : Value) (A : Option Addr) (n c : Nat) (b : List Int) (A2 : Option Addr) (m c2 : Nat) (X body : List Int) (w : World) (h : ShB g w p vp vq v0 v1 vt) (hr : RdF g w A b) (hn : b.length = n) (hb : Byt b) (hr2 : RdF g w A2 body) (hbd : body = X ++ proL p.a0 (p.tr ++ X)) (hn2 : body.length = m) (hc2 : m ≤ c2) (hbX : Byt X) (hX : X.length ≤ 1000) (hl : n ≤ 100000) (ht : p.tr.length ≤ 100000) :
    Calls Try.prog 18 #[.pointer (some ⟨g, 0, none⟩), .slice A n c, .slice A2 m c2] w fun e w' => ∃ v x, e = .returned (.tuple #[v, .int .i64 0]) ∧ SdR w.heap.size w' v [x] ∧ x.e = (1, msgL 20 (proL p.c0 (p.tr ++ b))) ∧ (∃ vq' vt', ShB g w' (p.finish b X) vp vq' v0 v1 vt') ∧ w.grownBy w' (some g) := by
  have HR := Lib.hid hr
  have HN := Lib.hid hn
  have HB := Lib.hid hb
  have HR2 := Lib.hid hr2
  have H0 := Lib.hid h
  have HBX := Lib.hid hbX
  have HT : Hid ((p.tr ++ b).length ≤ 1000000) := Lib.hid (by rw [List.length_append, hn]; omega)
  obtain ⟨k, hk⟩ : ∃ k, X.length = k := ⟨_, rfl⟩
  have hm : m = k + 32 := by rw [← hn2, hbd, List.length_append, hk, proL_len]
  subst hm
  have HK := Lib.hid hk
  have hk0 : k ≤ 1000 := by omega
  obtain ⟨A3, c3, hc3, _, r3, l3, run3⟩ := slice_l elC hr2.1 (by rw [hn2]; exact hc2) (k : Int) 32 (by omega) (by rw [hn2]; omega) (by rw [hn2]; push_cast; omega)
  obtain ⟨A4, c4, hc4, _, r4, l4, run4⟩ := slice_h elC hr2.1 (by rw [hn2]; exact hc2) (k : Int) k (by rw [hn2]; omega) rfl
  rw [hn2] at run3 run4
  have e3 : body.drop (k : Int).toNat = proL p.a0 (p.tr ++ X) := by rw [hbd, Int.toNat_natCast, ← hk, List.drop_left]
  have e4 : body.take k = X := by rw [hbd, ← hk, List.take_left]
  rw [e3] at r3
  rw [e4] at r4
  have R3 := Lib.hid r3
  have R4 := Lib.hid r4
  have HPL : Hid ((proL p.a0 (p.tr ++ X)).length = 32 ∧ Byt (proL p.a0 (p.tr ++ X))) := Lib.hid ⟨proL_len _ _, proL_byt _ _⟩
  have HAL : Hid (p.a0.length = 32 ∧ Byt p.a0) := Lib.hid ⟨h.ok.a0, h.ok.ba0⟩
  have la : ∀ r : BW w.heap.size w, (Instr.loadAt 22 (.pointer (some ⟨g, 167, none⟩))).run Try.prog r.world = .ok (.agg (cellsL .u8 p.a0)) r.world := fun r => (h.below r.below).ld_a0
  have LA := Lib.hid la
  clear h hr hn hb hr2 hbd hn2 hbX hX r3 r4 l3 l4 e3 e4 la
  go_enter Try.func18, Try.ntmps18
  go_wp2_with fail
  refine wp_region_mix_below w.heap.size [([0, 1, 2, 3, 4, 5, 6, 7, 8, 9, 10, 11, 12], 13), ([], 14), ([], 15)] [16] (by kernel_rfl) (by kernel_rfl) (by kernel_rfl) (by kernel_rfl) ?_
  simp only [pickL, List.map_cons, List.map_nil, List.filterMap_cons, List.filterMap_nil, List.getElem?_cons_succ, List.getElem?_cons_zero]
  refine mixS_cons ?_
  show wpQuiet _ _ _ _ (_ :: _) _
  go_big_quiet_step (fail)
  show wpQuiet _ _ _ _ (_ :: _) _
  go_big_quiet_step (fail)
  show wpQuiet _ _ _ _ (_ :: _) _
  go_big_quiet_step (fail)
  show wpQuiet _ _ _ _ (_ :: _) _
  go_big_quiet_step (fail)
  show wpQuiet _ _ _ _ (_ :: _) _
  go_big_quiet_step (fail)
  show wpQuiet _ _ _ _ (_ :: _) _
  go_big_quiet_step (fail)
  show wpQuiet _ _ _ _ (_ :: _) _
  go_big_quiet_step (fail)
  show wpQuiet _ _ _ _ (_ :: _) _
  go_big_quiet_step (fail)
  show wpQuiet _ _ _ _ (_ :: _) _
  go_big_quiet_step (fail)
  show wpQuiet _ _ _ _ (_ :: _) _
  refine wpQuiet_loadV (o := ⟨some 25, _, _, _, _, _⟩) rfl _ rfl rfl (fun w' hw' => by obtain ⟨r, rfl⟩ := hw'; exact LA.out r) ?_
  simp only [Act.put, List.setIfInBounds_toArray, List.set_cons_zero, List.set_cons_succ]
  repeat (show wpQuiet _ _ _ _ (_ :: _) _; go_big_quiet_step (fail))
  refine wpQuiet_nil ?_
  show wpList _ _ _ [_] _ _
  clear run3
  have T5 : Hid (Txs (w.alloc (.cells #[.slice A4 k c4] 23)).drew.heap.size (w.alloc (.cells #[.slice A4 k c4] 23)).drew (some ⟨w.heap.size, 0, none⟩) [⟨A4, c4, X⟩]) := Lib.hid (Txs.newAt (w := w) rfl (by simp [txV, HK.out]) (fun t ht => by
    simp only [List.mem_cons, List.not_mem_nil, or_false] at ht
    subst ht
    exact ⟨R4.out, by show X.length ≤ c4; rw [HK.out]; exact hc4⟩))
  have B5 : Hid (Below w.heap.size w (w.alloc (.cells #[.slice A4 k c4] 23)).drew) := Lib.hid ((Below.refl w.heap.size w).alloc (Nat.le_refl _) _).drew
  go_wp2_with fail
  generalize (w.alloc (.cells #[.slice A4 k c4] 23)).drew = w5 at *
  refine MixQ.below B5.out ?_
  refine mixS_cons ?_
  refine wpQuiet_nil ?_
  show wpList _ _ _ [_] _ _
  go_wp2_with fail
  have SM := smac_any g p vp vq v0 v1 vt p.a0 (some ⟨w.heap.size, 0, none⟩) 1 1 [⟨A4, c4, X⟩] w5 (H0.out.below B5.out) HAL.out.1 HAL.out.2 T5.out rfl (fun t ht => by
    simp only [List.mem_cons, List.not_mem_nil, or_false] at ht
    subst ht
    exact HBX.out) (by simp [joinT, HK.out]; omega) (by omega) (by omega)
  rw [show joinT [(⟨A4, c4, X⟩ : Tx)] = X by simp [joinT]] at SM
  refine Calls.mono SM ?_
  clear SM T5
  rintro e w6 ⟨A6, n6, c6, rfl, hn6, hc6, r6, b6⟩
  rw [HPL.out.1] at hn6
  subst hn6
  have R6 := Lib.hid r6
  have B6 := Lib.hid (B5.out.trans (b6.mono B5.out.size))
  clear r6 b6 B5
  go_wp2_with fail
  refine MixQ.below B6.out ?_
  refine mixS_cons ?_
  refine wpQuiet_nil ?_
  show wpList _ _ _ [_] _ _
  go_wp2_with fail
  refine Calls.mono (equal_n HPL.out.1 HPL.out.1 ((R3.out.below B6.out (Nat.le_refl _)).mono B6.out.size) R6.out HPL.out.2 HPL.out.2) ?_
  rintro e w7 ⟨he, rfl⟩
  simp only [decide_true] at he
  subst he
  go_wp2_with fail
  refine MixQ.below B6.out ?_
  refine mixS_nil ?_
  repeat (show wpQuiet _ _ _ _ (_ :: _) _; go_big_quiet_step (fail))
  refine wpQuiet_nil ?_
  refine NoPanic.normal ?_
  have H6 := Lib.hid (H0.out.below B6.out)
  have RR6 := Lib.hid (HR.out.below B6.out)
  have R46 := Lib.hid ((R4.out.below B6.out (Nat.le_refl _)).mono B6.out.size)
  clear H0 HR R3 R4 R6 LA HPL HR2
  go_wp2_with fail
  clear run4
  refine Calls.mono (clone_n A4 c4 k X _ R46.out HK.out.symm (by omega)) ?_
  rintro e w8 ⟨A8, n8, c8, rfl, o8, b8⟩
  have H8 := Lib.hid (H6.out.below b8)
  have RR8 := Lib.hid (RR6.out.below b8)
  have B8 := Lib.hid (B6.out.trans (b8.mono B6.out.size))
  have O8 := Lib.hid o8
  have q8 := H8.out.c5.2.1
  have f8 := H8.out.fz 99
  clear b8 o8 H6 RR6 R46 B6
  have H9 := Lib.hid (H8.out.set_pp (SlT.own O8.out) HBX.out)
  have g9 := grown_st (p := ⟨g, 99, none⟩) (v := .slice A8 n8 c8) (World.grownBy.refl w8 (some g)) rfl
  have G9 := Lib.hid (grown_cat_ (only_of_below B8.out (some g)) g9)
  have RR9 := Lib.hid (RR8.out.grown g9)
  clear g9 H8 RR8 B8
  go_wp2_with fail
  generalize w8.setCell ⟨g, 99, none⟩ (.slice A8 n8 c8) = w9 at *
  refine Calls.mono (notes_any g _ vp _ v0 v1 vt A n c b w9 H9.out RR9.out.1 HN.out HB.out (by omega) (by show p.tr.length ≤ _; omega)) ?_
  rintro e w10 ⟨vt2, rfl, h2, g2⟩
  have H10 := Lib.hid h2
  have G10 := Lib.hid (grown_cat_ G9.out g2)
  clear h2 g2 H9 G9 RR9 q8 f8
  go_wp2_with fail
  refine Calls.mono (ssecond_any g _ vp _ v0 v1 vt2 w10 H10.out HT.out) ?_
  rintro e w11 ⟨rfl, h3, g3⟩
  have H11 := Lib.hid h3
  have G11 := Lib.hid (grown_cat_ G10.out g3)
  have q11 := h3.c1
  have f11 := h3.fz 1
  clear h3 g3 H10 G10
  have H12 : Hid (ShB g (w11.setCell ⟨g, 1, none⟩ (.int .u8 100)) (p.finish b X) vp (.slice A8 n8 c8) v0 v1 vt2) := Lib.hid (H11.out.set_st 100)
  have G12 := Lib.hid (grown_st (p := ⟨g, 1, none⟩) (v := .int .u8 100) G11.out rfl)
  have l12 : Hid ((Instr.loadAt 22 (.pointer (some ⟨g, 103, none⟩))).run Try.prog (w11.setCell ⟨g, 1, none⟩ (.int .u8 100)) = .ok (.agg (cellsL .u8 p.c0)) (w11.setCell ⟨g, 1, none⟩ (.int .u8 100))) := Lib.hid H12.out.ld_c0
  clear H11 G11
  go_wp2_with ((with_reducible (show wpList _ _ _ (⟨some 56, .load _ _, _, _, _, _⟩ :: _) _ _)); refine wpList_loadV (o := ⟨some 56, .load _ _, _, _, _, _⟩) rfl _ rfl rfl (l12.out) ?_)
  clear l12 q11 f11
  generalize w11.setCell ⟨g, 1, none⟩ (.int .u8 100) = w12 at *
  have HCL : Hid (p.c0.length = 32 ∧ Byt p.c0) := Lib.hid ⟨H12.out.ok.c0, H12.out.ok.bc0⟩
  have SM : Calls Try.prog 23 #[.pointer (some ⟨g, 0, none⟩), .agg (cellsL .u8 p.c0), .slice none 0 0] w12 (SliPost (proL p.c0 (p.tr ++ b)) w12) := by
    have := smac_any g (p.finish b X) vp (.slice A8 n8 c8) v0 v1 vt2 p.c0 none 0 0 [] w12 H12.out HCL.out.1 HCL.out.2 Txs.nil rfl BytT.nil (by simp [joinT]) (by omega) HT.out
    rw [show joinT [] = [] by simp [joinT], List.append_nil] at this
    exact this
  refine Calls.mono SM ?_
  clear SM
  rintro e w13 ⟨A13, n13, c13, rfl, hn13, hc13, r13, b13⟩
  have HQL : Hid ((proL p.c0 (p.tr ++ b)).length = 32 ∧ Byt (proL p.c0 (p.tr ++ b))) := Lib.hid ⟨proL_len _ _, proL_byt _ _⟩
  rw [HQL.out.1] at hn13
  subst hn13
  generalize hqe : proL p.c0 (p.tr ++ b) = Q at *
  have HQE := Lib.hid hqe
  clear hqe
  have R13 := Lib.hid r13
  have H13 := Lib.hid (H12.out.below b13)
  have G13 := Lib.hid (grown_cat_ G12.out (only_of_below b13 _))
  clear r13 b13 H12 G12
  have E14 := (Below.refl w13.heap.size w13).alloc (Nat.le_refl _) (.cells #[.slice A13 32 c13] 23)
  have R14 := Lib.hid ((R13.out.below E14 (Nat.le_refl _)).mono E14.size)
  have H14 := Lib.hid (H13.out.below E14)
  have G14 := Lib.hid (grown_cat_ G13.out (only_of_below E14 _))
  have C14 : Hid ((w13.alloc (.cells #[.slice A13 32 c13] 23)).cell? ⟨w13.heap.size, 0, none⟩ = some (.slice A13 Q.length c13)) := Lib.hid (by rw [Blk.cell (Blk.new _ _ _), HQL.out.1]; rfl)
  clear R13 H13 G13 E14
  go_wp2_with fail
  generalize w13.alloc (.cells #[.slice A13 32 c13] 23) = w14 at *
  refine Calls.mono (message_one 20 w13.heap.size 1 ⟨A13, c13, Q⟩ w14 C14.out R14.out HQL.out.2 (by show 0 < Q.length; rw [HQL.out.1]; omega) (by show Q.length ≤ _; rw [HQL.out.1]; omega)) ?_
  rintro e w15 ⟨A15, n15, c15, rfl, o15, b15⟩
  have O15 := Lib.hid o15
  have HMB : Hid (Byt (msgL 20 Q)) := Lib.hid (msgL_byt ⟨by omega, by omega⟩ HQL.out.2)
  have H15 := Lib.hid (H14.out.below b15)
  have G15 := Lib.hid (grown_cat_ G14.out (only_of_below b15 _))
  have HL15 : Hid (n15 = (msgL 20 Q).length) := Lib.hid o15.len
  clear o15 b15 C14 R14 H14 G14
  go_wp2_with fail
  have E16 := (Below.refl w15.heap.size w15).alloc (Nat.le_refl _) (.cells #[.int .u8 1, .slice A15 n15 c15] 31)
  refine bodyPost_ret (results_tmp2 rfl _ _ _) rfl ⟨_, ⟨1, A15, c15, msgL 20 Q⟩, rfl, SdR.lit (by simp [vsS, SX.vs, HL15.out]) rfl G15.out.size (by simp [maxLen]) (fun x hx => ?_), by rw [HQE.out]; rfl, ⟨_, vt2, H15.out.below E16⟩, grown_cat_ G15.out (only_of_below E16 _)⟩
  simp only [List.mem_cons, List.not_mem_nil, or_false] at hx
  subst hx
  refine ⟨?_, HMB.out⟩
  have := SlT.own O15.out
  rw [HL15.out] at this
  exact this
end Go.Proofs.Ythknncdhjicklaa
