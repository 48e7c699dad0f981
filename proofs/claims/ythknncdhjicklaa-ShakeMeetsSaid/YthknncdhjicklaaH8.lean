/- Layer 21: contracts of first, second. Conditions: as each theorem states them. -/
import Derived.Test.YthknncdhjicklaaH7
namespace Go.Proofs.Ythknncdhjicklaa
open Go.RowKit
def sCh : ByteArray := ⟨#[99, 32, 104, 115, 32, 116, 114, 97, 102, 102, 105, 99]⟩
def sSh : ByteArray := ⟨#[115, 32, 104, 115, 32, 116, 114, 97, 102, 102, 105, 99]⟩
def sCa : ByteArray := ⟨#[99, 32, 97, 112, 32, 116, 114, 97, 102, 102, 105, 99]⟩
def sSa : ByteArray := ⟨#[115, 32, 97, 112, 32, 116, 114, 97, 102, 102, 105, 99]⟩
def sDer : ByteArray := ⟨#[100, 101, 114, 105, 118, 101, 100]⟩
theorem grown_cat_ {a b c : World} {row : Option Nat} (h : a.grownBy b row) (g : b.grownBy c row) : a.grownBy c row :=
  ⟨g.os.trans h.os, g.tape.trans h.tape, g.output.trans h.output, Nat.le_trans h.size g.size, fun i hi hne => (g.block i (Nat.lt_of_lt_of_le hi h.size) hne).trans (h.block i hi hne)⟩
theorem BytT.nil : BytT [] := fun t ht => by simp at ht
/-- the sum of the transcript alone -/
theorem ssum_none (g : Nat) (p : PS) (vp vq v0 v1 vt : Value) (w : World) (h : ShB g w p vp vq v0 v1 vt) (ht : p.tr.length ≤ 1000000) :
    Calls Try.prog 29 #[.pointer (some ⟨g, 0, none⟩), .slice none 0 0] w (SliPost (shaL p.tr) w) := by
  have := ssum_any g p vp vq v0 v1 vt none 0 0 [] w h Txs.nil rfl BytT.nil (by simp [joinT]) (by omega) ht
  rwa [show joinT [] = [] by simp [joinT], List.append_nil] at this
/-- p with the handshake secrets -/
def PS.fst (p : PS) : PS := { p with c0 := secL p.hs sCh (shaL p.tr), a0 := secL p.hs sSh (shaL p.tr) }
set_option maxRecDepth 100000 in
set_option maxHeartbeats 4000000 in
theorem sfirst_any (g : Nat) (p : PS) (vp vq v0 v1 vt : Value) (w : World) (h : ShB g w p vp vq v0 v1 vt) (ht : p.tr.length ≤ 1000000) :
    Calls Try.prog 22 #[.pointer (some ⟨g, 0, none⟩)] w fun e w' => e = .returned (.tuple #[]) ∧ ShB g w' p.fst vp vq v0 v1 vt ∧ w.grownBy w' (some g) := by
  have H0 := Lib.hid h
  have HRL : Hid (p.hs.length = 32) := Lib.hid (by unfold PS.hs; cases p.sv <;> exact hsL_len _ _ _)
  have HRB : Hid (Byt p.hs) := Lib.hid (by unfold PS.hs; cases p.sv <;> exact hsL_byt _ _ _)
  have HF : Hid (p.fst = { p with c0 := secL p.hs sCh (shaL p.tr), a0 := secL p.hs sSh (shaL p.tr) }) := Lib.hid rfl
  clear h
  go_enter Try.func22, Try.ntmps22
  go_wp2_with fail
  refine Calls.mono (handshake_any g p vp vq v0 v1 vt w H0.out) ?_
  rintro e w1 ⟨rfl, b1⟩
  have B1 := Lib.hid b1
  clear b1
  generalize p.hs = R at *
  go_wp2_with ((with_reducible (show wpList _ _ _ (⟨none, .store 22 _ _, _, _, _, _⟩ :: _) _ _)); refine wpList_storeArr (o := ⟨none, .store 22 _ _, _, _, _, _⟩) (g := w1.heap.size) (t := 22) (k := .u8) (xs := R) (n := 32) rfl _ _ rfl rfl rfl (Blk.new _ _ _) size32 (HRL.out.symm) rfl ?_; intro w2 ha2 hg2; have HA2 := Lib.hid ha2; have HG2 := Lib.hid hg2; clear ha2 hg2)
  have B2 := Lib.hid ((B1.out.alloc B1.out.size _).trans (below_of_only HG2.out B1.out.size (by have := B1.out.size; simp; omega)))
  have hz1 := B1.out.size
  obtain ⟨g2, hg2⟩ : ∃ z, w1.heap.size = z := ⟨_, rfl⟩
  rw [hg2] at HA2 hz1 ⊢
  clear hg2 HG2 B1
  have hgl := H0.out.lt
  have H2 := Lib.hid (H0.out.below B2.out)
  have HX : Hid ((shaL p.tr).length = 32 ∧ Byt (shaL p.tr)) := Lib.hid ⟨shaL_len _, shaL_byt _⟩
  have HCL : Hid ((secL R sCh (shaL p.tr)).length = 32 ∧ Byt (secL R sCh (shaL p.tr))) := Lib.hid ⟨secL_len _ _ _ (by decide) (by rw [HX.out.1]; omega), secL_byt _ _ _⟩
  have HDL : Hid ((secL R sSh (shaL p.tr)).length = 32 ∧ Byt (secL R sSh (shaL p.tr))) := Lib.hid ⟨secL_len _ _ _ (by decide) (by rw [HX.out.1]; omega), secL_byt _ _ _⟩
  have hne : Nonempty (CW (fun v : World => Arr v g2 22 .u8 R)) := CW.inh HA2.out
  refine wp_region_mixO (fun w' => ∃ r : CW (fun v : World => Arr v g2 22 .u8 R), w' = r.world) [([0, 1, 2, 3, 6, 7, 10, 11, 12, 15, 16, 17], 4), ([], 5), ([], 8), ([], 9), ([13], 14), ([18], 19)] (by kernel_rfl) (by kernel_rfl) (by kernel_rfl) (by kernel_rfl) (by kernel_rfl) ⟨CW.mk' HA2.out.drew, rfl⟩ ?_
  try (rw [put_none])
  simp only [pickL, List.map_cons, List.map_nil, List.filterMap_cons, List.filterMap_nil, List.getElem?_cons_succ, List.getElem?_cons_zero]
  refine mixO_cons ?_
  show wpQuiet _ _ _ _ (_ :: _) _
  go_big_quiet_step (fail)
  show wpQuiet _ _ _ _ (_ :: _) _
  go_big_quiet_step (fail)
  show wpQuiet _ _ _ _ (_ :: _) _
  refine wpQuiet_loadV (o := ⟨some 7, _, _, _, _, _⟩) rfl _ rfl rfl (fun w' hw' => by obtain ⟨r, rfl⟩ := hw'; exact arr_load r.2 Try.underlying22 size32 HRL.out.symm) ?_
  simp only [Act.put, List.setIfInBounds_toArray, List.set_cons_zero, List.set_cons_succ]
  show wpQuiet _ _ _ _ (_ :: _) _
  go_big_quiet_step (fail)
  show wpQuiet _ _ _ _ (_ :: _) _
  refine wpQuiet_loadV (o := ⟨some 11, _, _, _, _, _⟩) rfl _ rfl rfl (fun w' hw' => by obtain ⟨r, rfl⟩ := hw'; exact arr_load r.2 Try.underlying22 size32 HRL.out.symm) ?_
  simp only [Act.put, List.setIfInBounds_toArray, List.set_cons_zero, List.set_cons_succ]
  repeat (show wpQuiet _ _ _ _ (_ :: _) _; go_big_quiet_step (fail))
  refine wpQuiet_nil ?_
  show wpList _ _ _ [_] _ _
  go_wp2_with fail
  refine Calls.mono (ssum_none g p vp vq v0 v1 vt _ (H2.out.below (Below.refl w2.heap.size w2).drew) ht) ?_
  rintro e w3 ⟨A3, n3, c3, rfl, hn3, hc3, r3, b3⟩
  rw [HX.out.1] at hn3
  subst hn3
  have R3 := Lib.hid r3
  have B3 := Lib.hid ((Below.refl w2.heap.size w2).drew.trans b3)
  clear r3 b3
  go_wp2_with fail
  refine MixO.narrow (fun _ h => h) (⟨CW.mk' (HA2.out.belowAll B3.out), rfl⟩) ?_
  refine mixO_cons ?_
  repeat (show wpQuiet _ _ _ _ (_ :: _) _; go_big_quiet_step (fail))
  refine wpQuiet_nil ?_
  show wpList _ _ _ [_] _ _
  go_wp2_with fail
  refine Calls.mono (secret_any R sCh A3 32 c3 (shaL p.tr) w3 HRL.out HRB.out R3.out HX.out.1 HX.out.2 (by omega) (by decide)) ?_
  rintro e w4 ⟨rfl, b4⟩
  have B4 := Lib.hid (B3.out.trans (b4.mono B3.out.size))
  clear b4 R3 B3
  go_wp2_with fail
  refine MixO.narrow (fun _ h => h) (⟨CW.mk' (HA2.out.belowAll B4.out), rfl⟩) ?_
  refine mixO_cons ?_
  repeat (show wpQuiet _ _ _ _ (_ :: _) _; go_big_quiet_step (fail))
  refine wpQuiet_nil ?_
  show wpList _ _ _ [_] _ _
  go_wp2_with fail
  refine Calls.mono (ssum_none g p vp vq v0 v1 vt _ (H2.out.below B4.out) ht) ?_
  rintro e w5 ⟨A5, n5, c5, rfl, hn5, hc5, r5, b5⟩
  rw [HX.out.1] at hn5
  subst hn5
  have R5 := Lib.hid r5
  have B5 := Lib.hid (B4.out.trans (b5.mono B4.out.size))
  clear r5 b5 B4
  go_wp2_with fail
  refine MixO.narrow (fun _ h => h) (⟨CW.mk' (HA2.out.belowAll B5.out), rfl⟩) ?_
  refine mixO_cons ?_
  repeat (show wpQuiet _ _ _ _ (_ :: _) _; go_big_quiet_step (fail))
  refine wpQuiet_nil ?_
  show wpList _ _ _ [_] _ _
  go_wp2_with fail
  refine Calls.mono (secret_any R sSh A5 32 c5 (shaL p.tr) w5 HRL.out HRB.out R5.out HX.out.1 HX.out.2 (by omega) (by decide)) ?_
  rintro e w6 ⟨rfl, b6⟩
  have B6 := Lib.hid (B5.out.trans (b6.mono B5.out.size))
  clear b6 R5 B5
  generalize secL R sCh (shaL p.tr) = C at *
  generalize secL R sSh (shaL p.tr) = D at *
  obtain ⟨w7, s7, h7, g7⟩ := (H2.out.below B6.out).st_c0 C HCL.out.1 HCL.out.2
  obtain ⟨w8, s8, h8, g8⟩ := h7.st_a0 D HDL.out.1 HDL.out.2
  have S7 := Lib.hid s7
  have S8 := Lib.hid s8
  have H8 := Lib.hid h8
  have A6 := Lib.hid (HA2.out.belowAll B6.out)
  have A7 := Lib.hid (A6.out.grown g7 (by intro q; injection q with q; omega))
  have G8 := Lib.hid (grown_cat_ (only_of_below (B2.out.trans (B6.out.mono B2.out.size)) (some g)) (grown_cat_ g7 g8))
  clear s7 s8 h7 h8 g7 g8 H2 HA2 B2 B6
  go_wp2_with fail
  refine MixO.narrow (fun _ h => h) (⟨CW.mk' A6.out, rfl⟩) ?_
  refine mixO_cons ?_
  repeat (show wpQuiet _ _ _ _ (_ :: _) _; go_big_quiet_step (fail))
  refine wpQuiet_nil ?_
  show wpList _ _ _ [_] _ _
  go_wp2_with ((with_reducible (show wpList _ _ _ (⟨none, .store 22 _ _, _, _, _, _⟩ :: _) _ _)); refine wpList_storeV (o := ⟨none, .store 22 _ _, _, _, _, _⟩) rfl _ _ rfl rfl rfl (S7.out) ?_)
  refine MixO.narrow (fun _ h => h) (⟨CW.mk' A7.out, rfl⟩) ?_
  refine mixO_cons ?_
  repeat (show wpQuiet _ _ _ _ (_ :: _) _; go_big_quiet_step (fail))
  refine wpQuiet_nil ?_
  show wpList _ _ _ [_] _ _
  go_wp2_with ((with_reducible (show wpList _ _ _ (⟨none, .store 22 _ _, _, _, _, _⟩ :: _) _ _)); refine wpList_storeV (o := ⟨none, .store 22 _ _, _, _, _, _⟩) rfl _ _ rfl rfl rfl (S8.out) ?_)
  refine MixO.last ?_
  refine mixO_nil ?_
  refine wpQuiet_nil ?_
  refine NoPanic.normal ?_
  go_wp2_with fail
  exact bodyPost_end (results_none rfl _ _ _) rfl ⟨rfl, by rw [HF.out]; exact H8.out, G8.out⟩
/-- the secret of the application's -/
def masL (h : List Int) : List Int := macL (secL h sDer []) []
theorem masL_len (h : List Int) : (masL h).length = 32 := macL_len _ _
theorem masL_byt (h : List Int) : Byt (masL h) := macL_byt _ _
/-- p with the application's secrets -/
def PS.snd (p : PS) : PS := { p with c1 := secL (masL p.hs) sCa (shaL p.tr), a1 := secL (masL p.hs) sSa (shaL p.tr) }
set_option maxRecDepth 100000 in
set_option maxHeartbeats 4000000 in
theorem ssecond_any (g : Nat) (p : PS) (vp vq v0 v1 vt : Value) (w : World) (h : ShB g w p vp vq v0 v1 vt) (ht : p.tr.length ≤ 1000000) :
    Calls Try.prog 24 #[.pointer (some ⟨g, 0, none⟩)] w fun e w' => e = .returned (.tuple #[]) ∧ ShB g w' p.snd vp vq v0 v1 vt ∧ w.grownBy w' (some g) := by
  have H0 := Lib.hid h
  have HSL : Hid (p.hs.length = 32) := Lib.hid (by unfold PS.hs; cases p.sv <;> exact hsL_len _ _ _)
  have HSB : Hid (Byt p.hs) := Lib.hid (by unfold PS.hs; cases p.sv <;> exact hsL_byt _ _ _)
  have HF : Hid (p.snd = { p with c1 := secL (masL p.hs) sCa (shaL p.tr), a1 := secL (masL p.hs) sSa (shaL p.tr) }) := Lib.hid rfl
  have HRL := Lib.hid (masL_len p.hs)
  have HRB := Lib.hid (masL_byt p.hs)
  have HM : Hid (masL p.hs = macL (secL p.hs sDer []) []) := Lib.hid rfl
  have hgl := h.lt
  clear h
  go_enter Try.func24, Try.ntmps24
  go_wp2_with fail
  refine Calls.mono (handshake_any g p vp vq v0 v1 vt w H0.out) ?_
  rintro e wa ⟨rfl, ba⟩
  have Ba := Lib.hid ba
  clear ba
  generalize masL p.hs = R at *
  generalize p.hs = Z at *
  go_wp2_with fail
  refine Calls.mono (secret_any Z sDer none 0 0 [] wa HSL.out HSB.out Rd.nil rfl Byt.nil (by omega) (by decide)) ?_
  rintro e wb ⟨rfl, bb⟩
  have Bb := Lib.hid (Ba.out.trans (bb.mono Ba.out.size))
  have HEL : Hid ((secL Z sDer []).length = 32 ∧ Byt (secL Z sDer [])) := Lib.hid ⟨secL_len _ _ _ (by decide) (by simp), secL_byt _ _ _⟩
  clear bb Ba
  generalize secL Z sDer [] = E at *
  go_wp2_with ((with_reducible (show wpList _ _ _ (⟨none, .store 22 _ _, _, _, _, _⟩ :: _) _ _)); refine wpList_storeArr (o := ⟨none, .store 22 _ _, _, _, _, _⟩) (g := wb.heap.size) (t := 22) (k := .u8) (xs := E) (n := 32) rfl _ _ rfl rfl rfl (Blk.new _ _ _) size32 (HEL.out.1.symm) rfl ?_; intro wc hac hgc; have HAc := Lib.hid hac; have HGc := Lib.hid hgc; clear hac hgc)
  have Bc := Lib.hid ((Bb.out.alloc Bb.out.size _).trans (below_of_only HGc.out Bb.out.size (by have := Bb.out.size; simp; omega)))
  obtain ⟨gc, hgc⟩ : ∃ z, wb.heap.size = z := ⟨_, rfl⟩
  rw [hgc] at HAc ⊢
  clear hgc HGc Bb
  have XA := extract_any (some ⟨gc, 0, none⟩) 32 E none 0 [] wc HAc.out.rd HEL.out.2 (by rw [HEL.out.1]; exact Nat.le_refl _) (by rw [HEL.out.1]; omega) Rd.nil Byt.nil (Nat.le_refl _) (by simp)
  rw [HEL.out.1, ← HM.out] at XA
  refine Calls.mono XA ?_
  clear XA
  rintro e w1 ⟨rfl, b1⟩
  have B1 := Lib.hid (Bc.out.trans (b1.mono Bc.out.size))
  clear b1 HAc Bc
  go_wp2_with ((with_reducible (show wpList _ _ _ (⟨none, .store 22 _ _, _, _, _, _⟩ :: _) _ _)); refine wpList_storeArr (o := ⟨none, .store 22 _ _, _, _, _, _⟩) (g := w1.heap.size) (t := 22) (k := .u8) (xs := R) (n := 32) rfl _ _ rfl rfl rfl (Blk.new _ _ _) size32 (HRL.out.symm) rfl ?_; intro w2 ha2 hg2; have HA2 := Lib.hid ha2; have HG2 := Lib.hid hg2; clear ha2 hg2)
  have B2 := Lib.hid ((B1.out.alloc B1.out.size _).trans (below_of_only HG2.out B1.out.size (by have := B1.out.size; simp; omega)))
  have hz1 := B1.out.size
  obtain ⟨g2, hg2⟩ : ∃ z, w1.heap.size = z := ⟨_, rfl⟩
  rw [hg2] at HA2 hz1 ⊢
  clear hg2 HG2 B1
  have H2 := Lib.hid (H0.out.below B2.out)
  have HX : Hid ((shaL p.tr).length = 32 ∧ Byt (shaL p.tr)) := Lib.hid ⟨shaL_len _, shaL_byt _⟩
  have HCL : Hid ((secL R sCa (shaL p.tr)).length = 32 ∧ Byt (secL R sCa (shaL p.tr))) := Lib.hid ⟨secL_len _ _ _ (by decide) (by rw [HX.out.1]; omega), secL_byt _ _ _⟩
  have HDL : Hid ((secL R sSa (shaL p.tr)).length = 32 ∧ Byt (secL R sSa (shaL p.tr))) := Lib.hid ⟨secL_len _ _ _ (by decide) (by rw [HX.out.1]; omega), secL_byt _ _ _⟩
  have hne : Nonempty (CW (fun v : World => Arr v g2 22 .u8 R)) := CW.inh HA2.out
  refine wp_region_mixO (fun w' => ∃ r : CW (fun v : World => Arr v g2 22 .u8 R), w' = r.world) [([0, 1, 2, 3, 6, 7, 10, 11, 12, 15, 16, 17], 4), ([], 5), ([], 8), ([], 9), ([13], 14), ([18], 19)] (by kernel_rfl) (by kernel_rfl) (by kernel_rfl) (by kernel_rfl) (by kernel_rfl) ⟨CW.mk' HA2.out.drew, rfl⟩ ?_
  try (rw [put_none])
  simp only [pickL, List.map_cons, List.map_nil, List.filterMap_cons, List.filterMap_nil, List.getElem?_cons_succ, List.getElem?_cons_zero]
  refine mixO_cons ?_
  show wpQuiet _ _ _ _ (_ :: _) _
  go_big_quiet_step (fail)
  show wpQuiet _ _ _ _ (_ :: _) _
  go_big_quiet_step (fail)
  show wpQuiet _ _ _ _ (_ :: _) _
  refine wpQuiet_loadV (o := ⟨some 11, _, _, _, _, _⟩) rfl _ rfl rfl (fun w' hw' => by obtain ⟨r, rfl⟩ := hw'; exact arr_load r.2 Try.underlying22 size32 HRL.out.symm) ?_
  simp only [Act.put, List.setIfInBounds_toArray, List.set_cons_zero, List.set_cons_succ]
  show wpQuiet _ _ _ _ (_ :: _) _
  go_big_quiet_step (fail)
  show wpQuiet _ _ _ _ (_ :: _) _
  refine wpQuiet_loadV (o := ⟨some 15, _, _, _, _, _⟩) rfl _ rfl rfl (fun w' hw' => by obtain ⟨r, rfl⟩ := hw'; exact arr_load r.2 Try.underlying22 size32 HRL.out.symm) ?_
  simp only [Act.put, List.setIfInBounds_toArray, List.set_cons_zero, List.set_cons_succ]
  repeat (show wpQuiet _ _ _ _ (_ :: _) _; go_big_quiet_step (fail))
  refine wpQuiet_nil ?_
  show wpList _ _ _ [_] _ _
  go_wp2_with fail
  refine Calls.mono (ssum_none g p vp vq v0 v1 vt _ (H2.out.below (Below.refl w2.heap.size w2).drew) ht) ?_
  rintro e w3 ⟨A3, n3, c3, rfl, hn3, hc3, r3, b3⟩
  rw [HX.out.1] at hn3
  subst hn3
  have R3 := Lib.hid r3
  have B3 := Lib.hid ((Below.refl w2.heap.size w2).drew.trans b3)
  clear r3 b3
  go_wp2_with fail
  refine MixO.narrow (fun _ h => h) (⟨CW.mk' (HA2.out.belowAll B3.out), rfl⟩) ?_
  refine mixO_cons ?_
  repeat (show wpQuiet _ _ _ _ (_ :: _) _; go_big_quiet_step (fail))
  refine wpQuiet_nil ?_
  show wpList _ _ _ [_] _ _
  go_wp2_with fail
  refine Calls.mono (secret_any R sCa A3 32 c3 (shaL p.tr) w3 HRL.out HRB.out R3.out HX.out.1 HX.out.2 (by omega) (by decide)) ?_
  rintro e w4 ⟨rfl, b4⟩
  have B4 := Lib.hid (B3.out.trans (b4.mono B3.out.size))
  clear b4 R3 B3
  go_wp2_with fail
  refine MixO.narrow (fun _ h => h) (⟨CW.mk' (HA2.out.belowAll B4.out), rfl⟩) ?_
  refine mixO_cons ?_
  repeat (show wpQuiet _ _ _ _ (_ :: _) _; go_big_quiet_step (fail))
  refine wpQuiet_nil ?_
  show wpList _ _ _ [_] _ _
  go_wp2_with fail
  refine Calls.mono (ssum_none g p vp vq v0 v1 vt _ (H2.out.below B4.out) ht) ?_
  rintro e w5 ⟨A5, n5, c5, rfl, hn5, hc5, r5, b5⟩
  rw [HX.out.1] at hn5
  subst hn5
  have R5 := Lib.hid r5
  have B5 := Lib.hid (B4.out.trans (b5.mono B4.out.size))
  clear r5 b5 B4
  go_wp2_with fail
  refine MixO.narrow (fun _ h => h) (⟨CW.mk' (HA2.out.belowAll B5.out), rfl⟩) ?_
  refine mixO_cons ?_
  repeat (show wpQuiet _ _ _ _ (_ :: _) _; go_big_quiet_step (fail))
  refine wpQuiet_nil ?_
  show wpList _ _ _ [_] _ _
  go_wp2_with fail
  refine Calls.mono (secret_any R sSa A5 32 c5 (shaL p.tr) w5 HRL.out HRB.out R5.out HX.out.1 HX.out.2 (by omega) (by decide)) ?_
  rintro e w6 ⟨rfl, b6⟩
  have B6 := Lib.hid (B5.out.trans (b6.mono B5.out.size))
  clear b6 R5 B5
  generalize secL R sCa (shaL p.tr) = C at *
  generalize secL R sSa (shaL p.tr) = D at *
  obtain ⟨w7, s7, h7, g7⟩ := (H2.out.below B6.out).st_c1 C HCL.out.1 HCL.out.2
  obtain ⟨w8, s8, h8, g8⟩ := h7.st_a1 D HDL.out.1 HDL.out.2
  have S7 := Lib.hid s7
  have S8 := Lib.hid s8
  have H8 := Lib.hid h8
  have A6 := Lib.hid (HA2.out.belowAll B6.out)
  have A7 := Lib.hid (A6.out.grown g7 (by intro q; injection q with q; omega))
  have G8 := Lib.hid (grown_cat_ (only_of_below (B2.out.trans (B6.out.mono B2.out.size)) (some g)) (grown_cat_ g7 g8))
  clear s7 s8 h7 h8 g7 g8 H2 HA2 B2 B6
  go_wp2_with fail
  refine MixO.narrow (fun _ h => h) (⟨CW.mk' A6.out, rfl⟩) ?_
  refine mixO_cons ?_
  repeat (show wpQuiet _ _ _ _ (_ :: _) _; go_big_quiet_step (fail))
  refine wpQuiet_nil ?_
  show wpList _ _ _ [_] _ _
  go_wp2_with ((with_reducible (show wpList _ _ _ (⟨none, .store 22 _ _, _, _, _, _⟩ :: _) _ _)); refine wpList_storeV (o := ⟨none, .store 22 _ _, _, _, _, _⟩) rfl _ _ rfl rfl rfl (S7.out) ?_)
  refine MixO.narrow (fun _ h => h) (⟨CW.mk' A7.out, rfl⟩) ?_
  refine mixO_cons ?_
  repeat (show wpQuiet _ _ _ _ (_ :: _) _; go_big_quiet_step (fail))
  refine wpQuiet_nil ?_
  show wpList _ _ _ [_] _ _
  go_wp2_with ((with_reducible (show wpList _ _ _ (⟨none, .store 22 _ _, _, _, _, _⟩ :: _) _ _)); refine wpList_storeV (o := ⟨none, .store 22 _ _, _, _, _, _⟩) rfl _ _ rfl rfl rfl (S8.out) ?_)
  refine MixO.last ?_
  refine mixO_nil ?_
  refine wpQuiet_nil ?_
  refine NoPanic.normal ?_
  go_wp2_with fail
  exact bodyPost_end (results_none rfl _ _ _) rfl ⟨rfl, by rw [HF.out]; exact H8.out, G8.out⟩
end Go.Proofs.Ythknncdhjicklaa
