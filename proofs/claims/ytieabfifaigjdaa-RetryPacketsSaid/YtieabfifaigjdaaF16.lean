/- Layer 33: contract of Take's closure. Conditions: as each theorem states them. -/
import Derived.Test.YtieabfifaigjdaaF4
import Derived.Test.YtieabfifaigjdaaQB
namespace Go.Proofs.Ytieabfifaigjdaa
open Go.RowKit
/-- all but two blocks is as it was -/
structure Fr2 (g h : Nat) (w w' : World) : Prop where
  os : w'.os = w.os
  tape : w'.tape = w.tape
  output : w'.output = w.output
  size : w.heap.size ≤ w'.heap.size
  block : ∀ i, i < w.heap.size → i ≠ g → i ≠ h → w'.heap[i]? = w.heap[i]?
theorem Fr2.one {g h : Nat} {w w' : World} (q : w.grownBy w' (some g)) : Fr2 g h w w' := ⟨q.os, q.tape, q.output, q.size, fun i hi h1 _ => q.block i hi (fun e => by injection e with e; exact h1 e)⟩
theorem Fr2.two {g h : Nat} {w w' : World} (q : w.grownBy w' (some h)) : Fr2 g h w w' := ⟨q.os, q.tape, q.output, q.size, fun i hi _ h1 => q.block i hi (fun e => by injection e with e; exact h1 e)⟩
theorem Fr2.of_below {g h : Nat} {w w' : World} (q : Below w.heap.size w w') : Fr2 g h w w' := ⟨q.os, q.tape, q.output, q.size, fun i hi _ _ => q.block i hi⟩
theorem Fr2.trans {g h : Nat} {a b c : World} (p : Fr2 g h a b) (q : Fr2 g h b c) : Fr2 g h a c :=
  ⟨q.os.trans p.os, q.tape.trans p.tape, q.output.trans p.output, Nat.le_trans p.size q.size, fun i hi h1 h2 => (q.block i (Nat.lt_of_lt_of_le hi p.size) h1 h2).trans (p.block i hi h1 h2)⟩
theorem Fr2.drew {g h : Nat} {a b : World} (p : Fr2 g h a b) : Fr2 g h a b.drew := ⟨p.os, p.tape, p.output, p.size, p.block⟩
theorem Fr2.below {g h B : Nat} {a b : World} (p : Fr2 g h a b) (hB : B ≤ a.heap.size) (hg : B ≤ g) (hh : B ≤ h) : Below B a b := ⟨p.os, p.tape, p.output, p.size, fun i hi => p.block i (by omega) (by omega) (by omega)⟩
theorem Fr2.blk {g h q : Nat} {a b : World} {t : TypeId} {cs : Array Value} (p : Fr2 g h a b) (k : Blk a q t cs) (h1 : q ≠ g) (h2 : q ≠ h) : Blk b q t cs := (p.block q k.lt h1 h2).trans k
theorem Fr2.own {g h B : Nat} {a b : World} {e : TypeId} {k : IntKind} {A : Option Addr} {n c : Nat} {xs : List Int} (p : Fr2 g h a b) (o : Own B e k a A n c xs) (h1 : g < B) (h2 : h < B) : Own B e k b A n c xs :=
  o.same fun ad e => by have := o.block ad e; exact p.block ad.block this.2 (by omega) (by omega)
theorem grown_drew_ {a b : World} {row : Option Nat} (h : a.grownBy b row) : a.grownBy b.drew row := ⟨h.os, h.tape, h.output, h.size, h.block⟩
/-- what is left of a packet's bytes, and whether it is well so far -/
structure CidS (B gk gr : Nat) (w : World) (ok : Bool) (rest : List Int) : Prop where
  k : Blk w gk 4 #[.bool ok]
  r : ∃ A c, Blk w gr 22 #[.slice A rest.length c] ∧ rest.length ≤ c ∧ Rd B .u8 w A rest
theorem rd_cell0 {B : Nat} {k : IntKind} {w : World} {A : Option Addr} {xs : List Int} (h : Rd B k w A xs) (hl : 0 < xs.length) : ∃ ad, A = some ad ∧ ad.block < B ∧ w.cell? (ad.add 0) = some (.int k (xs.getD 0 0)) := h 0 hl
set_option maxRecDepth 100000 in
set_option maxHeartbeats 1000000 in
theorem cid_yes (B gk gr : Nat) (rest : List Int) (x : Nat) (w : World) (hS : CidS B gk gr w true rest) (h0 : 0 < rest.length) (hx : rest.getD 0 0 = (x : Int)) (hx20 : x ≤ 20) (hlt : x < rest.length) (hk : B ≤ gk) (hr : B ≤ gr) (hne : gk ≠ gr) :
    Calls Try.prog 24 #[.pointer (some ⟨gk, 0, none⟩), .pointer (some ⟨gr, 0, none⟩)] w fun e w' => ∃ A n c, e = .returned (.slice A n c) ∧ Own w.heap.size 5 .u8 w' A n c ((rest.drop 1).take x) ∧ CidS B gk gr w' true (rest.drop (1 + x)) ∧ Fr2 gk gr w w' := by
  obtain ⟨hK, A, c, hR, hc, hrd⟩ := hS
  obtain ⟨A1, c1, s1, s2, s3, s4, s5⟩ := slice_lh elC hrd hc 1 (1 + (x : Int)) x (by decide) (by omega) (by omega) (by omega)
  obtain ⟨A2, c2, t1, t2, t3, t4, t5⟩ := slice_l elC hrd hc (1 + (x : Int)) (rest.length - (1 + x)) (by omega) (by omega) (by omega)
  have e1 : (1 : Int).toNat = 1 := rfl
  have e2 : (1 + (x : Int)).toNat = 1 + x := by omega
  rw [e1] at s3 s4
  rw [e2] at t3 t4
  obtain ⟨ad, hA, hlb, hcell⟩ := hrd 0 h0
  rw [hx] at hcell
  obtain ⟨m, hm⟩ : ∃ z, rest.length = z := ⟨_, rfl⟩
  rw [hm] at hR s5 t5 hc h0 hlt t1 t4
  have hgk := hK.lt
  have hgr := hR.lt
  have HK := Lib.hid hK
  have HR := Lib.hid hR
  have S3 := Lib.hid s3
  have S4 := Lib.hid s4
  have T3 := Lib.hid t3
  have T4 := Lib.hid t4
  have HM := Lib.hid hm
  subst hA
  have CAD : Hid (w.cell? ad = some (.int .u8 x)) := Lib.hid (by simpa [Addr.add] using hcell)
  have k0 : ∀ r : BW w.heap.size w, r.world.cell? ⟨gk, 0, none⟩ = some (.bool true) := fun r => by simpa using Blk.cell (hK.below r.below hgk) 0
  have r0 : ∀ r : BW w.heap.size w, r.world.cell? ⟨gr, 0, none⟩ = some (.slice (some ad) m c) := fun r => by simpa using Blk.cell (hR.below r.below hgr) 0
  have b0 : ∀ r : BW w.heap.size w, r.world.cell? ad = some (.int .u8 x) := fun r => by
    have h := Below.cell_some r.below hcell (by rw [block_of_add]; omega)
    simpa [Addr.add] using h
  clear hx hrd hcell hK hR s3 s4 t3 t4 hm e1 e2
  have hx256 : (x : Int) < 256 := by omega
  have hx20' : (x : Int) ≤ 20 := by omega
  go_enter Try.func24, Try.ntmps24
  go_wp2_with fail
  refine wp_region_mixOB w.heap.size [([0, 1, 2, 3, 4, 5, 6, 7, 8, 9, 10, 11, 12, 13, 14, 15, 16, 17, 18, 19, 20], 21)] (by kernel_rfl) (by kernel_rfl) (by kernel_rfl) (by kernel_rfl) (by kernel_rfl) ?_
  try (rw [put_none])
  simp only [pickL, List.map_cons, List.map_nil, List.filterMap_cons, List.filterMap_nil, List.getElem?_cons_succ, List.getElem?_cons_zero]
  refine mixO_cons ?_
  repeat (show wpQuiet _ _ _ _ (_ :: _) _; go_big_quiet_step (fail))
  refine wpQuiet_nil ?_
  show wpList _ _ _ [_] _ _
  clear k0 r0 b0
  have ck : w.drew.cell? ⟨gk, 0, none⟩ = some (.bool true) := by simpa using Blk.cell HK.out.drew 0
  have fk : w.drew.frozen? ⟨gk, 0, none⟩ = false := HK.out.drew.frozen 0
  have G1 : Hid (w.grownBy (w.setCell ⟨gk, 0, none⟩ (.bool true)).drew (some gk)) := Lib.hid (grown_drew_ (only_setCell (p := ⟨gk, 0, none⟩) (World.grownBy.refl w (some gk)) (.inl rfl) _))
  have K1 : Hid (Blk (w.setCell ⟨gk, 0, none⟩ (.bool true)).drew gk 4 #[.bool true]) := Lib.hid (Blk.drew (Blk.cast (HK.out.set_ 0 _) (by simp)))
  go_wp2_with fail
  refine MixO.last ?_
  refine mixO_nil ?_
  refine wpQuiet_nil ?_
  refine NoPanic.normal ?_
  generalize hw1 : (w.setCell ⟨gk, 0, none⟩ (.bool true)).drew = w1 at *
  clear hw1 ck fk
  have R1 := Lib.hid (HR.out.grown G1.out (by intro q; injection q with q; exact hne q.symm))
  have cad : Hid (w1.cell? ad = some (.int .u8 x)) := Lib.hid ((World.cell?_of_block (G1.out.block _ (by omega) (by intro q; injection q with q; omega))).trans CAD.out)
  have F1 : Hid (Fr2 gk gr w w1) := Lib.hid (Fr2.one G1.out)
  have S3b := Lib.hid (S3.out.below (F1.out.below (by omega) hk hr) (Nat.le_refl _))
  have T3b := Lib.hid (T3.out.below (F1.out.below (by omega) hk hr) (Nat.le_refl _))
  clear HK HR G1
  have hz1 := F1.out.size
  have ck : w1.cell? ⟨gk, 0, none⟩ = some (.bool true) := by simpa using Blk.cell K1.out 0
  go_wp2_with fail
  clear ck
  have r0 : ∀ r : BW w1.heap.size w1, r.world.cell? ⟨gr, 0, none⟩ = some (.slice (some ad) m c) := fun r => by simpa using Blk.cell (R1.out.below r.below R1.out.lt) 0
  have b0 : ∀ r : BW w1.heap.size w1, r.world.cell? ad = some (.int .u8 x) := fun r => Below.cell_some r.below cad.out (by omega)
  refine wp_region_mixN w1.heap.size [] [0, 1, 2, 3, 4, 5, 6, 7] (by kernel_rfl) (by kernel_rfl) (by kernel_rfl) (by kernel_rfl) ?_
  simp only [pickL, List.map_nil, List.filterMap_cons, List.filterMap_nil, List.getElem?_cons_succ, List.getElem?_cons_zero]
  refine mixN_nil ?_
  repeat (show wpQuiet _ _ _ _ (_ :: _) _; go_big_quiet_step (fail))
  refine wpQuiet_nil ?_
  refine NoPanic.normal ?_
  clear r0 b0
  have F2 := Lib.hid F1.out.drew
  have K2 := Lib.hid K1.out.drew
  have R2 := Lib.hid R1.out.drew
  have S3c := Lib.hid S3b.out.drew
  have T3c := Lib.hid T3b.out.drew
  clear F1 K1 R1 S3b T3b cad hz1
  generalize w1.drew = w2 at *
  have cr : w2.cell? ⟨gr, 0, none⟩ = some (.slice (some ad) m c) := by simpa using Blk.cell R2.out 0
  have fr : w2.frozen? ⟨gr, 0, none⟩ = false := R2.out.frozen 0
  have G3 : Hid (w2.grownBy (w2.setCell ⟨gr, 0, none⟩ (.slice A2 (m - (1 + x)) c2)) (some gr)) := Lib.hid (only_setCell (p := ⟨gr, 0, none⟩) (World.grownBy.refl w2 (some gr)) (.inl rfl) _)
  have R3 : Hid (Blk (w2.setCell ⟨gr, 0, none⟩ (.slice A2 (m - (1 + x)) c2)) gr 22 #[.slice A2 (m - (1 + x)) c2]) := Lib.hid (Blk.cast (R2.out.set_ 0 _) (by simp))
  go_wp2_with fail
  generalize hw3 : w2.setCell ⟨gr, 0, none⟩ (.slice A2 (m - (1 + x)) c2) = w3 at *
  clear hw3 cr fr
  have K3 := Lib.hid (K2.out.grown G3.out (by intro q; injection q with q; exact hne q))
  have F3 := Lib.hid (F2.out.trans (Fr2.two (g := gk) G3.out))
  have BB : Hid (Below B w2 w3) := Lib.hid (below_of_only G3.out hr (by have := K2.out.lt; omega))
  have S3d := Lib.hid (S3c.out.below BB.out (Nat.le_refl _))
  have T3d := Lib.hid (T3c.out.below BB.out (Nat.le_refl _))
  clear K2 R2 F2 S3c T3c G3 BB
  refine Calls.mono (clone_n A1 c1 x ((rest.drop 1).take x) w3 (S3d.out.mono (by have := K3.out.lt; omega)) S4.out.symm (by omega)) ?_
  rintro e w4 ⟨A4, n4, c4, rfl, o4, b4⟩
  have O4 := Lib.hid (o4.mono F3.out.size)
  have F4 := Lib.hid (F3.out.trans (Fr2.of_below b4))
  have K4 := Lib.hid (K3.out.below b4 K3.out.lt)
  have R4 := Lib.hid (R3.out.below b4 R3.out.lt)
  have T4d := Lib.hid (T3d.out.below b4 (by have := K3.out.lt; omega))
  clear o4 b4
  go_wp2_with fail
  go_ret
  refine ⟨_, _, _, rfl, O4.out, ⟨K4.out, A2, c2, by rw [T4.out]; exact R4.out, by rw [T4.out]; exact t1, T4d.out⟩, F4.out⟩
end Go.Proofs.Ytieabfifaigjdaa
