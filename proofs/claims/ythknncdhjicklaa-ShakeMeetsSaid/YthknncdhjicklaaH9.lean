/- Layer 21: contracts of answer, client. Conditions: as each theorem states them. -/
import Derived.Test.YthknncdhjicklaaH8
namespace Go.Proofs.Ythknncdhjicklaa
open Go.RowKit
/-- bytes that do not lie in the handshake's own block -/
def RdF (g : Nat) (w : World) (A : Option Addr) (X : List Int) : Prop := Rd w.heap.size .u8 w A X ∧ ∀ ad, A = some ad → ad.block ≠ g
theorem RdF.grown {g : Nat} {w w' : World} {A : Option Addr} {X : List Int} (h : RdF g w A X) (hg : w.grownBy w' (some g)) : RdF g w' A X := ⟨(h.1.far hg (Nat.le_refl _) h.2).mono hg.size, h.2⟩
theorem RdF.below {g : Nat} {w w' : World} {A : Option Addr} {X : List Int} (h : RdF g w A X) (hb : Below w.heap.size w w') : RdF g w' A X := h.grown (only_of_below hb _)
def PS.answer (p : PS) (b body : List Int) : PS := { PS.fst { p with peer := body, tr := p.tr ++ b } with st := 2 }
theorem grown_st {g : Nat} {w w' : World} {p : Addr} {v : Value} (h : w.grownBy w' (some g)) (hp : p.block = g) : w.grownBy (w'.setCell p v) (some g) := only_setCell h (.inl hp) v
set_option maxRecDepth 100000 in
set_option maxHeartbeats 4000000 in
theorem answer_any (g : Nat) (p : PS) (vp vq v0 v1 vt : Value) (A : Option Addr) (n c : Nat) (b : List Int) (A2 : Option Addr) (c2 : Nat) (body : List Int) (w : World) (h : ShB g w p vp vq v0 v1 vt) (hr : RdF g w A b) (hn : b.length = n) (hb : Byt b) (hr2 : RdF g w A2 body) (hn2 : body.length = 32) (hb2 : Byt body) (hl : n ≤ 100000) (ht : p.tr.length ≤ 100000) :
    Calls Try.prog 17 #[.pointer (some ⟨g, 0, none⟩), .slice A n c, .slice A2 32 c2] w fun e w' => e = .returned (.tuple #[.slice none 0 0, .int .i64 0]) ∧ (∃ vt', ShB g w' (p.answer b body) vp vq v0 v1 vt') ∧ w.grownBy w' (some g) := by
  have HR := Lib.hid hr
  have HN := Lib.hid hn
  have HB := Lib.hid hb
  have HF : Hid (p.answer b body = { PS.fst { p with peer := body, tr := p.tr ++ b } with st := 2 }) := Lib.hid rfl
  obtain ⟨w1, s1, h1, g1⟩ := h.st_peer body hn2 hb2
  have hl14 : (Instr.loadAt 22 (.pointer A2)).run Try.prog w = .ok (.agg (cellsL .u8 body)) w := by
    have := rd_loadArr hr2.1 Try.underlying22 size32 (by rw [hn2]; exact Nat.le_refl _) (by decide)
    rwa [List.take_of_length_le (by rw [hn2]; exact Nat.le_refl _)] at this
  have L14 := Lib.hid hl14
  have S1 := Lib.hid s1
  have H1 := Lib.hid h1
  have G1 := Lib.hid g1
  have HT : Hid ((p.tr ++ b).length ≤ 1000000) := Lib.hid (by rw [List.length_append, hn]; omega)
  clear h hr hn hb hr2 hn2 hb2 hl14 s1 h1 g1
  go_enter Try.func17, Try.ntmps17
  go_wp2_with (first
    | ((with_reducible (show wpList _ _ _ (⟨some 13, .sliceToArrayPointer _ _, _, _, _, _⟩ :: _) _ _)); refine wpList_arrayAt (o := ⟨some 13, .sliceToArrayPointer _ _, _, _, _, _⟩) rfl _ rfl rfl (arrayAt_run Try.underlying22 A2 c2 (Nat.le_refl _) _) ?_)
    | ((with_reducible (show wpList _ _ _ (⟨some 14, .load _ _, _, _, _, _⟩ :: _) _ _)); refine wpList_loadV (o := ⟨some 14, .load _ _, _, _, _, _⟩) rfl _ rfl rfl (L14.out) ?_)
    | ((with_reducible (show wpList _ _ _ (⟨none, .store 22 _ _, _, _, _, _⟩ :: _) _ _)); refine wpList_storeV (o := ⟨none, .store 22 _ _, _, _, _, _⟩) rfl _ _ rfl rfl rfl (S1.out) ?_))
  refine Calls.mono (notes_any g _ vp vq v0 v1 vt A n c b w1 H1.out (HR.out.grown G1.out).1 HN.out HB.out (by omega) (by show p.tr.length ≤ _; omega)) ?_
  rintro e w2 ⟨vt2, rfl, h2, g2⟩
  have H2 := Lib.hid h2
  have G2 := Lib.hid (grown_cat_ G1.out g2)
  clear h2 g2 H1 G1 S1 L14
  go_wp2_with fail
  refine Calls.mono (sfirst_any g _ vp vq v0 v1 vt2 w2 H2.out HT.out) ?_
  rintro e w3 ⟨rfl, h3, g3⟩
  have H3 := Lib.hid h3
  have G3 := Lib.hid (grown_cat_ G2.out g3)
  have q1 := h3.c1
  have f1 := h3.fz 1
  clear h3 g3 H2 G2
  go_wp2_with fail
  have H4 := Lib.hid (H3.out.set_st 2)
  have G4 := Lib.hid (grown_st (p := ⟨g, 1, none⟩) (v := .int .u8 2) G3.out rfl)
  exact bodyPost_ret (results_tmp2 rfl _ _ _) rfl ⟨rfl, ⟨vt2, by rw [HF.out]; exact H4.out⟩, G4.out⟩

set_option maxRecDepth 100000 in
set_option maxHeartbeats 4000000 in
theorem client_any (g : Nat) (p : PS) (vp vq v0 v1 vt : Value) (A : Option Addr) (n c : Nat) (A2 : Option Addr) (c2 : Nat) (body : List Int) (w : World) (h : ShB g w p vp vq v0 v1 vt) (hr2 : Rd w.heap.size .u8 w A2 body) (hbd : body = proL p.c0 p.tr) (ht : p.tr.length ≤ 100000) :
    Calls Try.prog 16 #[.pointer (some ⟨g, 0, none⟩), .slice A n c, .slice A2 32 c2] w fun e w' => e = .returned (.tuple #[.slice none 0 0, .int .i64 0]) ∧ ShB g w' { p with st := 100 } vp vq v0 v1 vt ∧ w.grownBy w' (some g) := by
  have H0 := Lib.hid h
  have HR := Lib.hid hr2
  have HB := Lib.hid hbd
  have hl15 := Lib.hid h.ld_c0
  have HCL : Hid (p.c0.length = 32 ∧ Byt p.c0) := Lib.hid ⟨h.ok.c0, h.ok.bc0⟩
  clear h hr2 hbd
  go_enter Try.func16, Try.ntmps16
  go_wp2_with ((with_reducible (show wpList _ _ _ (⟨some 15, .load _ _, _, _, _, _⟩ :: _) _ _)); refine wpList_loadV (o := ⟨some 15, .load _ _, _, _, _, _⟩) rfl _ rfl rfl (hl15.out) ?_)
  have SM := smac_any g p vp vq v0 v1 vt p.c0 none 0 0 [] w H0.out HCL.out.1 HCL.out.2 Txs.nil rfl BytT.nil (by simp [joinT]) (by omega) (by omega)
  rw [show joinT [] = [] by simp [joinT], List.append_nil, ← HB.out] at SM
  refine Calls.mono SM ?_
  clear SM
  rintro e w1 ⟨A3, n3, c3, rfl, hn3, hc3, r3, b3⟩
  have HL : Hid (body.length = 32 ∧ Byt body) := Lib.hid (by rw [HB.out]; exact ⟨proL_len _ _, proL_byt _ _⟩)
  have B3 := Lib.hid b3
  have R3 := Lib.hid r3
  rw [HL.out.1] at hn3
  subst hn3
  clear r3 b3
  go_wp2_with fail
  refine Calls.mono (equal_n HL.out.1 HL.out.1 ((HR.out.below B3.out (Nat.le_refl _)).mono B3.out.size) R3.out HL.out.2 HL.out.2) ?_
  rintro e w2 ⟨he, rfl⟩
  simp only [decide_true] at he
  subst he
  have H1 := Lib.hid (H0.out.below B3.out)
  have q1 := H1.out.c1
  have f1 := H1.out.fz 1
  clear H0 HR R3
  go_wp2_with fail
  have H2 := Lib.hid (H1.out.set_st 100)
  exact bodyPost_ret (results_tmp2 rfl _ _ _) rfl ⟨rfl, H2.out, grown_st (only_of_below B3.out _) rfl⟩
end Go.Proofs.Ythknncdhjicklaa
