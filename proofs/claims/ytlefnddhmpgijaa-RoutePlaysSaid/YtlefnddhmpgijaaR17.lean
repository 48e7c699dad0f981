/- What holds in a round of the law RoutePlays; contracts as it uses them. Conditions: as each theorem states them. -/
import Derived.Test.YtlefnddhmpgijaaR16
import Derived.Test.YtlefnddhmpgijaaCL
namespace Go.Proofs.Ytlefnddhmpgijaa
open Go.RowKit
theorem learn_u (g : Nat) (k : Bool) (e o ep ow : Int) (w : World) (h : RtSt g k e o w) :
    Calls Try.prog 10 #[.pointer (some ⟨g, 0, none⟩), .int .u64 ep, .int .u8 ow] w fun r w' => r = .returned (.bool (lrnB k e ep ow)) ∧ RtSt g (if lrnB k e ep ow then true else k) (if lrnB k e ep ow then ep else e) (if lrnB k e ep ow then ow else o) w' ∧ w.grownBy w' (some g) := by
  rcases hx : lrnB k e ep ow with _ | _
  · refine (learn_no g k e o ep ow w h hx).mono fun r w' ⟨h1, h2⟩ => ?_
    subst h2
    exact ⟨h1, by simpa using h, World.grownBy.refl _ _⟩
  · refine (learn_yes g k e o ep ow w h hx).mono fun r w' ⟨h1, h2, h3⟩ => ⟨h1, by simpa using h2, h3⟩
theorem id_u (g : Nat) (f t : Int) (A : Option Addr) (c : Nat) (b : List Int) (w : World) (hr : Rd w.heap.size .u8 w A b) (hby : Byt b) (hc : b.length ≤ c) (hl : b.length ≤ 1000000000000) :
    Calls Try.prog 12 #[.pointer (some ⟨g, 0, none⟩), .agg #[.int .u32 f, .int .u32 t, .slice A b.length c]] w fun e w' => ∃ A' n' c', e = .returned (.tuple #[.slice A' n' c', .bool (splitL b 8).isSome]) ∧ Rd w'.heap.size .u8 w' A' (splD b) ∧ n' = (splD b).length ∧ Below w.heap.size w w' ∧ ∀ ad, A' = some ad → w.heap.size ≤ ad.block := by
  refine (id_someF g f t A c b w hr hby hc hl).mono fun e w' ⟨⟨h1, h2⟩, hf⟩ => ?_
  unfold splD
  rcases hs : splitL b 8 with _ | p
  · obtain ⟨rfl, hb1⟩ := h2 hs
    exact ⟨none, 0, 0, rfl, Rd.nil, rfl, hb1, fun ad h => by cases h⟩
  · obtain ⟨v, rfl, ⟨A', n', c', rfl, h3, h4, h5⟩, hb1⟩ := h1 p hs
    exact ⟨A', n', c', rfl, h5, h3, hb1, hf _ _ rfl A' n' c' rfl⟩
/-- what is known on both sides, and the step that is gone through -/
structure PlSt (w : World) (ga gr g9 : Nat) (k : Bool) (e o : Int) (d : DoR) (W : World) : Prop where
  rt : RtSt ga k e o W
  rr : Blk W gr 31 #[.int .u64 e, .int .u8 o]
  dd : Blk W g9 27 #[.int .u64 d.ep, .int .u8 d.ow, .int .u8 d.fr, .slice d.A d.b.length d.c]
  bl : Below w.heap.size w W
theorem PlSt.below {w : World} {ga gr g9 : Nat} {k : Bool} {e o : Int} {d : DoR} {W W' : World} (h : PlSt w ga gr g9 k e o d W) (hb : Below W.heap.size W W') : PlSt w ga gr g9 k e o d W' :=
  ⟨RtSt.below h.rt hb h.rt.lt, Blk.below h.rr hb (Blk.lt h.rr), Blk.below h.dd hb (Blk.lt h.dd), h.bl.trans (hb.mono h.bl.size)⟩
theorem PlSt.alloc {w : World} {ga gr g9 : Nat} {k : Bool} {e o : Int} {d : DoR} {W : World} (h : PlSt w ga gr g9 k e o d W) (ob : Obj) : PlSt w ga gr g9 k e o d (W.alloc ob) :=
  h.below ((Below.refl _ _).alloc (Nat.le_refl _) _)
theorem PlSt.drewN {w : World} {ga gr g9 : Nat} {k : Bool} {e o : Int} {d : DoR} {W : World} (h : PlSt w ga gr g9 k e o d W) (n : Nat) : PlSt w ga gr g9 k e o d (W.drewN n) := ⟨h.rt, h.rr, h.dd, below_drewN h.bl n⟩
theorem PlSt.only {w : World} {ga gr g9 g : Nat} {k : Bool} {e o : Int} {d : DoR} {W W' : World} (h : PlSt w ga gr g9 k e o d W) (hg : W.grownBy W' (some g)) (h1 : ga ≠ g) (h2 : gr ≠ g) (h3 : g9 ≠ g) (h4 : w.heap.size ≤ g) : PlSt w ga gr g9 k e o d W' :=
  ⟨Blk.grown h.rt hg (by simpa using h1), Blk.grown h.rr hg (by simpa using h2), Blk.grown h.dd hg (by simpa using h3), h.bl.grown hg h.bl.size (fun k e => by injection e with e; omega)⟩
theorem PlSt.size {w : World} {ga gr g9 : Nat} {k : Bool} {e o : Int} {d : DoR} {W : World} (h : PlSt w ga gr g9 k e o d W) : w.heap.size ≤ W.heap.size ∧ ga < W.heap.size ∧ gr < W.heap.size ∧ g9 < W.heap.size := ⟨h.bl.size, h.rt.lt, Blk.lt h.rr, Blk.lt h.dd⟩
theorem PlSt.dcells {w : World} {ga gr g9 : Nat} {k : Bool} {e o : Int} {d : DoR} {W : World} (h : PlSt w ga gr g9 k e o d W) :
    W.cell? ⟨g9, 0, none⟩ = some (.int .u64 d.ep) ∧ W.cell? ⟨g9, 1, none⟩ = some (.int .u8 d.ow) ∧ W.cell? ⟨g9, 2, none⟩ = some (.int .u8 d.fr) ∧ W.cell? ⟨g9, 3, none⟩ = some (.slice d.A d.b.length d.c) :=
  ⟨by rw [Blk.cell h.dd]; rfl, by rw [Blk.cell h.dd]; rfl, by rw [Blk.cell h.dd]; rfl, by rw [Blk.cell h.dd]; rfl⟩
theorem PlSt.rcells {w : World} {ga gr g9 : Nat} {k : Bool} {e o : Int} {d : DoR} {W : World} (h : PlSt w ga gr g9 k e o d W) : W.cell? ⟨gr, 0, none⟩ = some (.int .u64 e) ∧ W.cell? ⟨gr, 1, none⟩ = some (.int .u8 o) :=
  ⟨by rw [Blk.cell h.rr]; rfl, by rw [Blk.cell h.rr]; rfl⟩
theorem two_frozen {w : World} {g : Nat} {t : TypeId} {cs : Array Value} (h : Blk w g t cs) : w.frozen? ⟨g, 0, none⟩ = false ∧ w.frozen? ⟨g, 1, none⟩ = false := ⟨Blk.frozen h 0, Blk.frozen h 1⟩
/-- the reference's state is put in place of the old one -/
theorem plSt_store {w : World} {ga g9 : Nat} {k : Bool} {e0 o0 e o : Int} {d : DoR} {W : World} (hb : Below w.heap.size w W) (h1 : RtSt ga k e o W) (h2 : Blk W (ga + 1) 31 #[.int .u64 e0, .int .u8 o0])
    (h3 : Blk W g9 27 #[.int .u64 d.ep, .int .u8 d.ow, .int .u8 d.fr, .slice d.A d.b.length d.c]) (hg : ga + 1 < g9) (hz : w.heap.size ≤ ga) (ob : Obj) :
    PlSt w ga (ga + 1) g9 k e o d (((W.alloc ob).setCell ⟨ga + 1, 0, none⟩ (.int .u64 e)).setCell ⟨ga + 1, 1, none⟩ (.int .u8 o)) :=
  ⟨((Blk.alloc h1 ob).far (p := ⟨ga + 1, 0, none⟩) (by simp) _).far (p := ⟨ga + 1, 1, none⟩) (by simp) _,
   ((Blk.alloc h2 ob).set_ 0 _).set_ 1 _,
   ((Blk.alloc h3 ob).far (p := ⟨ga + 1, 0, none⟩) (by simp; omega) _).far (p := ⟨ga + 1, 1, none⟩) (by simp; omega) _,
   ((hb.alloc hb.size ob).setCell (p := ⟨ga + 1, 0, none⟩) (by simp; omega) _).setCell (p := ⟨ga + 1, 1, none⟩) (by simp; omega) _⟩
/-- what lies in front of the block that a clear turns -/
theorem PlSt.cleared {w : World} {ga gr g9 : Nat} {k : Bool} {e o : Int} {d : DoR} {W W' : World} {B : Nat} {A : Option Addr} {n c : Nat} {xs : List Int} {t : TypeId} (h : PlSt w ga gr g9 k e o d W) (ho : Own B t .u8 W A n c xs) (hg : W.grownBy W' (ablk A)) (h1 : ga < B) (h2 : gr < B) (h3 : g9 < B) (h4 : w.heap.size ≤ B) : PlSt w ga gr g9 k e o d W' := by
  rcases A with _ | ad
  · exact h.below (below_of_none hg)
  · have := (ho.block ad rfl).1
    exact h.only (g := ad.block) hg (by omega) (by omega) (by omega) (by omega)
theorem blk_cleared {W W' : World} {B g : Nat} {A : Option Addr} {n c : Nat} {xs : List Int} {t t' : TypeId} {cs : Array Value} (h : Blk W g t' cs) (ho : Own B t .u8 W A n c xs) (hg : W.grownBy W' (ablk A)) (hne : ∀ ad, A = some ad → ad.block ≠ g) : Blk W' g t' cs :=
  h.grown hg (by
    intro e
    rcases A with _ | ad
    · cases e
    · injection e with e
      exact hne ad rfl e.symm)
/-- bytes that lie elsewhere than what a clear turns -/
theorem rd_cleared {W W' : World} {B : Nat} {A A' : Option Addr} {xs : List Int} (h : Rd B .u8 W A' xs) (hg : W.grownBy W' (ablk A)) (hz : B ≤ W.heap.size) (hne : ∀ ad ad', A = some ad → A' = some ad' → ad'.block ≠ ad.block) : Rd W'.heap.size .u8 W' A' xs := by
  rcases A with _ | ad
  · exact (h.below (below_of_none hg) hz).mono (Nat.le_trans hz (below_of_none hg).size)
  · exact (h.far hg hz (fun ad' e => hne ad ad' rfl e)).mono (Nat.le_trans hz hg.size)
theorem conv_n {P : Program} {t e : TypeId} {bytes B : Nat} {w : World} {A : Option Addr} {xs : List Int} (E : ElT P t e .u8 bytes) {s : TypeId} (hs : P.underlying s = some .string) (hr : Rd B .u8 w A xs) (n c : Nat) (hn : n = xs.length) :
    (convert t s (.slice A n c)).run P w = .ok (.string (strOfNums xs)) w := by subst hn; exact conv_rd E hs hr c
theorem PlSt.drew {w : World} {ga gr g9 : Nat} {k : Bool} {e o : Int} {d : DoR} {W : World} (h : PlSt w ga gr g9 k e o d W) : PlSt w ga gr g9 k e o d W.drew := ⟨h.rt, h.rr, h.dd, h.bl.drew⟩
theorem dg_facts {w : World} {g : Nat} {t : TypeId} {c0 c1 c2 : Value} (h : Blk w g t #[c0, c1, c2]) : w.cell? ⟨g, 0, none⟩ = some c0 ∧ w.cell? ⟨g, 1, none⟩ = some c1 ∧ w.cell? ⟨g, 2, none⟩ = some c2 :=
  ⟨by rw [Blk.cell h]; rfl, by rw [Blk.cell h]; rfl, by rw [Blk.cell h]; rfl⟩
theorem known_same {k : Bool} {o : Int} (hk : k = decide (0 < o)) (ho : o = 0 ∨ o = 1 ∨ o = 2) : (k && procB o) = (o != 0) ∧ k = (o != 0) := by
  subst hk
  rcases ho with rfl | rfl | rfl <;> exact ⟨rfl, rfl⟩
theorem after_same {k : Bool} {e o ep ow : Int} (hk : k = decide (0 < o)) (ho : o = 0 ∨ o = 1 ∨ o = 2) :
    (if lrnB k e ep ow then true else k) = decide (0 < (if lrnB k e ep ow then ow else o)) ∧ ((if lrnB k e ep ow then ow else o) = 0 ∨ (if lrnB k e ep ow then ow else o) = 1 ∨ (if lrnB k e ep ow then ow else o) = 2) := by
  rcases hx : lrnB k e ep ow with _ | _
  · simp only [Bool.false_eq_true, if_false]; exact ⟨hk, ho⟩
  · simp only [if_true]
    have hp : procB ow = true := by
      unfold lrnB at hx
      rw [Bool.and_eq_true] at hx
      exact hx.1
    unfold procB at hp
    simp at hp
    rcases hp with h | h <;> subst h
    · exact ⟨rfl, .inr (.inl rfl)⟩
    · exact ⟨rfl, .inr (.inr rfl)⟩
end Go.Proofs.Ytlefnddhmpgijaa
