/- Layer 21: the sides of the law, as the closure feeds them. Conditions: as each theorem states them. -/
import Derived.Test.YthknncdhjicklaaH25
namespace Go.Proofs.Ythknncdhjicklaa
open Go.RowKit
theorem neq_same {X : List Int} (hX : X.length = 32) (hb : Byt X) (w : World) : (binOp .neq 22 (.agg (cellsL .u8 X)) (.agg (cellsL .u8 X))).run Try.prog w = .ok (.bool false) w := by
  have h := eql_bytes (P := Try.prog) Try.underlying22 Try.underlying5 elC.size hb hb hX.symm hX.symm w
  simp [binOp] at h ⊢
  cases hq : (Op.equal 22 (.agg (cellsL .u8 X)) (.agg (cellsL .u8 X))).run Try.prog w with
  | ok b u => rw [hq] at h; simp at h ⊢; obtain ⟨h1, h2⟩ := h; subst h1 h2; exact ⟨rfl, rfl⟩
  | _ => rw [hq] at h; simp at h
theorem FedPost.to {g : Nat} {w' : World} {e : Ending} {P Y M : List Int} {L : List (Int × List Int)} {p1 p2 : PS} (h : FedPost g w' e (P ++ Y = M) L p1 p2) (hl : L.length ≤ 100) :
    (P ++ Y = M ∧ ∃ v l B, e = .returned (.tuple #[v, .int .i64 0]) ∧ SdR B w' v l ∧ l.map SX.e = L ∧ l.length ≤ 100 ∧ ShM g w' p1) ∨ (P ++ Y ≠ M ∧ e = .returned (.tuple #[.slice none 0 0, .int .i64 0]) ∧ ShM g w' p2) := by
  rcases h with ⟨h, v, l, B, h1, h2, h3, h4⟩ | h
  · exact .inl ⟨h, v, l, B, h1, h2, h3, by have q := congrArg List.length h3; rw [List.length_map] at q; omega, h4⟩
  · exact .inr h
theorem Fed.of {g : Nat} {L : List SX} {S : Nat → List (Int × List Int)} (F : Nat → List Int → PS) (hs : ∀ i P Y A n c w, i < L.length → ShM g w (F i P) → (∃ j, P ++ Y = (L.getD i SX.zero).bs.take j) → Rd w.heap.size .u8 w A Y → Y.length = n →
    Calls Try.prog 7 #[.pointer (some ⟨g, 0, none⟩), .int .u8 (L.getD i SX.zero).sp, .slice A n c] w fun e w' => w.grownBy w' (some g) ∧ FedPost g w' e (P ++ Y = (L.getD i SX.zero).bs) (S i) (F (i + 1) []) (F i (P ++ Y))) (hl : ∀ i, (S i).length ≤ 100) : Fed g L S (fun i P w => ShM g w (F i P)) where
  blk := fun i P w h => h.blk
  fr := fun i P w w' h q => by
    rcases q with q | ⟨b, t, cs, q1, q2, q3, q4⟩
    · exact h.below q
    · obtain ⟨_, k⟩ := h.blk
      exact h.grown q1 q2 (Blk.ne_ q2 k q3) q4
  step := fun i P Y A n c w hi h _ hp hr hn _ => by
    refine Calls.mono (hs i P Y A n c w hi h hp hr hn) ?_
    rintro e w' ⟨h1, h2⟩
    exact ⟨h1, h2.to (hl i)⟩
section
variable {psk cr sr cp sp : List Int}
def fS (psk cr sr cp sp : List Int) (i : Nat) (P : List Int) : PS := if i = 0 then { PS.new true psk sr sp with i0 := P } else pS1 psk cr sr cp sp
def fC (psk cr sr cp sp : List Int) (i : Nat) (P : List Int) : PS := if i = 0 then { pC1 psk cr cp with i0 := P } else if i = 1 then { pC2 psk cr sr cp with i1 := P } else pC3 psk cr sr cp sp
def fL (psk cr sr cp sp : List Int) (i : Nat) (P : List Int) : PS := if i = 0 then { pS1 psk cr sr cp sp with i1 := P } else { pS1 psk cr sr cp sp with st := 100 }
def sS (psk cr sr cp sp : List Int) (_ : Nat) : List (Int × List Int) := [(0, mAns sr), (1, mFin psk cr sr cp sp)]
def sC (psk cr sr cp sp : List Int) (i : Nat) : List (Int × List Int) := if i = 0 then [] else [(1, mLas psk cr sr cp sp)]
theorem fed_S (K : Key psk cr sr cp sp) (g : Nat) (A : Option Addr) (c : Nat) : Fed g [⟨0, A, c, mHel cr cp⟩] (sS psk cr sr cp sp) (fun i P w => ShM g w (fS psk cr sr cp sp i P)) := by
  refine Fed.of _ (fun i P Y A n c w hi h hp hr hn => ?_) (fun i => by simp [sS])
  have hi0 : i = 0 := by simpa using hi
  subst hi0
  exact key_h K g P Y A n c w h hr hn hp
theorem fed_C (K : Key psk cr sr cp sp) (g : Nat) (A0 A1 : Option Addr) (c0 c1 : Nat) : Fed g [⟨0, A0, c0, mAns sr⟩, ⟨1, A1, c1, mFin psk cr sr cp sp⟩] (sC psk cr sr cp sp) (fun i P w => ShM g w (fC psk cr sr cp sp i P)) := by
  refine Fed.of _ (fun i P Y A n c w hi h hp hr hn => ?_) (fun i => by unfold sC; split <;> simp)
  have hi2 : i = 0 ∨ i = 1 := by simp at hi; omega
  rcases hi2 with rfl | rfl
  · exact key_a K g P Y A n c w h hr hn hp
  · exact key_f K g P Y A n c w h hr hn hp
theorem fed_L (K : Key psk cr sr cp sp) (g : Nat) (A : Option Addr) (c : Nat) : Fed g [⟨1, A, c, mLas psk cr sr cp sp⟩] (fun _ => []) (fun i P w => ShM g w (fL psk cr sr cp sp i P)) := by
  refine Fed.of _ (fun i P Y A n c w hi h hp hr hn => ?_) (fun i => by simp)
  have hi0 : i = 0 := by simpa using hi
  subst hi0
  exact key_c K g P Y A n c w h hr hn hp
end
/-- what the law keeps while it goes: its boxes -/
structure LN (b : Nat) (psk cr sr : List Int) (vc : Value) (w0 w : World) : Prop where
  a0 : Arr w b 22 .u8 psk
  a1 : Arr w (b + 1) 22 .u8 cr
  a2 : Arr w (b + 2) 22 .u8 sr
  kc : Blk w (b + 3) 23 #[vc]
  bel : Below b w0 w
section
variable {b : Nat} {psk cr sr : List Int} {vc : Value} {w0 w w' : World}
theorem LN.lt (h : LN b psk cr sr vc w0 w) : b + 3 < w.heap.size := h.kc.lt
theorem LN.below (h : LN b psk cr sr vc w0 w) (hb : Below w.heap.size w w') : LN b psk cr sr vc w0 w' := ⟨h.a0.belowAll hb, h.a1.belowAll hb, h.a2.belowAll hb, Blk.below h.kc hb h.kc.lt, h.bel.trans (hb.mono (by have := h.lt; omega))⟩
theorem LN.grown (h : LN b psk cr sr vc w0 w) {g : Nat} (hg : w.grownBy w' (some g)) (hb : b + 3 < g) : LN b psk cr sr vc w0 w' := ⟨grown_blk h.a0 hg (by omega), grown_blk h.a1 hg (by omega), grown_blk h.a2 hg (by omega), grown_blk h.kc hg (by omega), h.bel.trans (below_of_only hg (by omega) (by have := h.lt; omega))⟩
theorem LN.two (h : LN b psk cr sr vc w0 w) {g gn : Nat} (hg : Two g gn w w') (h1 : b + 3 < g) (h2 : b + 3 < gn) : LN b psk cr sr vc w0 w' := ⟨hg.blk h.a0 (by omega) (by omega), hg.blk h.a1 (by omega) (by omega), hg.blk h.a2 (by omega) (by omega), hg.blk h.kc (by omega) (by omega), h.bel.trans ⟨hg.os, hg.tape, hg.output, hg.size, fun k hk => hg.block k (by have := h.lt; omega) (by omega) (by omega)⟩⟩
theorem LN.rd (h : LN b psk cr sr vc w0 w) {A : Option Addr} {X : List Int} (hr : Rd w0.heap.size .u8 w0 A X) (hb : b = w0.heap.size) : Rd w.heap.size .u8 w A X := (hr.below h.bel (by omega)).mono (by have := h.bel.size; omega)
end
theorem rd_lt {B : Nat} {w : World} {A : Option Addr} {X : List Int} (hr : Rd B .u8 w A X) (h0 : 0 < X.length) : ∀ ad, A = some ad → ad.block < B := fun ad e => by
  obtain ⟨ad', e', hb, _⟩ := hr 0 h0
  rw [e] at e'
  injection e' with e'
  rw [e']
  exact hb
/-- the boxes, the two sides and the counter -/
structure LM (b gc gs gn : Nat) (psk cr sr : List Int) (vc : Value) (pc ps : PS) (k : Nat) (w0 w : World) : Prop where
  n : LN b psk cr sr vc w0 w
  c : ShM gc w pc
  s : ShM gs w ps
  k : ∃ q : Nat, q ≤ k ∧ Blk w gn 3 #[.int .i64 q]
  hc : b + 3 < gc
  hs : b + 3 < gs
  hn : b + 3 < gn
  ne : gc ≠ gs
section
variable {b gc gs gn k k' : Nat} {psk cr sr cp sp : List Int} {vc : Value} {pc ps p' : PS} {w0 w w' : World}
theorem LM.below (h : LM b gc gs gn psk cr sr vc pc ps k w0 w) (hb : Below w.heap.size w w') : LM b gc gs gn psk cr sr vc pc ps k w0 w' := ⟨h.n.below hb, h.c.below hb, h.s.below hb, by obtain ⟨q, h1, h2⟩ := h.k; exact ⟨q, h1, Blk.below h2 hb h2.lt⟩, h.hc, h.hs, h.hn, h.ne⟩
theorem LM.nc (h : LM b gc gs gn psk cr sr vc pc ps k w0 w) : gc ≠ gn := by
  obtain ⟨q, _, h2⟩ := h.k
  obtain ⟨_, h3⟩ := h.c.blk
  exact Blk.ne_ h3 h2 (by decide)
theorem LM.ns (h : LM b gc gs gn psk cr sr vc pc ps k w0 w) : gs ≠ gn := by
  obtain ⟨q, _, h2⟩ := h.k
  obtain ⟨_, h3⟩ := h.s.blk
  exact Blk.ne_ h3 h2 (by decide)
theorem LM.tc (h : LM b gc gs gn psk cr sr vc pc ps k w0 w) (hg : w.grownBy w' (some gc)) (hp : ShM gc w' p') : LM b gc gs gn psk cr sr vc p' ps k w0 w' := ⟨h.n.grown hg h.hc, hp, h.s.other h.c hg h.ne, by obtain ⟨q, h1, h2⟩ := h.k; exact ⟨q, h1, grown_blk h2 hg h.nc.symm⟩, h.hc, h.hs, h.hn, h.ne⟩
theorem LM.fc (h : LM b gc gs gn psk cr sr vc pc ps k w0 w) (hg : Two gc gn w w') (hp : ShM gc w' p') (hk : ∃ q : Nat, q ≤ k' ∧ Blk w' gn 3 #[.int .i64 q]) : LM b gc gs gn psk cr sr vc p' ps k' w0 w' := ⟨h.n.two hg h.hc h.hn, hp, by obtain ⟨q, h1, h2⟩ := h.k; obtain ⟨_, h3⟩ := h.c.blk; exact hg.sh h.s h3 h2 h.ne (by decide) (by decide), hk, h.hc, h.hs, h.hn, h.ne⟩
theorem LM.fs (h : LM b gc gs gn psk cr sr vc pc ps k w0 w) (hg : Two gs gn w w') (hp : ShM gs w' p') (hk : ∃ q : Nat, q ≤ k' ∧ Blk w' gn 3 #[.int .i64 q]) : LM b gc gs gn psk cr sr vc pc p' k' w0 w' := ⟨h.n.two hg h.hs h.hn, by obtain ⟨q, h1, h2⟩ := h.k; obtain ⟨_, h3⟩ := h.s.blk; exact hg.sh h.c h3 h2 h.ne.symm (by decide) (by decide), hp, hk, h.hc, h.hs, h.hn, h.ne⟩
end
section
variable {b gc gs gn k gl c lc cc Bl : Nat} {psk cr sr cp sp cuts : List Int} {Ac : Option Addr} {pc ps : PS} {w0 w : World}
theorem feed_S (K : Key psk cr sr cp sp) {A : Option Addr} {c' : Nat} (h : LM b gc gs gn psk cr sr (.slice Ac lc cc) pc (PS.new true psk sr sp) k w0 w) (hb : b = w0.heap.size) (hr : Rd w0.heap.size .u8 w0 Ac cuts) (he : cuts.length = lc) (hbt : Byt cuts) (hl : lc ≤ 100) (hk : k ≤ 1000000) (hL : SdR Bl w (.slice (some ⟨gl, 0, none⟩) 1 c) [⟨0, A, c', mHel cr cp⟩]) :
    Calls Try.prog 6 #[.pointer (some ⟨gs, 0, none⟩), .slice (some ⟨gl, 0, none⟩) 1 c, .pointer (some ⟨gn, 0, none⟩), .pointer (some ⟨b + 3, 0, none⟩)] w fun e w' => ∃ v l, e = .returned (.tuple #[v, .bool true]) ∧ SdR w.heap.size w' v l ∧ l.map SX.e = [(0, mAns sr), (1, mFin psk cr sr cp sp)] ∧ LM b gc gs gn psk cr sr (.slice Ac lc cc) pc (pS1 psk cr sr cp sp) (k + 2004) w0 w' := by
  obtain ⟨q, q1, q2⟩ := h.k
  have hl1 := hel_len (cp := cp) K.lcr
  have hcp := K.lcp
  have := h.hs
  have := h.hn
  refine Calls.mono (feedc_any gs gn (b + 3) gl Bl 1 c lc cc q Ac cuts _ _ _ w (fed_S K gs A c') h.s rfl (by omega) hL (by intro x hx; simp only [List.mem_cons, List.not_mem_nil, or_false] at hx; subst hx; show 0 < (mHel cr cp).length ∧ (mHel cr cp).length ≤ 2004; omega) q2 h.n.kc (h.n.rd hr hb) (fun h0 ad e => by have := rd_lt hr h0 ad e; omega) he hbt hl (by omega)) ?_
  rintro e w' ⟨v, l, h1, h2, h3, h4, h5, q', h6, h7⟩
  exact ⟨v, l, h1, h2, h3, h.fs h5 h4 ⟨q', by omega, h6⟩⟩
theorem feed_C (K : Key psk cr sr cp sp) {A0 A1 : Option Addr} {c0 c1 : Nat} (h : LM b gc gs gn psk cr sr (.slice Ac lc cc) (pC1 psk cr cp) ps k w0 w) (hb : b = w0.heap.size) (hr : Rd w0.heap.size .u8 w0 Ac cuts) (he : cuts.length = lc) (hbt : Byt cuts) (hl : lc ≤ 100) (hk : k ≤ 1000000) (hL : SdR Bl w (.slice (some ⟨gl, 0, none⟩) 2 c) [⟨0, A0, c0, mAns sr⟩, ⟨1, A1, c1, mFin psk cr sr cp sp⟩]) :
    Calls Try.prog 6 #[.pointer (some ⟨gc, 0, none⟩), .slice (some ⟨gl, 0, none⟩) 2 c, .pointer (some ⟨gn, 0, none⟩), .pointer (some ⟨b + 3, 0, none⟩)] w fun e w' => ∃ v l, e = .returned (.tuple #[v, .bool true]) ∧ SdR w.heap.size w' v l ∧ l.map SX.e = [(1, mLas psk cr sr cp sp)] ∧ LM b gc gs gn psk cr sr (.slice Ac lc cc) (pC3 psk cr sr cp sp) ps (k + 4008) w0 w' := by
  obtain ⟨q, q1, q2⟩ := h.k
  have hl1 := ans_len K.lsr
  have hl2 := fin_len (psk := psk) (cr := cr) (sr := sr) (cp := cp) (sp := sp)
  have hsp := K.lsp
  have := h.hc
  have := h.hn
  refine Calls.mono (feedc_any gc gn (b + 3) gl Bl 2 c lc cc q Ac cuts _ _ _ w (fed_C K gc A0 A1 c0 c1) h.c rfl (by omega) hL (by intro x hx; simp only [List.mem_cons, List.not_mem_nil, or_false] at hx; rcases hx with rfl | rfl; (show 0 < (mAns sr).length ∧ (mAns sr).length ≤ 2004; omega); (show 0 < (mFin psk cr sr cp sp).length ∧ (mFin psk cr sr cp sp).length ≤ 2004; omega)) q2 h.n.kc (h.n.rd hr hb) (fun h0 ad e => by have := rd_lt hr h0 ad e; omega) he hbt hl (by omega)) ?_
  rintro e w' ⟨v, l, h1, h2, h3, h4, h5, q', h6, h7⟩
  exact ⟨v, l, h1, h2, h3, h.fc h5 h4 ⟨q', by omega, h6⟩⟩
theorem feed_L (K : Key psk cr sr cp sp) {A : Option Addr} {c' : Nat} (h : LM b gc gs gn psk cr sr (.slice Ac lc cc) pc (pS1 psk cr sr cp sp) k w0 w) (hb : b = w0.heap.size) (hr : Rd w0.heap.size .u8 w0 Ac cuts) (he : cuts.length = lc) (hbt : Byt cuts) (hl : lc ≤ 100) (hk : k ≤ 1000000) (hL : SdR Bl w (.slice (some ⟨gl, 0, none⟩) 1 c) [⟨1, A, c', mLas psk cr sr cp sp⟩]) :
    Calls Try.prog 6 #[.pointer (some ⟨gs, 0, none⟩), .slice (some ⟨gl, 0, none⟩) 1 c, .pointer (some ⟨gn, 0, none⟩), .pointer (some ⟨b + 3, 0, none⟩)] w fun e w' => ∃ v l, e = .returned (.tuple #[v, .bool true]) ∧ SdR w.heap.size w' v l ∧ l.map SX.e = [] ∧ LM b gc gs gn psk cr sr (.slice Ac lc cc) pc ({ pS1 psk cr sr cp sp with st := 100 }) (k + 2004) w0 w' := by
  obtain ⟨q, q1, q2⟩ := h.k
  have hl1 := las_len (psk := psk) (cr := cr) (sr := sr) (cp := cp) (sp := sp)
  have := h.hs
  have := h.hn
  refine Calls.mono (feedc_any gs gn (b + 3) gl Bl 1 c lc cc q Ac cuts _ _ _ w (fed_L K gs A c') h.s rfl (by omega) hL (by intro x hx; simp only [List.mem_cons, List.not_mem_nil, or_false] at hx; subst hx; show 0 < (mLas psk cr sr cp sp).length ∧ (mLas psk cr sr cp sp).length ≤ 2004; omega) q2 h.n.kc (h.n.rd hr hb) (fun h0 ad e => by have := rd_lt hr h0 ad e; omega) he hbt hl (by omega)) ?_
  rintro e w' ⟨v, l, h1, h2, h3, h4, h5, q', h6, h7⟩
  exact ⟨v, l, h1, h2, h3, h.fs h5 h4 ⟨q', by omega, h6⟩⟩
end
end Go.Proofs.Ythknncdhjicklaa
