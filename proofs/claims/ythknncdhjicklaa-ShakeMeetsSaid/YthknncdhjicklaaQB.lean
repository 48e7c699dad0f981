/- Regions that draw their order, as in words QM; at some points two operations may come next: a tree of orders. Conditions: as each theorem states them. -/
import Derived.Test.YthknncdhjicklaaQM
namespace Go.Proofs.Ythknncdhjicklaa
open Go.RowKit
inductive Sig where
  | fin (F : List Nat)
  | one (F : List Nat) (k : Nat) (t : Sig)
  | two (F : List Nat) (k : Nat) (t : Sig) (k' : Nat) (t' : Sig)
section
variable {P : Program} {ops : Array Oper} {md : Region.Mode} {Q : Exit → Act → World → Prop} {S : World → Prop}
def fuelT : Sig → Nat
  | .fin F => F.length
  | .one F _ t => fuelT t + 1 + F.length
  | .two F _ t _ _ => fuelT t + 1 + F.length
def sigB (md : Region.Mode) (ops : Array Oper) : Sig → Array Bool → Bool
  | .fin F, L => floatsB md ops F L && (Region.ready md ops (listedL F L)).isEmpty
  | .one F k t, L => floatsB md ops F L && decide (Region.ready md ops (listedL F L) = [k]) && sigB md ops t ((listedL F L).setIfInBounds k true)
  | .two F k t k' t', L => floatsB md ops F L && decide (Region.ready md ops (listedL F L) = [k, k']) && decide (fuelT t' = fuelT t) && sigB md ops t ((listedL F L).setIfInBounds k true) && sigB md ops t' ((listedL F L).setIfInBounds k' true)
def mixT (P : Program) (l : List Oper) (S : World → Prop) (Q : Exit → Act → World → Prop) : Sig → Act → World → Prop
  | .fin F, a, w => wpQuiet P l.toArray S (fun a' => Q .normal a' w) (pickL l F) a
  | .one F k t, a, w => wpQuiet P l.toArray S (fun a' => wpList P l.toArray (MixQ S (mixT P l S Q t) Q) (pickL l [k]) a' w) (pickL l F) a
  | .two F k t k' t', a, w => wpQuiet P l.toArray S (fun a' => wpList P l.toArray (MixQ S (mixT P l S Q t) Q) (pickL l [k]) a' w ∧ wpList P l.toArray (MixQ S (mixT P l S Q t') Q) (pickL l [k']) a' w) (pickL l F) a
theorem sig_step {l : List Oper} {i f : Nat} {listed : Array Bool} {a : Act} {w : World} {next : Act → World → Prop} (hr : i ∈ Region.ready md l.toArray listed)
    (h : wpList P l.toArray (MixQ S next Q) (pickL l [i]) a w) (hn : ∀ a2 w2, S w2 → next a2 w2 → wpAnyH P md l.toArray Q S f (listed.setIfInBounds i true) a2 w2) :
    wpOp P l.toArray Q i (fun a' w' => S w' ∧ wpAnyH P md l.toArray Q S f (listed.setIfInBounds i true) a' w') a w := by
  unfold wpOp
  cases ho : l.toArray[i]? with
  | none =>
    obtain ⟨_, oi, hoi, _⟩ := mem_ready.1 hr
    rw [ho] at hoi; cases hoi
  | some o =>
    have hl : l[i]? = some o := by simpa using ho
    have : pickL l [i] = [o] := by simp [pickL, hl]
    rw [this] at h
    simp only [wpList] at h
    simp only
    have go : ∀ a2 w2, MixQ S next Q .normal a2 w2 → S w2 ∧ wpAnyH P md l.toArray Q S f (listed.setIfInBounds i true) a2 w2 := fun a2 w2 h2 => ⟨h2.1, hn a2 w2 h2.1 h2.2⟩
    split at h
    · rename_i hw
      rw [if_pos hw]
      rcases h with h | ⟨h1, h2⟩
      · exact .inl (wp_mix go h)
      · exact .inr ⟨h1, letsOut_mix h2⟩
    · rename_i hw
      rw [if_neg hw]
      exact go _ _ h
theorem anyH_sig {l : List Oper} (hsel : Region.noSelect l.toArray = true) (hQ : ∀ c a w d v, Q (.panic c) (a.put d v) w → Q (.panic c) a w) :
    ∀ (σ : Sig) (listed : Array Bool) (a : Act) (w : World), S w → sigB md l.toArray σ listed = true → mixT P l S Q σ a w → wpAnyH P md l.toArray Q S (fuelT σ) listed a w
  | .fin F, listed, a, w, hS, hB, h => by
    simp only [sigB, Bool.and_eq_true, List.isEmpty_iff] at hB
    have := anyH_floats (f := 0) hsel hQ hS F listed a hB.1 h (fun a' h' => ⟨hB.2, h'⟩)
    rwa [Nat.zero_add] at this
  | .one F k t, listed, a, w, hS, hB, h => by
    simp only [sigB, Bool.and_eq_true, decide_eq_true_eq] at hB
    obtain ⟨⟨hF, hk⟩, hB'⟩ := hB
    refine anyH_floats (f := fuelT t + 1) hsel hQ hS F listed a hF h (fun a' h' => ?_)
    refine wpAnyH_all hk (by simp) (fun i hi => ?_)
    rw [List.mem_singleton] at hi
    subst hi
    exact sig_step (by rw [hk]; simp) h' (fun a2 w2 hs2 hn => anyH_sig hsel hQ t _ _ _ hs2 hB' hn)
  | .two F k t k' t', listed, a, w, hS, hB, h => by
    simp only [sigB, Bool.and_eq_true, decide_eq_true_eq] at hB
    obtain ⟨⟨⟨⟨hF, hk⟩, hf⟩, hB1⟩, hB2⟩ := hB
    refine anyH_floats (f := fuelT t + 1) hsel hQ hS F listed a hF h (fun a' h' => ?_)
    refine wpAnyH_all hk (by simp) (fun i hi => ?_)
    rcases List.mem_cons.1 hi with rfl | hi
    · exact sig_step (by rw [hk]; simp) h'.1 (fun a2 w2 hs2 hn => anyH_sig hsel hQ t _ _ _ hs2 hB1 hn)
    · rw [List.mem_singleton] at hi
      subst hi
      exact sig_step (by rw [hk]; simp) h'.2 (fun a2 w2 hs2 hn => by have := anyH_sig hsel hQ t' _ _ _ hs2 hB2 hn; rwa [hf] at this)
/-- THE LAW, at a class -/
theorem wp_region_sig {id : Nat} {a : Act} {w : World} {l : List Oper} (S : World → Prop) (σ : Sig) (hm : P.follows .mixedOrders = true) (hsel : Region.noSelect l.toArray = true)
    (hn : fuelT σ = l.length) (hB : sigB .any l.toArray σ (Array.replicate l.length false) = true) (hS : S w.drew)
    (h : mixT P l (fun w' => ∃ r : CW S, w' = r.world) (NoPanic Q) σ a w.drew) : (Code.region id l.toArray true).wp P Q a w := by
  refine wp_region_noPanic (wp_region_held (S := fun w' => ∃ r : CW S, w' = r.world) hm ?_)
  have := anyH_sig hsel (fun _ _ _ _ _ h => h) σ (Array.replicate l.length false) a _ ⟨CW.mk' hS, rfl⟩ hB h
  rw [hn] at this
  simpa using this
theorem mixT_fin {l : List Oper} {F : List Nat} {a : Act} {w : World} (h : wpQuiet P l.toArray S (fun a' => Q .normal a' w) (pickL l F) a) : mixT P l S Q (.fin F) a w := h
theorem mixT_one {l : List Oper} {F : List Nat} {k : Nat} {t : Sig} {a : Act} {w : World} (h : wpQuiet P l.toArray S (fun a' => wpList P l.toArray (MixQ S (mixT P l S Q t) Q) (pickL l [k]) a' w) (pickL l F) a) : mixT P l S Q (.one F k t) a w := h
theorem mixT_two {l : List Oper} {F : List Nat} {k k' : Nat} {t t' : Sig} {a : Act} {w : World} (h : wpQuiet P l.toArray S (fun a' => wpList P l.toArray (MixQ S (mixT P l S Q t) Q) (pickL l [k]) a' w ∧ wpList P l.toArray (MixQ S (mixT P l S Q t') Q) (pickL l [k']) a' w) (pickL l F) a) : mixT P l S Q (.two F k t k' t') a w := h
end
end Go.Proofs.Ythknncdhjicklaa
