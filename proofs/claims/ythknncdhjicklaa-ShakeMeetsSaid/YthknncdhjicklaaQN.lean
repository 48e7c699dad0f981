/- Regions that draw their order, as in words QM; behind each operation that is carried out a smaller class of worlds may be chosen. Conditions: as each theorem states them. -/
import Derived.Test.YthknncdhjicklaaQM
namespace Go.Proofs.Ythknncdhjicklaa
open Go.RowKit
section
variable {P : Program} {ops : Array Oper} {md : Region.Mode} {Q : Exit → Act → World → Prop}
def wpAnyN (P : Program) (md : Region.Mode) (ops : Array Oper) (Q : Exit → Act → World → Prop) : Nat → (World → Prop) → Array Bool → Act → World → Prop
  | 0, _, listed, a, w => Region.ready md ops listed = [] ∧ Q .normal a w
  | f + 1, S, listed, a, w => (Region.ready md ops listed = [] → Q .normal a w) ∧
    ∀ i ∈ Region.ready md ops listed, wpOp P ops Q i (fun a' w' => ∃ S' : World → Prop, (∀ v, S' v → S v) ∧ S' w' ∧ wpAnyN P md ops Q f S' (listed.setIfInBounds i true) a' w') a w
theorem wpAny_of_N : ∀ (f : Nat) (S : World → Prop) (listed : Array Bool) (a : Act) (w : World), wpAnyN P md ops Q f S listed a w → wpAny P md ops Q f listed a w
  | 0, _, _, _, _, h => h
  | f + 1, _, _, _, _, h => ⟨h.1, fun i hi => wpOp_mono (fun a' w' ⟨S', _, _, h'⟩ => wpAny_of_N f S' _ a' w' h') (h.2 i hi)⟩
theorem yieldsIf_sub {S S' : World → Prop} {o : Oper} {v : Value} {a : Act} (hy : YieldsIf P ops S o v a) (h : ∀ w, S' w → S w) : YieldsIf P ops S' o v a := hy.imp (fun ⟨hw, hv⟩ => ⟨hw, fun w hS => hv w (h w hS)⟩) id
theorem anyN_first {i : Nat} {oi : Oper} {v : Value} (hi : ops[i]? = some oi) (hsel : ∀ (j : Nat) (o : Oper) cs b, ops[j]? = some o → o.op ≠ .select cs b) (hQ : ∀ c a w, Q (.panic c) (a.put oi.dst v) w → Q (.panic c) a w) :
    ∀ (f : Nat) (S : World → Prop) (listed : Array Bool) (a : Act) (w : World),
      (∀ j oj, ops[j]? = some oj → j ≠ i → listed.getD j true = false → (∀ e ∈ oj.after, Region.binds md e = true → e.on ≠ i) → oi.apart ops oj = true) →
      i ∈ Region.ready md ops listed → YieldsIf P ops S oi v a → S w → wpAnyN P md ops Q f S (listed.setIfInBounds i true) (a.put oi.dst v) w → wpAnyN P md ops Q (f + 1) S listed a w := by
  intro f
  induction f with
  | zero =>
    intro S listed a w _ hr hy hS H
    refine ⟨fun h => (by rw [h] at hr; cases hr), fun j hj => ?_⟩
    by_cases hji : j = i
    · subst hji; exact hy.wpOp hi hS ⟨S, fun _ h => h, hS, H⟩
    · have := ready_mono hj hji
      rw [H.1] at this
      cases this
  | succ f ih =>
    intro S listed a w hfree hr hy hS H
    refine ⟨fun h => (by rw [h] at hr; cases hr), fun j hj => ?_⟩
    by_cases hji : j = i
    · subst hji; exact hy.wpOp hi hS ⟨S, fun _ h => h, hS, H⟩
    · have hun := (mem_ready.1 hr).1
      obtain ⟨hjun, oj, hoj, hall⟩ := mem_ready.1 hj
      have hnot : ∀ e ∈ oj.after, Region.binds md e = true → e.on ≠ i := fun e he hb heq => by
        have h1 := hall e he hb
        rw [heq, getD_both hun] at h1
        cases h1
      have h2 := wpOp_putIf hoj (hfree j oj hoj hji hjun hnot) (fun cs b => hsel i oi cs b hi) (fun cs b => hsel j oj cs b hoj) hQ hy (H.2 j (ready_mono hj hji))
      have hfree' : ∀ k ok, ops[k]? = some ok → k ≠ i → (listed.setIfInBounds j true).getD k true = false → (∀ e ∈ ok.after, Region.binds md e = true → e.on ≠ i) → oi.apart ops ok = true := fun k ok hk hki hku hno => by
        refine hfree k ok hk hki ?_ hno
        by_cases hjk : j = k
        · subst hjk; exact hjun
        · rw [getD_set_ne true hjk] at hku; exact hku
      refine wpOp_mono (fun a' w' h3 => ?_) h2
      obtain ⟨hy', S', hs, hS', H'⟩ := h3
      refine ⟨S', hs, hS', ih S' (listed.setIfInBounds j true) a' w' hfree' (ready_mono hr (Ne.symm hji)) (yieldsIf_sub hy' hs) hS' ?_⟩
      rw [Array.setIfInBounds_comm _ _ hji]
      exact H'
theorem anyN_floats {l : List Oper} {f : Nat} {w : World} {S : World → Prop} {Lq : Act → Prop} (hsel : Region.noSelect l.toArray = true) (hQ : ∀ c a w d v, Q (.panic c) (a.put d v) w → Q (.panic c) a w) (hS : S w) :
    ∀ (F : List Nat) (listed : Array Bool) (a : Act), floatsB md l.toArray F listed = true → wpQuiet P l.toArray S Lq (pickL l F) a →
      (∀ a', Lq a' → wpAnyN P md l.toArray Q f S (listedL F listed) a' w) → wpAnyN P md l.toArray Q (f + F.length) S listed a w
  | [], listed, a, _, h, hk => hk a h
  | i :: r, listed, a, hB, h, hk => by
    simp only [floatsB, Bool.and_eq_true] at hB
    obtain ⟨⟨⟨hr, hf⟩, hm⟩, hB'⟩ := hB
    unfold mildAt at hm
    cases ho : l.toArray[i]? with
    | none => rw [ho] at hm; cases hm
    | some o =>
      rw [ho] at hm
      have hl : l[i]? = some o := by simpa using ho
      have hst : qOp P l.toArray S i (wpQuiet P l.toArray S Lq (pickL l r)) a := by
        unfold qOp
        simp only [ho]
        have : pickL l (i :: r) = o :: pickL l r := by simp [pickL, hl]
        rw [this] at h
        exact h
      obtain ⟨v, hy, hK⟩ := yieldsIn_of_qOp ho hst
      rw [List.length_cons, ← Nat.add_assoc]
      exact anyN_first ho (Region.noSelect_spec hsel) (fun c a w => hQ c a w o.dst v) _ S listed a w (Region.free_spec ho hf) (by simpa using hr) (yields_of_quiet hm hy) hS (anyN_floats hsel hQ hS r _ _ hB' hK hk)
/-- behind an operation that is carried out: a class at hand, no greater than the one before, and what follows -/
def MixN (next : (World → Prop) → Act → World → Prop) (S : World → Prop) (Q : Exit → Act → World → Prop) : Exit → Act → World → Prop
  | .normal, a, w => ∃ S' : World → Prop, (∀ v, S' v → S v) ∧ S' w ∧ next S' a w
  | e, a, w => Q e a w
theorem letsOut_mixN {next : (World → Prop) → Act → World → Prop} {S : World → Prop} (h : LetsOut (MixN next S Q)) : LetsOut Q := h
theorem wp_mixN {o : Oper} {a : Act} {w : World} {K K' : Act → World → Prop} {next : (World → Prop) → Act → World → Prop} {S : World → Prop} (hK : ∀ a w, K a w → K' a w) (h : o.wp P a w K (MixN next S Q)) : o.wp P a w K' Q := by
  unfold Oper.wp at *
  generalize (execOp a.eval o).run P w = r at *
  cases r with
  | ok n w' =>
    cases n <;> simp only [Oper.upon] at h ⊢ <;>
      first
        | exact hK _ _ h
        | exact Calls.mono h (fun e w'' he => by cases e <;> first | exact hK _ _ he | exact he)
        | exact Rows.mono h (fun _ _ he => hK _ _ he)
  | halt x w' => cases x <;> simp only [Oper.upon] at h ⊢ <;> exact h
def mixN (P : Program) (ops : Array Oper) (Q : Exit → Act → World → Prop) (last : List Oper) : List (List Oper × List Oper) → (World → Prop) → Act → World → Prop
  | [], S, a, w => wpQuiet P ops S (fun a' => Q .normal a' w) last a
  | (F, G) :: r, S, a, w => wpQuiet P ops S (fun a' => wpList P ops (MixN (mixN P ops Q last r) S Q) G a' w) F a
theorem anyN_mix {l : List Oper} (hsel : Region.noSelect l.toArray = true) (hQ : ∀ c a w d v, Q (.panic c) (a.put d v) w → Q (.panic c) a w) (last : List Nat) :
    ∀ (σ : List (List Nat × Nat)) (S : World → Prop) (listed : Array Bool) (a : Act) (w : World), S w → mixB md l.toArray last σ listed = true →
      mixN P l.toArray Q (pickL l last) (σ.map fun s => (pickL l s.1, pickL l [s.2])) S a w → wpAnyN P md l.toArray Q (fuelS last σ) S listed a w
  | [], S, listed, a, w, hS, hB, h => by
    simp only [mixB, Bool.and_eq_true, List.isEmpty_iff] at hB
    have := anyN_floats (f := 0) hsel hQ hS last listed a hB.1 h (fun a' h' => ⟨hB.2, h'⟩)
    rwa [Nat.zero_add] at this
  | (F, k) :: r, S, listed, a, w, hS, hB, h => by
    simp only [mixB, Bool.and_eq_true, decide_eq_true_eq] at hB
    obtain ⟨⟨hF, hk⟩, hB'⟩ := hB
    refine anyN_floats (f := fuelS last r + 1) hsel hQ hS F listed a hF h (fun a' h' => ?_)
    refine ⟨fun h0 => absurd (hk ▸ h0) (by simp), fun i hi => ?_⟩
    rw [hk, List.mem_singleton] at hi
    subst hi
    unfold wpOp
    cases ho : l.toArray[i]? with
    | none =>
      have : i ∈ Region.ready md l.toArray (listedL F listed) := by rw [hk]; simp
      obtain ⟨_, oi, hoi, _⟩ := mem_ready.1 this
      rw [ho] at hoi; cases hoi
    | some o =>
      have hl : l[i]? = some o := by simpa using ho
      have : pickL l [i] = [o] := by simp [pickL, hl]
      rw [this] at h'
      simp only [wpList] at h'
      simp only
      have go : ∀ a2 w2, MixN (mixN P l.toArray Q (pickL l last) (r.map fun s => (pickL l s.1, pickL l [s.2]))) S Q .normal a2 w2 →
          ∃ S' : World → Prop, (∀ v, S' v → S v) ∧ S' w2 ∧ wpAnyN P md l.toArray Q (fuelS last r) S' ((listedL F listed).setIfInBounds i true) a2 w2 := fun a2 w2 h2 => by
        obtain ⟨S', hs, hS', hn⟩ := h2
        exact ⟨S', hs, hS', anyN_mix hsel hQ last r S' _ _ _ hS' hB' hn⟩
      split at h'
      · rename_i hw
        rw [if_pos hw]
        rcases h' with h' | ⟨h1, h2⟩
        · exact .inl (wp_mixN go h')
        · exact .inr ⟨h1, letsOut_mixN h2⟩
      · rename_i hw
        rw [if_neg hw]
        exact go _ _ h'
/-- THE LAW, at the class 'as w was below block N' -/
theorem wp_region_mixN {id : Nat} {a : Act} {w : World} {l : List Oper} (N : Nat) (σ : List (List Nat × Nat)) (last : List Nat) (hm : P.follows .mixedOrders = true) (hsel : Region.noSelect l.toArray = true)
    (hn : fuelS last σ = l.length) (hB : mixB .any l.toArray last σ (Array.replicate l.length false) = true)
    (h : mixN P l.toArray (NoPanic Q) (pickL l last) (σ.map fun s => (pickL l s.1, pickL l [s.2])) (fun w' => ∃ r : BW N w, w' = r.world) a w.drew) : (Code.region id l.toArray true).wp P Q a w := by
  refine wp_region_noPanic (wp_region_any hm (wpAny_of_N _ (fun w' => ∃ r : BW N w, w' = r.world) _ _ _ ?_))
  have := anyN_mix hsel (fun _ _ _ _ _ h => h) last σ _ (Array.replicate l.length false) a _ ⟨BW.mk' (Below.drew (Below.refl _ _)), rfl⟩ hB h
  rw [hn] at this
  simpa using this
theorem MixN.narrow {N : Nat} {w0 w1 : World} {next : (World → Prop) → Act → World → Prop} {a : Act} (h : Below N w0 w1) (hN : N ≤ w1.heap.size) (k : next (fun w' => ∃ r : BW w1.heap.size w1, w' = r.world) a w1) : MixN next (fun w' => ∃ r : BW N w0, w' = r.world) Q .normal a w1 :=
  ⟨_, fun _ ⟨r, e⟩ => ⟨BW.mk' (h.trans (r.below.mono hN)), e⟩, ⟨BW.mk' (Below.refl _ _), rfl⟩, k⟩
theorem mixN_cons {last F G : List Oper} {r : List (List Oper × List Oper)} {S : World → Prop} {a : Act} {w : World} (h : wpQuiet P ops S (fun a' => wpList P ops (MixN (mixN P ops Q last r) S Q) G a' w) F a) : mixN P ops Q last ((F, G) :: r) S a w := h
theorem mixN_nil {last : List Oper} {S : World → Prop} {a : Act} {w : World} (h : wpQuiet P ops S (fun a' => Q .normal a' w) last a) : mixN P ops Q last [] S a w := h
end
end Go.Proofs.Ythknncdhjicklaa
