/- Regions that draw their order, as in words QM; behind each operation that is carried out a smaller class of worlds may be chosen. Conditions: as each theorem states them. -/
import Derived.Test.YthknncdhjicklaaQN
namespace Go.Proofs.Ythknncdhjicklaa
open Go.RowKit
section
variable {P : Program} {ops : Array Oper} {md : Region.Mode} {Q : Exit → Act → World → Prop}
/-- closed downwards: what a listed operation waits for is listed -/
def Shut (md : Region.Mode) (ops : Array Oper) (listed : Array Bool) : Prop := ∀ j oj, ops[j]? = some oj → listed.getD j false = true → ∀ e ∈ oj.after, Region.binds md e = true → listed.getD e.on false = true
theorem Shut.none (n : Nat) : Shut md ops (Array.replicate n false) := fun j oj _ hl => by rw [getD_replicate_false] at hl; cases hl
theorem Shut.set {listed : Array Bool} {j : Nat} (h : Shut md ops listed) (hj : j ∈ Region.ready md ops listed) : Shut md ops (listed.setIfInBounds j true) := fun k ok hk hl e he hb => by
  refine getD_set_true ?_
  by_cases hjk : j = k
  · subst hjk
    obtain ⟨_, oj, hoj, hall⟩ := mem_ready.1 hj
    rw [hk] at hoj
    cases hoj
    exact hall e he hb
  · rw [getD_set_ne false hjk] at hl
    exact h k ok hk hl e he hb
def markL (md : Region.Mode) : List Edge → Array Bool → Array Bool
  | [], S => S
  | e :: r, S => markL md r (if Region.binds md e then S.setIfInBounds e.on true else S)
def reachB (md : Region.Mode) (ops : Array Oper) : Nat → Array Bool → Array Bool
  | 0, S => S
  | m + 1, S => reachB md ops m (if S.getD m false then markL md ((ops[m]?).elim [] (·.after.toList)) S else S)
def endsAll (md : Region.Mode) (ops : Array Oper) (k : Nat) : Bool := (List.range ops.size).all fun x => (reachB md ops ops.size ((Array.replicate ops.size false).setIfInBounds k true)).getD x false
theorem markL_ok {P : Nat → Prop} : ∀ (l : List Edge) (S : Array Bool), (∀ e ∈ l, Region.binds md e = true → P e.on) → (∀ x, S.getD x false = true → P x) → ∀ x, (markL md l S).getD x false = true → P x
  | [], S, _, h => h
  | e :: r, S, he, h => markL_ok r _ (fun e' h' => he e' (List.mem_cons_of_mem _ h')) fun x hx => by
    by_cases hb : Region.binds md e = true
    · rw [if_pos hb] at hx
      by_cases hxe : e.on = x
      · subst hxe; exact he e (List.mem_cons_self ..) hb
      · rw [getD_set_ne false hxe] at hx; exact h x hx
    · rw [if_neg hb] at hx; exact h x hx
theorem reachB_ok {P : Nat → Prop} (hP : ∀ m o, P m → ops[m]? = some o → ∀ e ∈ o.after, Region.binds md e = true → P e.on) : ∀ (m : Nat) (S : Array Bool), (∀ x, S.getD x false = true → P x) → ∀ x, (reachB md ops m S).getD x false = true → P x
  | 0, _, h => h
  | m + 1, S, h => reachB_ok hP m _ fun x hx => by
    by_cases hm : S.getD m false = true
    · rw [if_pos hm] at hx
      cases ho : ops[m]? with
      | none => rw [ho] at hx; exact h x hx
      | some o =>
        rw [ho] at hx
        exact markL_ok _ S (fun e he hb => hP m o (h m hm) ho e (Array.mem_toList_iff.1 he) hb) h x hx
    · rw [if_neg hm] at hx; exact h x hx
theorem endsAll_ok {listed : Array Bool} {k i : Nat} (h : endsAll md ops k = true) (hs : Shut md ops listed) (hk : k ∈ Region.ready md ops listed) (hi : i ∈ Region.ready md ops listed) : i = k := by
  obtain ⟨hun, oi, hoi, _⟩ := mem_ready.1 hi
  have hlt : i < ops.size := (Array.getElem?_eq_some_iff.1 hoi).1
  have h1 := List.all_eq_true.1 h i (List.mem_range.2 hlt)
  have h2 := reachB_ok (md := md) (ops := ops) (P := fun x => x = k ∨ listed.getD x false = true) (fun m o hm ho e he hb => by
    rcases hm with rfl | hm
    · obtain ⟨_, o', ho', hall⟩ := mem_ready.1 hk
      rw [ho] at ho'
      cases ho'
      exact .inr (hall e he hb)
    · exact .inr (hs m o ho hm e he hb)) ops.size ((Array.replicate ops.size false).setIfInBounds k true) (fun x hx => by
    by_cases hxk : k = x
    · exact .inl hxk.symm
    · rw [getD_set_ne false hxk, getD_replicate_false] at hx; cases hx) i h1
  rcases h2 with h2 | h2
  · exact h2
  · rw [getD_both hun] at h2; cases h2
def wpAnyO (P : Program) (md : Region.Mode) (ops : Array Oper) (Q : Exit → Act → World → Prop) : Nat → (World → Prop) → Array Bool → Act → World → Prop
  | 0, _, listed, a, w => Region.ready md ops listed = [] ∧ Q .normal a w
  | f + 1, S, listed, a, w => (Region.ready md ops listed = [] → Q .normal a w) ∧
    ∀ i ∈ Region.ready md ops listed, wpOp P ops Q i (fun a' w' => ∃ S' : World → Prop, (∀ v, S' v → S v) ∧ (endsAll md ops i = true ∨ S' w') ∧ wpAnyO P md ops Q f S' (listed.setIfInBounds i true) a' w') a w
theorem wpAny_of_O : ∀ (f : Nat) (S : World → Prop) (listed : Array Bool) (a : Act) (w : World), wpAnyO P md ops Q f S listed a w → wpAny P md ops Q f listed a w
  | 0, _, _, _, _, h => h
  | f + 1, _, _, _, _, h => ⟨h.1, fun i hi => wpOp_mono (fun a' w' ⟨S', _, _, h'⟩ => wpAny_of_O f S' _ a' w' h') (h.2 i hi)⟩
theorem anyO_first {i : Nat} {oi : Oper} {v : Value} (hi : ops[i]? = some oi) (hsel : ∀ (j : Nat) (o : Oper) cs b, ops[j]? = some o → o.op ≠ .select cs b) (hQ : ∀ c a w, Q (.panic c) (a.put oi.dst v) w → Q (.panic c) a w) :
    ∀ (f : Nat) (S : World → Prop) (listed : Array Bool) (a : Act) (w : World),
      (∀ j oj, ops[j]? = some oj → j ≠ i → listed.getD j true = false → (∀ e ∈ oj.after, Region.binds md e = true → e.on ≠ i) → oi.apart ops oj = true) →
      Shut md ops listed → i ∈ Region.ready md ops listed → YieldsIf P ops S oi v a → S w → wpAnyO P md ops Q f S (listed.setIfInBounds i true) (a.put oi.dst v) w → wpAnyO P md ops Q (f + 1) S listed a w := by
  intro f
  induction f with
  | zero =>
    intro S listed a w _ hsh hr hy hS H
    refine ⟨fun h => (by rw [h] at hr; cases hr), fun j hj => ?_⟩
    by_cases hji : j = i
    · subst hji; exact hy.wpOp hi hS ⟨S, fun _ h => h, .inr hS, H⟩
    · have := ready_mono hj hji
      rw [H.1] at this
      cases this
  | succ f ih =>
    intro S listed a w hfree hsh hr hy hS H
    refine ⟨fun h => (by rw [h] at hr; cases hr), fun j hj => ?_⟩
    by_cases hji : j = i
    · subst hji; exact hy.wpOp hi hS ⟨S, fun _ h => h, .inr hS, H⟩
    · have hun := (mem_ready.1 hr).1
      obtain ⟨hjun, oj, hoj, hall⟩ := mem_ready.1 hj
      have hnot : ∀ e ∈ oj.after, Region.binds md e = true → e.on ≠ i := fun e he hb heq => by
        have h1 := hall e he hb
        rw [heq, getD_both hun] at h1
        cases h1
      have h2 := wpOp_putIf hoj (hfree j oj hoj hji hjun hnot) (fun cs b => hsel i oi cs b hi) (fun cs b => hsel j oj cs b hoj) hQ hy (H.2 j (ready_mono hj hji))
      have hfree' : ∀ k ok, ops[k]? = some ok → k ≠ i → (listed.setIfInBounds j true).getD k true = false → (∀ e ∈ ok.after, Region.binds md e = true → e.on ≠ i) → oi.apart ops ok = true := fun k ok hk hki hku hno => by
        refine hfree k ok hk hki ?_ hno
        by_cases hjk : j = k
        · subst hjk; exact hjun
        · rw [getD_set_ne true hjk] at hku; exact hku
      refine wpOp_mono (fun a' w' h3 => ?_) h2
      obtain ⟨hy', S', hs, hS', H'⟩ := h3
      have hS2 : S' w' := hS'.resolve_left fun h0 => hji (endsAll_ok h0 hsh hj hr).symm
      refine ⟨S', hs, .inr hS2, ih S' (listed.setIfInBounds j true) a' w' hfree' (hsh.set hj) (ready_mono hr (Ne.symm hji)) (yieldsIf_sub hy' hs) hS2 ?_⟩
      rw [Array.setIfInBounds_comm _ _ hji]
      exact H'
theorem anyO_floats {l : List Oper} {f : Nat} {w : World} {S : World → Prop} {Lq : Act → Prop} (hsel : Region.noSelect l.toArray = true) (hQ : ∀ c a w d v, Q (.panic c) (a.put d v) w → Q (.panic c) a w) (hS : S w) :
    ∀ (F : List Nat) (listed : Array Bool) (a : Act), Shut md l.toArray listed → floatsB md l.toArray F listed = true → wpQuiet P l.toArray S Lq (pickL l F) a →
      (∀ a', Lq a' → Shut md l.toArray (listedL F listed) → wpAnyO P md l.toArray Q f S (listedL F listed) a' w) → wpAnyO P md l.toArray Q (f + F.length) S listed a w
  | [], listed, a, hsh, _, h, hk => hk a h hsh
  | i :: r, listed, a, hsh, hB, h, hk => by
    simp only [floatsB, Bool.and_eq_true] at hB
    obtain ⟨⟨⟨hr, hf⟩, hm⟩, hB'⟩ := hB
    unfold mildAt at hm
    cases ho : l.toArray[i]? with
    | none => rw [ho] at hm; cases hm
    | some o =>
      rw [ho] at hm
      have hl : l[i]? = some o := by simpa using ho
      have hst : qOp P l.toArray S i (wpQuiet P l.toArray S Lq (pickL l r)) a := by
        unfold qOp
        simp only [ho]
        have : pickL l (i :: r) = o :: pickL l r := by simp [pickL, hl]
        rw [this] at h
        exact h
      obtain ⟨v, hy, hK⟩ := yieldsIn_of_qOp ho hst
      rw [List.length_cons, ← Nat.add_assoc]
      exact anyO_first ho (Region.noSelect_spec hsel) (fun c a w => hQ c a w o.dst v) _ S listed a w (Region.free_spec ho hf) hsh (by simpa using hr) (yields_of_quiet hm hy) hS (anyO_floats hsel hQ hS r _ _ (hsh.set (by simpa using hr)) hB' hK hk)
/-- behind an operation that is carried out: a class at hand, no greater than the one before, and what follows -/
def MixO (next : (World → Prop) → Act → World → Prop) (fin : Bool) (S : World → Prop) (Q : Exit → Act → World → Prop) : Exit → Act → World → Prop
  | .normal, a, w => ∃ S' : World → Prop, (∀ v, S' v → S v) ∧ (fin = true ∨ S' w) ∧ next S' a w
  | e, a, w => Q e a w
theorem letsOut_mixO {next : (World → Prop) → Act → World → Prop} {fin : Bool} {S : World → Prop} (h : LetsOut (MixO next fin S Q)) : LetsOut Q := h
theorem wp_mixO {o : Oper} {a : Act} {w : World} {K K' : Act → World → Prop} {next : (World → Prop) → Act → World → Prop} {fin : Bool} {S : World → Prop} (hK : ∀ a w, K a w → K' a w) (h : o.wp P a w K (MixO next fin S Q)) : o.wp P a w K' Q := by
  unfold Oper.wp at *
  generalize (execOp a.eval o).run P w = r at *
  cases r with
  | ok n w' =>
    cases n <;> simp only [Oper.upon] at h ⊢ <;>
      first
        | exact hK _ _ h
        | exact Calls.mono h (fun e w'' he => by cases e <;> first | exact hK _ _ he | exact he)
        | exact Rows.mono h (fun _ _ he => hK _ _ he)
  | halt x w' => cases x <;> simp only [Oper.upon] at h ⊢ <;> exact h
def mixO (P : Program) (ops : Array Oper) (Q : Exit → Act → World → Prop) (last : List Oper) : List (List Oper × List Oper) → (World → Prop) → Act → World → Prop
  | [], S, a, w => wpQuiet P ops S (fun a' => Q .normal a' w) last a
  | (F, G) :: r, S, a, w => wpQuiet P ops S (fun a' => wpList P ops (MixO (mixO P ops Q last r) (r.isEmpty && last.isEmpty) S Q) G a' w) F a
def endB (md : Region.Mode) (ops : Array Oper) : List (List Nat × Nat) → Bool
  | [] => true
  | [(_, k)] => endsAll md ops k
  | _ :: x :: r => endB md ops (x :: r)
theorem anyO_mix {l : List Oper} (hsel : Region.noSelect l.toArray = true) (hQ : ∀ c a w d v, Q (.panic c) (a.put d v) w → Q (.panic c) a w) :
    ∀ (σ : List (List Nat × Nat)) (S : World → Prop) (listed : Array Bool) (a : Act) (w : World), S w → Shut md l.toArray listed → mixB md l.toArray [] σ listed = true → endB md l.toArray σ = true →
      mixO P l.toArray Q (pickL l []) (σ.map fun s => (pickL l s.1, pickL l [s.2])) S a w → wpAnyO P md l.toArray Q (fuelS [] σ) S listed a w
  | [], S, listed, a, w, hS, hsh, hB, hE, h => by
    simp only [mixB, Bool.and_eq_true, List.isEmpty_iff] at hB
    have := anyO_floats (f := 0) hsel hQ hS [] listed a hsh hB.1 h (fun a' h' _ => ⟨hB.2, h'⟩)
    rwa [Nat.zero_add] at this
  | (F, k) :: r, S, listed, a, w, hS, hsh, hB, hE, h => by
    simp only [mixB, Bool.and_eq_true, decide_eq_true_eq] at hB
    obtain ⟨⟨hF, hk⟩, hB'⟩ := hB
    refine anyO_floats (f := fuelS [] r + 1) hsel hQ hS F listed a hsh hF h (fun a' h' hsh' => ?_)
    refine ⟨fun h0 => absurd (hk ▸ h0) (by simp), fun i hi => ?_⟩
    rw [hk, List.mem_singleton] at hi
    subst hi
    unfold wpOp
    cases ho : l.toArray[i]? with
    | none =>
      have : i ∈ Region.ready md l.toArray (listedL F listed) := by rw [hk]; simp
      obtain ⟨_, oi, hoi, _⟩ := mem_ready.1 this
      rw [ho] at hoi; cases hoi
    | some o =>
      have hl : l[i]? = some o := by simpa using ho
      have : pickL l [i] = [o] := by simp [pickL, hl]
      rw [this] at h'
      simp only [wpList] at h'
      simp only
      have go : ∀ a2 w2, MixO (mixO P l.toArray Q (pickL l []) (r.map fun s => (pickL l s.1, pickL l [s.2]))) ((r.map fun s => (pickL l s.1, pickL l [s.2])).isEmpty && (pickL l []).isEmpty) S Q .normal a2 w2 →
          ∃ S' : World → Prop, (∀ v, S' v → S v) ∧ (endsAll md l.toArray i = true ∨ S' w2) ∧ wpAnyO P md l.toArray Q (fuelS [] r) S' ((listedL F listed).setIfInBounds i true) a2 w2 := fun a2 w2 h2 => by
        obtain ⟨S', hs, hS', hn⟩ := h2
        cases r with
        | nil =>
          simp only [mixB, Bool.and_eq_true, List.isEmpty_iff, listedL] at hB'
          exact ⟨S', hs, .inl hE, hB'.2, hn⟩
        | cons x r =>
          have hS2 : S' w2 := hS'.resolve_left (by simp)
          exact ⟨S', hs, .inr hS2, anyO_mix hsel hQ (x :: r) S' _ _ _ hS2 (hsh'.set (by rw [hk]; simp)) hB' hE hn⟩
      split at h'
      · rename_i hw
        rw [if_pos hw]
        rcases h' with h' | ⟨h1, h2⟩
        · exact .inl (wp_mixO go h')
        · exact .inr ⟨h1, letsOut_mixO h2⟩
      · rename_i hw
        rw [if_neg hw]
        exact go _ _ h'
/-- THE LAW, at a class -/
theorem wp_region_mixO {id : Nat} {a : Act} {w : World} {l : List Oper} (S : World → Prop) (σ : List (List Nat × Nat)) (hm : P.follows .mixedOrders = true) (hsel : Region.noSelect l.toArray = true)
    (hn : fuelS [] σ = l.length) (hB : mixB .any l.toArray [] σ (Array.replicate l.length false) = true) (hE : endB .any l.toArray σ = true) (hS : S w.drew)
    (h : mixO P l.toArray (NoPanic Q) (pickL l []) (σ.map fun s => (pickL l s.1, pickL l [s.2])) S a w.drew) : (Code.region id l.toArray true).wp P Q a w := by
  refine wp_region_noPanic (wp_region_any hm (wpAny_of_O _ S _ _ _ ?_))
  have := anyO_mix hsel (fun _ _ _ _ _ h => h) σ S (Array.replicate l.length false) a _ hS (Shut.none _) hB hE h
  rw [hn] at this
  simpa using this
theorem MixO.last {S : World → Prop} {next : (World → Prop) → Act → World → Prop} {a : Act} {w : World} (k : next S a w) : MixO next true S Q .normal a w := ⟨S, fun _ h => h, .inl rfl, k⟩
theorem MixO.narrow {S S' : World → Prop} {fin : Bool} {next : (World → Prop) → Act → World → Prop} {a : Act} {w : World} (hs : ∀ v, S' v → S v) (h : S' w) (k : next S' a w) : MixO next fin S Q .normal a w := ⟨S', hs, .inr h, k⟩
theorem mixO_cons {last F G : List Oper} {r : List (List Oper × List Oper)} {S : World → Prop} {a : Act} {w : World} (h : wpQuiet P ops S (fun a' => wpList P ops (MixO (mixO P ops Q last r) (r.isEmpty && last.isEmpty) S Q) G a' w) F a) : mixO P ops Q last ((F, G) :: r) S a w := h
theorem mixO_nil {last : List Oper} {S : World → Prop} {a : Act} {w : World} (h : wpQuiet P ops S (fun a' => Q .normal a' w) last a) : mixO P ops Q last [] S a w := h
end
end Go.Proofs.Ythknncdhjicklaa
