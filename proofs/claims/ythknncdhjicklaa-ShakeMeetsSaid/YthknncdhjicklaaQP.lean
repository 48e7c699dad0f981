/- Regions that draw their order, as in words QO, that also make blocks which nothing but their end reads: a making may come up anywhere. One walk of a given order serves every order. Conditions: as each theorem states them. -/
import Derived.Test.YthknncdhjicklaaQO
namespace Go.Proofs.Ythknncdhjicklaa
open Go.RowKit
/-- kept when a block is made -/
def Stb (S : World → Prop) : Prop := ∀ v o, S v → S (v.alloc o)
/-- a making: its place, its slot, what it makes -/
structure AL where
  i : Nat
  d : Tmp
  t : TypeId
  cs : Array Value
def ptr0 (g : Nat) : Value := .pointer (some ⟨g, 0, none⟩)
section
variable {P : Program} {ops : Array Oper} {md : Region.Mode} {Q : Exit → Act → World → Prop}
def AlOk (P : Program) (md : Region.Mode) (ops : Array Oper) (n : Nat) (x : AL) : Prop :=
  x.i < n ∧ ∃ o, ops[x.i]? = some o ∧ o.dst = some x.d ∧ o.guard = none ∧ o.after.any (fun e => Region.binds md e) = false ∧ ∀ (ρ : Operand → Value) (w : World), (execOp ρ o).run P w = .ok (.value (ptr0 w.heap.size)) (w.alloc (.cells x.cs x.t))
theorem no_after {o : Oper} (h : o.after.any (fun e => Region.binds md e) = false) : ∀ e ∈ o.after, Region.binds md e = true → False := fun e he hb => by
  have : o.after.any (fun e => Region.binds md e) = true := Array.any_eq_true'.2 ⟨e, he, hb⟩
  rw [h] at this
  cases this
def AllOk (P : Program) (md : Region.Mode) (ops : Array Oper) (n : Nat) : List AL → Prop
  | [] => True
  | x :: r => AlOk P md ops n x ∧ AllOk P md ops n r
theorem AllOk.mem {n : Nat} : ∀ {A : List AL}, AllOk P md ops n A → ∀ x ∈ A, AlOk P md ops n x
  | [], _, _, hx => by simp at hx
  | y :: r, h, x, hx => by
    rcases List.mem_cons.1 hx with rfl | hx
    · exact h.1
    · exact AllOk.mem h.2 x hx
def farB (ops : Array Oper) (n : Nat) (A : List AL) : Bool :=
  A.all fun x => (List.range n).all fun j => (j == x.i) || (match ops[j]? with | some oj => !(oj.looksAt ops).contains x.d && oj.dst != some x.d | none => true)
theorem farB_spec {n : Nat} {A : List AL} (h : farB ops n A = true) {x : AL} (hx : x ∈ A) {j : Nat} (hj : j < n) (hne : j ≠ x.i) {oj : Oper} (ho : ops[j]? = some oj) : x.d ∉ oj.looksAt ops ∧ oj.dst ≠ some x.d := by
  have h1 := List.all_eq_true.1 (List.all_eq_true.1 h x hx) j (List.mem_range.2 hj)
  simp only [ho, Bool.or_eq_true, beq_iff_eq, hne, false_or, Bool.and_eq_true, Bool.not_eq_true', bne_iff_ne] at h1
  refine ⟨fun hm => ?_, h1.2⟩
  have := h1.1
  rw [List.contains_iff_mem.2 hm] at this
  cases this
def distB : List AL → Bool
  | [] => true
  | x :: r => (r.all fun y => y.i != x.i && y.d != x.d) && distB r
theorem dist_eq : ∀ {A : List AL}, distB A = true → ∀ {x y : AL}, x ∈ A → y ∈ A → x.i = y.i → x = y
  | [], _, _, _, hx, _, _ => by simp at hx
  | z :: r, hd, x, y, hx, hy, e => by
    simp only [distB, Bool.and_eq_true] at hd
    have hr : ∀ u ∈ r, u.i ≠ z.i := fun u hu => by have := List.all_eq_true.1 hd.1 u hu; simp at this; exact this.1
    rcases List.mem_cons.1 hx with hx1 | hx1 <;> rcases List.mem_cons.1 hy with hy1 | hy1
    · rw [hx1, hy1]
    · subst hx1; exact absurd e.symm (hr y hy1)
    · subst hy1; exact absurd e (hr x hx1)
    · exact dist_eq hd.2 hx1 hy1 e
theorem dist_pair : ∀ {A : List AL}, distB A = true → A.Pairwise (fun x y => x.i ≠ y.i)
  | [], _ => List.Pairwise.nil
  | z :: r, hd => by
    simp only [distB, Bool.and_eq_true] at hd
    refine List.pairwise_cons.2 ⟨fun u hu e => ?_, dist_pair hd.2⟩
    have := List.all_eq_true.1 hd.1 u hu
    simp at this
    exact this.1 e.symm
theorem set_self_ne {L : Array Bool} {i : Nat} (h : L.getD i true = false) (h2 : (L.setIfInBounds i true).getD i true = false) : False := by
  rcases Nat.lt_or_ge i L.size with h1 | h1
  · simp [h1] at h2
  · simp [Array.getElem?_eq_none h1] at h
theorem wpOp_rev {j : Nat} {oj : Oper} {d : Tmp} {v : Value} (hj : ops[j]? = some oj) (h1 : d ∉ oj.looksAt ops) (h2 : oj.dst ≠ some d) (hsj : ∀ cs b, oj.op ≠ .select cs b)
    (hQ : ∀ c a w d v, Q (.panic c) a w → Q (.panic c) (a.put d v) w) {K : Act → World → Prop} {a : Act} {w : World} (h : wpOp P ops Q j K a w) :
    wpOp P ops Q j (fun a' w' => ∃ a'', a' = a''.put (some d) v ∧ K a'' w') (a.put (some d) v) w := by
  have h1' : ∀ e, some d = some e → e ∉ oj.looksAt ops := fun e he => by injection he with he; subst he; exact h1
  have h2' : ∀ e, (some d : Option Tmp) = some e → oj.dst ≠ some e := fun e he => by injection he with he; subst he; exact h2
  unfold wpOp at *
  simp only [hj] at *
  rw [wanted_put oj a (some d) v h1']
  split at h
  · rename_i hw
    simp only [hw, if_true]
    rcases h with h | ⟨hasks, hlets⟩
    case inr => exact .inr ⟨by unfold Oper.asks at *; rw [execOp_put oj hsj a (some d) v h1']; exact hasks, hlets⟩
    refine .inl ?_
    unfold Oper.wp at *
    rw [execOp_put oj hsj a (some d) v h1']
    generalize (execOp a.eval oj).run P w = r at *
    cases r with
    | ok n w' =>
      cases n <;> simp only [Oper.upon] at h ⊢
      case value u => exact ⟨_, Act.put_comm a v u h2', h⟩
      case skip => exact ⟨_, Act.put_comm a v undef h2', h⟩
      case defer x =>
        refine ⟨_, ?_, h⟩
        cases ho : oj.dst with
        | none => rfl
        | some e =>
          have hne : d ≠ e := fun he => h2 (by rw [ho, he])
          simp [Act.put, Array.setIfInBounds_comm _ _ hne]
      case enter f args =>
        refine Calls.mono h fun e w'' he => ?_
        cases e with
        | returned u => exact ⟨_, Act.put_comm a v u h2', he⟩
        | panicked c => exact hQ _ _ _ _ _ he
        | outgrown => exact he
      case row row args => exact Rows.mono h fun u w'' he => ⟨_, Act.put_comm a v u h2', he⟩
    | halt x w' =>
      cases x <;> simp only [Oper.upon] at h ⊢
      case panic u => exact hQ _ _ _ _ _ h
  · rename_i hw
    simp only [hw]
    exact ⟨_, Act.put_comm a v undef h2', h⟩
/-- the makings' slots, as far as they are made -/
def step1 (γ : Nat → Option Nat) (x : AL) (a : Act) : Act := match γ x.i with | some g => a.put (some x.d) (ptr0 g) | none => a
def putsA (γ : Nat → Option Nat) : List AL → Act → Act
  | [], a => a
  | x :: r, a => putsA γ r (step1 γ x a)
theorem wpOp_puts {j : Nat} {oj : Oper} (hj : ops[j]? = some oj) (hsj : ∀ cs b, oj.op ≠ .select cs b) (hQ : ∀ c a w d v, Q (.panic c) a w → Q (.panic c) (a.put d v) w) (γ : Nat → Option Nat) :
    ∀ (A : List AL) (a : Act) (w : World) (K : Act → World → Prop), (∀ x ∈ A, x.d ∉ oj.looksAt ops ∧ oj.dst ≠ some x.d) → wpOp P ops Q j K a w → wpOp P ops Q j (fun a' w' => ∃ a'', a' = putsA γ A a'' ∧ K a'' w') (putsA γ A a) w
  | [], a, w, K, _, h => wpOp_mono (fun a' w' h' => ⟨a', rfl, h'⟩) h
  | x :: r, a, w, K, hA, h => by
    have hx := hA x (List.mem_cons_self ..)
    have h1 : wpOp P ops Q j (fun a' w' => ∃ a'', a' = step1 γ x a'' ∧ K a'' w') (step1 γ x a) w := by
      unfold step1
      cases γ x.i with
      | none => exact wpOp_mono (fun a' w' h' => ⟨a', rfl, h'⟩) h
      | some g => exact wpOp_rev hj hx.1 hx.2 hsj hQ h
    have h2 := wpOp_puts hj hsj hQ γ r (step1 γ x a) w _ (fun y hy => hA y (List.mem_cons_of_mem _ hy)) h1
    exact wpOp_mono (fun a' w' ⟨a2, e2, a3, e3, h3⟩ => ⟨a3, by rw [e2, e3]; rfl, h3⟩) h2
theorem putsA_comm (γ : Nat → Option Nat) (d : Tmp) (v : Value) : ∀ (A : List AL) (a : Act), (∀ x ∈ A, x.d ≠ d) → (putsA γ A a).put (some d) v = putsA γ A (a.put (some d) v)
  | [], _, _ => rfl
  | x :: r, a, h => by
    have hx := h x (List.mem_cons_self ..)
    rw [putsA, putsA_comm γ d v r _ (fun y hy => h y (List.mem_cons_of_mem _ hy)), putsA]
    congr 1
    unfold step1
    cases γ x.i with
    | none => rfl
    | some g => exact Act.put_comm a (ptr0 g) v (fun e he => by injection he with he; subst he; intro h'; injection h' with h'; exact hx h'.symm)
theorem putsA_congr {γ γ' : Nat → Option Nat} : ∀ (A : List AL) (a : Act), (∀ x ∈ A, γ x.i = γ' x.i) → putsA γ A a = putsA γ' A a
  | [], _, _ => rfl
  | x :: r, a, h => by
    have hx := h x (List.mem_cons_self ..)
    rw [putsA, putsA]
    have : step1 γ x a = step1 γ' x a := by unfold step1; rw [hx]
    rw [this]
    exact putsA_congr r _ (fun y hy => h y (List.mem_cons_of_mem _ hy))
def upd (γ : Nat → Option Nat) (i g : Nat) : Nat → Option Nat := fun k => if k = i then some g else γ k
theorem putsA_upd {γ : Nat → Option Nat} {x : AL} {g : Nat} : ∀ (A : List AL) (a : Act), distB A = true → x ∈ A → γ x.i = none → (putsA γ A a).put (some x.d) (ptr0 g) = putsA (upd γ x.i g) A a
  | [], _, _, hx, _ => by simp at hx
  | y :: r, a, hd, hx, hn => by
    simp only [distB, Bool.and_eq_true] at hd
    have hr := fun z hz => List.all_eq_true.1 hd.1 z hz
    rcases List.mem_cons.1 hx with rfl | hx
    · have h1 : ∀ z ∈ r, z.i ≠ x.i ∧ z.d ≠ x.d := fun z hz => by have := hr z hz; simp at this; exact this
      rw [putsA, putsA]
      have e1 : step1 γ x a = a := by unfold step1; rw [hn]
      have e2 : step1 (upd γ x.i g) x a = a.put (some x.d) (ptr0 g) := by unfold step1 upd; simp
      rw [e1, e2, putsA_comm γ x.d _ r a (fun z hz => (h1 z hz).2)]
      exact putsA_congr r _ (fun z hz => by unfold upd; rw [if_neg (h1 z hz).1])
    · have h1 : x.i ≠ y.i ∧ x.d ≠ y.d := by have := hr x hx; simp at this; exact this
      rw [putsA, putsA_upd r _ hd.2 hx hn, putsA]
      congr 1
      unfold step1 upd
      rw [if_neg (fun e => h1.1 e.symm)]
/-- whatever order is picked, the makings and the end left out -/
def wpAnyV (P : Program) (md : Region.Mode) (ops : Array Oper) (Q : Exit → Act → World → Prop) (n g : Nat) (E : Act → World → Prop) : Nat → (World → Prop) → Array Bool → Act → Prop
  | 0, S, V, a => Region.seqB md ops g n V = true ∧ ∀ w, S w → E a w
  | f + 1, S, V, a => Region.ready md ops V ≠ [] ∧ ∀ i ∈ Region.ready md ops V, i < n ∧ ∀ w, S w →
    wpOp P ops Q i (fun a' w' => ∃ S' : World → Prop, (∀ v, S' v → S v) ∧ Stb S' ∧ S' w' ∧ Below w.heap.size w w' ∧ wpAnyV P md ops Q n g E f S' (V.setIfInBounds i true) a') a w
theorem anyV_first {n g i : Nat} {oi : Oper} {v : Value} {E : Act → World → Prop} (hi : ops[i]? = some oi) (hsel : ∀ (j : Nat) (o : Oper) cs b, ops[j]? = some o → o.op ≠ .select cs b) (hQ : ∀ c a w, Q (.panic c) (a.put oi.dst v) w → Q (.panic c) a w)
    (hs : Region.sinkB md ops n = true) (hc : Region.chainB md ops n = true) (hn : n < ops.size) (hin : i < n) :
    ∀ (f : Nat) (S : World → Prop) (V : Array Bool) (a : Act), Stb S → HeadInv md ops n V →
      (∀ j oj, ops[j]? = some oj → j ≠ i → V.getD j true = false → (∀ e ∈ oj.after, Region.binds md e = true → e.on ≠ i) → oi.apart ops oj = true) →
      i ∈ Region.ready md ops V → YieldsIf P ops S oi v a → wpAnyV P md ops Q n g E f S (V.setIfInBounds i true) (a.put oi.dst v) → wpAnyV P md ops Q n g E (f + 1) S V a := by
  intro f
  induction f with
  | zero =>
    intro S V a hst inv _ hr hy H
    have hun := (mem_ready.1 hr).1
    refine ⟨fun h => (by rw [h] at hr; cases hr), fun j hj => ?_⟩
    have hjn : j < n := by
      rcases Nat.lt_or_ge j n with h | h
      · exact h
      · exact absurd hj (tail_waits hs hc hn inv _ i rfl hin hun j h)
    refine ⟨hjn, fun w hw => ?_⟩
    by_cases hji : j = i
    · subst hji; exact hy.wpOp hi hw ⟨S, fun _ h => h, hst, hw, Below.refl _ _, H⟩
    · have := seqB_ready H.1 j (ready_mono hj hji); omega
  | succ f ih =>
    intro S V a hst inv hfree hr hy H
    have hun := (mem_ready.1 hr).1
    refine ⟨fun h => (by rw [h] at hr; cases hr), fun j hj => ?_⟩
    have hjn : j < n := by
      rcases Nat.lt_or_ge j n with h | h
      · exact h
      · exact absurd hj (tail_waits hs hc hn inv _ i rfl hin hun j h)
    refine ⟨hjn, fun w hw => ?_⟩
    by_cases hji : j = i
    · subst hji; exact hy.wpOp hi hw ⟨S, fun _ h => h, hst, hw, Below.refl _ _, H⟩
    · have h1 := (H.2 j (ready_mono hj hji)).2 w hw
      obtain ⟨hjun, oj, hoj, hall⟩ := mem_ready.1 hj
      have hnot : ∀ e ∈ oj.after, Region.binds md e = true → e.on ≠ i := fun e he hb heq => by
        have h1 := hall e he hb
        rw [heq, getD_both hun] at h1
        cases h1
      have h2 := wpOp_putIf hoj (hfree j oj hoj hji hjun hnot) (fun cs b => hsel i oi cs b hi) (fun cs b => hsel j oj cs b hoj) hQ hy h1
      have hfree' : ∀ k ok, ops[k]? = some ok → k ≠ i → (V.setIfInBounds j true).getD k true = false → (∀ e ∈ ok.after, Region.binds md e = true → e.on ≠ i) → oi.apart ops ok = true := fun k ok hk hki hku hno => by
        refine hfree k ok hk hki ?_ hno
        by_cases hjk : j = k
        · subst hjk; exact hjun
        · rw [getD_set_ne true hjk] at hku; exact hku
      refine wpOp_mono (fun a' w' h3 => ?_) h2
      obtain ⟨hy', S', hs', hst', hS', hb', H'⟩ := h3
      refine ⟨S', hs', hst', hS', hb', ih S' (V.setIfInBounds j true) a' hst' (inv.set hj hjn) hfree' (ready_mono hr (Ne.symm hji)) (yieldsIf_sub hy' hs') ?_⟩
      rw [Array.setIfInBounds_comm _ _ hji]
      exact H'
theorem anyV_floats {l : List Oper} {n g f : Nat} {S : World → Prop} {E : Act → World → Prop} {Lq : Act → Prop} (hsel : Region.noSelect l.toArray = true) (hQ : ∀ c a w d v, Q (.panic c) (a.put d v) w → Q (.panic c) a w)
    (hs : Region.sinkB md l.toArray n = true) (hc : Region.chainB md l.toArray n = true) (hn : n < l.toArray.size) (hst : Stb S) :
    ∀ (F : List Nat) (V : Array Bool) (a : Act), HeadInv md l.toArray n V → floatsB md l.toArray F V = true → (F.all fun i => decide (i < n)) = true → wpQuiet P l.toArray S Lq (pickL l F) a →
      (∀ a', Lq a' → HeadInv md l.toArray n (listedL F V) → wpAnyV P md l.toArray Q n g E f S (listedL F V) a') → wpAnyV P md l.toArray Q n g E (f + F.length) S V a
  | [], V, a, inv, _, _, h, hk => hk a h inv
  | i :: r, V, a, inv, hB, hN, h, hk => by
    simp only [floatsB, Bool.and_eq_true] at hB
    obtain ⟨⟨⟨hr, hf⟩, hm⟩, hB'⟩ := hB
    simp only [List.all_cons, Bool.and_eq_true, decide_eq_true_eq] at hN
    unfold mildAt at hm
    cases ho : l.toArray[i]? with
    | none => rw [ho] at hm; cases hm
    | some o =>
      rw [ho] at hm
      have hl : l[i]? = some o := by simpa using ho
      have hst' : qOp P l.toArray S i (wpQuiet P l.toArray S Lq (pickL l r)) a := by
        unfold qOp
        simp only [ho]
        have : pickL l (i :: r) = o :: pickL l r := by simp [pickL, hl]
        rw [this] at h
        exact h
      obtain ⟨v, hy, hK⟩ := yieldsIn_of_qOp ho hst'
      rw [List.length_cons, ← Nat.add_assoc]
      exact anyV_first ho (Region.noSelect_spec hsel) (fun c a w => hQ c a w o.dst v) hs hc hn hN.1 _ S V a hst inv (Region.free_spec ho hf) (by simpa using hr) (yields_of_quiet hm hy)
        (anyV_floats hsel hQ hs hc hn hst r _ _ (inv.set (by simpa using hr) hN.1) hB' hN.2 hK hk)
/-- behind an operation that is carried out: a class at hand, kept when blocks are made; what was there is as it was; what follows -/
def MixV (next : (World → Prop) → Act → Prop) (S : World → Prop) (w0 : World) (Q : Exit → Act → World → Prop) : Exit → Act → World → Prop
  | .normal, a, w => ∃ S' : World → Prop, (∀ v, S' v → S v) ∧ Stb S' ∧ S' w ∧ Below w0.heap.size w0 w ∧ next S' a
  | e, a, w => Q e a w
theorem letsOut_mixV {next : (World → Prop) → Act → Prop} {S : World → Prop} {w0 : World} (h : LetsOut (MixV next S w0 Q)) : LetsOut Q := h
theorem wp_mixV {o : Oper} {a : Act} {w w0 : World} {K K' : Act → World → Prop} {next : (World → Prop) → Act → Prop} {S : World → Prop} (hK : ∀ a w, K a w → K' a w) (h : o.wp P a w K (MixV next S w0 Q)) : o.wp P a w K' Q := by
  unfold Oper.wp at *
  generalize (execOp a.eval o).run P w = r at *
  cases r with
  | ok n w' =>
    cases n <;> simp only [Oper.upon] at h ⊢ <;>
      first
        | exact hK _ _ h
        | exact Calls.mono h (fun e w'' he => by cases e <;> first | exact hK _ _ he | exact he)
        | exact Rows.mono h (fun _ _ he => hK _ _ he)
  | halt x w' => cases x <;> simp only [Oper.upon] at h ⊢ <;> exact h
def mixV (P : Program) (ops : Array Oper) (Q : Exit → Act → World → Prop) (E : Act → World → Prop) : List (List Oper × List Oper) → (World → Prop) → Act → Prop
  | [], S, a => ∀ w, S w → E a w
  | (F, G) :: r, S, a => wpQuiet P ops S (fun a' => ∀ w, S w → wpList P ops (MixV (mixV P ops Q E r) S w Q) G a' w) F a
def mixVB (md : Region.Mode) (ops : Array Oper) (n g : Nat) : List (List Nat × Nat) → Array Bool → Bool
  | [], V => Region.seqB md ops g n V
  | (F, k) :: r, V => floatsB md ops F V && (F.all fun i => decide (i < n)) && decide (Region.ready md ops (listedL F V) = [k]) && decide (k < n) && mixVB md ops n g r ((listedL F V).setIfInBounds k true)
theorem anyV_mix {l : List Oper} {n g : Nat} {E : Act → World → Prop} (hsel : Region.noSelect l.toArray = true) (hQ : ∀ c a w d v, Q (.panic c) (a.put d v) w → Q (.panic c) a w)
    (hs : Region.sinkB md l.toArray n = true) (hc : Region.chainB md l.toArray n = true) (hn : n < l.toArray.size) :
    ∀ (σ : List (List Nat × Nat)) (S : World → Prop) (V : Array Bool) (a : Act), Stb S → HeadInv md l.toArray n V → mixVB md l.toArray n g σ V = true →
      mixV P l.toArray Q E (σ.map fun s => (pickL l s.1, pickL l [s.2])) S a → wpAnyV P md l.toArray Q n g E (fuelS [] σ) S V a
  | [], S, V, a, hst, inv, hB, h => ⟨hB, h⟩
  | (F, k) :: r, S, V, a, hst, inv, hB, h => by
    simp only [mixVB, Bool.and_eq_true, decide_eq_true_eq] at hB
    obtain ⟨⟨⟨⟨hF, hN⟩, hk⟩, hkn⟩, hB'⟩ := hB
    refine anyV_floats (f := fuelS [] r + 1) hsel hQ hs hc hn hst F V a inv hF hN h (fun a' h' inv' => ?_)
    refine ⟨fun h0 => absurd (hk ▸ h0) (by simp), fun i hi => ?_⟩
    have hi' := hi
    rw [hk, List.mem_singleton] at hi
    subst hi
    refine ⟨hkn, fun w hw => ?_⟩
    have h' := h' w hw
    unfold wpOp
    cases ho : l.toArray[i]? with
    | none =>
      obtain ⟨_, oi, hoi, _⟩ := mem_ready.1 hi'
      rw [ho] at hoi; cases hoi
    | some o =>
      have hl : l[i]? = some o := by simpa using ho
      have : pickL l [i] = [o] := by simp [pickL, hl]
      rw [this] at h'
      simp only [wpList] at h'
      simp only
      have go : ∀ a2 w2, MixV (mixV P l.toArray Q E (r.map fun s => (pickL l s.1, pickL l [s.2]))) S w Q .normal a2 w2 →
          ∃ S' : World → Prop, (∀ v, S' v → S v) ∧ Stb S' ∧ S' w2 ∧ Below w.heap.size w w2 ∧ wpAnyV P md l.toArray Q n g E (fuelS [] r) S' ((listedL F V).setIfInBounds i true) a2 := fun a2 w2 h2 => by
        obtain ⟨S', hs', hst', hS', hb', hn'⟩ := h2
        exact ⟨S', hs', hst', hS', hb', anyV_mix hsel hQ hs hc hn r S' _ _ hst' (inv'.set hi' hkn) hB' hn'⟩
      split at h'
      · rename_i hw
        rw [if_pos hw]
        rcases h' with h' | ⟨h1, h2⟩
        · exact .inl (wp_mixV go h')
        · exact .inr ⟨h1, letsOut_mixV h2⟩
      · rename_i hw
        rw [if_neg hw]
        exact go _ _ h'
/-- the makings that are still to come, marked -/
def markA : List AL → Array Bool → Array Bool
  | [], L => L
  | x :: r, L => (markA r L).setIfInBounds x.i true
theorem set_comm' (L : Array Bool) (i j : Nat) : (L.setIfInBounds i true).setIfInBounds j true = (L.setIfInBounds j true).setIfInBounds i true := by
  by_cases h : i = j
  · subst h; rfl
  · exact Array.setIfInBounds_comm _ _ h
theorem markA_set (j : Nat) : ∀ (p : List AL) (L : Array Bool), markA p (L.setIfInBounds j true) = (markA p L).setIfInBounds j true
  | [], _ => rfl
  | x :: r, L => by rw [markA, markA_set j r L, markA, set_comm']
theorem markA_split (x : AL) (t : List AL) : ∀ (s : List AL) (L : Array Bool), markA (s ++ x :: t) L = markA (s ++ t) (L.setIfInBounds x.i true)
  | [], L => by rw [List.nil_append, List.nil_append, markA_set]; rfl
  | y :: s, L => by rw [List.cons_append, List.cons_append, markA, markA, markA_split x t s L]
theorem markA_le {j : Nat} {b : Bool} : ∀ (p : List AL) (L : Array Bool), L.getD j b = true → (markA p L).getD j b = true
  | [], _, h => h
  | x :: r, L, h => by
    rw [markA]
    by_cases e : x.i = j
    · subst e
      have := markA_le r L h
      rcases Nat.lt_or_ge x.i (markA r L).size with h1 | h1
      · simp [h1]
      · rw [Array.setIfInBounds_eq_of_size_le h1]; exact this
    · rw [getD_set_ne b e]; exact markA_le r L h
theorem markA_of {j : Nat} : ∀ (p : List AL) (L : Array Bool), (markA p L).getD j true = true → L.getD j true = true ∨ ∃ x ∈ p, x.i = j
  | [], _, h => .inl h
  | x :: r, L, h => by
    rw [markA] at h
    by_cases e : x.i = j
    · exact .inr ⟨x, List.mem_cons_self .., e⟩
    · rw [getD_set_ne true e] at h
      rcases markA_of r L h with h1 | ⟨y, hy, he⟩
      · exact .inl h1
      · exact .inr ⟨y, List.mem_cons_of_mem _ hy, he⟩
/-- what the end is shown for -/
def EndA (P : Program) (ops : Array Oper) (Q : Exit → Act → World → Prop) (N : Nat) (A : List AL) (tail : List Oper) (a : Act) (w : World) : Prop :=
  ∀ γ : Nat → Option Nat, (∀ x ∈ A, ∃ g, γ x.i = some g ∧ N ≤ g ∧ Blk w g x.t x.cs) → (∀ x ∈ A, ∀ y ∈ A, γ x.i = γ y.i → x.i = y.i) → wpList P ops Q tail (putsA γ A a) w
theorem any_of_V {l : List Oper} {n N : Nat} {A : List AL} (hsel : Region.noSelect l.toArray = true) (hQ : ∀ c a w d v, Q (.panic c) a w → Q (.panic c) (a.put d v) w)
    (hs : Region.sinkB md l.toArray n = true) (hc : Region.chainB md l.toArray n = true) (hn : n < l.toArray.size) (hA : AllOk P md l.toArray n A) (hfar : farB l.toArray n A = true) (hdist : distB A = true) :
    ∀ (m f : Nat) (pend : List AL) (γ : Nat → Option Nat) (L : Array Bool) (S : World → Prop) (a : Act) (w : World), m = f + pend.length →
      (∀ x ∈ pend, x ∈ A ∧ γ x.i = none ∧ L.getD x.i true = false) → (∀ x ∈ A, γ x.i = none → x ∈ pend) → pend.Pairwise (fun x y => x.i ≠ y.i) →
      HeadInv md l.toArray n L → Stb S → S w → (∀ v, S v → N ≤ v.heap.size) →
      (∀ x ∈ A, ∀ g, γ x.i = some g → N ≤ g ∧ Blk w g x.t x.cs) → (∀ x ∈ A, ∀ y ∈ A, ∀ g, γ x.i = some g → γ y.i = some g → x.i = y.i) → (∀ x ∈ A, ∀ g, γ x.i = some g → L.getD x.i true = false → False) →
      wpAnyV P md l.toArray Q n (l.length - n) (EndA P l.toArray Q N A (l.drop n)) f S (markA pend L) a →
      wpAny P md l.toArray Q (m + (l.length - n)) L (putsA γ A a) w
  | 0, f, pend, γ, L, S, a, w, hm, hp, hp', hpw, inv, hst, hS, hSN, hγ, hγd, hγL, H => by
    obtain rfl : f = 0 := by omega
    have hp0 : pend = [] := List.eq_nil_of_length_eq_zero (by omega)
    subst hp0
    rw [Nat.zero_add]
    have hall : ∀ x ∈ A, ∃ g, γ x.i = some g ∧ N ≤ g ∧ Blk w g x.t x.cs := fun x hx => by
      cases hg : γ x.i with
      | none => exact absurd (hp' x hx hg) (by simp)
      | some g => exact ⟨g, rfl, hγ x hx g hg⟩
    have hw := H.2 w hS γ hall (fun x hx y hy e => by
      obtain ⟨g, hg, _⟩ := hall x hx
      exact hγd x hx y hy g hg (by rw [← e]; exact hg))
    have hdl : (l.drop n).length = l.length - n := by simp
    have h2 := wpAny_of_seq (P := P) (md := md) (Q' := Q) (l.drop n) n L (putsA γ A a) w (fun j => by simp) (by rw [hdl]; exact H.1) hw
    rwa [hdl] at h2
  | m + 1, f, pend, γ, L, S, a, w, hm, hp, hp', hpw, inv, hst, hS, hSN, hγ, hγd, hγL, H => by
    rw [show m + 1 + (l.length - n) = (m + (l.length - n)) + 1 by omega]
    have alloc_ready : ∀ x ∈ pend, x.i ∈ Region.ready md l.toArray L := fun x hx => by
      obtain ⟨_, o, ho, _, _, haft, _⟩ := hA.mem x (hp x hx).1
      exact mem_ready.2 ⟨(hp x hx).2.2, o, ho, fun e he hb => (no_after haft e he hb).elim⟩
    have some_un : ∃ i, i < n ∧ L.getD i true = false ∧ i ∈ Region.ready md l.toArray L := by
      cases pend with
      | cons x r => exact ⟨x.i, (hA.mem x (hp x (List.mem_cons_self ..)).1).1, (hp x (List.mem_cons_self ..)).2.2, alloc_ready x (List.mem_cons_self ..)⟩
      | nil =>
        obtain ⟨f', rfl⟩ : ∃ f', f = f' + 1 := ⟨m, by simpa using hm.symm⟩
        obtain ⟨hne, hall⟩ := H
        cases hr : Region.ready md l.toArray (markA [] L) with
        | nil => exact absurd hr hne
        | cons i r =>
          have hi : i ∈ Region.ready md l.toArray (markA [] L) := by rw [hr]; exact List.mem_cons_self ..
          exact ⟨i, (hall i hi).1, (mem_ready.1 hi).1, hi⟩
    obtain ⟨i0, hi0n, hi0u, hi0r⟩ := some_un
    refine ⟨fun h0 => (by rw [h0] at hi0r; cases hi0r), fun j hj => ?_⟩
    have hjn : j < n := by
      rcases Nat.lt_or_ge j n with h | h
      · exact h
      · exact absurd hj (tail_waits hs hc hn inv _ i0 rfl hi0n hi0u j h)
    obtain ⟨hjun, oj, hoj, hall⟩ := mem_ready.1 hj
    by_cases hpj : ∃ x ∈ pend, x.i = j
    · obtain ⟨x, hx, hxj⟩ := hpj
      subst hxj
      obtain ⟨s, t, rfl⟩ := List.append_of_mem hx
      obtain ⟨hxA, hxn, hxL⟩ := hp x hx
      obtain ⟨_, o, ho, hod, hog, _, hrun⟩ := hA.mem x hxA
      have : o = oj := Option.some.inj (ho.symm.trans hoj)
      subst this
      have hne : ∀ y ∈ s ++ t, y.i ≠ x.i := fun y hy => by
        rw [List.pairwise_append] at hpw
        rcases List.mem_append.1 hy with hy | hy
        · exact hpw.2.2 y hy x (List.mem_cons_self ..)
        · exact fun e => (List.pairwise_cons.1 hpw.2.1).1 y hy e.symm
      unfold wpOp
      simp only [ho, Region.wanted, hog, if_true]
      refine .inl ?_
      unfold Oper.wp
      rw [hrun]
      simp only [Oper.upon, hod]
      rw [putsA_upd A a hdist hxA hxn]
      refine any_of_V hsel hQ hs hc hn hA hfar hdist m f (s ++ t) (upd γ x.i w.heap.size) (L.setIfInBounds x.i true) S a (w.alloc (.cells x.cs x.t)) (by simp at hm ⊢; omega) (fun y hy => ?_) (fun y hyA hy => ?_) ?_ (inv.set hj hjn) hst (hst _ _ hS) hSN (fun y hyA g hg => ?_) (fun y hyA z hzA g hy hz => ?_) (fun y hyA g hg hu => ?_) ?_
      · have hy' : y ∈ s ++ x :: t := by rcases List.mem_append.1 hy with h | h <;> simp [h]
        obtain ⟨h1, h2, h3⟩ := hp y hy'
        exact ⟨h1, by unfold upd; rw [if_neg (hne y hy)]; exact h2, by rw [getD_set_ne true (Ne.symm (hne y hy))]; exact h3⟩
      · unfold upd at hy
        split at hy
        · cases hy
        · rename_i hyx
          have := hp' y hyA hy
          rcases List.mem_append.1 this with h | h
          · exact List.mem_append_left _ h
          · rcases List.mem_cons.1 h with rfl | h
            · exact absurd rfl hyx
            · exact List.mem_append_right _ h
      · rw [List.pairwise_append] at hpw ⊢
        exact ⟨hpw.1, (List.pairwise_cons.1 hpw.2.1).2, fun y hy z hz => hpw.2.2 y hy z (List.mem_cons_of_mem _ hz)⟩
      · unfold upd at hg
        split at hg
        · rename_i hyx
          injection hg with hg
          subst hg
          refine ⟨hSN _ hS, ?_⟩
          have hyx' : y = x := dist_eq hdist hyA hxA hyx
          subst hyx'
          exact Blk.new _ _ _
        · exact ⟨(hγ y hyA g hg).1, Blk.alloc (hγ y hyA g hg).2 _⟩
      · unfold upd at hy hz
        split at hy <;> split at hz
        · rename_i h1 h2; rw [h1, h2]
        · injection hy with hy
          subst hy
          exact absurd (Blk.lt (hγ z hzA _ hz).2) (Nat.lt_irrefl _)
        · injection hz with hz
          subst hz
          exact absurd (Blk.lt (hγ y hyA _ hy).2) (Nat.lt_irrefl _)
        · exact hγd y hyA z hzA g hy hz
      · by_cases hyx : y.i = x.i
        · rw [hyx] at hu
          exact set_self_ne hxL hu
        · unfold upd at hg
          rw [if_neg hyx] at hg
          rw [getD_set_ne true (Ne.symm hyx)] at hu
          exact hγL y hyA g hg hu
      · rw [markA_split] at H
        exact H
    · have hjV : j ∈ Region.ready md l.toArray (markA pend L) := by
        refine mem_ready.2 ⟨?_, oj, hoj, fun e he hb => markA_le pend L (hall e he hb)⟩
        cases hv : (markA pend L).getD j true with
        | false => rfl
        | true =>
          rcases markA_of pend L hv with h1 | h1
          · rw [hjun] at h1; cases h1
          · exact absurd h1 hpj
      cases f with
      | zero => have := seqB_ready H.1 j hjV; omega
      | succ f =>
        have hop := (H.2 j hjV).2 w hS
        have hjA : ∀ x ∈ A, j ≠ x.i := fun x hx e => by
          cases hg : γ x.i with
          | none => exact hpj ⟨x, hp' x hx hg, e.symm⟩
          | some g => exact hγL x hx g hg (by rw [← e]; exact hjun)
        have h2 := wpOp_puts hoj (fun cs b => Region.noSelect_spec hsel j oj cs b hoj) hQ γ A a w _ (fun x hx => farB_spec hfar hx hjn (hjA x hx) hoj) hop
        refine wpOp_mono (fun a' w' h3 => ?_) h2
        obtain ⟨a2, rfl, S', hs', hst', hS', hb', H'⟩ := h3
        refine any_of_V hsel hQ hs hc hn hA hfar hdist m f pend γ (L.setIfInBounds j true) S' a2 w' (by omega) (fun y hy => ?_) hp' hpw (inv.set hj hjn) hst' hS' (fun v hv => hSN v (hs' v hv)) (fun y hyA g hg => ?_) hγd (fun y hyA g hg hu => ?_) ?_
        · obtain ⟨h1, h2, h3⟩ := hp y hy
          refine ⟨h1, h2, ?_⟩
          rw [getD_set_ne true (fun e => hpj ⟨y, hy, e.symm⟩)]
          exact h3
        · exact ⟨(hγ y hyA g hg).1, Blk.below (hγ y hyA g hg).2 hb' (Blk.lt (hγ y hyA g hg).2)⟩
        · rw [getD_set_ne true (hjA y hyA)] at hu
          exact hγL y hyA g hg hu
        · rw [markA_set]; exact H'
theorem putsA_none : ∀ (A : List AL) (a : Act), putsA (fun _ => none) A a = a
  | [], _ => rfl
  | _ :: r, a => putsA_none r a
theorem markA_inv {n : Nat} : ∀ (A : List AL) (L : Array Bool), AllOk P md ops n A → distB A = true → HeadInv md ops n L → (∀ x ∈ A, L.getD x.i true = false) → HeadInv md ops n (markA A L)
  | [], _, _, _, h, _ => h
  | x :: r, L, hA, hd, h, hu => by
    have hd' := hd
    simp only [distB, Bool.and_eq_true] at hd
    have ih := markA_inv r L hA.2 hd.2 h (fun y hy => hu y (List.mem_cons_of_mem _ hy))
    obtain ⟨hxn, o, ho, _, _, haft, _⟩ := hA.1
    refine HeadInv.set ih (mem_ready.2 ⟨?_, o, ho, fun e he hb => (no_after haft e he hb).elim⟩) hxn
    cases hv : (markA r L).getD x.i true with
    | false => rfl
    | true =>
      rcases markA_of r L hv with h1 | ⟨y, hy, e⟩
      · rw [hu x (List.mem_cons_self ..)] at h1; cases h1
      · have := List.all_eq_true.1 hd.1 y hy
        simp at this
        exact absurd e this.1
/-- THE LAW -/
theorem wp_region_mixV {id : Nat} {a : Act} {w : World} {l : List Oper} (A : List AL) (n N : Nat) (S : World → Prop) (σ : List (List Nat × Nat)) (hm : P.follows .mixedOrders = true) (hsel : Region.noSelect l.toArray = true)
    (hcnt : fuelS [] σ + A.length + (l.length - n) = l.length) (hnB : decide (n < l.toArray.size) = true) (hs : Region.sinkB .any l.toArray n = true) (hc : Region.chainB .any l.toArray n = true) (hfar : farB l.toArray n A = true) (hdist : distB A = true)
    (hB : mixVB .any l.toArray n (l.length - n) σ (markA A (Array.replicate l.length false)) = true) (hA : AllOk P .any l.toArray n A) (hst : Stb S) (hS : S w.drew) (hSN : ∀ v, S v → N ≤ v.heap.size)
    (h : mixV P l.toArray (NoPanic Q) (EndA P l.toArray (NoPanic Q) N A (l.drop n)) (σ.map fun s => (pickL l s.1, pickL l [s.2])) S a) : (Code.region id l.toArray true).wp P Q a w := by
  have hn : n < l.toArray.size := of_decide_eq_true hnB
  refine wp_region_noPanic (wp_region_any hm ?_)
  have hu : ∀ x ∈ A, (Array.replicate l.length false).getD x.i true = false := fun x hx => by
    have := (hA.mem x hx).1
    have hsz : l.toArray.size = l.length := by simp
    exact getD_in (by simp; omega) (getD_replicate_false _ _)
  have inv0 : HeadInv .any l.toArray n (Array.replicate l.length false) :=
    ⟨by simp, fun j oj _ hl => (by rw [getD_replicate_false] at hl; cases hl), fun t _ ht => getD_in (by simpa using ht) (getD_replicate_false _ _)⟩
  have h1 := anyV_mix (P := P) (md := .any) (Q := NoPanic Q) (g := l.length - n) hsel (fun _ _ _ _ _ h => h) hs hc hn σ S _ a hst (markA_inv A _ hA hdist inv0 hu) hB h
  have h2 := any_of_V (P := P) (md := .any) (Q := NoPanic Q) (N := N) hsel (fun _ _ _ _ _ h => h) hs hc hn hA hfar hdist (fuelS [] σ + A.length) (fuelS [] σ) A (fun _ => none) (Array.replicate l.length false) S a w.drew rfl
    (fun x hx => ⟨hx, rfl, hu x hx⟩) (fun x hx _ => hx) (dist_pair hdist) inv0 hst hS hSN (fun x hx g hg => by cases hg) (fun x hx y hy g hg => by cases hg) (fun x hx g hg => by cases hg) h1
  rw [hcnt, putsA_none] at h2
  simpa using h2
theorem stb_bw {N : Nat} {w0 : World} (hN : N ≤ w0.heap.size) : Stb (fun w' => ∃ r : BW N w0, w' = r.world) := fun v o ⟨r, e⟩ => by
  subst e
  exact ⟨BW.mk' (r.below.alloc (Nat.le_trans hN r.below.size) o), rfl⟩
theorem wp_region_mixVB {id : Nat} {a : Act} {w : World} {l : List Oper} (A : List AL) (n : Nat) (σ : List (List Nat × Nat)) (hm : P.follows .mixedOrders = true) (hsel : Region.noSelect l.toArray = true)
    (hcnt : fuelS [] σ + A.length + (l.length - n) = l.length) (hnB : decide (n < l.toArray.size) = true) (hs : Region.sinkB .any l.toArray n = true) (hc : Region.chainB .any l.toArray n = true) (hfar : farB l.toArray n A = true) (hdist : distB A = true)
    (hB : mixVB .any l.toArray n (l.length - n) σ (markA A (Array.replicate l.length false)) = true) (hA : AllOk P .any l.toArray n A)
    (h : mixV P l.toArray (NoPanic Q) (EndA P l.toArray (NoPanic Q) w.heap.size A (l.drop n)) (σ.map fun s => (pickL l s.1, pickL l [s.2])) (fun w' => ∃ r : BW w.heap.size w, w' = r.world) a) : (Code.region id l.toArray true).wp P Q a w :=
  wp_region_mixV A n w.heap.size _ σ hm hsel hcnt hnB hs hc hfar hdist hB hA (stb_bw (Nat.le_refl _)) ⟨BW.mk' (Below.drew (Below.refl _ _)), rfl⟩ (fun v ⟨r, e⟩ => by subst e; exact r.below.size) h
theorem MixV.mk {next : (World → Prop) → Act → Prop} {S S' : World → Prop} {w0 w : World} {a : Act} (hs : ∀ v, S' v → S v) (hst : Stb S') (h : S' w) (hb : Below w0.heap.size w0 w) (k : next S' a) : MixV next S w0 Q .normal a w := ⟨S', hs, hst, h, hb, k⟩
theorem mixV_cons {E : Act → World → Prop} {F G : List Oper} {r : List (List Oper × List Oper)} {S : World → Prop} {a : Act} (h : wpQuiet P ops S (fun a' => ∀ w, S w → wpList P ops (MixV (mixV P ops Q E r) S w Q) G a' w) F a) : mixV P ops Q E ((F, G) :: r) S a := h
theorem mixV_nil {E : Act → World → Prop} {S : World → Prop} {a : Act} (h : ∀ w, S w → E a w) : mixV P ops Q E [] S a := h
/-- behind a call: at the class of the world behind it -/
theorem MixV.bw {next : (World → Prop) → Act → Prop} {N : Nat} {w0 w1 w2 : World} {a : Act} (h1 : Below N w0 w1) (hN : N ≤ w1.heap.size) (hb : Below w1.heap.size w1 w2) (k : next (fun w' => ∃ r : BW w2.heap.size w2, w' = r.world) a) : MixV next (fun w' => ∃ r : BW N w0, w' = r.world) w1 Q .normal a w2 :=
  MixV.mk (fun _ ⟨r, e⟩ => ⟨BW.mk' (h1.trans ((hb.mono hN).trans (r.below.mono (Nat.le_trans hN hb.size)))), e⟩) (stb_bw (Nat.le_refl _)) ⟨BW.mk' (Below.refl _ _), rfl⟩ hb k
end
/-- a guarded operation that is wanted -/
theorem wpList_unguard {P : Program} {ops : Array Oper} {Q : Exit → Act → World → Prop} {o : Oper} {rest : List Oper} {a : Act} {w : World} (hw : Region.wanted o (yielded ops a.tmps) = true) (h : wpList P ops Q ({ o with guard := none } :: rest) a w) : wpList P ops Q (o :: rest) a w := by
  have h2 : Region.wanted { o with guard := none } (yielded ops a.tmps) = true := rfl
  simp only [wpList] at h ⊢
  rw [if_pos hw]
  rw [if_pos h2] at h
  exact h
end Go.Proofs.Ythknncdhjicklaa
