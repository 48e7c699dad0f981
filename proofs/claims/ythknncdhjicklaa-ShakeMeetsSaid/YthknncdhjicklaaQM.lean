/- Regions that draw their order: operations that only read or compute float; operations that make or write memory come one at a time. One walk of a given order serves every order. Conditions: as each theorem states them. -/
import Derived.Test.YthknncdhjicklaaQT
import Derived.OrdersHeld
import Derived.Deep.RegionHeld3
namespace Go.Proofs.Ythknncdhjicklaa
open Go.RowKit

theorem put_none (a : Act) (v : Value) : a.put none v = a := rfl
/-- it only reads or computes -/
def mild (o : Oper) : Bool :=
  match o.op with
  | .move _ | .assign _ | .pick _ _ _ | .load _ _ | .binOp _ _ _ _ _ | .unOp _ _ _ | .convert _ _ _ | .slice _ _ _ _ _ | .fieldAddr _ _ _ | .field _ _ _ | .indexAddr _ _ _ | .index _ _ _ | .extract _ _ | .nilCheck _ | .build _ _ | .sliceToArrayPointer _ _ => true
  | .call c => match c.callee with | .builtin .len => true | _ => false
  | _ => false
section
variable {P : Program} {ops : Array Oper} {md : Region.Mode} {Q : Exit → Act → World → Prop} {S : World → Prop}
theorem bind_value {s : Sem Value} {w w' : World} {n : Next} (h : (do let x ← s; pure (Next.value x) : Sem Next).run P w = .ok n w') : ∃ v, n = .value v := by
  rw [Sem.run_bind] at h
  cases hs : s.run P w with
  | ok v w1 => rw [hs] at h; simp only [Result.andThen_ok, Sem.run_pure] at h; injection h with h _; exact ⟨v, h.symm⟩
  | halt x w1 => rw [hs] at h; cases h
theorem bind_last {α : Type} {s : Sem α} {t : α → Sem Next} {w w' : World} {n : Next} (h : (do let x ← s; t x : Sem Next).run P w = .ok n w') : ∃ x w1, (t x).run P w1 = .ok n w' := by
  rw [Sem.run_bind] at h
  cases hs : s.run P w with
  | ok v w1 => rw [hs] at h; simp only [Result.andThen_ok] at h; exact ⟨v, w1, h⟩
  | halt x w1 => rw [hs] at h; cases h
theorem pure_value {v : Value} {w w' : World} {n : Next} (h : (pure (Next.value v) : Sem Next).run P w = .ok n w') : ∃ v, n = .value v := by
  rw [Sem.run_pure] at h; injection h with h _; exact ⟨_, h.symm⟩
theorem mild_value {o : Oper} {ρ : Operand → Value} {w w' : World} {n : Next} (h : mild o = true) (hr : (execOp ρ o).run P w = .ok n w') : ∃ v, n = .value v := by
  obtain ⟨dst, op, type, pos, after, guard⟩ := o
  unfold execOp at hr
  cases op <;> simp only [mild] at h hr <;> try (exact absurd h (by decide))
  case move x => rw [Sem.run_pure] at hr; injection hr with hr _; exact ⟨_, hr.symm⟩
  case assign x => rw [Sem.run_pure] at hr; injection hr with hr _; exact ⟨_, hr.symm⟩
  case pick c a b =>
    rw [Sem.run_bind] at hr
    cases hs : (asBool (ρ c)).run P w with
    | ok v w1 => rw [hs] at hr; simp only [Result.andThen_ok, Sem.run_pure] at hr; injection hr with hr _; exact ⟨_, hr.symm⟩
    | halt x w1 => rw [hs] at hr; cases hr
  case call c =>
    obtain ⟨callee, args, argTypes⟩ := c
    cases callee with
    | value f => exact absurd h (by simp)
    | invoke r m => exact absurd h (by simp)
    | builtin b =>
      simp only [resolve, Sem.run_bind, Sem.run_pure, Result.andThen_ok, invoke] at hr
      cases b <;> simp only at h <;> try (exact absurd h (by decide))
      case len => exact bind_value hr
  case nilCheck x =>
    generalize ρ x = v at hr
    revert hr
    split
    case h_1 => intro hr; cases hr
    case h_2 => intro hr; cases hr
    case h_3 => intro hr; cases hr
    case h_4 =>
      split
      · intro hr; cases hr
      · intro hr
        obtain ⟨_, _, hr⟩ := bind_last hr
        obtain ⟨d, _, hr⟩ := bind_last hr
        split at hr
        · obtain ⟨_, _, hr⟩ := bind_last hr
          exact pure_value hr
        · exact pure_value hr
      · exact pure_value
    case h_5 => exact pure_value
  all_goals exact bind_value hr
theorem yields_of_quiet {o : Oper} {a : Act} {v : Value} (hm : mild o = true) (h : YieldsIn P ops S o v a) : YieldsIf P ops S o v a := by
  refine h.imp (fun ⟨hw, hv⟩ => ⟨hw, fun w hS => ?_⟩) id
  have := hv w hS
  unfold Oper.quietAt at this
  cases hr : (execOp a.eval o).run P w with
  | ok n w' =>
    obtain ⟨u, rfl⟩ := mild_value hm hr
    rw [hr] at this
    obtain ⟨rfl, rfl⟩ := this
    rfl
  | halt x w' => rw [hr] at this; cases this
def mildAt (ops : Array Oper) (i : Nat) : Bool := match ops[i]? with | some o => mild o | none => false
/-- the floats of a piece: each may come up, each is apart from what has not come up; what is listed behind them -/
def floatsB (md : Region.Mode) (ops : Array Oper) : List Nat → Array Bool → Bool
  | [], _ => true
  | i :: r, L => (Region.ready md ops L).contains i && Region.free md ops L i && mildAt ops i && floatsB md ops r (L.setIfInBounds i true)
def listedL : List Nat → Array Bool → Array Bool
  | [], L => L
  | i :: r, L => listedL r (L.setIfInBounds i true)
def pickL (l : List Oper) (F : List Nat) : List Oper := F.filterMap fun i => l[i]?
theorem anyH_floats {l : List Oper} {f : Nat} {w : World} {Lq : Act → Prop} (hsel : Region.noSelect l.toArray = true) (hQ : ∀ c a w d v, Q (.panic c) (a.put d v) w → Q (.panic c) a w) (hS : S w) :
    ∀ (F : List Nat) (listed : Array Bool) (a : Act), floatsB md l.toArray F listed = true → wpQuiet P l.toArray S Lq (pickL l F) a →
      (∀ a', Lq a' → wpAnyH P md l.toArray Q S f (listedL F listed) a' w) → wpAnyH P md l.toArray Q S (f + F.length) listed a w
  | [], listed, a, _, h, hk => hk a h
  | i :: r, listed, a, hB, h, hk => by
    simp only [floatsB, Bool.and_eq_true] at hB
    obtain ⟨⟨⟨hr, hf⟩, hm⟩, hB'⟩ := hB
    unfold mildAt at hm
    cases ho : l.toArray[i]? with
    | none => rw [ho] at hm; cases hm
    | some o =>
      rw [ho] at hm
      have hl : l[i]? = some o := by simpa using ho
      have hst : qOp P l.toArray S i (wpQuiet P l.toArray S Lq (pickL l r)) a := by
        unfold qOp
        simp only [ho]
        have : pickL l (i :: r) = o :: pickL l r := by simp [pickL, hl]
        rw [this] at h
        exact h
      obtain ⟨v, hy, hK⟩ := yieldsIn_of_qOp ho hst
      rw [List.length_cons, ← Nat.add_assoc]
      exact wpAnyH_take ho hsel hf (by simpa using hr) (fun c a w => hQ c a w o.dst v) (yields_of_quiet hm hy) hS (anyH_floats hsel hQ hS r _ _ hB' hK hk)
/-- behind an operation that is carried out: the world is still of the class, and what follows -/
def MixQ (S : World → Prop) (next : Act → World → Prop) (Q : Exit → Act → World → Prop) : Exit → Act → World → Prop
  | .normal, a, w => S w ∧ next a w
  | e, a, w => Q e a w
theorem MixQ.normal {next : Act → World → Prop} {a : Act} {w : World} (h : S w) (k : next a w) : MixQ S next Q .normal a w := ⟨h, k⟩
theorem letsOut_mix {next : Act → World → Prop} (h : LetsOut (MixQ S next Q)) : LetsOut Q := h
theorem wp_mix {o : Oper} {a : Act} {w : World} {K K' next : Act → World → Prop} (hK : ∀ a w, K a w → K' a w) (h : o.wp P a w K (MixQ S next Q)) : o.wp P a w K' Q := by
  unfold Oper.wp at *
  generalize (execOp a.eval o).run P w = r at *
  cases r with
  | ok n w' =>
    cases n <;> simp only [Oper.upon] at h ⊢ <;>
      first
        | exact hK _ _ h
        | exact Calls.mono h (fun e w'' he => by cases e <;> first | exact hK _ _ he | exact he)
        | exact Rows.mono h (fun _ _ he => hK _ _ he)
  | halt x w' => cases x <;> simp only [Oper.upon] at h ⊢ <;> exact h
/-- a load whose value is known in every world of the class -/
theorem wpQuiet_loadV {Lq : Act → Prop} {a : Act} {o : Oper} {rest : List Oper} {ty : TypeId} {p v : Value} (hw : Region.wanted o (yielded ops a.tmps) = true) (x : Operand) (ho : o.op = .load ty x) (hx : a.eval x = p)
    (hl : ∀ w, S w → (Instr.loadAt ty p).run P w = .ok v w) (h : wpQuiet P ops S Lq rest (a.put o.dst v)) : wpQuiet P ops S Lq (o :: rest) a := by
  refine wpQuiet_step fun K hK => ?_
  rw [if_pos hw]
  refine ⟨v, fun w hw' => ?_, hK _ h⟩
  unfold Oper.quietAt execOp
  simp only [ho, hx, Sem.run_bind, hl w hw', Result.andThen_ok, Sem.run_pure]
  exact ⟨rfl, rfl⟩
def mixS (P : Program) (ops : Array Oper) (S : World → Prop) (Q : Exit → Act → World → Prop) (last : List Oper) : List (List Oper × List Oper) → Act → World → Prop
  | [], a, w => wpQuiet P ops S (fun a' => Q .normal a' w) last a
  | (F, G) :: r, a, w => wpQuiet P ops S (fun a' => wpList P ops (MixQ S (mixS P ops S Q last r) Q) G a' w) F a
def mixB (md : Region.Mode) (ops : Array Oper) (last : List Nat) : List (List Nat × Nat) → Array Bool → Bool
  | [], L => floatsB md ops last L && (Region.ready md ops (listedL last L)).isEmpty
  | (F, k) :: r, L => floatsB md ops F L && decide (Region.ready md ops (listedL F L) = [k]) && mixB md ops last r ((listedL F L).setIfInBounds k true)
def fuelS (last : List Nat) : List (List Nat × Nat) → Nat
  | [] => last.length
  | (F, _) :: r => fuelS last r + 1 + F.length
theorem anyH_mix {l : List Oper} (hsel : Region.noSelect l.toArray = true) (hQ : ∀ c a w d v, Q (.panic c) (a.put d v) w → Q (.panic c) a w) (last : List Nat) :
    ∀ (σ : List (List Nat × Nat)) (listed : Array Bool) (a : Act) (w : World), S w → mixB md l.toArray last σ listed = true →
      mixS P l.toArray S Q (pickL l last) (σ.map fun s => (pickL l s.1, pickL l [s.2])) a w → wpAnyH P md l.toArray Q S (fuelS last σ) listed a w
  | [], listed, a, w, hS, hB, h => by
    simp only [mixB, Bool.and_eq_true, List.isEmpty_iff] at hB
    have := anyH_floats (f := 0) hsel hQ hS last listed a hB.1 h (fun a' h' => ⟨hB.2, h'⟩)
    rwa [Nat.zero_add] at this
  | (F, k) :: r, listed, a, w, hS, hB, h => by
    simp only [mixB, Bool.and_eq_true, decide_eq_true_eq] at hB
    obtain ⟨⟨hF, hk⟩, hB'⟩ := hB
    refine anyH_floats (f := fuelS last r + 1) hsel hQ hS F listed a hF h (fun a' h' => ?_)
    refine wpAnyH_all hk (by simp) (fun i hi => ?_)
    rw [List.mem_singleton] at hi
    subst hi
    unfold wpOp
    cases ho : l.toArray[i]? with
    | none =>
      have : i ∈ Region.ready md l.toArray (listedL F listed) := by rw [hk]; simp
      obtain ⟨_, oi, hoi, _⟩ := mem_ready.1 this
      rw [ho] at hoi; cases hoi
    | some o =>
      have hl : l[i]? = some o := by simpa using ho
      have : pickL l [i] = [o] := by simp [pickL, hl]
      rw [this] at h'
      simp only [wpList] at h'
      simp only
      have go : ∀ a2 w2, MixQ S (mixS P l.toArray S Q (pickL l last) (r.map fun s => (pickL l s.1, pickL l [s.2]))) Q .normal a2 w2 →
          S w2 ∧ wpAnyH P md l.toArray Q S (fuelS last r) ((listedL F listed).setIfInBounds i true) a2 w2 := fun a2 w2 h2 => ⟨h2.1, anyH_mix hsel hQ last r _ _ _ h2.1 hB' h2.2⟩
      split at h'
      · rename_i hw
        rw [if_pos hw]
        rcases h' with h' | ⟨h1, h2⟩
        · exact .inl (wp_mix go h')
        · exact .inr ⟨h1, letsOut_mix h2⟩
      · rename_i hw
        rw [if_neg hw]
        exact go _ _ h'
/-- THE LAW -/
theorem wp_region_mix {id : Nat} {a : Act} {w : World} {l : List Oper} (S : World → Prop) (σ : List (List Nat × Nat)) (last : List Nat) (hm : P.follows .mixedOrders = true) (hsel : Region.noSelect l.toArray = true)
    (hn : fuelS last σ = l.length) (hB : mixB .any l.toArray last σ (Array.replicate l.length false) = true)
    (hS : S { w with drawn := w.drawn + 1 }) (h : mixS P l.toArray S (NoPanic Q) (pickL l last) (σ.map fun s => (pickL l s.1, pickL l [s.2])) a { w with drawn := w.drawn + 1 }) : (Code.region id l.toArray true).wp P Q a w := by
  refine wp_region_noPanic (wp_region_held (S := S) hm ?_)
  have := anyH_mix hsel (fun _ _ _ _ _ h => h) last σ (Array.replicate l.length false) a _ hS hB h
  rw [hn] at this
  simpa using this
/-- at the class 'as w was below block N' -/
theorem wp_region_mix_below {id : Nat} {a : Act} {w : World} {l : List Oper} (N : Nat) (σ : List (List Nat × Nat)) (last : List Nat) (hm : P.follows .mixedOrders = true) (hsel : Region.noSelect l.toArray = true)
    (hn : fuelS last σ = l.length) (hB : mixB .any l.toArray last σ (Array.replicate l.length false) = true)
    (h : mixS P l.toArray (fun w' => ∃ r : BW N w, w' = r.world) (NoPanic Q) (pickL l last) (σ.map fun s => (pickL l s.1, pickL l [s.2])) a w.drew) : (Code.region id l.toArray true).wp P Q a w :=
  wp_region_mix (fun w' => ∃ r : BW N w, w' = r.world) σ last hm hsel hn hB ⟨BW.mk' (Below.drew (Below.refl _ _)), rfl⟩ h
theorem MixQ.below {N : Nat} {w0 : World} {next : Act → World → Prop} {a : Act} {w : World} (h : Below N w0 w) (k : next a w) : MixQ (fun w' => ∃ r : BW N w0, w' = r.world) next Q .normal a w := ⟨⟨BW.mk' h, rfl⟩, k⟩
/-- a class of worlds by what holds in each -/
def CW (S : World → Prop) : Type := { w : World // S w }
def CW.world {S : World → Prop} (r : CW S) : World := r.1
theorem CW.holds {S : World → Prop} (r : CW S) : S r.world := r.2
def CW.mk' {S : World → Prop} {w : World} (h : S w) : CW S := ⟨w, h⟩
theorem CW.inh {S : World → Prop} {w : World} (h : S w) : Nonempty (CW S) := ⟨⟨w, h⟩⟩
theorem wp_region_mix_class {id : Nat} {a : Act} {w : World} {l : List Oper} (S : World → Prop) (σ : List (List Nat × Nat)) (last : List Nat) (hm : P.follows .mixedOrders = true) (hsel : Region.noSelect l.toArray = true)
    (hn : fuelS last σ = l.length) (hB : mixB .any l.toArray last σ (Array.replicate l.length false) = true) (hS : S w.drew)
    (h : mixS P l.toArray (fun w' => ∃ r : CW S, w' = r.world) (NoPanic Q) (pickL l last) (σ.map fun s => (pickL l s.1, pickL l [s.2])) a w.drew) : (Code.region id l.toArray true).wp P Q a w :=
  wp_region_mix (fun w' => ∃ r : CW S, w' = r.world) σ last hm hsel hn hB ⟨CW.mk' hS, rfl⟩ h
theorem MixQ.class {S : World → Prop} {next : Act → World → Prop} {a : Act} {w : World} (h : S w) (k : next a w) : MixQ (fun w' => ∃ r : CW S, w' = r.world) next Q .normal a w := ⟨⟨CW.mk' h, rfl⟩, k⟩
theorem mixS_cons {last F G : List Oper} {r : List (List Oper × List Oper)} {a : Act} {w : World} (h : wpQuiet P ops S (fun a' => wpList P ops (MixQ S (mixS P ops S Q last r) Q) G a' w) F a) : mixS P ops S Q last ((F, G) :: r) a w := h
theorem mixS_nil {last : List Oper} {a : Act} {w : World} (h : wpQuiet P ops S (fun a' => Q .normal a' w) last a) : mixS P ops S Q last [] a w := h
end
end Go.Proofs.Ythknncdhjicklaa
