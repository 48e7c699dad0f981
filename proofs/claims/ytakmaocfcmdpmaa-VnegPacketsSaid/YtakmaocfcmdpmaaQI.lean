/- A region that draws its order, in a round of a range over a function: the law of mixO there. Conditions: as each theorem states them. -/
import Derived.Test.YtakmaocfcmdpmaaQO
import Derived.RangeFuncNested
import Derived.RangeFuncBound
import Derived.RangeFuncCalls
import Derived.RangeFuncLeaves
import Derived.Shelf.Abstract
import Derived.Shelf.RegionOpen
import Derived.WalkKit
import Derived.OwnWalkIn
import Derived.TacticsInMore
import Derived.LoopNIn
import Derived.LoopIn
namespace Go.Proofs.Ytakmaocfcmdpmaa
open Go.RowKit Go.Shelf

def noDefer (o : Oper) : Bool := match o.op with | .defer _ => false | _ => true
section
variable {P : Program} {ops : Array Oper} {Q : Exit → Act → World → Prop} {n r : Nat}
theorem rowsIn_round {row : String} {args : Array Value} {w : World} {R : Value → World → Prop} (h : Rows P row args w R) : RowsIn (Fence.wide.inRound r) n P row args w R := by
  intro c cs _
  obtain ⟨v, w', hr, hs⟩ := h c cs
  refine ⟨v, w', hr, ?_⟩
  rw [fenced_inRound]
  exact stepsIn_wide.2 hs
theorem uponIn_round {o : Oper} {a : Act} {K : Act → World → Prop} : ∀ (x : Result Next), o.upon P a K Q x → o.uponIn (Fence.wide.inRound r) n P a K Q x := by
  intro x h
  cases x with
  | ok nx w' =>
    cases nx <;> simp only [Oper.upon, Oper.uponIn] at h ⊢
    case value v => exact h
    case skip => exact h
    case defer d => exact h
    case enter f args =>
      refine ⟨fun h => by simp [Fence.wide] at h, (callsIn_wide.2 (Calls.mono h fun e w'' he => ?_)).inRound r⟩
      cases e <;> exact he
    case row row args => exact ⟨fun h => by simp [Fence.wide] at h, rowsIn_round h⟩
  | halt y w' => cases y <;> simp only [Oper.upon, Oper.uponIn] at h ⊢ <;> exact h
theorem wpOpsIn_of_wpOps (hd : ops.all noDefer = true) (hQ : ∀ a w, ¬ Q .outgrown a w) : ∀ (l : List Nat) (a : Act) (w : World), wpOps P ops Q l a w → wpOpsIn (Fence.wide.inRound r) n P ops Q l a w
  | [], a, w, h => h
  | i :: rest, a, w, h => by
    simp only [wpOps] at h
    simp only [wpOpsIn]
    cases ho : ops[i]? with
    | none =>
      simp only [ho] at h ⊢
      exact wpOpsIn_of_wpOps hd hQ rest a w h
    | some o =>
      simp only [ho] at h ⊢
      split at h
      · rename_i hw
        rw [if_pos hw]
        have h := h.resolve_right (fun ⟨_, a, w, h⟩ => hQ a w h)
        have hn : ∀ c, o.op ≠ .defer c := by
          intro c hc
          have h1 := Array.all_eq_true'.1 hd o (Array.mem_of_getElem? ho)
          unfold noDefer at h1
          rw [hc] at h1
          cases h1
        refine ⟨fun _ _ => trivial, ?_⟩
        rw [Oper.semAt_eq _ _ _ hn]
        refine uponIn_round _ ?_
        exact Oper.wp_mono (fun a w h => wpOpsIn_of_wpOps hd hQ rest a w h) h
      · rename_i hw
        rw [if_neg hw]
        exact ⟨fun _ _ => trivial, wpOpsIn_of_wpOps hd hQ rest _ w h⟩
/-- THE LAW of mixO, in a round -/
theorem wpIn_region_mixO {id : Nat} {a : Act} {w : World} {l : List Oper} (S : World → Prop) (σ : List (List Nat × Nat)) (hm : P.follows .mixedOrders = true) (hsel : Region.noSelect l.toArray = true)
    (hn : fuelS [] σ = l.length) (hB : mixB .any l.toArray [] σ (Array.replicate l.length false) = true) (hE : endB .any l.toArray σ = true) (hd : l.toArray.all noDefer = true) (hS : S w.drew)
    (hQ : ∀ a w, ¬ Q .outgrown a w) (hP : ∀ c a w, ¬ Q (.panic c) a w)
    (h : mixO P l.toArray Q (pickL l []) (σ.map fun s => (pickL l s.1, pickL l [s.2])) S a w.drew) : (Code.region id l.toArray true).wpIn (Fence.wide.inRound r) n P Q a w := by
  refine wpIn_region_draw fun t => ?_
  simp only [Region.schedule, hm, Bool.true_or, if_true]
  refine wpOpsIn_of_wpOps hd hQ _ _ _ ?_
  refine wpAny_sound l.toArray.size t _ a _ (wpAny_of_O _ S _ _ _ ?_)
  have := anyO_mix hsel (fun c a w d v h => absurd h (hP c _ _)) σ S (Array.replicate l.length false) a _ hS (Shut.none _) hB hE h
  rw [hn] at this
  simpa using this
end
end Go.Proofs.Ytakmaocfcmdpmaa
