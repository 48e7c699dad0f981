/- clear, of a slice of the call's own. Conditions: as each theorem states them. -/
import Derived.Test.YtlefnddhmpgijaaB2
import Derived.Lib.SliceRun
namespace Go.Proofs.Ytlefnddhmpgijaa
open Go.RowKit
theorem grown_setCells (g : Nat) : ∀ (l : List Value) (o : Nat) (a w : World), a.grownBy w (some g) → a.grownBy (w.setCells g o l) (some g)
  | [], _, _, _, h => h
  | v :: r, o, a, _, h => grown_setCells g r (o + 1) a _ (only_setCell (p := ⟨g, o, none⟩) h (.inl rfl) v)
theorem clear_own {P : Program} {t e : TypeId} {k : IntKind} {bytes B : Nat} (E : ElT P t e k bytes) {w : World} {A : Option Addr} {n c : Nat} {xs : List Int} (ho : Own B e k w A n c xs) :
    ∃ w', (∀ ty, (Builtin.clear_ #[t] ty #[.slice A n c]).run P w = .ok (.tuple #[]) w') ∧ w.grownBy w' (ablk A) := by
  obtain ⟨i, hi, hz, hs, hby⟩ := info_parts E.info
  have hv : ∀ w, (zeroValue e).run P w = .ok (.int k 0) w := fun w => by simp [zeroValue, typeInfo, hi, hz]
  rcases Nat.eq_zero_or_pos n with hn | hn
  · subst hn
    refine ⟨w, fun ty => ?_, World.grownBy.refl _ _⟩
    rcases A with _ | ad <;> simp [Builtin.clear_, run_underlying E.ht]
  · have hlen := ho.len
    obtain ⟨g, rfl⟩ : ∃ g, A = some ⟨g, 0, none⟩ := by
      rcases ho.1.2 with ⟨h1, h2⟩ | ⟨g, _, _, h1, _⟩
      · omega
      · injection h1 with h1; exact ⟨g, h1⟩
    refine ⟨_, fun ty => Lib.run_clear_slice w t e ty (.int k 0) E.ht hv rfl rfl g 0 n c hn (fun j hj => ?_) (fun j _ => ?_), grown_setCells g _ _ _ _ (World.grownBy.refl _ _)⟩
    · rw [Nat.zero_add, ho.cell0 (by omega)]; rfl
    · exact ho.frozen _
end Go.Proofs.Ytlefnddhmpgijaa
