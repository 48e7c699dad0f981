/- Contracts: vneg.Take and the reference's Take, of any bytes. Conditions: as each theorem states them. -/
import Derived.Test.YtakmaocfcmdpmaaV18
namespace Go.Proofs.Ytakmaocfcmdpmaa
open Go.RowKit
def tkD (b : List Int) : List Int := match tk b with | none => [] | some (d, _) => dstL b d
def tkS (b : List Int) : List Int := match tk b with | none => [] | some (d, s) => srcL b d s
def tkV (b : List Int) : List Int := match tk b with | none => [] | some (d, s) => versL ((b.length - (7 + d + s)) / 4) (b.drop (7 + d + s))
def tkE (b : List Int) : Int := match tk b with | none => 2 | some _ => 0
def TakeAll (b : List Int) (w : World) (e : Ending) (w' : World) : Prop :=
  ∃ A2 n2 c2 A3 n3 c3 A4 n4 c4, e = .returned (.tuple #[.agg #[.slice A2 n2 c2, .slice A3 n3 c3, .slice A4 n4 c4], .int .i64 (tkE b)]) ∧
    Own w.heap.size 5 .u8 w' A2 n2 c2 (tkD b) ∧ Own w.heap.size 5 .u8 w' A3 n3 c3 (tkS b) ∧ Own w.heap.size 23 .u32 w' A4 n4 c4 (tkV b) ∧ Below w.heap.size w w'
theorem take_all (A : Option Addr) (n c : Nat) (b : List Int) (w : World) (hn : n = b.length) (hr : Rd w.heap.size .u8 w A b) (hb : Byt b) (hl : b.length ≤ 1099511627776) (hc : n ≤ c) :
    Calls Try.prog 19 #[.slice A n c] w (TakeAll b w) := by
  subst hn
  unfold TakeAll tkD tkS tkV tkE
  rcases ht : tk b with _ | ⟨d, s⟩
  · refine (take_no A c b w hr hb hl hc ht).mono fun e w' ⟨h1, h2⟩ => ?_
    subst h1
    exact ⟨none, 0, 0, none, 0, 0, none, 0, 0, rfl, Own.nil _ _ _ _, Own.nil _ _ _ _, Own.nil _ _ _ _, h2⟩
  · exact take_yes A c b d s w hr hb hl hc ht
def RTakeAll (b : List Int) (w : World) (e : Ending) (w' : World) : Prop :=
  ∃ A2 n2 c2 A3 n3 c3 A4 n4 c4, e = .returned (.tuple #[.slice A2 n2 c2, .slice A3 n3 c3, .slice A4 n4 c4, .bool (tk b).isSome]) ∧ Rd w.heap.size .u8 w' A2 (tkD b) ∧ n2 = (tkD b).length ∧ Rd w.heap.size .u8 w' A3 (tkS b) ∧ n3 = (tkS b).length ∧
    Own w.heap.size 23 .u32 w' A4 n4 c4 (tkV b) ∧ Below w.heap.size w w'
theorem rtake_all (A : Option Addr) (c : Nat) (b : List Int) (w : World) (hr : Rd w.heap.size .u8 w A b) (hb : Byt b) (hl : b.length ≤ 1099511627776) (hc : b.length ≤ c) :
    Calls Try.prog 20 #[.slice A b.length c] w (RTakeAll b w) := by
  unfold RTakeAll tkD tkS tkV
  rcases ht : tk b with _ | ⟨d, s⟩
  · refine (rtake_no A c b w hr hb hl hc ht).mono fun e w' ⟨h1, h2⟩ => ?_
    subst h1
    exact ⟨none, 0, 0, none, 0, 0, none, 0, 0, rfl, Rd.nil, rfl, Rd.nil, rfl, Own.nil _ _ _ _, h2⟩
  · refine (rtake_yes A c b d s w hr hb hl hc ht).mono fun e w' h => ?_
    obtain ⟨A2, c2, A3, c3, A4, n4, c4, rfl, h1, h2, h3, h4, h5, h6⟩ := h
    exact ⟨A2, d, c2, A3, s, c3, A4, n4, c4, rfl, h1, h2.symm, h3, h4.symm, h5, h6⟩
theorem tk_bounds {b : List Int} (hb : Byt b) (hl : b.length ≤ 900) : (tkD b).length ≤ 255 ∧ (tkS b).length ≤ 255 ∧ (tkV b).length ≤ 900 ∧ tkE b = (if (tk b).isSome then 0 else 2) := by
  unfold tkD tkS tkV tkE
  rcases ht : tk b with _ | ⟨d, s⟩
  · exact ⟨by simp, by simp, by simp, rfl⟩
  · have hsp : spl b = some (d, s) := by
      unfold tk at ht
      rcases hsp : spl b with _ | ⟨d', s'⟩
      · rw [hsp] at ht; cases ht
      · rw [hsp] at ht
        simp only at ht
        split at ht
        · injection ht with h2; injection h2 with h3 h4; subst h3; subst h4; rfl
        · cases ht
    obtain ⟨h1, h2, h3, h4, h5⟩ := spl_facts hb hsp
    refine ⟨by simp only []; omega, by simp only []; omega, ?_, rfl⟩
    simp only [versL, List.length_map, List.length_finRange]
    omega
theorem conv_ln {P : Program} {t e : TypeId} {bytes B : Nat} {w : World} {A : Option Addr} {xs : List Int} (E : ElT P t e .u8 bytes) {s : TypeId} (hs : P.underlying s = some .string) (hr : Rd B .u8 w A xs) (n c : Nat) (hn : n = xs.length) :
    (convert t s (.slice A n c)).run P w = .ok (.string (strOfNums xs)) w := by subst hn; exact conv_rd E hs hr c
theorem equal32_n (A A2 : Option Addr) (n n2 c c2 : Nat) (xs : List Int) (w : World) (hn : n = xs.length) (hn2 : n2 = xs.length) (hr : Rd w.heap.size .u32 w A xs) (hr2 : Rd w.heap.size .u32 w A2 xs) (hl : xs.length ≤ 1099511627776) :
    Calls Try.prog 21 #[.slice A n c, .slice A2 n2 c2] w fun e w' => e = .returned (.bool true) ∧ ∃ n, w' = w.drewN n := by
  subst hn; subst hn2
  have h := equal32_any A A2 c c2 xs xs w hr hr2 hl hl
  rw [decide_eq_true rfl] at h
  exact h
end Go.Proofs.Ytakmaocfcmdpmaa
