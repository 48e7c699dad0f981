/- Layer 21: a piece of a message is fed. Conditions: as each theorem states them. -/
import Derived.Test.YthknncdhjicklaaH19
namespace Go.Proofs.Ythknncdhjicklaa
open Go.RowKit
/-- a handshake in memory -/
def ShM (g : Nat) (w : World) (p : PS) : Prop := ∃ vp vq v0 v1 vt, ShB g w p vp vq v0 v1 vt
/-- behind a call of Feed: the message was whole, or it waits -/
def FedPost (g : Nat) (w' : World) (e : Ending) (whole : Prop) (L : List (Int × List Int)) (p1 p2 : PS) : Prop :=
  (whole ∧ ∃ v l B, e = .returned (.tuple #[v, .int .i64 0]) ∧ SdR B w' v l ∧ l.map SX.e = L ∧ ShM g w' p1) ∨ (¬ whole ∧ e = .returned (.tuple #[.slice none 0 0, .int .i64 0]) ∧ ShM g w' p2)
theorem FedPost.ret {g : Nat} {w' : World} {e : Ending} {whole : Prop} {L : List (Int × List Int)} {p1 p2 : PS} (h : FedPost g w' e whole L p1 p2) : ∃ v, e = .returned (.tuple #[v, .int .i64 0]) := by
  rcases h with ⟨_, v, _, _, rfl, _⟩ | ⟨_, rfl, _⟩
  · exact ⟨_, rfl⟩
  · exact ⟨_, rfl⟩
theorem getD_tk {l : List Int} {i j : Nat} (h : i < j) : (l.take j).getD i 0 = l.getD i 0 := by
  rw [List.getD_eq_getElem?_getD, List.getD_eq_getElem?_getD, List.getElem?_take, if_pos h]
theorem sizL_take (M : List Int) (j : Nat) : sizL (M.take j) = if j < 4 then 0 else sizL M := by
  unfold sizL
  rw [List.length_take]
  by_cases hj : j < 4
  · rw [if_pos hj, if_pos (by omega)]
  · rw [if_neg hj]
    by_cases hm : M.length < 4
    · rw [if_pos hm, if_pos (by omega)]
    · rw [if_neg hm, if_neg (by omega), getD_tk (by omega), getD_tk (by omega), getD_tk (by omega)]
theorem step_h (g : Nat) (p : PS) (P Y M : List Int) (A : Option Addr) (n c : Nat) (w : World) (h : ShM g w { p with i0 := P }) (hs : p.sv = true) (h0 : p.st = 0) (ho : p.i1 = []) (hr : Rd w.heap.size .u8 w A Y) (hn : Y.length = n) (hb : Byt Y) (hpre : ∃ j, P ++ Y = M.take j) (hsz : sizL M = M.length) (hkd : M.getD 0 0 = 1) (ht : p.tr.length ≤ 100000) (hk1 : 36 ≤ M.length) (hk2 : M.length ≤ 1036) (hp : p.par.length ≤ 1000) :
    Calls Try.prog 7 #[.pointer (some ⟨g, 0, none⟩), .int .u8 0, .slice A n c] w fun e w' => w.grownBy w' (some g) ∧ FedPost g w' e (P ++ Y = M) [(0, msgL 2 p.rnd), (1, PS.hfin { p with i0 := [] } M (M.drop 4))] (PS.hello { p with i0 := [] } M (M.drop 4)) { p with i0 := P ++ Y } := by
  obtain ⟨vp, vq, v0, v1, vt, h⟩ := h
  obtain ⟨j, hj⟩ := hpre
  have hle : (P ++ Y).length ≤ M.length := by rw [hj, List.length_take]; omega
  have hll : P.length + Y.length = (P ++ Y).length := (List.length_append).symm
  refine Calls.mono (feed_h (fun w1 e w' => w1.grownBy w' (some g) ∧ FedPost g w' e (P ++ Y = M) [(0, msgL 2 p.rnd), (1, PS.hfin { p with i0 := [] } M (M.drop 4))] (PS.hello { p with i0 := [] } M (M.drop 4)) { p with i0 := P ++ Y }) g { p with i0 := P } vp vq v0 v1 vt A n c Y w h hs h0 hr hn hb (by omega) (by show P.length ≤ _; omega) ?_ ?_) ?_
  · intro w1 A' n' c' h1 hn'
    obtain ⟨B, d, hv, _⟩ := h1.i1.form
    have hot : ({ p with i0 := P ++ Y } : PS).i1 = [] := ho
    rw [show ({ ({ p with i0 := P } : PS) with i0 := ({ p with i0 := P } : PS).i0 ++ Y } : PS) = { p with i0 := P ++ Y } from rfl] at h1
    rw [show ({ ({ p with i0 := P } : PS) with i0 := ({ p with i0 := P } : PS).i0 ++ Y } : PS).i1 = [] from ho] at hv
    subst hv
    by_cases hw : P ++ Y = M
    · have hn4 : n' = (M.length - 4) + 4 := by rw [hn']; show (P ++ Y).length = _; rw [hw]; omega
      subst hn4
      rw [hw] at h1
      refine Calls.mono (goes_h g { p with i0 := M } vp vq vt A' B c' d (M.length - 4) w1 h1 hs h0 (by omega) (by show sizL M = _; rw [hsz]; omega) hkd ht (by omega) (by omega) hp) ?_
      rintro e w' ⟨v, l, rfl, s1, s2, s3, s4⟩
      obtain ⟨a1, a2, a3, a4, a5, hh⟩ := s3
      exact ⟨s4, .inl ⟨hw, v, l, _, rfl, s1, s2, a1, a2, a3, a4, a5, hh⟩⟩
    · have hlt : (P ++ Y).length < M.length := by
        rcases Nat.lt_or_ge j M.length with q | q
        · rw [hj, List.length_take]; omega
        · exact absurd (by rw [hj, List.take_of_length_le q]) hw
      have hnn : n' = (P ++ Y).length := hn'
      refine Calls.mono (waits_h g { p with i0 := P ++ Y } vp vq vt A' B n' c' d (sizL (P ++ Y)) w1 h1 hs h0 rfl (by omega) ?_) ?_
      · rw [hj, sizL_take, hsz]
        rw [hj] at hnn hlt
        by_cases hj4 : j < 4
        · rw [if_pos hj4]; rw [List.length_take] at hnn; left; omega
        · rw [if_neg hj4]; right; omega
      rintro e w' ⟨rfl, hb2⟩
      exact ⟨only_of_below hb2 _, .inr ⟨hw, rfl, _, _, _, _, _, h1.below hb2⟩⟩
  · rintro w1 e w' ⟨_, h2⟩
    exact h2.ret
  · rintro e w' ⟨w1, g1, g2, h2⟩
    exact ⟨grown_cat_ g1 g2, h2⟩
theorem step_c (g : Nat) (p : PS) (P Y M : List Int) (A : Option Addr) (n c : Nat) (w : World) (h : ShM g w { p with i1 := P }) (hs : p.sv = true) (h0 : p.st = 3) (ho : p.i0 = []) (hr : Rd w.heap.size .u8 w A Y) (hn : Y.length = n) (hb : Byt Y) (hpre : ∃ j, P ++ Y = M.take j) (hM : M.length ≤ 2004) (h4 : 4 ≤ M.length) (hsz : sizL M = M.length) (hkd : M.getD 0 0 = 20) (ht : p.tr.length ≤ 100000) (hbd : M.drop 4 = proL p.c0 p.tr) :
    Calls Try.prog 7 #[.pointer (some ⟨g, 0, none⟩), .int .u8 1, .slice A n c] w fun e w' => w.grownBy w' (some g) ∧ FedPost g w' e (P ++ Y = M) [] ({ p with i1 := [], st := 100 }) { p with i1 := P ++ Y } := by
  obtain ⟨vp, vq, v0, v1, vt, h⟩ := h
  obtain ⟨j, hj⟩ := hpre
  have hle : (P ++ Y).length ≤ M.length := by rw [hj, List.length_take]; omega
  have hll : P.length + Y.length = (P ++ Y).length := (List.length_append).symm
  refine Calls.mono (feed_c (fun w1 e w' => w1.grownBy w' (some g) ∧ FedPost g w' e (P ++ Y = M) [] ({ p with i1 := [], st := 100 }) { p with i1 := P ++ Y }) g { p with i1 := P } vp vq v0 v1 vt A n c Y w h hs h0 hr hn hb (by omega) (by show P.length ≤ _; omega) ?_ ?_) ?_
  · intro w1 A' n' c' h1 hn'
    obtain ⟨B, d, hv, _⟩ := h1.i0.form
    have hot : ({ p with i1 := P ++ Y } : PS).i0 = [] := ho
    rw [show ({ ({ p with i1 := P } : PS) with i1 := ({ p with i1 := P } : PS).i1 ++ Y } : PS) = { p with i1 := P ++ Y } from rfl] at h1
    rw [show ({ ({ p with i1 := P } : PS) with i1 := ({ p with i1 := P } : PS).i1 ++ Y } : PS).i0 = [] from ho] at hv
    subst hv
    by_cases hw : P ++ Y = M
    · have hn4 : n' = (M.length - 4) + 4 := by rw [hn']; show (P ++ Y).length = _; rw [hw]; omega
      subst hn4
      rw [hw] at h1
      refine Calls.mono (goes_c g { p with i1 := M } vp vq vt A' B c' d (M.length - 4) w1 h1 hs h0 (by omega) (by show sizL M = _; rw [hsz]; omega) hkd ht hbd) ?_
      rintro e w' ⟨v, l, rfl, s1, s2, s3, s4⟩
      obtain ⟨a1, a2, a3, a4, a5, hh⟩ := s3
      exact ⟨s4, .inl ⟨hw, v, l, _, rfl, s1, s2, a1, a2, a3, a4, a5, hh⟩⟩
    · have hlt : (P ++ Y).length < M.length := by
        rcases Nat.lt_or_ge j M.length with q | q
        · rw [hj, List.length_take]; omega
        · exact absurd (by rw [hj, List.take_of_length_le q]) hw
      have hnn : n' = (P ++ Y).length := hn'
      refine Calls.mono (waits_c g { p with i1 := P ++ Y } vp vq vt A' B n' c' d (sizL (P ++ Y)) w1 h1 hs h0 rfl (by omega) ?_) ?_
      · rw [hj, sizL_take, hsz]
        rw [hj] at hnn hlt
        by_cases hj4 : j < 4
        · rw [if_pos hj4]; rw [List.length_take] at hnn; left; omega
        · rw [if_neg hj4]; right; omega
      rintro e w' ⟨rfl, hb2⟩
      exact ⟨only_of_below hb2 _, .inr ⟨hw, rfl, _, _, _, _, _, h1.below hb2⟩⟩
  · rintro w1 e w' ⟨_, h2⟩
    exact h2.ret
  · rintro e w' ⟨w1, g1, g2, h2⟩
    exact ⟨grown_cat_ g1 g2, h2⟩
theorem step_a (g : Nat) (p : PS) (P Y M : List Int) (A : Option Addr) (n c : Nat) (w : World) (h : ShM g w { p with i0 := P }) (hs : p.sv = false) (h0 : p.st = 1) (ho : p.i1 = []) (hr : Rd w.heap.size .u8 w A Y) (hn : Y.length = n) (hb : Byt Y) (hpre : ∃ j, P ++ Y = M.take j) (hsz : sizL M = M.length) (hkd : M.getD 0 0 = 2) (ht : p.tr.length ≤ 100000) (hk1 : M.length = 36) :
    Calls Try.prog 7 #[.pointer (some ⟨g, 0, none⟩), .int .u8 0, .slice A n c] w fun e w' => w.grownBy w' (some g) ∧ FedPost g w' e (P ++ Y = M) [] (PS.answer { p with i0 := [] } M (M.drop 4)) { p with i0 := P ++ Y } := by
  obtain ⟨vp, vq, v0, v1, vt, h⟩ := h
  obtain ⟨j, hj⟩ := hpre
  have hle : (P ++ Y).length ≤ M.length := by rw [hj, List.length_take]; omega
  have hll : P.length + Y.length = (P ++ Y).length := (List.length_append).symm
  refine Calls.mono (feed_a (fun w1 e w' => w1.grownBy w' (some g) ∧ FedPost g w' e (P ++ Y = M) [] (PS.answer { p with i0 := [] } M (M.drop 4)) { p with i0 := P ++ Y }) g { p with i0 := P } vp vq v0 v1 vt A n c Y w h hs h0 hr hn hb (by omega) (by show P.length ≤ _; omega) ?_ ?_) ?_
  · intro w1 A' n' c' h1 hn'
    obtain ⟨B, d, hv, _⟩ := h1.i1.form
    have hot : ({ p with i0 := P ++ Y } : PS).i1 = [] := ho
    rw [show ({ ({ p with i0 := P } : PS) with i0 := ({ p with i0 := P } : PS).i0 ++ Y } : PS) = { p with i0 := P ++ Y } from rfl] at h1
    rw [show ({ ({ p with i0 := P } : PS) with i0 := ({ p with i0 := P } : PS).i0 ++ Y } : PS).i1 = [] from ho] at hv
    subst hv
    by_cases hw : P ++ Y = M
    · have hn4 : n' = (M.length - 4) + 4 := by rw [hn']; show (P ++ Y).length = _; rw [hw]; omega
      subst hn4
      rw [hw] at h1
      refine Calls.mono (goes_a g { p with i0 := M } vp vq vt A' B c' d (M.length - 4) w1 h1 hs h0 (by omega) (by show sizL M = _; rw [hsz]; omega) hkd ht (by omega)) ?_
      rintro e w' ⟨v, l, rfl, s1, s2, s3, s4⟩
      obtain ⟨a1, a2, a3, a4, a5, hh⟩ := s3
      exact ⟨s4, .inl ⟨hw, v, l, _, rfl, s1, s2, a1, a2, a3, a4, a5, hh⟩⟩
    · have hlt : (P ++ Y).length < M.length := by
        rcases Nat.lt_or_ge j M.length with q | q
        · rw [hj, List.length_take]; omega
        · exact absurd (by rw [hj, List.take_of_length_le q]) hw
      have hnn : n' = (P ++ Y).length := hn'
      refine Calls.mono (waits_a g { p with i0 := P ++ Y } vp vq vt A' B n' c' d (sizL (P ++ Y)) w1 h1 hs h0 rfl (by omega) ?_) ?_
      · rw [hj, sizL_take, hsz]
        rw [hj] at hnn hlt
        by_cases hj4 : j < 4
        · rw [if_pos hj4]; rw [List.length_take] at hnn; left; omega
        · rw [if_neg hj4]; right; omega
      rintro e w' ⟨rfl, hb2⟩
      exact ⟨only_of_below hb2 _, .inr ⟨hw, rfl, _, _, _, _, _, h1.below hb2⟩⟩
  · rintro w1 e w' ⟨_, h2⟩
    exact h2.ret
  · rintro e w' ⟨w1, g1, g2, h2⟩
    exact ⟨grown_cat_ g1 g2, h2⟩
theorem step_f (g : Nat) (p : PS) (P Y M : List Int) (A : Option Addr) (n c : Nat) (w : World) (h : ShM g w { p with i1 := P }) (hs : p.sv = false) (h0 : p.st = 2) (ho : p.i0 = []) (hr : Rd w.heap.size .u8 w A Y) (hn : Y.length = n) (hb : Byt Y) (hpre : ∃ j, P ++ Y = M.take j) (hM : M.length ≤ 2004) (h4 : 4 ≤ M.length) (hsz : sizL M = M.length) (hkd : M.getD 0 0 = 20) (ht : p.tr.length ≤ 100000) (X : List Int) (hX : X.length ≤ 1000) (hbX : Byt X) (hbd : M.drop 4 = X ++ proL p.a0 (p.tr ++ X)) :
    Calls Try.prog 7 #[.pointer (some ⟨g, 0, none⟩), .int .u8 1, .slice A n c] w fun e w' => w.grownBy w' (some g) ∧ FedPost g w' e (P ++ Y = M) [(1, msgL 20 (proL p.c0 (p.tr ++ M)))] (PS.finish { p with i1 := [] } M X) { p with i1 := P ++ Y } := by
  obtain ⟨vp, vq, v0, v1, vt, h⟩ := h
  obtain ⟨j, hj⟩ := hpre
  have hle : (P ++ Y).length ≤ M.length := by rw [hj, List.length_take]; omega
  have hll : P.length + Y.length = (P ++ Y).length := (List.length_append).symm
  refine Calls.mono (feed_f (fun w1 e w' => w1.grownBy w' (some g) ∧ FedPost g w' e (P ++ Y = M) [(1, msgL 20 (proL p.c0 (p.tr ++ M)))] (PS.finish { p with i1 := [] } M X) { p with i1 := P ++ Y }) g { p with i1 := P } vp vq v0 v1 vt A n c Y w h hs h0 hr hn hb (by omega) (by show P.length ≤ _; omega) ?_ ?_) ?_
  · intro w1 A' n' c' h1 hn'
    obtain ⟨B, d, hv, _⟩ := h1.i0.form
    have hot : ({ p with i1 := P ++ Y } : PS).i0 = [] := ho
    rw [show ({ ({ p with i1 := P } : PS) with i1 := ({ p with i1 := P } : PS).i1 ++ Y } : PS) = { p with i1 := P ++ Y } from rfl] at h1
    rw [show ({ ({ p with i1 := P } : PS) with i1 := ({ p with i1 := P } : PS).i1 ++ Y } : PS).i0 = [] from ho] at hv
    subst hv
    by_cases hw : P ++ Y = M
    · have hn4 : n' = (M.length - 4) + 4 := by rw [hn']; show (P ++ Y).length = _; rw [hw]; omega
      subst hn4
      rw [hw] at h1
      refine Calls.mono (goes_f g { p with i1 := M } vp vq vt A' B c' d (M.length - 4) w1 h1 hs h0 (by omega) (by show sizL M = _; rw [hsz]; omega) hkd ht X hX hbX hbd) ?_
      rintro e w' ⟨v, l, rfl, s1, s2, s3, s4⟩
      obtain ⟨a1, a2, a3, a4, a5, hh⟩ := s3
      exact ⟨s4, .inl ⟨hw, v, l, _, rfl, s1, s2, a1, a2, a3, a4, a5, hh⟩⟩
    · have hlt : (P ++ Y).length < M.length := by
        rcases Nat.lt_or_ge j M.length with q | q
        · rw [hj, List.length_take]; omega
        · exact absurd (by rw [hj, List.take_of_length_le q]) hw
      have hnn : n' = (P ++ Y).length := hn'
      refine Calls.mono (waits_f g { p with i1 := P ++ Y } vp vq vt A' B n' c' d (sizL (P ++ Y)) w1 h1 hs h0 rfl (by omega) ?_) ?_
      · rw [hj, sizL_take, hsz]
        rw [hj] at hnn hlt
        by_cases hj4 : j < 4
        · rw [if_pos hj4]; rw [List.length_take] at hnn; left; omega
        · rw [if_neg hj4]; right; omega
      rintro e w' ⟨rfl, hb2⟩
      exact ⟨only_of_below hb2 _, .inr ⟨hw, rfl, _, _, _, _, _, h1.below hb2⟩⟩
  · rintro w1 e w' ⟨_, h2⟩
    exact h2.ret
  · rintro e w' ⟨w1, g1, g2, h2⟩
    exact ⟨grown_cat_ g1 g2, h2⟩
end Go.Proofs.Ythknncdhjicklaa
