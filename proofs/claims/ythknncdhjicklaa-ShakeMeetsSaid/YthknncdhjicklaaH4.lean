/- Layer 21: contracts of message, size. Conditions: as each theorem states them. -/
import Derived.Test.YthknncdhjicklaaH3
namespace Go.Proofs.Ythknncdhjicklaa
open Go.RowKit
/-- a message's bytes -/
def msgL (k : Int) (b : List Int) : List Int := [k, (b.length : Int) / 65536 % 256, (b.length : Int) / 256 % 256, (b.length : Int) % 256] ++ b
theorem msgL_len (k : Int) (b : List Int) : (msgL k b).length = b.length + 4 := by simp [msgL]
theorem msgL_byt {k : Int} {b : List Int} (hk : 0 ≤ k ∧ k < 256) (hb : Byt b) : Byt (msgL k b) := by
  unfold msgL
  refine Byt.append (fun x hx => ?_) hb
  simp only [List.mem_cons, List.not_mem_nil, or_false] at hx
  rcases hx with rfl | rfl | rfl | rfl <;> omega
attribute [irreducible] msgL
theorem msgL_eq (k : Int) (b : List Int) : msgL k b = [k, (b.length : Int) / 65536 % 256, (b.length : Int) / 256 % 256, (b.length : Int) % 256] ++ b := by unfold msgL; rfl
set_option maxRecDepth 100000 in
set_option maxHeartbeats 2000000 in
theorem message_of (k : Int) (A : Option Addr) (m c : Nat) (X : List Int) (w : World) (h : Calls Try.prog 20 #[.slice A m c, .slice none 0 0] w (SliPost X w)) (hl : X.length ≤ 1000000) :
    Calls Try.prog 14 #[.int .u8 k, .slice A m c] w (RetOwn 5 .u8 (msgL k X) w) := by
  have J := Lib.hid h
  have ME := Lib.hid (msgL_eq k X)
  clear h
  go_enter Try.func14, Try.ntmps14
  go_wp2_with fail
  refine Calls.mono J.out ?_
  clear J
  rintro e w1 ⟨A, n, c1, rfl, hn, hnc, hr1, hb1⟩
  subst hn
  have R1 := Lib.hid hr1
  have B1 := Lib.hid hb1
  clear hr1 hb1
  go_wp2_with (first
    | (at_builtin; refine wpList_app (o := ⟨some 22, _, _, _, _, _⟩) elC rfl _ _ rfl rfl rfl (Own.litAt (xs := [k, (X.length : Int) / 65536, (X.length : Int) / 256 % 256, (X.length : Int) % 256]) rfl rfl rfl (Nat.le_refl _) (by simp [maxLen])) (R1.out.alloc (Nat.le_refl _) _) (by first | rfl | simp) ?_ ?_ ?_; (simp <;> omega); exact Below.size ((Below.refl w1.heap.size w1).alloc (Nat.le_refl _) _); intro A2 n2 c2 w2 h2; have H2 := Lib.hid h2; have B2 := Lib.hid (Below.trans ((Below.refl w1.heap.size w1).alloc (Nat.le_refl _) _) h2.2.2.1); clear h2))
  go_ret
  have e1 : msgL k X = [k, (X.length : Int) / 65536, (X.length : Int) / 256 % 256, (X.length : Int) % 256] ++ X := by
    rw [ME.out, Int.emod_eq_of_lt (by omega) (by omega)]
  exact RetOwn.cast ⟨A2, n2, c2, rfl, H2.out.1.mono B1.out.size, B1.out.trans (B2.out.mono B1.out.size)⟩ e1.symm
theorem message_one (k : Int) (g c : Nat) (t : Tx) (w : World) (hc : w.cell? ⟨g, 0, none⟩ = some (.slice t.A t.xs.length t.c)) (hr : Rd w.heap.size .u8 w t.A t.xs) (hb : Byt t.xs) (h0 : 0 < t.xs.length) (hl : t.xs.length ≤ 1000000) :
    Calls Try.prog 14 #[.int .u8 k, .slice (some ⟨g, 0, none⟩) 1 c] w (RetOwn 5 .u8 (msgL k t.xs) w) :=
  message_of k _ 1 c t.xs w (bjoin_one g c t w hc hr hb h0 (by omega)) hl
theorem message_two (k : Int) (g c : Nat) (t u : Tx) (w : World) (hc2 : 2 ≤ c) (hc : w.cell? ⟨g, 0, none⟩ = some (.slice t.A t.xs.length t.c)) (hd : w.cell? ⟨g, 1, none⟩ = some (.slice u.A u.xs.length u.c)) (hr : Rd w.heap.size .u8 w t.A t.xs) (hs : Rd w.heap.size .u8 w u.A u.xs) (hb : Byt t.xs) (hbu : Byt u.xs) (hl : t.xs.length ≤ 500000) (hlu : u.xs.length ≤ 500000) :
    Calls Try.prog 14 #[.int .u8 k, .slice (some ⟨g, 0, none⟩) 2 c] w (RetOwn 5 .u8 (msgL k (t.xs ++ u.xs)) w) :=
  message_of k _ 2 c _ w (bjoin_two g c t u w hc2 hc hd hr hs hb hbu (by omega) (by omega)) (by simp; omega)
/-- what a message's first bytes tell of its size -/
def sizL (b : List Int) : Int := if b.length < 4 then 0 else 4 + b.getD 1 0 * 65536 + b.getD 2 0 * 256 + b.getD 3 0
theorem size_any (A : Option Addr) (c n : Nat) (b : List Int) (w : World) (hr : Rd w.heap.size .u8 w A b) (hb : Byt b) (hn : b.length = n) (hl : n ≤ 1000000) :
    Calls Try.prog 19 #[.slice A n c] w fun e w' => e = .returned (.int .i64 (sizL b)) ∧ ∃ k, w' = w.drewN k := by
  by_cases h4 : n < 4
  · have HS : Hid (sizL b = 0) := Lib.hid (by unfold sizL; rw [if_pos (by omega)])
    go_enter Try.func19, Try.ntmps19
    go_wp2_with fail
    go_ret
    rw [HS.out]
    exact ⟨rfl, 0, rfl⟩
  · obtain ⟨ad, rfl, _, _⟩ := hr 0 (by omega)
    have q1 := hr.atN 1 (by omega) (by decide)
    have q2 := hr.atN 2 (by omega) (by decide)
    have q3 := hr.atN 3 (by omega) (by decide)
    have h1 := hb.getD 1
    have h2 := hb.getD 2
    have h3 := hb.getD 3
    have HS : Hid (sizL b = 4 + b.getD 1 0 * 65536 + b.getD 2 0 * 256 + b.getD 3 0) := Lib.hid (by unfold sizL; rw [if_neg (by omega)])
    generalize b.getD 1 0 = x1 at *
    generalize b.getD 2 0 = x2 at *
    generalize b.getD 3 0 = x3 at *
    clear hr hb hn
    go_enter Try.func19, Try.ntmps19
    go_wp2_with fail
    go_region
    go_wp2_with fail
    go_ret
    rw [HS.out]
    refine ⟨?_, 1, rfl⟩
    congr 2
end Go.Proofs.Ythknncdhjicklaa
