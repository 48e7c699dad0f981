/- Contracts (layer 3): the reader of a packet: cid that is none; long. Conditions: as each theorem states them. -/
import Derived.Test.YtlefnddhmpgijaaH5
namespace Go.Proofs.Ytlefnddhmpgijaa
open Go.RowKit
section
variable {N g : Nat} {w : World} {A : Option Addr} {c : Nat} {b : List Int} {at_ : Nat} {bad : Bool}
/-- something is wrong; whatever was read -/
def NoPost (N g : Nat) (A : Option Addr) (c : Nat) (b : List Int) (w : World) (e : Ending) (w' : World) : Prop :=
  ∃ (at_ : Nat) (L : List Int), TkPost N g A c b at_ true L w e w'
set_option maxHeartbeats 2000000 in
theorem cid_no (Hs : SpSt N g w A c b at_ bad) (hx : bad = true ∨ cidL (b.drop at_) = none) :
    Calls Try.prog 49 #[.pointer (some ⟨g, 0, none⟩)] w (NoPost N g A c b w) := by
  have ha := Hs.2.2.2.2.1
  have hby := Hs.2.2.2.2.2.1
  have hld : (b.drop at_).length = b.length - at_ := List.length_drop
  cases hd : b.drop at_ with
  | nil =>
    rw [hd] at hld
    simp only [List.length_nil] at hld
    have HT1 := Lib.hid (take_no Hs 1 (by omega) (by omega))
    clear hld hx hd hby Hs
    go_enter Try.func49, Try.ntmps49
    go_wp2_with fail
    refine HT1.out.mono ?_
    rintro e w1 ⟨A1, n1, c1, rfl, ho1, hs1, hg1⟩
    obtain ⟨d0, d1, d2, f0, f1, f2⟩ := hs1.facts
    have HS1 := Lib.hid hs1
    have HG1 := Lib.hid hg1
    clear hs1 hg1 ho1
    go_wp2_with fail
    go_ret
    exact ⟨at_, [], none, 0, 0, rfl, Own.nil _ _ _ _, HS1.out.setBad _, only_setCell HG1.out (.inl rfl) _⟩
  | cons n r =>
    rw [hd] at hld hx
    have hn := (hby.drop at_) n (by rw [hd]; simp)
    obtain ⟨hn0, hn1⟩ := hn
    simp only [List.length_cons] at hld
    have ht1 := take_yes Hs 1 (by omega)
    rw [hd, show (n :: r).take 1 = [n] from rfl] at ht1
    have HT1 := Lib.hid ht1
    have hln : Hid (b.length - at_ = r.length + 1) := Lib.hid hld.symm
    have ha1 : at_ + 1 ≤ b.length := by omega
    clear ht1 hd Hs hld
    cases bad with
    | true =>
      go_enter Try.func49, Try.ntmps49
      go_wp2_with fail
      refine HT1.out.mono ?_
      rintro e w1 ⟨A1, n1, c1, rfl, ho1, hs1, hg1⟩
      obtain ⟨d0, d1, d2, f0, f1, f2⟩ := hs1.facts
      have HS1 := Lib.hid hs1
      have HG1 := Lib.hid hg1
      clear hs1 hg1 ho1
      go_wp2_with fail
      go_ret
      exact ⟨at_ + 1, [], none, 0, 0, rfl, Own.nil _ _ _ _, HS1.out.setBad _, only_setCell HG1.out (.inl rfl) _⟩
    | false =>
      replace hx := hx.resolve_left (by simp)
      rw [cidL_cons] at hx
      by_cases h20 : 20 < n
      · go_enter Try.func49, Try.ntmps49
        go_wp2_with fail
        refine HT1.out.mono ?_
        rintro e w1 ⟨A1, n1, c1, rfl, ho1, hs1, hg1⟩
        have hl1 : n1 = 1 := ho1.len
        subst hl1
        obtain ⟨g1, hA1, _, _⟩ := ho1.addr (by omega)
        subst hA1
        have e0 := ho1.cell0 (i := 0) (by simp)
        rw [List.getD_cons_zero] at e0
        obtain ⟨d0, d1, d2, f0, f1, f2⟩ := hs1.facts
        have HS1 := Lib.hid hs1
        have HG1 := Lib.hid hg1
        clear hs1 hg1 ho1
        go_wp2_with fail
        go_ret
        exact ⟨at_ + 1, [], none, 0, 0, rfl, Own.nil _ _ _ _, HS1.out.setBad _, only_setCell HG1.out (.inl rfl) _⟩
      · have hlt : (r.length : Int) < n := by
          by_cases h : (r.length : Int) < n
          · exact h
          · rw [if_neg (by omega)] at hx; cases hx
        have h20' : decide (20 < n) = false := by simp; omega
        go_enter Try.func49, Try.ntmps49
        go_wp2_with fail
        refine HT1.out.mono ?_
        rintro e w1 ⟨A1, n1, c1, rfl, ho1, hs1, hg1⟩
        have hl1 : n1 = 1 := ho1.len
        subst hl1
        obtain ⟨g1, hA1, _, _⟩ := ho1.addr (by omega)
        subst hA1
        have e0 := ho1.cell0 (i := 0) (by simp)
        rw [List.getD_cons_zero] at e0
        obtain ⟨d0, d1, d2, f0, f1, f2⟩ := hs1.facts
        have HT2 := Lib.hid (take_no hs1 n (by have := hln.out; omega) (by omega))
        have HG1 := Lib.hid hg1
        clear hs1 hg1 ho1
        have hz1 := HG1.out.size
        go_wp2_with fail
        refine HT2.out.mono ?_
        rintro e w2 ⟨A2, n2, c2, rfl, ho2, hs2, hg2⟩
        have HO2 := Lib.hid (ho2.mono hz1)
        have HS2 := Lib.hid hs2
        have HG2 := Lib.hid (only_trans HG1.out hg2)
        clear ho2 hs2 hg2
        go_wp2_with fail
        go_ret
        exact ⟨at_ + 1, [], A2, n2, c2, rfl, HO2.out, HS2.out, HG2.out⟩
end
end Go.Proofs.Ytlefnddhmpgijaa
