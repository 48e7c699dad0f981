/- Contracts (layer 3): the reader of a packet: some, number, take, cid, length. Conditions: as each theorem states them. -/
import Derived.Test.YtlefnddhmpgijaaH4
namespace Go.Proofs.Ytlefnddhmpgijaa
open Go.RowKit
theorem slice_lhm {P : Program} {t e : TypeId} {k : IntKind} {bytes B : Nat} {w : World} {A : Option Addr} {xs : List Int} {c : Nat} (E : ElT P t e k bytes) (hr : Rd B k w A xs) (hc : xs.length ≤ c) (l h : Int) (m : Nat) (h0 : 0 ≤ l) (h1 : l ≤ h) (h2 : h ≤ xs.length) (hm : (m : Int) = h - l) :
    ∃ A', Rd B k w A' ((xs.drop l.toNat).take m) ∧ ((xs.drop l.toNat).take m).length = m ∧
      ∀ (w : World) (kl kh km : IntKind), (Instr.sliceAt t (.slice A xs.length c) (some (.int kl l)) (some (.int kh h)) (some (.int km h))).run P w = .ok (.slice A' m m) w := by
  refine ⟨if h.toNat = l.toNat then A else A.map (·.add (l.toNat * 1)), ?_, by simp; omega, fun w kl kh km => ?_⟩
  · by_cases g : h.toNat = l.toNat
    · have : m = 0 := by omega
      subst this
      simp only [List.take_zero]
      exact Rd.nil
    · rw [if_neg g]
      have := hr.cut l.toNat m (xs.length + l.toNat + 1) (by omega) (by omega)
      rwa [if_neg (by omega)] at this
  · rw [run_sliceAt_slice _ _ _ _ _ _ (by rw [E.elem]; exact E.ht), run_slice_lhm _ _ _ _ _ (by rw [E.elem]; exact E.ht) kl kh km l h h h0 h1 (by omega) (by omega), E.elem, E.size]
    simp [Result.andThen, sliced, show h.toNat - l.toNat = m by omega]
/-- the reader in block g: the bytes b, how far they were read, is something wrong -/
def SpSt (N g : Nat) (w : World) (A : Option Addr) (c : Nat) (b : List Int) (at_ : Nat) (bad : Bool) : Prop := Blk w g 92 #[.slice A b.length c, .int .i64 at_, .bool bad] ∧ Rd N .u8 w A b ∧ b.length ≤ c ∧ b.length ≤ 1000000000000 ∧ at_ ≤ b.length ∧ Byt b ∧ N ≤ g
section
variable {N g : Nat} {w w' : World} {A : Option Addr} {c : Nat} {b : List Int} {at_ : Nat} {bad : Bool}
theorem SpSt.facts (h : SpSt N g w A c b at_ bad) : w.cell? ⟨g, 0, none⟩ = some (.slice A b.length c) ∧ w.cell? ⟨g, 1, none⟩ = some (.int .i64 at_) ∧ w.cell? ⟨g, 2, none⟩ = some (.bool bad) ∧ w.frozen? ⟨g, 0, none⟩ = false ∧ w.frozen? ⟨g, 1, none⟩ = false ∧ w.frozen? ⟨g, 2, none⟩ = false :=
  ⟨Blk.cell h.1 0, Blk.cell h.1 1, Blk.cell h.1 2, Blk.frozen h.1 0, Blk.frozen h.1 1, Blk.frozen h.1 2⟩
theorem SpSt.lt (h : SpSt N g w A c b at_ bad) : g < w.heap.size := Blk.lt h.1
theorem SpSt.drewN (h : SpSt N g w A c b at_ bad) (n : Nat) : SpSt N g (w.drewN n) A c b at_ bad := ⟨Blk.drewN h.1 n, h.2.1.drewN n, h.2.2⟩
theorem SpSt.below (h : SpSt N g w A c b at_ bad) (hb : Below w.heap.size w w') : SpSt N g w' A c b at_ bad := ⟨Blk.below h.1 hb h.lt, h.2.1.below hb (by have := h.lt; have := h.2.2.2.2.2.2; omega), h.2.2⟩
theorem SpSt.grown {x : Nat} (h : SpSt N g w A c b at_ bad) (hb : w.grownBy w' (some x)) (hx : g ≠ x) (hN : N ≤ x) : SpSt N g w' A c b at_ bad :=
  ⟨Blk.grown h.1 hb (by simp; omega), h.2.1.grown hb (by have := h.lt; have := h.2.2.2.2.2.2; omega) (fun y hy => by injection hy; omega), h.2.2⟩
theorem SpSt.far {p : Addr} (h : SpSt N g w A c b at_ bad) (hp : g ≠ p.block) (hN : N ≤ p.block) (u : Value) : SpSt N g (w.setCell p u) A c b at_ bad :=
  ⟨Blk.far h.1 hp u, h.2.1.setCell hN u, h.2.2⟩
theorem SpSt.le (h : SpSt N g w A c b at_ bad) : N ≤ g := h.2.2.2.2.2.2
theorem SpSt.goTo (h : SpSt N g w A c b at_ bad) {at2 : Nat} {v : Int} (hv : v = at2) (ha : at2 ≤ b.length) : SpSt N g (w.setCell ⟨g, 1, none⟩ (.int .i64 v)) A c b at2 bad :=
  ⟨Blk.cast (Blk.set_ h.1 1 _) (by rw [hv]; simp), h.2.1.setCell h.2.2.2.2.2.2 _, h.2.2.1, h.2.2.2.1, ha, h.2.2.2.2.2⟩
theorem SpSt.setBad (h : SpSt N g w A c b at_ bad) (x : Bool) : SpSt N g (w.setCell ⟨g, 2, none⟩ (.bool x)) A c b at_ x :=
  ⟨Blk.cast (Blk.set_ h.1 2 _) (by simp), h.2.1.setCell h.2.2.2.2.2.2 _, h.2.2⟩
end
theorem only_grown {g : Nat} {w w' : World} (n : Nat) (h : (w.drewN n).grownBy w' (some g)) : w.grownBy w' (some g) := ⟨h.os, h.tape, h.output, h.size, h.block⟩

section
variable {N g : Nat} {w : World} {A : Option Addr} {c : Nat} {b : List Int} {at_ : Nat} {bad : Bool}
set_option maxHeartbeats 1000000 in
theorem some_yes (Hs : SpSt N g w A c b at_ bad) (m : Nat) (hm : at_ + m ≤ b.length) :
    Calls Try.prog 51 #[.pointer (some ⟨g, 0, none⟩), .int .u64 m] w fun e w' => ∃ A', e = .returned (.tuple #[.slice A' m m, .bool true]) ∧ Rd N .u8 w' A' ((b.drop at_).take m) ∧ SpSt N g w' A c b (at_ + m) bad ∧ w.grownBy w' (some g) := by
  obtain ⟨A', hrd, hlm, hrun⟩ := slice_lhm elU8 Hs.2.1 Hs.2.2.1 (at_ : Int) ((at_ : Int) + m) m (by omega) (by omega) (by omega) (by omega)
  rw [Int.toNat_natCast] at hrd hlm
  have HRD := Lib.hid hrd
  obtain ⟨d0, d1, d2, f0, f1, f2⟩ := Hs.facts
  have hl : b.length ≤ 1000000000000 := Hs.2.2.2.1
  have HS := Lib.hid Hs
  clear hrd Hs
  generalize hL : b.length = L at *
  have HL := Lib.hid hL
  clear hL hlm
  go_enter Try.func51, Try.ntmps51
  go_wp2_with fail
  go_quiet (fail)
  obtain ⟨nq1, rfl⟩ : ∃ x : Nat, x = nq := ⟨_, rfl⟩
  go_wp2_with fail
  go_quiet (fail)
  go_wp2_with fail
  go_ret2
  have HS2 := (HS.out.drewN nq1).goTo (v := (at_ : Int) + m) (at2 := at_ + m) (by omega) (by rw [HL.out]; exact hm)
  exact ⟨A', rfl, (((HRD.out.drewN nq1).setCell (p := ⟨g, 1, none⟩) HS.out.le _).drewN nq), HS2.drewN nq, only_drewN (only_setCell (only_drewN (World.grownBy.refl _ _) nq1) (.inl rfl) _) nq⟩
theorem some_no (Hs : SpSt N g w A c b at_ bad) (n : Int) (hn : (b.length : Int) - at_ < n) (_h1 : n < 18446744073709551616) :
    Calls Try.prog 51 #[.pointer (some ⟨g, 0, none⟩), .int .u64 n] w fun e w' => e = .returned (.tuple #[.slice none 0 0, .bool false]) ∧ SpSt N g w' A c b at_ bad ∧ w.grownBy w' (some g) := by
  obtain ⟨d0, d1, d2, f0, f1, f2⟩ := Hs.facts
  have hl : b.length ≤ 1000000000000 := Hs.2.2.2.1
  have ha := Hs.2.2.2.2.1
  have HS := Lib.hid Hs
  clear Hs
  go_enter Try.func51, Try.ntmps51
  go_wp2_with fail
  go_quiet (fail)
  go_wp2_with fail
  go_ret2
  exact ⟨rfl, HS.out.drewN nq, only_drewN (World.grownBy.refl _ _) nq⟩
set_option maxHeartbeats 1000000 in
theorem number_b (Hs : SpSt N g w A c b at_ bad) :
    Calls Try.prog 52 #[.pointer (some ⟨g, 0, none⟩)] w fun e w' => e = .returned (.tuple #[.int .u64 ((vtake (b.drop at_)).elim 0 (·.1)), .bool (vtake (b.drop at_)).isSome]) ∧ SpSt N g w' A c b (at_ + (vtake (b.drop at_)).elim 0 (·.2)) bad ∧ w.grownBy w' (some g) := by
  have ha := Hs.2.2.2.2.1
  obtain ⟨A', c', hc1, hc2, hrd, hlm, hrun⟩ := slice_l elU8 Hs.2.1 Hs.2.2.1 (at_ : Int) (b.length - at_) (by omega) (by omega) (by omega)
  rw [Int.toNat_natCast] at hrd hlm
  obtain ⟨d0, d1, d2, f0, f1, f2⟩ := Hs.facts
  have hl : b.length ≤ 1000000000000 := Hs.2.2.2.1
  have hT := Lib.hid (fun n => vtake_any A' c' (b.drop at_) (w.drewN n) ((hrd.drewN n).mono (by have := Hs.lt; have := Hs.le; simp; omega)) (Hs.2.2.2.2.2.1.drop _) (by rw [hlm]; exact hc1) (by rw [hlm]; omega))
  rw [hlm] at hT
  have hvt : (vtake (b.drop at_)).elim 0 (·.2) ≤ b.length - at_ := by
    cases hv : vtake (b.drop at_) with
    | none => simp
    | some v => have := (vtake_append hv []).2.2; rw [hlm] at this; exact this
  have hvV : vtV (vtake (b.drop at_)) = .tuple #[.int .u64 ((vtake (b.drop at_)).elim 0 (·.1)), .int .i64 ((vtake (b.drop at_)).elim 0 (·.2) : Nat), .bool (vtake (b.drop at_)).isSome] := by
    cases vtake (b.drop at_) <;> rfl
  rw [hvV] at hT
  have HS := Lib.hid Hs
  clear Hs hrd hvV hlm
  generalize (vtake (b.drop at_)).elim (0 : Int) (·.1) = n at *
  generalize (vtake (b.drop at_)).elim (0 : Nat) (·.2) = u at *
  generalize (vtake (b.drop at_)).isSome = ok at *
  generalize hL : b.length = L at *
  have HL := Lib.hid hL
  clear hL
  go_enter Try.func52, Try.ntmps52
  go_wp2_with fail
  go_quiet ((go_at_call 53; exact quiet_left (hT.out _)))
  go_wp2_with fail
  go_ret2
  exact ⟨rfl, (HS.out.drewN nq).goTo (v := (at_ : Int) + u) (at2 := at_ + u) (by omega) (by rw [HL.out]; omega), only_setCell (only_drewN (World.grownBy.refl _ _) nq) (.inl rfl) _⟩

/-- bytes of the reader's own -/
def TkPost (N g : Nat) (A : Option Addr) (c : Nat) (b : List Int) (at_ : Nat) (bad : Bool) (L : List Int) (w : World) (e : Ending) (w' : World) : Prop :=
  ∃ A' n' c', e = .returned (.slice A' n' c') ∧ Own w.heap.size 5 .u8 w' A' n' c' L ∧ SpSt N g w' A c b at_ bad ∧ w.grownBy w' (some g)
theorem below_of_none {w w' : World} (h : w.grownBy w' none) : Below w.heap.size w w' := ⟨h.os, h.tape, h.output, h.size, fun i hi => h.block i hi (by simp)⟩
theorem grown_apd {B g : Nat} {e : TypeId} {k : IntKind} {w0 w w' : World} {A A' : Option Addr} {n' c' : Nat} {zs : List Int} (h : w0.grownBy w (some g)) (ha : Apd B e k w A zs A' n' c' w') (hB : w0.heap.size ≤ B) : w0.grownBy w' (some g) :=
  ⟨ha.2.2.1.os.trans h.os, ha.2.2.1.tape.trans h.tape, ha.2.2.1.output.trans h.output, Nat.le_trans h.size ha.2.2.1.size, fun i hi hne => (ha.2.2.1.block i (by omega)).trans (h.block i hi hne)⟩
set_option maxHeartbeats 1000000 in
theorem take_yes (Hs : SpSt N g w A c b at_ bad) (m : Nat) (hm : at_ + m ≤ b.length) :
    Calls Try.prog 43 #[.pointer (some ⟨g, 0, none⟩), .int .u64 m] w (TkPost N g A c b (at_ + m) bad ((b.drop at_).take m) w) := by
  have HM := Lib.hid (some_yes Hs m hm)
  have hl : b.length ≤ 1000000000000 := Hs.2.2.2.1
  have hlm : ((b.drop at_).take m).length = m := by rw [List.length_take, List.length_drop]; omega
  have hgw := Hs.lt
  go_enter Try.func43, Try.ntmps43
  go_wp2_with fail
  refine HM.out.mono ?_
  rintro e w1 ⟨A', rfl, hrd, hs1, hg1⟩
  have HRD := Lib.hid hrd
  have HS1 := Lib.hid hs1
  have HG1 := Lib.hid hg1
  have HLM := Lib.hid hlm
  obtain ⟨d0, d1, d2, f0, f1, f2⟩ := hs1.facts
  clear hrd hg1 hs1 hlm
  have hz1 := HG1.out.size
  cases bad
  all_goals
    go_wp2_with (at_builtin; refine wpList_app (o := ⟨some 27, _, _, _, _, _⟩) (B := w.heap.size) elU8 rfl _ _ rfl rfl rfl (Own.nil _ _ _ _) (HRD.out.setCell (p := ⟨g, 2, none⟩) HS1.out.le _) HLM.out.symm ?_ ?_ ?_; (rw [HLM.out]; simp <;> omega); (simp <;> omega); intro A5 n5 c5 w5 h5; have H5 := Lib.hid h5; clear h5)
    go_ret
    exact ⟨A5, n5, c5, rfl, Own.cast H5.out.1 (List.nil_append _), (HS1.out.setBad _).below (below_of_none H5.out.2.1), grown_apd (only_setCell HG1.out (.inl rfl) _) H5.out (Nat.le_refl _)⟩
set_option maxHeartbeats 1000000 in
theorem take_no (Hs : SpSt N g w A c b at_ bad) (n : Int) (hn : (b.length : Int) - at_ < n) (h1 : n < 18446744073709551616) :
    Calls Try.prog 43 #[.pointer (some ⟨g, 0, none⟩), .int .u64 n] w (TkPost N g A c b at_ true [] w) := by
  have HM := Lib.hid (some_no Hs n hn h1)
  have hgw := Hs.lt
  have ha := Hs.2.2.2.2.1
  go_enter Try.func43, Try.ntmps43
  go_wp2_with fail
  refine HM.out.mono ?_
  rintro e w1 ⟨rfl, hs1, hg1⟩
  have HS1 := Lib.hid hs1
  have HG1 := Lib.hid hg1
  obtain ⟨d0, d1, d2, f0, f1, f2⟩ := hs1.facts
  clear hg1 hs1
  have hz1 := HG1.out.size
  cases bad
  all_goals
    go_wp2_with (at_builtin; refine wpList_app (o := ⟨some 27, _, _, _, _, _⟩) (B := w.heap.size) (B2 := 0) (ys := []) elU8 rfl _ _ rfl rfl rfl (Own.nil _ _ _ _) Rd.nil rfl ?_ ?_ ?_; (simp); (simp <;> omega); intro A5 n5 c5 w5 h5; have H5 := Lib.hid h5; clear h5)
    go_ret
    exact ⟨A5, n5, c5, rfl, Own.cast H5.out.1 (List.nil_append _), (HS1.out.setBad _).below (below_of_none H5.out.2.1), grown_apd (only_setCell HG1.out (.inl rfl) _) H5.out (Nat.le_refl _)⟩
set_option maxHeartbeats 1000000 in
theorem length_any (Hs : SpSt N g w A c b at_ bad) :
    Calls Try.prog 50 #[.pointer (some ⟨g, 0, none⟩)] w fun e w' => e = .returned (.int .u64 ((vtake (b.drop at_)).elim 0 (·.1))) ∧ SpSt N g w' A c b (at_ + (vtake (b.drop at_)).elim 0 (·.2)) (bad || !(vtake (b.drop at_)).isSome) ∧ w.grownBy w' (some g) := by
  have HM := Lib.hid (number_b Hs)
  have hgw := Hs.lt
  generalize (vtake (b.drop at_)).elim (0 : Int) (·.1) = n at *
  generalize (vtake (b.drop at_)).elim (0 : Nat) (·.2) = u at *
  generalize (vtake (b.drop at_)).isSome = ok at *
  go_enter Try.func50, Try.ntmps50
  go_wp2_with fail
  refine HM.out.mono ?_
  rintro e w1 ⟨rfl, hs1, hg1⟩
  have HS1 := Lib.hid hs1
  have HG1 := Lib.hid hg1
  obtain ⟨d0, d1, d2, f0, f1, f2⟩ := hs1.facts
  clear hg1 hs1
  cases bad <;> cases ok
  all_goals
    go_wp2_with fail
    go_ret
    exact ⟨rfl, HS1.out.setBad _, only_setCell HG1.out (.inl rfl) _⟩
/-- a connection id is there -/
theorem cid_yes (Hs : SpSt N g w A c b at_ false) {x : List Int × List Int} (hx : cidL (b.drop at_) = some x) :
    Calls Try.prog 49 #[.pointer (some ⟨g, 0, none⟩)] w (TkPost N g A c b (b.length - x.2.length) false x.1 w) := by
  have ha := Hs.2.2.2.2.1
  have hby := Hs.2.2.2.2.2.1
  have hld : (b.drop at_).length = b.length - at_ := List.length_drop
  cases hd : b.drop at_ with
  | nil => rw [hd] at hx; cases hx
  | cons n r =>
    rw [hd, cidL_cons] at hx
    rw [hd] at hld
    have hr : b.drop (at_ + 1) = r := by rw [← List.drop_drop, hd]; rfl
    have hn := (hby.drop at_) n (by rw [hd]; simp)
    split at hx
    · cases hx
    · rename_i hcn
      injection hx with hx
      subst hx
      simp only [List.length_cons] at hld
      have ht1 := take_yes Hs 1 (by omega)
      rw [hd, show (n :: r).take 1 = [n] from rfl] at ht1
      have HT1 := Lib.hid ht1
      have hgw := Hs.lt
      have HL := Lib.hid (show b.length - (r.drop n.toNat).length = at_ + 1 + n.toNat by rw [List.length_drop]; omega)
      have HHr := Lib.hid hr
      obtain ⟨hn0, hn1⟩ := hn
      have hn20 : n ≤ 20 := by omega
      have hnl : at_ + 1 + n.toNat ≤ b.length := by omega
      have hnn : ((n.toNat : Nat) : Int) = n := by omega
      clear hcn hd hr ht1 hld Hs
      go_enter Try.func49, Try.ntmps49
      go_wp2_with fail
      refine HT1.out.mono ?_
      rintro e w1 ⟨A1, n1, c1, rfl, ho1, hs1, hg1⟩
      have hl1 : n1 = 1 := ho1.len
      subst hl1
      obtain ⟨g1, hA1, _, _⟩ := ho1.addr (by omega)
      subst hA1
      have e0 := ho1.cell0 (i := 0) (by simp)
      rw [List.getD_cons_zero] at e0
      obtain ⟨d0, d1, d2, f0, f1, f2⟩ := hs1.facts
      have HT2 := Lib.hid (take_yes hs1 n.toNat (by omega))
      rw [hnn] at HT2
      have HG1 := Lib.hid hg1
      clear hg1 hs1 ho1
      have hz1 := HG1.out.size
      go_wp2_with fail
      refine HT2.out.mono ?_
      rintro e w2 ⟨A2, n2, c2, rfl, ho2, hs2, hg2⟩
      rw [HHr.out] at ho2
      have HO2 := Lib.hid (ho2.mono hz1)
      have HS2 := Lib.hid hs2
      have HG2 := Lib.hid (only_trans HG1.out hg2)
      clear ho2 hs2 hg2
      go_wp2_with fail
      go_ret
      exact ⟨A2, n2, c2, rfl, HO2.out, by rw [HL.out]; exact HS2.out, HG2.out⟩
end
end Go.Proofs.Ytlefnddhmpgijaa
