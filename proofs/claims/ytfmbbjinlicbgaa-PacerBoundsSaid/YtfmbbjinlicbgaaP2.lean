/- Contracts of the methods of pacer.Pacer (layer 35): Go. Conditions: as each theorem states them. -/
import Derived.Test.YtfmbbjinlicbgaaP1
namespace Go.Proofs.Ytfmbbjinlicbgaa
open Go.RowKit

/-- packets that go, one by one; none: one may not -/
def goL : Int → List Int → Option Int
  | l, [] => some l
  | l, n :: r => if n ≤ l / 1000000 then goL (l - n * 1000000) r else none
theorem goL_append (l : Int) (xs ys : List Int) : goL l (xs ++ ys) = (goL l xs).bind fun m => goL m ys := by
  induction xs generalizing l with
  | nil => rfl
  | cons n r ih =>
    simp only [List.cons_append, goL]
    split
    · exact ih _
    · rfl
theorem goL_snoc (l : Int) (ns : List Int) (k : Nat) (h : k < ns.length) : goL l (ns.take (k + 1)) = (goL l (ns.take k)).bind fun m => if ns.getD k 0 ≤ m / 1000000 then some (m - ns.getD k 0 * 1000000) else none := by
  rw [List.take_succ_eq_append_getElem h, goL_append]
  congr 1
  funext m
  simp only [goL, List.getD_eq_getElem?_getD, List.getElem?_eq_getElem h, Option.getD_some]
theorem goL_none {l : Int} {ns : List Int} {k : Nat} (h : goL l (ns.take k) = none) : goL l ns = none := by
  conv => lhs; rw [← List.take_append_drop k ns, goL_append, h]
  rfl
theorem goL_range {l : Int} {ns : List Int} {m : Int} (h : goL l ns = some m) (hl : 0 ≤ l) (hn : ∀ n ∈ ns, 0 ≤ n) : 0 ≤ m ∧ m ≤ l := by
  induction ns generalizing l with
  | nil => simp [goL] at h; omega
  | cons n r ih =>
    simp only [goL] at h
    split at h
    · have h0 := hn n (by simp)
      have := ih h (by omega) (fun x hx => hn x (by simp [hx]))
      omega
    · cases h

/-- a slice of numbers, u64 -/
def RdU (w : World) (A : Option Addr) (ns : List Int) : Prop := (∀ n ∈ ns, 0 ≤ n ∧ n < 18446744073709551616) ∧ ∀ k, k < ns.length → ∃ ad, A = some ad ∧ w.cell? (ad.add k) = some (.int .u64 (ns.getD k 0))
theorem RdU.below {w w' : World} {A : Option Addr} {ns : List Int} (h : RdU w A ns) (hb : Below w.heap.size w w') : RdU w' A ns :=
  ⟨h.1, fun k hk => by obtain ⟨ad, e, hc⟩ := h.2 k hk; exact ⟨ad, e, Below.cell_some hb hc (cell_lt hc)⟩⟩
theorem RdU.mem {w : World} {A : Option Addr} {ns : List Int} (h : RdU w A ns) {k : Nat} (hk : k < ns.length) : 0 ≤ ns.getD k 0 ∧ ns.getD k 0 < 18446744073709551616 := by
  apply h.1
  rw [List.getD_eq_getElem?_getD, List.getElem?_eq_getElem hk]
  simp

/-- Go: yes -/
def PPost (b : Nat) (r : Value) (p' : PS) (w : World) (e : Ending) (w' : World) : Prop := e = .returned r ∧ PSt b w' p' ∧ w.grownBy w' (some b)

set_option maxHeartbeats 2000000 in
theorem go_yes (b : Nat) (p : PS) (now : Int) (A : Option Addr) (cap : Nat) (ns : List Int) (m : Int) (w : World) (Hs : PSt b w p) (ho : p.Ok) (h0 : 0 ≤ now) (h1 : now < 18446744073709551616)
    (hr : RdU w A ns) (hl : ns.length ≤ 9223372036854775807) (hg : goL (p.afterS now).level ns = some m) :
    Calls Try.prog 11 #[.pointer (some ⟨b, 0, none⟩), .int .u64 now, .slice A ns.length cap] w (PPost b (.int .i64 0) { p.afterS now with level := m } w) := by
  have hbl : b < w.heap.size := Blk.lt Hs
  have HA := Lib.hid (after_any b p now w Hs ho h0 h1)
  have hq := ho.after now h1
  generalize p.afterS now = q at *
  have HR := Lib.hid hr
  have HG := Lib.hid hg
  have HS := Lib.hid Hs
  have HQ := Lib.hid hq
  clear hr hg Hs ho hq
  go_enter Try.func11, Try.ntmps11
  go_wp2_with fail
  refine HA.out.mono ?_
  rintro e w1 ⟨rfl, hb1⟩
  have HB := Lib.hid hb1
  have hz1 := hb1.size
  clear hb1
  unfold PS.cells
  go_wp2_with fail
  go_loopw [17] (fun i wr => ∃ (k : Nat) (l : Int), k ≤ ns.length ∧ i = .int .i64 k ∧ Hid (goL q.level (ns.take k) = some l) ∧ Hid (Blk wr w1.heap.size 49 (PS.cells { q with level := l })) ∧ Hid (Below w1.heap.size w1 wr)) (fun i _ => ns.length - (intOf i).toNat)
  case atStart => exact ⟨0, q.level, by omega, rfl, Lib.hid rfl, Lib.hid (Blk.new _ _ _), Lib.hid ((Below.refl _ _).alloc (Nat.le_refl _) _)⟩
  case round =>
    obtain ⟨k, l, hk, rfl, HL, HK, HW⟩ := hrel
    have hlr := goL_range HL.out (by have := HQ.out; unfold PS.Ok at this; omega) (fun n hn => (HR.out.1 n (List.mem_of_mem_take hn)).1)
    have hqb : q.level ≤ 1073741824000000 := by have := HQ.out; unfold PS.Ok at this; omega
    obtain ⟨c0, c1, c2, c3, f0, f1, f2, f3⟩ := PSt.facts (p := { q with level := l }) HK.out
    simp only at c0 c1 c2 c3
    by_cases hlt : k < ns.length
    · obtain ⟨ad, hA, hc⟩ := HR.out.2 k hlt
      have hmem := HR.out.mem hlt
      have hc' := Below.cell_some HW.out (Below.cell_some HB.out hc (cell_lt hc)) (by have := cell_lt hc; omega)
      have hsn := goL_snoc q.level ns k hlt
      rw [HL.out] at hsn
      simp only [Option.bind_some] at hsn
      have hle : ns.getD k 0 ≤ l / 1000000 := by
        by_cases h : ns.getD k 0 ≤ l / 1000000
        · exact h
        · rw [if_neg h] at hsn
          have := goL_none hsn
          rw [HG.out] at this
          cases this
      rw [if_pos hle] at hsn
      have HSN := Lib.hid hsn
      clear hsn hc
      subst hA
      generalize ns.getD k 0 = n at *
      go_wp2_with fail
      go_roundw
      case rel =>
        refine ⟨k + 1, l - n * 1000000, by omega, by go_num, HSN, Lib.hid ?_, Lib.hid (HW.out.setCell (by simp) _)⟩
        have := Blk.set_ HK.out 3 (.int .u64 (l - n * 1000000))
        simpa [PS.cells] using this
      case measure => simp [intOf]; omega
    · have hkl : k = ns.length := by omega
      subst hkl
      have hml : l = m := by
        have h2 := HL.out
        rw [List.take_length, HG.out] at h2
        injection h2 with h2
        exact h2.symm
      subst hml
      have HSr := Lib.hid (Blk.below (Blk.below HS.out HB.out hbl) HW.out (by omega))
      obtain ⟨d0, d1, d2, d3, k0, k1, k2, k3⟩ := PSt.facts (p := p) HSr.out
      have hne : b ≠ w1.heap.size := by omega
      go_wp2_with fail
      go_ret
      refine ⟨rfl, ?_, ?_⟩
      · unfold PSt
        apply Blk.cast
        · (repeat (first | with_reducible exact HSr.out | with_reducible apply Blk.set_ | with_reducible apply Blk.drewN))
        · simp [PS.cells]
      · have hon : w.grownBy wr (some b) := only_of_below (HB.out.trans (HW.out.mono (by omega))) _
        (repeat' (first | with_reducible exact hon | with_reducible apply only_drewN | with_reducible apply only_drew | with_reducible apply only_alloc | (with_reducible refine only_setCell ?_ (.inl rfl) _)))

set_option maxHeartbeats 2000000 in
theorem go_no (b : Nat) (p : PS) (now : Int) (A : Option Addr) (cap : Nat) (ns : List Int) (w : World) (Hs : PSt b w p) (ho : p.Ok) (h0 : 0 ≤ now) (h1 : now < 18446744073709551616)
    (hr : RdU w A ns) (hl : ns.length ≤ 9223372036854775807) (hg : goL (p.afterS now).level ns = none) :
    Calls Try.prog 11 #[.pointer (some ⟨b, 0, none⟩), .int .u64 now, .slice A ns.length cap] w fun e w' => e = .returned (.int .i64 6) ∧ Below w.heap.size w w' := by
  have hbl : b < w.heap.size := Blk.lt Hs
  have HA := Lib.hid (after_any b p now w Hs ho h0 h1)
  have hq := ho.after now h1
  generalize p.afterS now = q at *
  have HR := Lib.hid hr
  have HG := Lib.hid hg
  have HQ := Lib.hid hq
  clear hr hg Hs ho hq
  go_enter Try.func11, Try.ntmps11
  go_wp2_with fail
  refine HA.out.mono ?_
  rintro e w1 ⟨rfl, hb1⟩
  have HB := Lib.hid hb1
  have hz1 := hb1.size
  clear hb1
  unfold PS.cells
  go_wp2_with fail
  go_loopw [17] (fun i wr => ∃ (k : Nat) (l : Int), k ≤ ns.length ∧ i = .int .i64 k ∧ Hid (goL q.level (ns.take k) = some l) ∧ Hid (Blk wr w1.heap.size 49 (PS.cells { q with level := l })) ∧ Hid (Below w1.heap.size w1 wr)) (fun i _ => ns.length - (intOf i).toNat)
  case atStart => exact ⟨0, q.level, by omega, rfl, Lib.hid rfl, Lib.hid (Blk.new _ _ _), Lib.hid ((Below.refl _ _).alloc (Nat.le_refl _) _)⟩
  case round =>
    obtain ⟨k, l, hk, rfl, HL, HK, HW⟩ := hrel
    have hlr := goL_range HL.out (by have := HQ.out; unfold PS.Ok at this; omega) (fun n hn => (HR.out.1 n (List.mem_of_mem_take hn)).1)
    have hqb : q.level ≤ 1073741824000000 := by have := HQ.out; unfold PS.Ok at this; omega
    obtain ⟨c0, c1, c2, c3, f0, f1, f2, f3⟩ := PSt.facts (p := { q with level := l }) HK.out
    simp only at c0 c1 c2 c3
    by_cases hlt : k < ns.length
    · obtain ⟨ad, hA, hc⟩ := HR.out.2 k hlt
      have hmem := HR.out.mem hlt
      have hc' := Below.cell_some HW.out (Below.cell_some HB.out hc (cell_lt hc)) (by have := cell_lt hc; omega)
      have hsn := goL_snoc q.level ns k hlt
      rw [HL.out] at hsn
      simp only [Option.bind_some] at hsn
      by_cases hle : ns.getD k 0 ≤ l / 1000000
      · rw [if_pos hle] at hsn
        have HSN := Lib.hid hsn
        clear hsn hc
        subst hA
        generalize ns.getD k 0 = n at *
        go_wp2_with fail
        go_roundw
        case rel =>
          refine ⟨k + 1, l - n * 1000000, by omega, by go_num, HSN, Lib.hid ?_, Lib.hid (HW.out.setCell (by simp) _)⟩
          have := Blk.set_ HK.out 3 (.int .u64 (l - n * 1000000))
          simpa [PS.cells] using this
        case measure => simp [intOf]; omega
      · clear hsn hc
        subst hA
        generalize ns.getD k 0 = n at *
        go_wp2_with fail
        go_ret
        exact ⟨rfl, HB.out.trans (HW.out.mono (by omega))⟩
    · exfalso
      have h2 := HL.out
      rw [List.take_of_length_le (by omega), HG.out] at h2
      cases h2
end Go.Proofs.Ytfmbbjinlicbgaa
