/- Contracts: vneg.word, bytes.Clone, the closure of vneg.split. Conditions: as each theorem states them. -/
import Derived.Test.YtakmaocfcmdpmaaV5
import Derived.Test.YtakmaocfcmdpmaaQT
namespace Go.Proofs.Ytakmaocfcmdpmaa
open Go.RowKit

/-- four bytes as a number -/
def wd (xs : List Int) : Int := xs.getD 0 0 * 16777216 + xs.getD 1 0 * 65536 + xs.getD 2 0 * 256 + xs.getD 3 0
theorem wd_bits (a b c d : Int) (ha : 0 ≤ a ∧ a < 256) (hb : 0 ≤ b ∧ b < 256) (hc : 0 ≤ c ∧ c < 256) (hd : 0 ≤ d ∧ d < 256) :
    bits .or .u32 (bits .or .u32 (bits .or .u32 (a * 16777216) (b * 65536)) (c * 256)) d = a * 16777216 + b * 65536 + c * 256 + d := by
  obtain ⟨a, rfl⟩ := Int.eq_ofNat_of_zero_le ha.1
  obtain ⟨b, rfl⟩ := Int.eq_ofNat_of_zero_le hb.1
  obtain ⟨c, rfl⟩ := Int.eq_ofNat_of_zero_le hc.1
  obtain ⟨d, rfl⟩ := Int.eq_ofNat_of_zero_le hd.1
  have e1 : bits .or .u32 ((a : Int) * 16777216) ((b : Int) * 65536) = ((a * 16777216 + b * 65536 : Nat) : Int) := by
    have h := bits_or_u32_nat (a * 16777216) (b * 65536) (by omega) (by omega)
    have h2 : (a * 16777216 ||| b * 65536) = a * 16777216 + b * 65536 := by
      have := or_add (n := 24) (a := b * 65536) (b := a) (by omega)
      simpa using this
    rw [h2] at h
    simpa using h
  have e2 : bits .or .u32 ((a * 16777216 + b * 65536 : Nat) : Int) ((c : Int) * 256) = ((a * 16777216 + b * 65536 + c * 256 : Nat) : Int) := by
    have h := bits_or_u32_nat (a * 16777216 + b * 65536) (c * 256) (by omega) (by omega)
    have h2 : (a * 16777216 + b * 65536 ||| c * 256) = a * 16777216 + b * 65536 + c * 256 := by
      have := or_add (n := 16) (a := c * 256) (b := a * 256 + b) (by omega)
      rw [show (a * 256 + b) * 2 ^ 16 = a * 16777216 + b * 65536 by omega] at this
      exact this
    rw [h2] at h
    simpa using h
  have e3 : bits .or .u32 ((a * 16777216 + b * 65536 + c * 256 : Nat) : Int) (d : Int) = ((a * 16777216 + b * 65536 + c * 256 + d : Nat) : Int) := by
    have h := bits_or_u32_nat (a * 16777216 + b * 65536 + c * 256) d (by omega) (by omega)
    have h2 : (a * 16777216 + b * 65536 + c * 256 ||| d) = a * 16777216 + b * 65536 + c * 256 + d := by
      have := or_add (n := 8) (a := d) (b := a * 65536 + b * 256 + c) (by omega)
      rw [show (a * 65536 + b * 256 + c) * 2 ^ 8 = a * 16777216 + b * 65536 + c * 256 by omega] at this
      exact this
    rw [h2] at h
    simpa using h
  rw [e1, e2, e3]
  omega

theorem word_any (A : Option Addr) (c : Nat) (xs : List Int) (w : World) (hr : Rd w.heap.size .u8 w A xs) (hb : Byt xs) (hl : xs.length = 4) :
    Calls Try.prog 27 #[.slice A 4 c] w fun e w' => e = .returned (.int .u32 (wd xs)) ∧ ∃ n, w' = w.drewN n := by
  obtain ⟨ad, rfl, _⟩ := hr.isSome (by omega)
  have c0 := hr.at0 (by omega)
  have c1 := hr.atN 1 (by omega) (by decide)
  have c2 := hr.atN 2 (by omega) (by decide)
  have c3 := hr.atN 3 (by omega) (by decide)
  have b0 := hb.getD 0
  have b1 := hb.getD 1
  have b2 := hb.getD 2
  have b3 := hb.getD 3
  have HW := Lib.hid (wd_bits _ _ _ _ b0 b1 b2 b3)
  unfold wd
  generalize xs.getD 0 0 = x0 at *
  generalize xs.getD 1 0 = x1 at *
  generalize xs.getD 2 0 = x2 at *
  generalize xs.getD 3 0 = x3 at *
  obtain ⟨b00, b01⟩ := b0
  obtain ⟨b10, b11⟩ := b1
  obtain ⟨b20, b21⟩ := b2
  obtain ⟨b30, b31⟩ := b3
  clear hr hb hl
  go_enter Try.func27, Try.ntmps27
  go_wp2_with fail
  go_quiet (fail)
  go_wp2_with fail
  go_ret
  exact ⟨by rw [← HW.out]; rfl, _, rfl⟩

theorem clone_any (A : Option Addr) (c : Nat) (xs : List Int) (w : World) (hr : Rd w.heap.size .u8 w A xs) (hl : xs.length ≤ 1099511627776) :
    Calls Try.prog 30 #[.slice A xs.length c] w (RetOwn 5 .u8 xs w) := by
  have HR := Lib.hid hr
  have hnil := fun (w : World) (a : Option Addr) (n c : Nat) => Lib.run_eql_slice_nil (P := Try.prog) w 30 5 a n c 0 0 Try.underlying30
  rcases A with _ | ad
  · have hx : xs = [] := by
      rcases xs with _ | ⟨x, r⟩
      · rfl
      · obtain ⟨ad, h, _⟩ := hr 0 (by simp); cases h
    subst hx
    clear hr HR
    go_enter Try.func30, Try.ntmps30
    go_wp2_with fail
    go_ret
    exact ⟨none, 0, 0, rfl, Own.nil _ _ _ _, Below.refl _ _⟩
  · clear hr
    go_enter Try.func30, Try.ntmps30
    go_wp2_with (first
      | (at_builtin; refine wpList_app (o := ⟨some 7, _, _, _, _, _⟩) elU8 rfl _ _ rfl rfl rfl (Own.litAt (xs := []) rfl rfl rfl (Nat.le_refl _) (by simp)) (HR.out.alloc (Nat.le_refl _) _) (by first | rfl | simp) ?_ ?_ ?_; (simp <;> omega); exact Below.size ((Below.refl w.heap.size w).alloc (Nat.le_refl _) _); intro A1 n1 c1 w1 h1; have H1 := Lib.hid h1; have B1 := Lib.hid (Below.trans ((Below.refl w.heap.size w).alloc (Nat.le_refl _) _) h1.2.2.1); clear h1))
    go_ret
    exact ⟨A1, n1, c1, rfl, H1.out.1, B1.out⟩
theorem clone_n (A : Option Addr) (c n : Nat) (xs : List Int) (w : World) (hr : Rd w.heap.size .u8 w A xs) (hn : n = xs.length) (hl : n ≤ 1099511627776) :
    Calls Try.prog 30 #[.slice A n c] w (RetOwn 5 .u8 xs w) := by
  subst hn; exact clone_any A c xs w hr hl

/-- the closure of split takes an id: the captured variables ok and rest lie in two blocks of their own -/
def CidSt (bo br : Nat) (w : World) (ok : Bool) (A : Option Addr) (n c : Nat) : Prop := Blk w bo 4 #[.bool ok] ∧ Blk w br 30 #[.slice A n c]
def cidOk (xs : List Int) : Prop := 0 < xs.length ∧ xs.getD 0 0 < xs.length
def CidNo (bo br : Nat) (A : Option Addr) (n c : Nat) (w : World) (e : Ending) (w' : World) : Prop :=
  e = .returned (.slice none 0 0) ∧ CidSt bo br w' false A n c ∧ w.grownBy w' (some bo)
def CidYes (B bo br : Nat) (xs : List Int) (w : World) (e : Ending) (w' : World) : Prop :=
  ∃ A n c A' n' c', e = .returned (.slice A n c) ∧ Own w.heap.size 5 .u8 w' A n c ((xs.drop 1).take (xs.getD 0 0).toNat) ∧ CidSt bo br w' true A' n' c' ∧
    Rd B .u8 w' A' (xs.drop (1 + (xs.getD 0 0).toNat)) ∧ n' = (xs.drop (1 + (xs.getD 0 0).toNat)).length ∧ n' ≤ c' ∧ Below (min bo br) w w' ∧ w.heap.size ≤ w'.heap.size ∧ ∀ g, g < w.heap.size → g ≠ bo → g ≠ br → w'.heap[g]? = w.heap[g]?

set_option maxHeartbeats 1000000 in
theorem cid_no (bo br : Nat) (ok : Bool) (A : Option Addr) (c : Nat) (xs : List Int) (w : World) (B : Nat) (hst : CidSt bo br w ok A xs.length c) (hr : Rd B .u8 w A xs) (hne : bo ≠ br) (hb : Byt xs)
    (hno : ok = false ∨ ¬ cidOk xs) :
    Calls Try.prog 29 #[.pointer (some ⟨bo, 0, none⟩), .pointer (some ⟨br, 0, none⟩)] w (CidNo bo br A xs.length c w) := by
  have k0 := Blk.cell hst.1 0
  have f0 := Blk.frozen hst.1 0
  have k1 := Blk.cell hst.2 0
  simp at k0 k1
  have HS := Lib.hid hst
  have S1 := Lib.hid hst.1
  have S2 := Lib.hid hst.2
  have HR := Lib.hid hr
  have HBY := Lib.hid hb
  clear hst hr hb
  unfold cidOk at hno
  have hlo : bo < w.heap.size := Blk.lt HS.out.1
  cases ok with
  | false =>
    clear hno
    go_enter Try.func29, Try.ntmps29
    go_wp2_with fail
    go_region
    all_goals
      go_wp2_with fail
      go_ret
      refine ⟨rfl, ⟨?_, ?_⟩, ?_⟩
      · apply Blk.cast
        · (repeat (first | with_reducible exact S1.out | with_reducible apply Blk.drew | with_reducible apply Blk.drewN | with_reducible apply Blk.set_))
        · simp
      · (repeat (first | with_reducible exact S2.out | with_reducible apply Blk.drew | with_reducible apply Blk.drewN | (with_reducible refine Blk.far ?_ (by simp; omega) _)))
      · (repeat (first | with_reducible exact World.grownBy.refl _ _ | with_reducible apply only_drew | with_reducible apply only_drewN | (with_reducible refine only_setCell ?_ (.inl rfl) _)))
  | true =>
    have hno' : ¬ (0 < xs.length ∧ xs.getD 0 0 < xs.length) := hno.resolve_left (by simp)
    clear hno
    by_cases g1 : 0 < xs.length
    · obtain ⟨ad, rfl, hab⟩ := HR.out.isSome g1
      have c0 := HR.out.at0 g1
      have b0 := HBY.out.getD 0
      generalize xs.getD 0 0 = x at *
      obtain ⟨b00, b01⟩ := b0
      have g2 : ¬ x < xs.length := fun h => hno' ⟨g1, h⟩
      have g2' : decide (x < xs.length) = false := by simp; omega
      clear hno'
      go_enter Try.func29, Try.ntmps29
      go_wp2_with fail
      go_region
      all_goals
        go_wp2_with fail
        go_ret
        refine ⟨rfl, ⟨?_, ?_⟩, ?_⟩
        · apply Blk.cast
          · (repeat (first | with_reducible exact S1.out | with_reducible apply Blk.drew | with_reducible apply Blk.drewN | with_reducible apply Blk.set_))
          · simp
        · (repeat (first | with_reducible exact S2.out | with_reducible apply Blk.drew | with_reducible apply Blk.drewN | (with_reducible refine Blk.far ?_ (by simp; omega) _)))
        · (repeat (first | with_reducible exact World.grownBy.refl _ _ | with_reducible apply only_drew | with_reducible apply only_drewN | (with_reducible refine only_setCell ?_ (.inl rfl) _)))
    · have g1' : decide (0 < xs.length) = false := decide_eq_false_iff_not.2 g1
      clear hno'
      go_enter Try.func29, Try.ntmps29
      go_wp2_with fail
      go_region
      all_goals
        go_wp2_with fail
        go_ret
        refine ⟨rfl, ⟨?_, ?_⟩, ?_⟩
        · apply Blk.cast
          · (repeat (first | with_reducible exact S1.out | with_reducible apply Blk.drew | with_reducible apply Blk.drewN | with_reducible apply Blk.set_))
          · simp
        · (repeat (first | with_reducible exact S2.out | with_reducible apply Blk.drew | with_reducible apply Blk.drewN | (with_reducible refine Blk.far ?_ (by simp; omega) _)))
        · (repeat (first | with_reducible exact World.grownBy.refl _ _ | with_reducible apply only_drew | with_reducible apply only_drewN | (with_reducible refine only_setCell ?_ (.inl rfl) _)))

set_option maxHeartbeats 1000000 in
theorem cid_yes (bo br : Nat) (A : Option Addr) (c : Nat) (xs : List Int) (w : World) (B : Nat) (hst : CidSt bo br w true A xs.length c) (hr : Rd B .u8 w A xs) (hne : bo ≠ br) (hB : B ≤ min bo br) (hb : Byt xs) (hl : xs.length ≤ 1099511627776) (hc : xs.length ≤ c) (hyes : cidOk xs) :
    Calls Try.prog 29 #[.pointer (some ⟨bo, 0, none⟩), .pointer (some ⟨br, 0, none⟩)] w (CidYes B bo br xs w) := by
  have hlo : bo < w.heap.size := Blk.lt hst.1
  have hlr : br < w.heap.size := Blk.lt hst.2
  have k0 := Blk.cell hst.1 0
  have f0 := Blk.frozen hst.1 0
  have k1 := Blk.cell hst.2 0
  have f1 := Blk.frozen hst.2 0
  simp at k0 k1
  have HS := Lib.hid hst
  have S1 := Lib.hid hst.1
  have S2 := Lib.hid hst.2
  have HR := Lib.hid hr
  have b0 := hb.getD 0
  unfold cidOk at hyes
  obtain ⟨g1, g2⟩ := hyes
  obtain ⟨ad, rfl, hab⟩ := hr.isSome g1
  have c0 := hr.at0 g1
  obtain ⟨Ac, cc, hc1, hc2, hrc, hlc, hsl⟩ := slice_lh elU8 hr hc 1 (1 + xs.getD 0 0) (xs.getD 0 0).toNat (by omega) (by omega) (by omega) (by omega)
  unfold CidYes
  generalize hx : xs.getD 0 0 = x at *
  have HX := Lib.hid hx
  clear hx
  obtain ⟨b00, b01⟩ := b0
  clear hst hr hb
  have HRC := Lib.hid hrc
  have HLC := Lib.hid hlc
  clear hrc hlc
  go_enter Try.func29, Try.ntmps29
  go_wp2_with fail
  go_region
  go_wp2_with fail
  clear k0 f0 k1 f1 c0
  have T1 : Hid (Blk (w.setCell ⟨bo, 0, none⟩ (.bool true)).drew bo 4 #[.bool true]) := Lib.hid (Blk.drew (Blk.cast (Blk.set_ S1.out 0 _) (by simp)))
  have T2 := Lib.hid (Blk.drew (Blk.far (p := ⟨bo, 0, none⟩) S2.out (by simp; omega) (.bool true)))
  have TR := Lib.hid ((HR.out.setCell (p := ⟨bo, 0, none⟩) (by simp; omega) (.bool true)).drew)
  have TC := Lib.hid ((HRC.out.setCell (p := ⟨bo, 0, none⟩) (by simp; omega) (.bool true)).drew)
  have TB : Hid (Below (min bo br) w (w.setCell ⟨bo, 0, none⟩ (.bool true)).drew) := Lib.hid (((Below.refl _ w).setCell (by simp; omega) _).drew)
  have TS : Hid (∀ g, g ≠ bo → (w.setCell ⟨bo, 0, none⟩ (.bool true)).drew.heap[g]? = w.heap[g]?) := Lib.hid (fun g hg => Below.heap_setCell w _ _ g hg)
  have TZ : Hid ((w.setCell ⟨bo, 0, none⟩ (.bool true)).drew.heap.size = w.heap.size) := Lib.hid (by simp)
  generalize (w.setCell ⟨bo, 0, none⟩ (.bool true)).drew = w1 at *
  have c0 := TR.out.at0 g1
  rw [HX.out] at c0
  have k1 := Blk.cell T2.out 0
  have f1 := Blk.frozen T2.out 0
  simp at k1
  refine wp_region_drawn_tail 7 (by kernel_rfl) (by kernel_rfl) ?_
  simp only [List.take_succ_cons, List.take_zero, List.drop_succ_cons, List.drop_zero]
  repeat (go_big_quiet_step (fail))
  refine wpQuiet_nil ?_
  intro _ hw'
  obtain ⟨nq, rfl⟩ := hw'
  go_wp2_with fail
  refine (clone_n Ac cc _ _ _ (by exact (TC.out.drewN nq).mono (by have := TZ.out; simp; omega)) HLC.out.symm (by omega)).mono ?_
  rintro e w2 ⟨A3, n3, c3, rfl, ho, hb⟩
  have hn3 : n3 = x.toNat := ho.len.trans HLC.out
  have n3a : (n3 : Int) = x := by omega
  have HN3 := Lib.hid hn3
  have N3A := Lib.hid n3a
  have hz2 : w1.heap.size ≤ w2.heap.size := by have := hb.size; simpa using this
  have hb' : Below w1.heap.size w1 w2 := (below_drewN (Below.refl _ _) nq).trans (hb.mono (by simp))
  have U1 := Lib.hid (Blk.below T1.out hb' (Blk.lt T1.out))
  have U2 := Lib.hid (Blk.below T2.out hb' (Blk.lt T2.out))
  have UR := Lib.hid (TR.out.below hb' (by have := TZ.out; omega))
  have UB := Lib.hid (TB.out.trans (hb'.mono (by have := TZ.out; omega)))
  have US := Lib.hid (fun g (hg : g < w1.heap.size) => hb'.block g hg)
  have UO := Lib.hid (ho.mono (B' := w.heap.size) (by have := TZ.out; simp; omega))
  clear k1 f1 c0
  have k1 := Blk.cell U2.out 0
  have f1 := Blk.frozen U2.out 0
  simp at k1
  obtain ⟨As, cs, hs1, hs2, hrs, hls, hss⟩ := slice_l elU8 UR.out hc (1 + (n3 : Int)) (xs.length - 1 - n3) (by omega) (by omega) (by omega)
  have UAs := Lib.hid hrs
  have ULs := Lib.hid hls
  have hn3b : n3 < xs.length := by omega
  clear ho hb hb' hrs hls hn3 n3a
  go_wp2_with fail
  go_ret
  refine ⟨A3, n3, c3, As, xs.length - 1 - n3, cs, rfl, ?_, ⟨?_, ?_⟩, ?_, ?_, hs1, ?_, ?_, ?_⟩
  · exact UO.out.kept (only_setCell (World.grownBy.refl _ _) (.inl rfl) _) (fun ad hA he => by have h1 := (UO.out.block ad hA).1; simp at he; omega)
  · exact Blk.far U1.out (by simp; omega) _
  · exact Blk.cast (Blk.set_ U2.out 0 _) (by simp)
  · have := UAs.out.setCell (p := ⟨br, 0, none⟩) (by simp; omega) (.slice As (xs.length - 1 - n3) cs)
    rw [show (1 + (n3 : Int)).toNat = 1 + x.toNat by have := HN3.out; omega] at this
    exact this
  · have := ULs.out
    rw [show (1 + (n3 : Int)).toNat = 1 + x.toNat by have := HN3.out; omega] at this
    exact this.symm
  · exact UB.out.setCell (by simp; omega) _
  · have := TZ.out; simp; omega
  · intro g hg h1 h2
    rw [Below.heap_setCell _ _ _ _ (by simpa using h2), US.out g (by have := TZ.out; omega)]
    exact TS.out g h1
end Go.Proofs.Ytakmaocfcmdpmaa
