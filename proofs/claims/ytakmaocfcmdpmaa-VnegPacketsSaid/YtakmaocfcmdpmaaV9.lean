/- Contracts: vneg.split as one, vneg.Reply. Conditions: as each theorem states them. -/
import Derived.Test.YtakmaocfcmdpmaaV8
namespace Go.Proofs.Ytakmaocfcmdpmaa
open Go.RowKit

theorem split_any (A : Option Addr) (c : Nat) (b : List Int) (w : World) (hr : Rd w.heap.size .u8 w A b) (hb : Byt b) (hl : b.length ≤ 1099511627776) (hc : b.length ≤ c) :
    Calls Try.prog 23 #[.slice A b.length c] w (SplPost b w) := by
  by_cases g : b.length < 5 ∨ b.getD 0 0 < 128
  · have hn : spl b = none := by unfold spl; rw [if_pos (g.imp (by omega) id)]
    exact (split_short A c b w hr hb hl g).mono fun e w' h => ⟨fun _ => h, fun d s hs => by rw [hn] at hs; cases hs⟩
  · exact split_long A c b w hr hb hl hc (by omega) (by omega)
theorem spl_facts {b : List Int} {d s : Nat} (hb : Byt b) (h : spl b = some (d, s)) : d ≤ 255 ∧ s ≤ 255 ∧ (dstL b d).length = d ∧ (srcL b d s).length = s ∧ 7 + d + s ≤ b.length := by
  unfold spl at h
  have h5 := hb.getD 5
  have h6 := hb.getD (6 + (b.getD 5 0).toNat)
  split at h
  · cases h
  · split at h
    · cases h
    · split at h
      · cases h
      · injection h with h
        injection h with h1 h2
        unfold dstL srcL
        rw [List.length_take, List.length_take, List.length_drop, List.length_drop]
        omega
theorem ver_range {b : List Int} (hb : Byt b) : 0 ≤ ver b ∧ ver b < 4294967296 := by
  rw [ver_eq]
  have := hb.getD 1
  have := hb.getD 2
  have := hb.getD 3
  have := hb.getD 4
  omega
theorem byt_dst {b : List Int} (hb : Byt b) (d : Nat) : Byt (dstL b d) := (hb.drop _).take _
theorem byt_src {b : List Int} (hb : Byt b) (d s : Nat) : Byt (srcL b d s) := (hb.drop _).take _

set_option maxHeartbeats 1000000 in
theorem reply_none (A Am : Option Addr) (c cm : Nat) (b mine : List Int) (w : World) (hr : Rd w.heap.size .u8 w A b) (hm : Rd w.heap.size .u32 w Am mine) (hb : Byt b) (hl : b.length ≤ 1099511627776) (hc : b.length ≤ c) (lm : mine.length ≤ 1099511627776)
    (hno : spl b = none ∨ b.length < 1200 ∨ ver b = 0 ∨ ver b ∈ mine) :
    Calls Try.prog 13 #[.slice A b.length c, .slice Am mine.length cm] w fun e w' => e = .returned (.tuple #[.slice none 0 0, .int .i64 4]) ∧ Below w.heap.size w w' := by
  have HS := Lib.hid (split_any A c b w hr hb hl hc)
  have HM := Lib.hid hm
  clear hr hm
  rcases hsp : spl b with _ | ⟨d, s⟩
  · have HSP := Lib.hid hsp
    clear hno hsp
    go_enter Try.func13, Try.ntmps13
    go_wp2_with fail
    refine HS.out.mono ?_
    rintro e w1 ⟨h1, -⟩
    obtain ⟨v1, v2, v3, v4, rfl, hb1⟩ := h1 HSP.out
    clear h1
    go_wp2_with fail
    go_ret2
    exact ⟨rfl, hb1⟩
  · have HSP := Lib.hid hsp
    have hno' : b.length < 1200 ∨ ver b = 0 ∨ ver b ∈ mine := hno.resolve_left (by rw [hsp]; simp)
    clear hno hsp
    by_cases g1 : b.length < 1200
    · go_enter Try.func13, Try.ntmps13
      go_wp2_with fail
      refine HS.out.mono ?_
      rintro e w1 ⟨-, h1⟩
      obtain ⟨A2, n2, c2, A3, n3, c3, A4, n4, c4, rfl, -, -, -, -, -, hb1⟩ := h1 _ _ HSP.out
      clear h1
      go_wp2_with fail
      go_ret2
      exact ⟨rfl, hb1⟩
    · have g1' : decide (b.length < 1200) = false := by simp; omega
      rcases beq_ways (ver b) 0 with ⟨g2, G2⟩ | ⟨g2, G2⟩
      · go_enter Try.func13, Try.ntmps13
        go_wp2_with fail
        refine HS.out.mono ?_
        rintro e w1 ⟨-, h1⟩
        obtain ⟨A2, n2, c2, A3, n3, c3, A4, n4, c4, rfl, -, -, -, -, -, hb1⟩ := h1 _ _ HSP.out
        clear h1
        go_wp2_with fail
        go_ret2
        exact ⟨rfl, hb1⟩
      · have g3 : decide (ver b ∈ mine) = true := decide_eq_true ((hno'.resolve_left g1).resolve_left G2.out)
        clear hno'
        go_enter Try.func13, Try.ntmps13
        go_wp2_with fail
        refine HS.out.mono ?_
        rintro e w1 ⟨-, h1⟩
        obtain ⟨A2, n2, c2, A3, n3, c3, A4, n4, c4, rfl, -, -, -, -, -, hb1⟩ := h1 _ _ HSP.out
        have HB := Lib.hid hb1
        clear h1 hb1
        go_wp2_with (go_at_call 22; refine (contains_any Am cm mine _ _ (by exact (HM.out.below HB.out (Nat.le_refl _)).mono HB.out.size) (by omega)).mono ?_; rintro e w' ⟨rfl, rfl⟩)
        go_ret2
        exact ⟨rfl, HB.out⟩

set_option maxRecDepth 100000 in
set_option maxHeartbeats 1000000 in
theorem reply_some (A Am : Option Addr) (c cm : Nat) (b mine : List Int) (d s : Nat) (w : World) (hr : Rd w.heap.size .u8 w A b) (hm : Rd w.heap.size .u32 w Am mine) (hb : Byt b) (hw : Wrd mine) (hl : b.length ≤ 1099511627776) (hc : b.length ≤ c) (lm : mine.length ≤ 1099511627776)
    (hsp : spl b = some (d, s)) (h12 : 1200 ≤ b.length) (hv0 : ver b ≠ 0) (hvm : ver b ∉ mine) :
    Calls Try.prog 13 #[.slice A b.length c, .slice Am mine.length cm] w fun e w' =>
      (1 ≤ mine.length ∧ mine.length ≤ 64 → RetOwn2 5 .u8 (putL 192 (srcL b d s) (dstL b d) mine) (.int .i64 0) w e w') ∧ (¬ (1 ≤ mine.length ∧ mine.length ≤ 64) → e = .returned (.tuple #[.slice none 0 0, .int .i64 2]) ∧ Below w.heap.size w w') := by
  have HS := Lib.hid (split_any A c b w hr hb hl hc)
  have HM := Lib.hid hm
  have HW := Lib.hid hw
  obtain ⟨f1, f2, f3, f4, _⟩ := spl_facts hb hsp
  have HSP := Lib.hid hsp
  have g1' : decide (b.length < 1200) = false := by simp; omega
  have g2 : (ver b == 0) = false := by simp [hv0]
  have g3 : decide (ver b ∈ mine) = false := decide_eq_false hvm
  have F3 := Lib.hid f3
  have F4 := Lib.hid f4
  clear hr hm hw hsp hv0 hvm f3 f4
  go_enter Try.func13, Try.ntmps13
  go_wp2_with fail
  refine HS.out.mono ?_
  rintro e w1 ⟨-, h1⟩
  obtain ⟨A2, n2, c2, A3, n3, c3, A4, n4, c4, rfl, o2, o3, -, -, -, hb1⟩ := h1 _ _ HSP.out
  have HB := Lib.hid hb1
  obtain rfl := o2.len
  obtain rfl := o3.len
  have O2 := Lib.hid o2
  have O3 := Lib.hid o3
  have HM1 := Lib.hid ((HM.out.below HB.out (Nat.le_refl _)).mono HB.out.size)
  clear h1 hb1 o2 o3
  by_cases hk : 1 ≤ mine.length ∧ mine.length ≤ 64
  · have hok : okPut (srcL b d s) (dstL b d) mine := ⟨by rw [F4.out]; exact f2, by rw [F3.out]; exact f1, hk.1, hk.2⟩
    have HOK := Lib.hid hok
    clear hok
    go_wp2_with (first
      | (go_at_call 22; refine (contains_any Am cm mine _ _ (by exact HM1.out) (by omega)).mono ?_; rintro e w' ⟨rfl, rfl⟩)
      | (go_at_call 18; refine (put_yes _ _ _ _ _ _ _ _ _ _ (by exact O3.out.rd) (by exact O2.out.rd) (by exact HM1.out) HW.out HOK.out).mono ?_; rintro e w2 ⟨A9, n9, c9, rfl, o9, hb9⟩))
    go_ret2
    exact ⟨fun _ => ⟨A9, n9, c9, rfl, o9.mono HB.out.size, HB.out.trans (hb9.mono HB.out.size)⟩, fun h => absurd hk h⟩
  · have hok : ¬ okPut (srcL b d s) (dstL b d) mine := fun h => hk ⟨h.2.2.1, h.2.2.2⟩
    have HOK := Lib.hid hok
    have HK := Lib.hid hk
    have l3 : (srcL b d s).length ≤ 1099511627776 := by rw [F4.out]; omega
    have l2 : (dstL b d).length ≤ 1099511627776 := by rw [F3.out]; omega
    clear hok hk
    go_wp2_with (first
      | (go_at_call 22; refine (contains_any Am cm mine _ _ (by exact HM1.out) (by omega)).mono ?_; rintro e w' ⟨rfl, rfl⟩)
      | (go_at_call 18; refine (put_no _ _ _ _ _ _ _ _ _ _ HOK.out l3 l2 lm).mono ?_; rintro e w2 ⟨rfl, hb9⟩))
    go_ret2
    exact ⟨fun h => absurd h HK.out, fun _ => ⟨rfl, HB.out.trans (hb9.mono HB.out.size)⟩⟩
end Go.Proofs.Ytakmaocfcmdpmaa
