/- Contracts: vneg.Take, of bytes that are no packet. Conditions: as each theorem states them. -/
import Derived.Test.YtakmaocfcmdpmaaV9
namespace Go.Proofs.Ytakmaocfcmdpmaa
open Go.RowKit
theorem pk_facts {w : World} {g : Nat} {t : TypeId} {c0 c1 c2 : Value} (h : Blk w g t #[c0, c1, c2]) : w.cell? ⟨g, 0, none⟩ = some c0 ∧ w.cell? ⟨g, 1, none⟩ = some c1 ∧ w.cell? ⟨g, 2, none⟩ = some c2 :=
  ⟨by rw [Blk.cell h]; rfl, by rw [Blk.cell h]; rfl, by rw [Blk.cell h]; rfl⟩
theorem pk_frozen {w : World} {g : Nat} {t : TypeId} {cs : Array Value} (h : Blk w g t cs) : w.frozen? ⟨g, 0, none⟩ = false ∧ w.frozen? ⟨g, 1, none⟩ = false ∧ w.frozen? ⟨g, 2, none⟩ = false :=
  ⟨Blk.frozen h 0, Blk.frozen h 1, Blk.frozen h 2⟩
theorem results_pk {w : World} {g : Nat} {c0 c1 c2 : Value} {fn : Func} {x u : Tmp} {tmps : Array Value} (hr : fn.results = #[.cell x 32, .tmp u]) (hx : tmps.getD x undef = .pointer (some ⟨g, 0, none⟩)) (h : Blk w g 32 #[c0, c1, c2]) :
    (results fn tmps).run Try.prog w = .ok (.tuple #[.agg #[c0, c1, c2], tmps.getD u undef]) w := by
  obtain ⟨a0, a1, a2⟩ := pk_facts h
  have hx' : tmps[x]?.getD undef = .pointer (some ⟨g, 0, none⟩) := by simpa using hx
  simp [results, hr, hx', go_sem, a0, a1, a2]

/-- are these bytes a packet: the lengths of its ids, and how many bytes its versions have -/
def tk (b : List Int) : Option (Nat × Nat) :=
  match spl b with
  | none => none
  | some (d, s) => if ver b = 0 ∧ 4 ≤ b.length - (7 + d + s) ∧ b.length - (7 + d + s) ≤ 256 ∧ (b.length - (7 + d + s)) % 4 = 0 then some (d, s) else none
def noPk : Value := .agg #[.slice none 0 0, .slice none 0 0, .slice none 0 0]

set_option maxHeartbeats 1000000 in
theorem take_no (A : Option Addr) (c : Nat) (b : List Int) (w : World) (hr : Rd w.heap.size .u8 w A b) (hb : Byt b) (hl : b.length ≤ 1099511627776) (hc : b.length ≤ c) (hno : tk b = none) :
    Calls Try.prog 19 #[.slice A b.length c] w fun e w' => e = .returned (.tuple #[noPk, .int .i64 2]) ∧ Below w.heap.size w w' := by
  have HS := Lib.hid (split_any A c b _ ((hr.alloc (Nat.le_refl _) (.cells #[.slice none 0 0, .slice none 0 0, .slice none 0 0] 32)).mono (by simp)) hb hl hc)
  clear hr
  have hno' : Hid (tk b = none) := Lib.hid hno
  clear hno
  rcases hsp : spl b with _ | ⟨d, s⟩
  · have HSP := Lib.hid hsp
    clear hsp
    go_enter Try.func19, Try.ntmps19
    go_wp2_with fail
    refine HS.out.mono ?_
    rintro e w1 ⟨h1, -⟩
    obtain ⟨v1, v2, v3, v4, rfl, hb1⟩ := h1 HSP.out
    clear h1
    have PB := Lib.hid ((Blk.new w 32 #[.slice none 0 0, .slice none 0 0, .slice none 0 0]).below hb1 (by simp))
    have HB := Lib.hid (((Below.refl w.heap.size w).alloc (Nat.le_refl _) _).trans (hb1.mono (by simp)))
    clear hb1
    obtain ⟨f0, f1, f2⟩ := pk_frozen PB.out
    obtain ⟨a0, a1, a2⟩ := pk_facts PB.out
    go_wp2_with fail
    refine bodyPost_ret (results_pk rfl rfl (((PB.out.set_ 0 _).set_ 1 _).set_ 2 _)) rfl ⟨rfl, ?_⟩
    exact ((HB.out.setCell (by simp) _).setCell (by simp) _).setCell (by simp) _
  · have HSP := Lib.hid hsp
    have hbad : ver b ≠ 0 ∨ ver b = 0 ∧ (b.length - (7 + d + s) = 0 ∨ (b.length - (7 + d + s)) % 4 ≠ 0 ∨ 256 < b.length - (7 + d + s)) := by
      have h := hno'.out
      unfold tk at h
      rw [hsp] at h
      simp only at h
      by_cases hv : ver b = 0
      · refine .inr ⟨hv, ?_⟩
        by_cases hh : 4 ≤ b.length - (7 + d + s) ∧ b.length - (7 + d + s) ≤ 256 ∧ (b.length - (7 + d + s)) % 4 = 0
        · rw [if_pos ⟨hv, hh⟩] at h; cases h
        · omega
      · exact .inl hv
    have hn4 : (b.drop (7 + d + s)).length = b.length - (7 + d + s) := List.length_drop
    generalize hm : b.length - (7 + d + s) = m at *
    clear hsp hm
    have HN := Lib.hid hn4
    clear hn4
    have hml : m ≤ 1099511627776 := by have := HN.out; rw [List.length_drop] at this; omega
    rcases hbad with hv | ⟨hv, hbad⟩
    · have g2 : (ver b == 0) = false := by simp [hv]
      go_enter Try.func19, Try.ntmps19
      go_wp2_with fail
      refine HS.out.mono ?_
      rintro e w1 ⟨-, h1⟩
      obtain ⟨A2, n2, c2, A3, n3, c3, A4, n4, c4, rfl, -, -, -, e4, -, hb1⟩ := h1 _ _ HSP.out
      clear h1 e4
      have PB := Lib.hid ((Blk.new w 32 #[.slice none 0 0, .slice none 0 0, .slice none 0 0]).below hb1 (by simp))
      have HB := Lib.hid (((Below.refl w.heap.size w).alloc (Nat.le_refl _) _).trans (hb1.mono (by simp)))
      clear hb1
      obtain ⟨f0, f1, f2⟩ := pk_frozen PB.out
      obtain ⟨a0, a1, a2⟩ := pk_facts PB.out
      go_wp2_with fail
      refine bodyPost_ret (results_pk rfl rfl (((PB.out.set_ 0 _).set_ 1 _).set_ 2 _)) rfl ⟨rfl, ?_⟩
      exact ((HB.out.setCell (by simp) _).setCell (by simp) _).setCell (by simp) _
    · have g2 : (ver b == 0) = true := by simp [hv]
      have hcases : m = 0 ∨ ((m : Int) == 0) = false ∧ ¬ ((m : Int) % 4 = 0) ∨ ((m : Int) == 0) = false ∧ (m : Int) % 4 = 0 ∧ 256 < m := by
        by_cases k0 : m = 0
        · exact .inl k0
        · have e0 : ((m : Int) == 0) = false := by rw [beq_eq_false_iff_ne]; omega
          by_cases k1 : m % 4 = 0
          · exact .inr (.inr ⟨e0, by omega, by omega⟩)
          · exact .inr (.inl ⟨e0, by omega⟩)
      clear hbad
      rcases hcases with rfl | ⟨k0, k1⟩ | ⟨k0, k1, k2⟩
      all_goals
        go_enter Try.func19, Try.ntmps19
        go_wp2_with fail
        refine HS.out.mono ?_
        rintro e w1 ⟨-, h1⟩
        obtain ⟨A2, n2, c2, A3, n3, c3, A4, n4, c4, rfl, -, -, -, e4, -, hb1⟩ := h1 _ _ HSP.out
        obtain rfl := e4.trans HN.out
        clear h1 e4
        have PB := Lib.hid ((Blk.new w 32 #[.slice none 0 0, .slice none 0 0, .slice none 0 0]).below hb1 (by simp))
        have HB := Lib.hid (((Below.refl w.heap.size w).alloc (Nat.le_refl _) _).trans (hb1.mono (by simp)))
        clear hb1
        obtain ⟨f0, f1, f2⟩ := pk_frozen PB.out
        obtain ⟨a0, a1, a2⟩ := pk_facts PB.out
        go_wp2_with fail
        refine bodyPost_ret (results_pk rfl rfl (((PB.out.set_ 0 _).set_ 1 _).set_ 2 _)) rfl ⟨rfl, ?_⟩
        exact ((HB.out.setCell (by simp) _).setCell (by simp) _).setCell (by simp) _
end Go.Proofs.Ytakmaocfcmdpmaa
