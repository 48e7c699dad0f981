/- Contracts (layer 29): goes, To, Forward. Conditions: as each theorem states them. -/
import Derived.Test.YtlefnddhmpgijaaR3
namespace Go.Proofs.Ytlefnddhmpgijaa
open Go.RowKit
theorem RtSt.alloc {g : Nat} {k : Bool} {e o : Int} {w : World} (h : RtSt g k e o w) (ob : Obj) : RtSt g k e o (w.alloc ob) := Blk.alloc h ob
theorem fwd1_any (gf : Nat) (fr o : Int) (w : World) (hf : w.cell? ⟨gf, 0, none⟩ = some (.int .u8 fr)) :
    Calls Try.prog 36 #[.int .u8 o, .pointer (some ⟨gf, 0, none⟩)] w fun e w' => e = .returned (.bool (procB fr && (fr != o))) ∧ w = w' := by
  have HP := Lib.hid (process_any fr w)
  rcases hp : procB fr with _ | _
  · rw [hp] at HP
    go_enter Try.func36, Try.ntmps36
    go_wp2_with (go_at_call 31; refine HP.out.mono ?_; rintro e w' ⟨rfl, rfl⟩)
    go_ret
    exact ⟨rfl, rfl⟩
  · rw [hp] at HP
    go_enter Try.func36, Try.ntmps36
    go_wp2_with (go_at_call 31; refine HP.out.mono ?_; rintro e w' ⟨rfl, rfl⟩)
    go_ret
    exact ⟨by simp, rfl⟩
/-- what is told -/
def toV (x : Bool) (o : Int) : Value := .tuple #[.int .u8 (if x then o else 0), .bool x]
set_option maxHeartbeats 2000000 in
theorem goes_proc (g : Nat) (k : Bool) (e0 o : Int) (f t : Int) (A : Option Addr) (c : Nat) (b : List Int) (w : World) (h : RtSt g k e0 o w) (hr : Rd w.heap.size .u8 w A b) (hby : Byt b) (hc : b.length ≤ c) (hl : b.length ≤ 1000000000000) :
    Calls Try.prog 35 #[.pointer (some ⟨g, 0, none⟩), .agg #[.int .u32 f, .int .u32 t, .slice A b.length c], .func (.func 31) #[] #[]] w fun e w' => e = .returned (toV ((splitL b 8).isSome && k && procB o) o) ∧ Below w.heap.size w w' := by
  have hg := h.lt
  have HI := Lib.hid (id_some g f t A c b (w.alloc (.cells #[.int .u32 f, .int .u32 t, .slice A b.length c] 37)) ((hr.alloc (Nat.le_refl _) _).mono (by simp)) hby hc hl)
  have HS := Lib.hid h
  clear hr hby h
  rcases hs : splitL b 8 with _ | p
  · have HSP := Lib.hid hs
    clear hs
    go_enter Try.func35, Try.ntmps35
    go_wp2_with fail
    refine HI.out.mono ?_
    rintro e w1 ⟨-, h1⟩
    obtain ⟨rfl, hb1⟩ := h1 HSP.out
    clear h1
    go_wp2_with fail
    go_ret2
    exact ⟨rfl, ((Below.refl _ _).alloc (Nat.le_refl _) _).trans (hb1.mono (by simp))⟩
  · have HSP := Lib.hid hs
    clear hs
    cases k with
    | false =>
      go_enter Try.func35, Try.ntmps35
      go_wp2_with fail
      refine HI.out.mono ?_
      rintro e w1 ⟨h1, -⟩
      obtain ⟨v, rfl, -, hb1⟩ := h1 p HSP.out
      obtain ⟨a0, a1, a2⟩ := RtSt.facts (RtSt.below (RtSt.alloc HS.out _) hb1 (by simp; omega))
      clear h1
      go_wp2_with fail
      go_ret2
      exact ⟨rfl, ((Below.refl _ _).alloc (Nat.le_refl _) _).trans (hb1.mono (by simp))⟩
    | true =>
      go_enter Try.func35, Try.ntmps35
      go_wp2_with fail
      refine HI.out.mono ?_
      rintro e w1 ⟨h1, -⟩
      obtain ⟨v, rfl, -, hb1⟩ := h1 p HSP.out
      obtain ⟨a0, a1, a2⟩ := RtSt.facts (RtSt.below (RtSt.alloc HS.out _) hb1 (by simp; omega))
      have HB := Lib.hid (((Below.refl _ _).alloc (Nat.le_refl _) _).trans (hb1.mono (B' := w.heap.size) (by simp)))
      clear h1 hb1
      rcases hp : procB o with _ | _
      · have HPB := Lib.hid hp
        clear hp
        go_wp2_with (go_at_call 31; refine (process_any o _).mono ?_; rintro e w' ⟨rfl, rfl⟩; rw [HPB.out])
        go_ret2
        exact ⟨by rw [HPB.out]; rfl, HB.out⟩
      · have HPB := Lib.hid hp
        clear hp
        go_wp2_with (go_at_call 31; refine (process_any o _).mono ?_; rintro e w' ⟨rfl, rfl⟩; rw [HPB.out])
        go_ret2
        exact ⟨by rw [HPB.out]; rfl, HB.out⟩
set_option maxHeartbeats 2000000 in
theorem goes_fwd (g : Nat) (k : Bool) (e0 o : Int) (gf : Nat) (fr : Int) (f t : Int) (A : Option Addr) (c : Nat) (b : List Int) (w : World) (h : RtSt g k e0 o w) (hf : Blk w gf 5 #[.int .u8 fr]) (hr : Rd w.heap.size .u8 w A b) (hby : Byt b) (hc : b.length ≤ c) (hl : b.length ≤ 1000000000000) :
    Calls Try.prog 35 #[.pointer (some ⟨g, 0, none⟩), .agg #[.int .u32 f, .int .u32 t, .slice A b.length c], .func (.func 36) #[] #[.pointer (some ⟨gf, 0, none⟩)]] w fun e w' => e = .returned (toV ((splitL b 8).isSome && k && (procB fr && (fr != o))) o) ∧ Below w.heap.size w w' := by
  have hg := h.lt
  have HI := Lib.hid (id_some g f t A c b (w.alloc (.cells #[.int .u32 f, .int .u32 t, .slice A b.length c] 37)) ((hr.alloc (Nat.le_refl _) _).mono (by simp)) hby hc hl)
  have HS := Lib.hid h
  have hgf := Blk.lt hf
  have HF := Lib.hid hf
  clear hf
  clear hr hby h
  rcases hs : splitL b 8 with _ | p
  · have HSP := Lib.hid hs
    clear hs
    go_enter Try.func35, Try.ntmps35
    go_wp2_with fail
    refine HI.out.mono ?_
    rintro e w1 ⟨-, h1⟩
    obtain ⟨rfl, hb1⟩ := h1 HSP.out
    clear h1
    go_wp2_with fail
    go_ret2
    exact ⟨rfl, ((Below.refl _ _).alloc (Nat.le_refl _) _).trans (hb1.mono (by simp))⟩
  · have HSP := Lib.hid hs
    clear hs
    cases k with
    | false =>
      go_enter Try.func35, Try.ntmps35
      go_wp2_with fail
      refine HI.out.mono ?_
      rintro e w1 ⟨h1, -⟩
      obtain ⟨v, rfl, -, hb1⟩ := h1 p HSP.out
      obtain ⟨a0, a1, a2⟩ := RtSt.facts (RtSt.below (RtSt.alloc HS.out _) hb1 (by simp; omega))
      clear h1
      go_wp2_with fail
      go_ret2
      exact ⟨rfl, ((Below.refl _ _).alloc (Nat.le_refl _) _).trans (hb1.mono (by simp))⟩
    | true =>
      go_enter Try.func35, Try.ntmps35
      go_wp2_with fail
      refine HI.out.mono ?_
      rintro e w1 ⟨h1, -⟩
      obtain ⟨v, rfl, -, hb1⟩ := h1 p HSP.out
      obtain ⟨a0, a1, a2⟩ := RtSt.facts (RtSt.below (RtSt.alloc HS.out _) hb1 (by simp; omega))
      have HB := Lib.hid (((Below.refl _ _).alloc (Nat.le_refl _) _).trans (hb1.mono (B' := w.heap.size) (by simp)))
      have HC : Hid (w1.cell? ⟨gf, 0, none⟩ = some (.int .u8 fr)) := Lib.hid (by rw [Blk.cell (Blk.below (Blk.alloc HF.out _) hb1 (by simp; omega))]; rfl)
      clear h1 hb1
      rcases hp : (procB fr && (fr != o)) with _ | _
      · have HPB := Lib.hid hp
        clear hp
        go_wp2_with (go_at_call 36; refine (fwd1_any gf fr o _ HC.out).mono ?_; rintro e w' ⟨rfl, rfl⟩; rw [HPB.out])
        go_ret2
        exact ⟨by rw [HPB.out]; rfl, HB.out⟩
      · have HPB := Lib.hid hp
        clear hp
        go_wp2_with (go_at_call 36; refine (fwd1_any gf fr o _ HC.out).mono ?_; rintro e w' ⟨rfl, rfl⟩; rw [HPB.out])
        go_ret2
        exact ⟨by rw [HPB.out]; rfl, HB.out⟩
set_option maxHeartbeats 1000000 in
theorem to_some (g : Nat) (k : Bool) (e0 o f t : Int) (A : Option Addr) (c : Nat) (b : List Int) (w : World) (h : RtSt g k e0 o w) (hr : Rd w.heap.size .u8 w A b) (hby : Byt b) (hc : b.length ≤ c) (hl : b.length ≤ 1000000000000) :
    Calls Try.prog 14 #[.pointer (some ⟨g, 0, none⟩), .agg #[.int .u32 f, .int .u32 t, .slice A b.length c]] w fun e w' => e = .returned (toV ((splitL b 8).isSome && k && procB o) o) ∧ Below w.heap.size w w' := by
  have HG := Lib.hid (goes_proc g k e0 o f t A c b (w.alloc (.cells #[.int .u32 f, .int .u32 t, .slice A b.length c] 37)) (Blk.alloc h _) ((hr.alloc (Nat.le_refl _) _).mono (by simp)) hby hc hl)
  clear h hr hby
  generalize ((splitL b 8).isSome && k && procB o) = x at *
  unfold toV at *
  generalize (if x = true then o else 0) = y at *
  go_enter Try.func14, Try.ntmps14
  go_wp2_with fail
  refine HG.out.mono ?_
  rintro e w1 ⟨rfl, hb1⟩
  go_wp2_with fail
  go_ret2
  exact ⟨rfl, ((Below.refl _ _).alloc (Nat.le_refl _) _).trans (hb1.mono (by simp))⟩
set_option maxHeartbeats 1000000 in
theorem fwd_some (g : Nat) (k : Bool) (e0 o fr f t : Int) (A : Option Addr) (c : Nat) (b : List Int) (w : World) (h : RtSt g k e0 o w) (hr : Rd w.heap.size .u8 w A b) (hby : Byt b) (hc : b.length ≤ c) (hl : b.length ≤ 1000000000000) :
    Calls Try.prog 15 #[.pointer (some ⟨g, 0, none⟩), .int .u8 fr, .agg #[.int .u32 f, .int .u32 t, .slice A b.length c]] w fun e w' => e = .returned (toV ((splitL b 8).isSome && k && (procB fr && (fr != o))) o) ∧ Below w.heap.size w w' := by
  have HG := Lib.hid (goes_fwd g k e0 o w.heap.size fr f t A c b ((w.alloc (.cells #[.int .u8 fr] 5)).alloc (.cells #[.int .u32 f, .int .u32 t, .slice A b.length c] 37)) (Blk.alloc (Blk.alloc h _) _) (Blk.alloc (Blk.new _ _ _) _) (((hr.alloc (Nat.le_refl _) _).alloc (by simp) _).mono (by simp; omega)) hby hc hl)
  clear h hr hby
  generalize ((splitL b 8).isSome && k && (procB fr && (fr != o))) = x at *
  unfold toV at *
  generalize (if x = true then o else 0) = y at *
  go_enter Try.func15, Try.ntmps15
  go_wp2_with fail
  refine HG.out.mono ?_
  rintro e w1 ⟨rfl, hb1⟩
  go_wp2_with fail
  go_ret2
  exact ⟨rfl, (((Below.refl _ _).alloc (Nat.le_refl _) _).alloc (by simp) _).trans (hb1.mono (by simp; omega))⟩
set_option maxHeartbeats 1000000 in
theorem goes_nil (fv : Value) (f t : Int) (A : Option Addr) (c : Nat) (b : List Int) (w : World) (hr : Rd w.heap.size .u8 w A b) (hby : Byt b) (hc : b.length ≤ c) (hl : b.length ≤ 1000000000000) :
    Calls Try.prog 35 #[.pointer none, .agg #[.int .u32 f, .int .u32 t, .slice A b.length c], fv] w fun e w' => e = .returned (.tuple #[.int .u8 0, .bool false]) ∧ Below w.heap.size w w' := by
  have HI := Lib.hid (id_nil f t A c b (w.alloc (.cells #[.int .u32 f, .int .u32 t, .slice A b.length c] 37)) ((hr.alloc (Nat.le_refl _) _).mono (by simp)) hby hc hl)
  clear hr hby
  go_enter Try.func35, Try.ntmps35
  go_wp2_with fail
  refine HI.out.mono ?_
  rintro e w1 ⟨rfl, hb1⟩
  go_wp2_with fail
  go_ret2
  exact ⟨rfl, ((Below.refl _ _).alloc (Nat.le_refl _) _).trans (hb1.mono (by simp))⟩
set_option maxHeartbeats 1000000 in
theorem to_nil (f t : Int) (A : Option Addr) (c : Nat) (b : List Int) (w : World) (hr : Rd w.heap.size .u8 w A b) (hby : Byt b) (hc : b.length ≤ c) (hl : b.length ≤ 1000000000000) :
    Calls Try.prog 14 #[.pointer none, .agg #[.int .u32 f, .int .u32 t, .slice A b.length c]] w fun e w' => e = .returned (.tuple #[.int .u8 0, .bool false]) ∧ Below w.heap.size w w' := by
  have HG := Lib.hid (goes_nil (.func (.func 31) #[] #[]) f t A c b (w.alloc (.cells #[.int .u32 f, .int .u32 t, .slice A b.length c] 37)) ((hr.alloc (Nat.le_refl _) _).mono (by simp)) hby hc hl)
  clear hr hby
  go_enter Try.func14, Try.ntmps14
  go_wp2_with fail
  refine HG.out.mono ?_
  rintro e w1 ⟨rfl, hb1⟩
  go_wp2_with fail
  go_ret2
  exact ⟨rfl, ((Below.refl _ _).alloc (Nat.le_refl _) _).trans (hb1.mono (by simp))⟩
set_option maxHeartbeats 1000000 in
theorem fwd_nil (fr f t : Int) (A : Option Addr) (c : Nat) (b : List Int) (w : World) (hr : Rd w.heap.size .u8 w A b) (hby : Byt b) (hc : b.length ≤ c) (hl : b.length ≤ 1000000000000) :
    Calls Try.prog 15 #[.pointer none, .int .u8 fr, .agg #[.int .u32 f, .int .u32 t, .slice A b.length c]] w fun e w' => e = .returned (.tuple #[.int .u8 0, .bool false]) ∧ Below w.heap.size w w' := by
  have HG := Lib.hid (goes_nil (.func (.func 36) #[] #[.pointer (some ⟨w.heap.size, 0, none⟩)]) f t A c b ((w.alloc (.cells #[.int .u8 fr] 5)).alloc (.cells #[.int .u32 f, .int .u32 t, .slice A b.length c] 37)) (((hr.alloc (Nat.le_refl _) _).alloc (by simp) _).mono (by simp; omega)) hby hc hl)
  clear hr hby
  go_enter Try.func15, Try.ntmps15
  go_wp2_with fail
  refine HG.out.mono ?_
  rintro e w1 ⟨rfl, hb1⟩
  go_wp2_with fail
  go_ret2
  exact ⟨rfl, (((Below.refl _ _).alloc (Nat.le_refl _) _).alloc (by simp) _).trans (hb1.mono (by simp; omega))⟩
end Go.Proofs.Ytlefnddhmpgijaa
