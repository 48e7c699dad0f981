
/- Layer 26: bytes.Clone, bytes.Equal; plain laws on what Take tells. Conditions: as each theorem states them. -/
import Derived.Test.YtibjafkclojimaaD6
namespace Go.Proofs.Ytibjafkclojimaa
open Go.RowKit
theorem clone_any (A : Option Addr) (c : Nat) (xs : List Int) (w : World) (hr : Rd w.heap.size .u8 w A xs) (hl : xs.length ≤ 1099511627776) :
    Calls Try.prog 28 #[.slice A xs.length c] w (RetOwn 5 .u8 xs w) := by
  have HR := Lib.hid hr
  have hnil := fun (w : World) (a : Option Addr) (n c : Nat) => Lib.run_eql_slice_nil (P := Try.prog) w 50 5 a n c 0 0 Try.underlying50
  rcases A with _ | ad
  · have hx : xs = [] := by
      rcases xs with _ | ⟨x, r⟩
      · rfl
      · obtain ⟨ad, h, _⟩ := hr 0 (by simp); cases h
    subst hx
    clear hr HR
    go_enter Try.func28, Try.ntmps28
    go_wp2_with fail
    go_ret
    exact ⟨none, 0, 0, rfl, Own.nil _ _ _ _, Below.refl _ _⟩
  · clear hr
    go_enter Try.func28, Try.ntmps28
    go_wp2_with (first
      | (at_builtin; refine wpList_app (o := ⟨some 7, _, _, _, _, _⟩) elC rfl _ _ rfl rfl rfl (Own.litAt (xs := []) rfl rfl rfl (Nat.le_refl _) (by simp)) (HR.out.alloc (Nat.le_refl _) _) (by first | rfl | simp) ?_ ?_ ?_; (simp <;> omega); exact Below.size ((Below.refl w.heap.size w).alloc (Nat.le_refl _) _); intro A1 n1 c1 w1 h1; have H1 := Lib.hid h1; have B1 := Lib.hid (Below.trans ((Below.refl w.heap.size w).alloc (Nat.le_refl _) _) h1.2.2.1); clear h1))
    go_ret
    exact ⟨A1, n1, c1, rfl, H1.out.1, B1.out⟩
theorem clone_n (A : Option Addr) (c n : Nat) (xs : List Int) (w : World) (hr : Rd w.heap.size .u8 w A xs) (hn : n = xs.length) (hl : n ≤ 1099511627776) :
    Calls Try.prog 28 #[.slice A n c] w (RetOwn 5 .u8 xs w) := by
  subst hn; exact clone_any A c xs w hr hl

theorem equal_any (A A2 : Option Addr) (c c2 : Nat) (xs ys : List Int) (w : World) (hr : Rd w.heap.size .u8 w A xs) (hr2 : Rd w.heap.size .u8 w A2 ys) (hb : Byt xs) (hb2 : Byt ys) :
    Calls Try.prog 29 #[.slice A xs.length c, .slice A2 ys.length c2] w fun e w' => e = .returned (.bool (decide (xs = ys))) ∧ w = w' := by
  have h1 := conv_rd elC Try.underlying9 hr c
  have h2 := conv_rd elC Try.underlying9 hr2 c2
  have HE := Lib.hid (str_eq hb hb2)
  clear hr hr2 hb hb2
  generalize strOfNums xs = s1 at *
  generalize strOfNums ys = s2 at *
  go_enter Try.func29, Try.ntmps29
  go_wp2_with fail
  go_ret
  exact ⟨ret_bool HE.out, rfl⟩


theorem equal_n {A A2 : Option Addr} {n n2 c c2 : Nat} {xs ys : List Int} {w : World} (h1 : xs.length = n) (h2 : ys.length = n2) (hr : Rd w.heap.size .u8 w A xs) (hr2 : Rd w.heap.size .u8 w A2 ys) (hb : Byt xs) (hb2 : Byt ys) :
    Calls Try.prog 29 #[.slice A n c, .slice A2 n2 c2] w fun e w' => e = .returned (.bool (decide (xs = ys))) ∧ w = w' := by subst h1; subst h2; exact equal_any A A2 c c2 xs ys w hr hr2 hb hb2
def preR (d : List (List Int)) (o : Option (List (List Int) × List Int)) : Option (List (List Int) × List Int) := o.map fun p => (d ++ p.1, p.2)
theorem preR_nil (o : Option (List (List Int) × List Int)) : preR [] o = o := by cases o <;> rfl
theorem takeRows_zero (r : List Int) : takeRows 0 r = some ([], r) := rfl
theorem takeRows_short {q : Nat} {r : List Int} (h : r.length < 4) : takeRows (q + 1) r = none := by rw [takeRows, if_pos h]
theorem takeRows_long {q : Nat} {r : List Int} (h : 4 ≤ r.length) (h2 : ((r.drop 4).length : Int) < ofF 0 (r.take 4)) : takeRows (q + 1) r = none := by rw [takeRows, if_neg (by omega), if_pos h2]
theorem takeRows_step {q : Nat} {r : List Int} {d : List (List Int)} {m : Nat} (h : 4 ≤ r.length) (hm : ofF 0 (r.take 4) = (m : Int)) (h2 : m ≤ (r.drop 4).length) : preR d (takeRows (q + 1) r) = preR (d ++ [(r.drop 4).take m]) (takeRows q ((r.drop 4).drop m)) := by
  rw [takeRows, if_neg (by omega), if_neg (by omega), hm, Int.toNat_natCast]
  cases takeRows q ((r.drop 4).drop m) with
  | none => rfl
  | some p => obtain ⟨l, s⟩ := p; simp [preR]
section
variable {b : List Int}
theorem takeL_out (h : b.length < 49 ∨ 16777236 < b.length) : takeL b = none := by unfold takeL; rw [if_pos h]
theorem takeL_none (h1 : 49 ≤ b.length) (h2 : b.length ≤ 16777236) (h : takeRows (ofF 0 (((b.take (b.length - 8)).drop 37).take 4)).toNat ((b.take (b.length - 8)).drop 41) = none) : takeL b = none := by
  unfold takeL; rw [if_neg (by omega), h]
theorem takeL_bad (h1 : 49 ≤ b.length) (h2 : b.length ≤ 16777236) {l : List (List Int)} {s : List Int} (h : takeRows (ofF 0 (((b.take (b.length - 8)).drop 37).take 4)).toNat ((b.take (b.length - 8)).drop 41) = some (l, s))
    (hb : 0 < s.length ∨ ofF 0 (((b.take (b.length - 8)).drop 8).take 4) ≠ ((ownL (b.take (b.length - 8)) l).size : Int) ∨ (shaL (b.take (b.length - 8))).take 8 ≠ b.drop (b.length - 8) ∨ ¬ (ownL (b.take (b.length - 8)) l).May) : takeL b = none := by
  unfold takeL; rw [if_neg (by omega), h]; simp only; rw [if_pos hb]
theorem takeL_good (h1 : 49 ≤ b.length) (h2 : b.length ≤ 16777236) {l : List (List Int)} {s : List Int} (h : takeRows (ofF 0 (((b.take (b.length - 8)).drop 37).take 4)).toNat ((b.take (b.length - 8)).drop 41) = some (l, s))
    (a1 : s.length = 0) (a2 : ofF 0 (((b.take (b.length - 8)).drop 8).take 4) = ((ownL (b.take (b.length - 8)) l).size : Int)) (a3 : (shaL (b.take (b.length - 8))).take 8 = b.drop (b.length - 8)) (a4 : (ownL (b.take (b.length - 8)) l).May) :
    takeL b = some (ownL (b.take (b.length - 8)) l, ofF 0 ((b.take (b.length - 8)).take 8)) := by
  unfold takeL; rw [if_neg (by omega), h]; simp only; rw [if_neg]
  rintro (h | h | h | h)
  · omega
  · exact h a2
  · exact h a3
  · exact h a4
end
/-- a cell's rows lie in blocks from B on -/
def FrT (B : Nat) (A : Option Addr) (ts : List Tx) : Prop := (∀ ad, A = some ad → B ≤ ad.block) ∧ ∀ t ∈ ts, ∀ ad, t.A = some ad → B ≤ ad.block
theorem FrT.mono {B B' : Nat} {A : Option Addr} {ts : List Tx} (h : FrT B A ts) (hB : B' ≤ B) : FrT B' A ts := ⟨fun ad e => Nat.le_trans hB (h.1 ad e), fun t ht ad e => Nat.le_trans hB (h.2 t ht ad e)⟩
theorem CIn.grownLo {B B0 g : Nat} {w w' : World} {A : Option Addr} {n cap : Nat} {ts : List Tx} (h : CIn B w A n cap ts) (hf : FrT B0 A ts) (hg : w.grownBy w' (some g)) (hl : g < B0) (hB : B ≤ w.heap.size) : CIn B w' A n cap ts :=
  ⟨h.len, h.cap, fun i hi => by
    obtain ⟨ad, e, h1, h2, h3, h4⟩ := h.txs i hi
    have hmem := getD_mem (z := Tx.none) hi
    have ha := hf.1 ad e
    refine ⟨ad, e, h1, (World.cell?_of_block (hg.block _ (by rw [block_of_add]; omega) (by rw [block_of_add]; intro q; injection q; omega))).trans h2, fun j hj => ?_, h4⟩
    obtain ⟨ad2, e2, h5, h6⟩ := h3 j hj
    have hb := hf.2 _ hmem ad2 e2
    exact ⟨ad2, e2, h5, (World.cell?_of_block (hg.block _ (by rw [block_of_add]; omega) (by rw [block_of_add]; intro q; injection q; omega))).trans h6⟩, h.byt⟩
def TakeNo (w : World) (e : Ending) (w' : World) : Prop := e = .returned (.tuple #[.agg #[.int .u64 0, .int .u8 0, .int .u64 0, .int .u64 0, .slice none 0 0], .int .u64 0, .int .i64 2]) ∧ Below w.heap.size w w'
def TakeYes (c : CL) (k : Int) (w : World) (e : Ending) (w' : World) : Prop :=
  ∃ A n cap ts, e = .returned (.tuple #[.agg #[.int .u64 c.ep, .int .u8 c.ow, .int .u64 c.nx, .int .u64 c.sn, .slice A n cap], .int .u64 k, .int .i64 0]) ∧ CIn w'.heap.size w' A n cap ts ∧ FrT w.heap.size A ts ∧ c.bs = bsT ts ∧ Below w.heap.size w w'
def TakP (o : Option (CL × Int)) (w : World) (e : Ending) (w' : World) : Prop := match o with
  | some (c, k) => TakeYes c k w e w'
  | none => TakeNo w e w'
theorem TakP.no {o : Option (CL × Int)} {w : World} {e : Ending} {w' : World} (h : o = none) (h2 : TakeNo w e w') : TakP o w e w' := by subst h; exact h2
theorem TakP.yes {o : Option (CL × Int)} {c : CL} {k : Int} {w : World} {e : Ending} {w' : World} (h : o = some (c, k)) (h2 : TakeYes c k w e w') : TakP o w e w' := by subst h; exact h2
end Go.Proofs.Ytibjafkclojimaa
