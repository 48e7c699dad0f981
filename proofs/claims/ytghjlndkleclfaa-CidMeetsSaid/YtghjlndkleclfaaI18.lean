/- Layer 20: contract of Issue. Conditions: as each theorem states them. -/
import Derived.Test.YtghjlndkleclfaaI17
import Derived.Test.YtghjlndkleclfaaI16
import Derived.Maps.AppendAt
namespace Go.Proofs.Ytghjlndkleclfaa
open Go.RowKit
theorem slT_rd {w : World} {A : Option Addr} {n c : Nat} {L : List Int} (h : SlT w (.slice A n c) L) : Rd w.heap.size .u8 w A L := by
  obtain ⟨A', c', e, _, h2, _⟩ := h
  injection e with e1 _ _
  subst e1
  exact h2
theorem sizeF34 : (Try.prog.info? 34).map (·.size) = some 30 := by kernel_rfl
theorem fr_load {gF : Nat} {cs : List Value} {w : World} (h : Blk w gF 34 cs.toArray) (hl : cs.length = 30) : (Instr.loadAt 34 (.pointer (some ⟨gF, 0, none⟩))).run Try.prog w = .ok (.agg cs.toArray) w :=
  blk_load h Try.underlying34 rfl (by rw [sizeF34]; simp [hl])
/-- a struct and a number handed back -/
theorem results_fr {w : World} {gF : Nat} {cs : List Value} {fn : Func} {x u : Tmp} {tmps : Array Value} (hr : fn.results = #[.cell x 34, .tmp u]) (hx : tmps.getD x undef = .pointer (some ⟨gF, 0, none⟩)) (h : Blk w gF 34 cs.toArray) (hl : cs.length = 30) :
    (results fn tmps).run Try.prog w = .ok (.tuple #[.agg cs.toArray, tmps.getD u undef]) w := by
  have hx' : tmps[x]?.getD undef = .pointer (some ⟨gF, 0, none⟩) := by simpa using hx
  have hld := fr_load h hl
  simp [Instr.loadAt, Instr.sureAddr] at hld
  simp [results, hr, hx', hld, asAddr]
theorem frN_one (A : Option Addr) (n c : Nat) (q t : Int) : ∀ u ∈ ([.int .u64 24, .int .u64 q, .int .u64 0, .int .u64 0, .int .u64 0, .int .u64 0, .bool false, .slice none 0 0, .slice A n c, .int .u8 t, .int .u8 0, .int .u8 0, .int .u8 0, .int .u8 0, .int .u8 0, .int .u8 0, .int .u8 0, .int .u8 0, .int .u8 0, .int .u8 0, .int .u8 0, .int .u8 0, .int .u8 0, .int .u8 0, .int .u8 0, .slice none 0 0, .int .u64 0, .int .u64 0, .int .u64 0, .int .u64 0] : List Value), u.oneCell' = true := by
  intro u hu
  simp only [List.mem_cons, List.not_mem_nil, or_false] at hu
  rcases hu with rfl | rfl | rfl | rfl | rfl | rfl | rfl | rfl | rfl | rfl | rfl | rfl | rfl | rfl | rfl | rfl | rfl | rfl | rfl | rfl | rfl | rfl | rfl | rfl | rfl | rfl | rfl | rfl | rfl | rfl <;> rfl
/-- two blocks may be turned -/
structure Two (g go : Nat) (w w' : World) : Prop where
  os : w'.os = w.os
  tape : w'.tape = w.tape
  output : w'.output = w.output
  size : w.heap.size ≤ w'.heap.size
  block : ∀ k, k < w.heap.size → k ≠ g → k ≠ go → w'.heap[k]? = w.heap[k]?
section
variable {g go b : Nat} {w w1 w2 : World}
theorem Two.of (h : w.grownBy w1 (some go)) (h' : w1.grownBy w2 (some g)) : Two g go w w2 := ⟨h'.os.trans h.os, h'.tape.trans h.tape, h'.output.trans h.output, Nat.le_trans h.size h'.size, fun k hk h1 h2 => (h'.block k (Nat.lt_of_lt_of_le hk h.size) (by intro q; injection q with q; exact h1 q)).trans (h.block k hk (by intro q; injection q with q; exact h2 q))⟩
theorem Two.one (h : Two g go w w1) (h' : w1.grownBy w2 (some g)) : Two g go w w2 := ⟨h'.os.trans h.os, h'.tape.trans h.tape, h'.output.trans h.output, Nat.le_trans h.size h'.size, fun k hk h1 h2 => (h'.block k (Nat.lt_of_lt_of_le hk h.size) (by intro q; injection q with q; exact h1 q)).trans (h.block k hk h1 h2)⟩
theorem Two.hi (h : Two g go w w1) (h' : w1.grownBy w2 (some b)) (hb : w.heap.size ≤ b) : Two g go w w2 := ⟨h'.os.trans h.os, h'.tape.trans h.tape, h'.output.trans h.output, Nat.le_trans h.size h'.size, fun k hk h1 h2 => (h'.block k (Nat.lt_of_lt_of_le hk h.size) (by intro q; injection q with q; omega)).trans (h.block k hk h1 h2)⟩
theorem Two.below (h : Two g go w w1) (h' : Below w1.heap.size w1 w2) : Two g go w w2 := h.one (only_of_below h' _)
theorem Two.split {t : TypeId} {cs : Array Value} (h : Two g go w w2) (hk : Blk w g t cs) : ∃ u, w.grownBy u (some go) ∧ Blk u g t cs ∧ u.grownBy w2 (some g) := by
  have hl := hk.lt
  have hl2 : g < w2.heap.size := Nat.lt_of_lt_of_le hl h.size
  refine ⟨{ w2 with heap := w2.heap.setIfInBounds g (.cells cs t (0, 0)) }, ⟨h.os, h.tape, h.output, by simpa using h.size, fun k h1 h2 => ?_⟩, ?_, ⟨rfl, rfl, rfl, by simp, fun k h1 h2 => ?_⟩⟩
  · by_cases e : k = g
    · subst e
      simp only [Array.getElem?_setIfInBounds, if_true, hl2]
      exact hk.symm
    · simp only [Array.getElem?_setIfInBounds]
      rw [if_neg (fun q => e q.symm)]
      exact h.block k h1 e (by intro q; subst q; exact h2 rfl)
  · unfold Blk
    simp only [Array.getElem?_setIfInBounds, if_true, hl2]
  · simp only [Array.getElem?_setIfInBounds]
    rw [if_neg (by intro q; subst q; exact h2 rfl)]
end
theorem tokB_load {gt : Nat} {w : World} {t : Int} (h : Blk w gt 30 #[.int .u8 t, .int .u8 0, .int .u8 0, .int .u8 0, .int .u8 0, .int .u8 0, .int .u8 0, .int .u8 0, .int .u8 0, .int .u8 0, .int .u8 0, .int .u8 0, .int .u8 0, .int .u8 0, .int .u8 0, .int .u8 0]) : (Instr.loadAt 30 (.pointer (some ⟨gt, 0, none⟩))).run Try.prog w = .ok (.agg #[.int .u8 t, .int .u8 0, .int .u8 0, .int .u8 0, .int .u8 0, .int .u8 0, .int .u8 0, .int .u8 0, .int .u8 0, .int .u8 0, .int .u8 0, .int .u8 0, .int .u8 0, .int .u8 0, .int .u8 0, .int .u8 0]) w :=
  blk_load h Try.underlying30 rfl size16
set_option maxRecDepth 100000 in
set_option maxHeartbeats 4000000 in
theorem issue_any (B g go n co : Nat) (vp : Value) (s : IS) (t lim : Int) (Ac : Option Addr) (nc cc : Nat) (bs : List Int) (w : World) (h : IdV B g w (.slice (some ⟨go, 0, none⟩) n co) vp s) (hB : B ≤ w.heap.size) (hln : s.own.length = n) (l1 : n ≤ 900) (hc : SlT w (.slice Ac nc cc) bs) (hcn : bs.length = nc) (hcb : Byt bs) (hn1 : 1 ≤ nc) (hn2 : nc ≤ 20)
    (ht0 : 0 ≤ t) (ht1 : t < 256) (hk : idx (fun x => decide (x.bs = bs)) s.own = -1) (hlim : (n : Int) < lim) (hnx : s.nx ≤ 4611686018427387903) (hnx0 : 0 ≤ s.nx) :
    Calls Try.prog 6 #[.pointer (some ⟨g, 0, none⟩), .int .u64 lim, .slice Ac nc cc, .agg #[.int .u8 t, .int .u8 0, .int .u8 0, .int .u8 0, .int .u8 0, .int .u8 0, .int .u8 0, .int .u8 0, .int .u8 0, .int .u8 0, .int .u8 0, .int .u8 0, .int .u8 0, .int .u8 0, .int .u8 0, .int .u8 0]] w fun e w' => ∃ v' y A' n' c', e = .returned (.tuple #[.agg #[.int .u64 24, .int .u64 s.nx, .int .u64 0, .int .u64 0, .int .u64 0, .int .u64 0, .bool false, .slice none 0 0, .slice A' n' c', .int .u8 t, .int .u8 0, .int .u8 0, .int .u8 0, .int .u8 0, .int .u8 0, .int .u8 0, .int .u8 0, .int .u8 0, .int .u8 0, .int .u8 0, .int .u8 0, .int .u8 0, .int .u8 0, .int .u8 0, .int .u8 0, .slice none 0 0, .int .u64 0, .int .u64 0, .int .u64 0, .int .u64 0], .int .i64 0]) ∧ SlT w' (.slice A' n' c') bs ∧ y.e = ⟨s.nx, bs, tk t⟩ ∧ IdV B g w' v' vp ⟨s.own ++ [y], s.nx + 1, s.peer, s.us, s.pr, s.ret⟩ ∧ (v'.ownBlock = some go ∨ ∃ k, v'.ownBlock = some k ∧ w.heap.size ≤ k) ∧ Two g go w w' := by
  have I0 := Lib.hid h
  have X0 := Lib.hid hc
  have b1 := (Below.refl w.heap.size w).alloc (Nat.le_refl _) (.cells #[.int .u8 t, .int .u8 0, .int .u8 0, .int .u8 0, .int .u8 0, .int .u8 0, .int .u8 0, .int .u8 0, .int .u8 0, .int .u8 0, .int .u8 0, .int .u8 0, .int .u8 0, .int .u8 0, .int .u8 0, .int .u8 0] 30)
  have b2 : Below w.heap.size w ((w.alloc (.cells #[.int .u8 t, .int .u8 0, .int .u8 0, .int .u8 0, .int .u8 0, .int .u8 0, .int .u8 0, .int .u8 0, .int .u8 0, .int .u8 0, .int .u8 0, .int .u8 0, .int .u8 0, .int .u8 0, .int .u8 0, .int .u8 0] 30)).alloc (.cells #[.int .u64 0, .int .u64 0, .int .u64 0, .int .u64 0, .int .u64 0, .int .u64 0, .bool false, .slice none 0 0, .slice none 0 0, .int .u8 0, .int .u8 0, .int .u8 0, .int .u8 0, .int .u8 0, .int .u8 0, .int .u8 0, .int .u8 0, .int .u8 0, .int .u8 0, .int .u8 0, .int .u8 0, .int .u8 0, .int .u8 0, .int .u8 0, .int .u8 0, .slice none 0 0, .int .u64 0, .int .u64 0, .int .u64 0, .int .u64 0] 34)) := b1.alloc b1.size _
  have T2 : Hid (Blk ((w.alloc (.cells #[.int .u8 t, .int .u8 0, .int .u8 0, .int .u8 0, .int .u8 0, .int .u8 0, .int .u8 0, .int .u8 0, .int .u8 0, .int .u8 0, .int .u8 0, .int .u8 0, .int .u8 0, .int .u8 0, .int .u8 0, .int .u8 0] 30)).alloc (.cells #[.int .u64 0, .int .u64 0, .int .u64 0, .int .u64 0, .int .u64 0, .int .u64 0, .bool false, .slice none 0 0, .slice none 0 0, .int .u8 0, .int .u8 0, .int .u8 0, .int .u8 0, .int .u8 0, .int .u8 0, .int .u8 0, .int .u8 0, .int .u8 0, .int .u8 0, .int .u8 0, .int .u8 0, .int .u8 0, .int .u8 0, .int .u8 0, .int .u8 0, .slice none 0 0, .int .u64 0, .int .u64 0, .int .u64 0, .int .u64 0] 34)) w.heap.size 30 #[.int .u8 t, .int .u8 0, .int .u8 0, .int .u8 0, .int .u8 0, .int .u8 0, .int .u8 0, .int .u8 0, .int .u8 0, .int .u8 0, .int .u8 0, .int .u8 0, .int .u8 0, .int .u8 0, .int .u8 0, .int .u8 0]) := Lib.hid ((Blk.new _ _ _).alloc _)
  have F2 : Hid (Blk ((w.alloc (.cells #[.int .u8 t, .int .u8 0, .int .u8 0, .int .u8 0, .int .u8 0, .int .u8 0, .int .u8 0, .int .u8 0, .int .u8 0, .int .u8 0, .int .u8 0, .int .u8 0, .int .u8 0, .int .u8 0, .int .u8 0, .int .u8 0] 30)).alloc (.cells #[.int .u64 0, .int .u64 0, .int .u64 0, .int .u64 0, .int .u64 0, .int .u64 0, .bool false, .slice none 0 0, .slice none 0 0, .int .u8 0, .int .u8 0, .int .u8 0, .int .u8 0, .int .u8 0, .int .u8 0, .int .u8 0, .int .u8 0, .int .u8 0, .int .u8 0, .int .u8 0, .int .u8 0, .int .u8 0, .int .u8 0, .int .u8 0, .int .u8 0, .slice none 0 0, .int .u64 0, .int .u64 0, .int .u64 0, .int .u64 0] 34)) (w.heap.size + 1) 34 #[.int .u64 0, .int .u64 0, .int .u64 0, .int .u64 0, .int .u64 0, .int .u64 0, .bool false, .slice none 0 0, .slice none 0 0, .int .u8 0, .int .u8 0, .int .u8 0, .int .u8 0, .int .u8 0, .int .u8 0, .int .u8 0, .int .u8 0, .int .u8 0, .int .u8 0, .int .u8 0, .int .u8 0, .int .u8 0, .int .u8 0, .int .u8 0, .int .u8 0, .slice none 0 0, .int .u64 0, .int .u64 0, .int .u64 0, .int .u64 0]) := Lib.hid (blk_new_at (by simp))
  have I2 := Lib.hid (h.below b2)
  have X2 := Lib.hid (hc.below b2)
  have B2 := Lib.hid b2
  have HLN := Lib.hid hln
  have HK := Lib.hid hk
  have hgo := (h.own.1.lt go rfl)
  have HGO : Hid (go < w.heap.size ∧ g < w.heap.size) := Lib.hid ⟨hgo.2, h.lt⟩
  clear h hc b1 b2 hln hk hgo I0 X0
  go_enter Try.func6, Try.ntmps6
  go_wp2_with fail
  generalize (w.alloc (.cells #[.int .u8 t, .int .u8 0, .int .u8 0, .int .u8 0, .int .u8 0, .int .u8 0, .int .u8 0, .int .u8 0, .int .u8 0, .int .u8 0, .int .u8 0, .int .u8 0, .int .u8 0, .int .u8 0, .int .u8 0, .int .u8 0] 30)).alloc (.cells #[.int .u64 0, .int .u64 0, .int .u64 0, .int .u64 0, .int .u64 0, .int .u64 0, .bool false, .slice none 0 0, .slice none 0 0, .int .u8 0, .int .u8 0, .int .u8 0, .int .u8 0, .int .u8 0, .int .u8 0, .int .u8 0, .int .u8 0, .int .u8 0, .int .u8 0, .int .u8 0, .int .u8 0, .int .u8 0, .int .u8 0, .int .u8 0, .int .u8 0, .slice none 0 0, .int .u64 0, .int .u64 0, .int .u64 0, .int .u64 0] 34) = w2 at *
  obtain ⟨gt, hgt⟩ : ∃ z, w.heap.size = z := ⟨_, rfl⟩
  have HGT := Lib.hid hgt
  rw [hgt] at T2 F2 ⊢
  clear hgt
  refine Calls.mono (may_any Ac nc cc w2 (by omega)) ?_
  rw [decide_eq_true (⟨hn1, hn2⟩ : 1 ≤ nc ∧ nc ≤ 20)]
  rintro e wk ⟨rfl, rfl⟩
  go_wp2_with fail
  have RO := owns_any B g _ vp s Ac nc cc bs w2 I2.out.r (by rw [HLN.out]; omega) (slT_rd X2.out) hcn hcb
  rw [HK.out] at RO
  refine Calls.mono RO ?_
  clear RO
  rintro e w3 ⟨rfl, b3⟩
  have T3 := Lib.hid (Blk.below T2.out b3 (Blk.lt T2.out))
  have F3 := Lib.hid (Blk.below F2.out b3 (Blk.lt F2.out))
  have I3 := Lib.hid (I2.out.below b3)
  have X3 := Lib.hid (X2.out.below b3)
  have B3 := Lib.hid (B2.out.trans (b3.mono B2.out.size))
  clear b3 T2 F2 I2 X2 B2
  obtain ⟨vr, k3, u3⟩ := I3.out.blk
  have K3 := Lib.hid k3
  have U3 := Lib.hid u3
  obtain ⟨c0, c1, c2, c3, c4, c5⟩ := id_cells k3
  have q1 : decide (lim ≤ (n : Int)) = false := decide_eq_false (by omega)
  have q2 : decide ((4611686018427387903 : Int) < s.nx) = false := decide_eq_false (by omega)
  have q0 : decide ((0 : Int) ≤ -1) = false := by decide
  clear k3 u3
  go_wp2_with fail
  clear c0 c1 c2 c3 c4 c5 q0 q1 q2
  have hcw : (fun v : World => IdB g #[.slice (some ⟨go, 0, none⟩) n co, .int .u64 s.nx, vp, .int .u64 s.us, .int .u64 s.pr, vr] v ∧ Blk v gt 30 #[.int .u8 t, .int .u8 0, .int .u8 0, .int .u8 0, .int .u8 0, .int .u8 0, .int .u8 0, .int .u8 0, .int .u8 0, .int .u8 0, .int .u8 0, .int .u8 0, .int .u8 0, .int .u8 0, .int .u8 0, .int .u8 0]) w3.drew := ⟨Blk.drew K3.out, Blk.drew T3.out⟩
  have e0 : ∀ r : CW (fun v : World => IdB g #[.slice (some ⟨go, 0, none⟩) n co, .int .u64 s.nx, vp, .int .u64 s.us, .int .u64 s.pr, vr] v ∧ Blk v gt 30 #[.int .u8 t, .int .u8 0, .int .u8 0, .int .u8 0, .int .u8 0, .int .u8 0, .int .u8 0, .int .u8 0, .int .u8 0, .int .u8 0, .int .u8 0, .int .u8 0, .int .u8 0, .int .u8 0, .int .u8 0, .int .u8 0]), r.world.cell? ⟨g, 0, none⟩ = some (.slice (some ⟨go, 0, none⟩) n co) := fun r => Blk.cell r.holds.1 0
  have e1 : ∀ r : CW (fun v : World => IdB g #[.slice (some ⟨go, 0, none⟩) n co, .int .u64 s.nx, vp, .int .u64 s.us, .int .u64 s.pr, vr] v ∧ Blk v gt 30 #[.int .u8 t, .int .u8 0, .int .u8 0, .int .u8 0, .int .u8 0, .int .u8 0, .int .u8 0, .int .u8 0, .int .u8 0, .int .u8 0, .int .u8 0, .int .u8 0, .int .u8 0, .int .u8 0, .int .u8 0, .int .u8 0]), r.world.cell? ⟨g, 1, none⟩ = some (.int .u64 s.nx) := fun r => Blk.cell r.holds.1 1
  have hne : Nonempty (CW (fun v : World => IdB g #[.slice (some ⟨go, 0, none⟩) n co, .int .u64 s.nx, vp, .int .u64 s.us, .int .u64 s.pr, vr] v ∧ Blk v gt 30 #[.int .u8 t, .int .u8 0, .int .u8 0, .int .u8 0, .int .u8 0, .int .u8 0, .int .u8 0, .int .u8 0, .int .u8 0, .int .u8 0, .int .u8 0, .int .u8 0, .int .u8 0, .int .u8 0, .int .u8 0, .int .u8 0])) := CW.inh hcw
  refine wp_region_mixO (fun w' => ∃ r : CW (fun v : World => IdB g #[.slice (some ⟨go, 0, none⟩) n co, .int .u64 s.nx, vp, .int .u64 s.us, .int .u64 s.pr, vr] v ∧ Blk v gt 30 #[.int .u8 t, .int .u8 0, .int .u8 0, .int .u8 0, .int .u8 0, .int .u8 0, .int .u8 0, .int .u8 0, .int .u8 0, .int .u8 0, .int .u8 0, .int .u8 0, .int .u8 0, .int .u8 0, .int .u8 0, .int .u8 0]), w' = r.world) [([0, 1, 2, 3, 4, 5, 6, 7, 8, 9, 10, 11, 13], 12), ([14], 15), ([], 16), ([17, 18, 19], 20)] (by kernel_rfl) (by kernel_rfl) (by kernel_rfl) (by kernel_rfl) (by kernel_rfl) ⟨CW.mk' hcw, rfl⟩ ?_
  try (rw [put_none])
  simp only [pickL, List.map_cons, List.map_nil, List.filterMap_cons, List.filterMap_nil, List.getElem?_cons_succ, List.getElem?_cons_zero]
  refine mixO_cons ?_
  show wpQuiet _ _ _ _ (_ :: _) _
  go_big_quiet_step (fail)
  show wpQuiet _ _ _ _ (_ :: _) _
  go_big_quiet_step (fail)
  show wpQuiet _ _ _ _ (_ :: _) _
  go_big_quiet_step (fail)
  show wpQuiet _ _ _ _ (_ :: _) _
  go_big_quiet_step (fail)
  show wpQuiet _ _ _ _ (_ :: _) _
  go_big_quiet_step (fail)
  show wpQuiet _ _ _ _ (_ :: _) _
  go_big_quiet_step (fail)
  show wpQuiet _ _ _ _ (_ :: _) _
  go_big_quiet_step (fail)
  show wpQuiet _ _ _ _ (_ :: _) _
  go_big_quiet_step (fail)
  show wpQuiet _ _ _ _ (_ :: _) _
  go_big_quiet_step (fail)
  show wpQuiet _ _ _ _ (_ :: _) _
  go_big_quiet_step (fail)
  show wpQuiet _ _ _ _ (_ :: _) _
  go_big_quiet_step (fail)
  show wpQuiet _ _ _ _ (_ :: _) _
  go_big_quiet_step (fail)
  show wpQuiet _ _ _ _ (_ :: _) _
  refine wpQuiet_loadV (o := ⟨some 57, _, _, _, _, _⟩) rfl _ rfl rfl (fun w' hw' => by obtain ⟨r, rfl⟩ := hw'; exact tokB_load r.holds.2) ?_
  simp only [Act.put, List.setIfInBounds_toArray, List.set_cons_zero, List.set_cons_succ]
  refine wpQuiet_nil ?_
  show wpList _ _ _ [_] _ _
  have T4 := Lib.hid (Blk.drew T3.out)
  have F4 := Lib.hid (Blk.drew F3.out)
  have I4 := Lib.hid (I3.out.below (Below.refl w3.heap.size w3).drew)
  have X4 := Lib.hid (X3.out.below (Below.refl w3.heap.size w3).drew)
  have K4 := Lib.hid (Blk.drew K3.out)
  have U4 := Lib.hid (U3.out.below (Below.refl w3.heap.size w3).drew)
  have B4 := Lib.hid B3.out.drew
  clear T3 F3 I3 X3 K3 U3 B3 hcw e0 e1
  go_wp2_with fail
  generalize w3.drew = w4 at *
  refine Calls.mono (clone_n Ac cc nc bs w4 (slT_rd X4.out) hcn.symm (by omega)) ?_
  rintro e w5 ⟨A5, n5, c5, rfl, o5, b5⟩
  have Q5 := Lib.hid o5
  have T5 := Lib.hid (Blk.below T4.out b5 (Blk.lt T4.out))
  have F5 := Lib.hid (Blk.below F4.out b5 (Blk.lt F4.out))
  have I5 := Lib.hid (I4.out.below b5)
  have X5 := Lib.hid (X4.out.below b5)
  have K5 := Lib.hid (Blk.below K4.out b5 (Blk.lt K4.out))
  have U5 := Lib.hid (U4.out.below b5)
  have B5 := Lib.hid (B4.out.trans (b5.mono B4.out.size))
  clear T4 F4 I4 X4 K4 U4 B4 o5 b5
  go_wp2_with fail
  refine MixO.narrow (fun _ h => h) (⟨CW.mk' (show (fun v : World => IdB g #[.slice (some ⟨go, 0, none⟩) n co, .int .u64 s.nx, vp, .int .u64 s.us, .int .u64 s.pr, vr] v ∧ Blk v gt 30 #[.int .u8 t, .int .u8 0, .int .u8 0, .int .u8 0, .int .u8 0, .int .u8 0, .int .u8 0, .int .u8 0, .int .u8 0, .int .u8 0, .int .u8 0, .int .u8 0, .int .u8 0, .int .u8 0, .int .u8 0, .int .u8 0]) w5 from ⟨K5.out, T5.out⟩), rfl⟩) ?_
  refine mixO_cons ?_
  repeat (show wpQuiet _ _ _ _ (_ :: _) _; go_big_quiet_step (fail))
  refine wpQuiet_nil ?_
  show wpList _ _ _ [_] _ _
  go_wp2_with fail
  have bl := (Below.refl w5.heap.size w5).alloc (Nat.le_refl _) (.cells #[.int .u64 s.nx, .slice A5 n5 c5, .int .u8 t, .int .u8 0, .int .u8 0, .int .u8 0, .int .u8 0, .int .u8 0, .int .u8 0, .int .u8 0, .int .u8 0, .int .u8 0, .int .u8 0, .int .u8 0, .int .u8 0, .int .u8 0, .int .u8 0, .int .u8 0] 47)
  have V6 : Hid (Blk (w5.alloc (.cells #[.int .u64 s.nx, .slice A5 n5 c5, .int .u8 t, .int .u8 0, .int .u8 0, .int .u8 0, .int .u8 0, .int .u8 0, .int .u8 0, .int .u8 0, .int .u8 0, .int .u8 0, .int .u8 0, .int .u8 0, .int .u8 0, .int .u8 0, .int .u8 0, .int .u8 0] 47)) w5.heap.size 47 (⟨s.nx, A5, n5, c5, bs, tk t⟩ : CX).vs.toArray) := Lib.hid (Blk.new w5 _ _)
  have hok : (⟨s.nx, A5, n5, c5, bs, tk t⟩ : CX).Ok w5 := CX.Ok.ofOwn Q5.out hcb (by omega) (by simp [tk]) (fun z hz => by
    unfold tk at hz
    rcases List.mem_cons.1 hz with rfl | hz
    · omega
    · rw [List.eq_of_mem_replicate hz]; decide)
  have Y6 := Lib.hid (hok.below bl)
  have T6 := Lib.hid (Blk.below T5.out bl (Blk.lt T5.out))
  have F6 := Lib.hid (Blk.below F5.out bl (Blk.lt F5.out))
  have I6 := Lib.hid (I5.out.below bl)
  have X6 := Lib.hid (X5.out.below bl)
  have K6 := Lib.hid (Blk.below K5.out bl (Blk.lt K5.out))
  have U6 := Lib.hid (U5.out.below bl)
  have B6 := Lib.hid (B5.out.trans (bl.mono B5.out.size))
  clear T5 F5 I5 X5 K5 U5 B5 Q5 hok bl
  generalize w5.alloc (.cells #[.int .u64 s.nx, .slice A5 n5 c5, .int .u8 t, .int .u8 0, .int .u8 0, .int .u8 0, .int .u8 0, .int .u8 0, .int .u8 0, .int .u8 0, .int .u8 0, .int .u8 0, .int .u8 0, .int .u8 0, .int .u8 0, .int .u8 0, .int .u8 0, .int .u8 0] 47) = w6 at *
  obtain ⟨vb, hvb⟩ : ∃ z, w5.heap.size = z := ⟨_, rfl⟩
  rw [hvb] at V6 ⊢
  clear hvb
  refine MixO.narrow (fun _ h => h) (⟨CW.mk' (show (fun v : World => IdB g #[.slice (some ⟨go, 0, none⟩) n co, .int .u64 s.nx, vp, .int .u64 s.us, .int .u64 s.pr, vr] v ∧ Blk v gt 30 #[.int .u8 t, .int .u8 0, .int .u8 0, .int .u8 0, .int .u8 0, .int .u8 0, .int .u8 0, .int .u8 0, .int .u8 0, .int .u8 0, .int .u8 0, .int .u8 0, .int .u8 0, .int .u8 0, .int .u8 0, .int .u8 0]) w6 from ⟨K6.out, T6.out⟩), rfl⟩) ?_
  refine mixO_cons ?_
  refine wpQuiet_nil ?_
  show wpList _ _ _ [_] _ _
  obtain ⟨i0, hi0, hz0, hz1, hz2⟩ := info_parts infoE
  have HB6 := Nat.le_trans hB B6.out.size
  have HOW : Hid (w6.ownsRow B 47 18 (.slice (some ⟨go, 0, none⟩) n co) n (vsE s.own)) := Lib.hid (by have h := I6.out.own.1; rw [HLN.out] at h; exact h)
  go_wp2_with (at_builtin; go_loud (refine wpList_append_own_at (o := ⟨some 60, _, _, _, _, _⟩) _ rfl _ _ 40 rfl B 47 i0 (.agg #[.int .u64 0, .slice none 0 0, .int .u8 0, .int .u8 0, .int .u8 0, .int .u8 0, .int .u8 0, .int .u8 0, .int .u8 0, .int .u8 0, .int .u8 0, .int .u8 0, .int .u8 0, .int .u8 0, .int .u8 0, .int .u8 0, .int .u8 0, .int .u8 0]) 18 48 Try.underlying40 hi0 hz0 hz1 hz2 rfl (by decide) _ _ _ rfl HOW.out ⟨vb, 0, none⟩ 1 1 (⟨s.nx, A5, n5, c5, bs, tk t⟩ : CX).vs rfl (by rw [CX.vs_len Y6.out.tl]) (blk_at V6.out) (vs_one _) ?_ ?_ ?_ ?_); (unfold maxLen; omega); omega; exact HB6; intro v7 w7 ho7 hg7 _ hat7)
  have O7 := Lib.hid ho7
  have G7 := Lib.hid hg7
  have A7 := Lib.hid hat7
  clear ho7 hg7 hat7 hi0 hz0 hz1 hz2
  obtain ⟨Av, cv, hv7, _⟩ := own_form O7.out
  subst hv7
  have hgo7 : w6.grownBy w7 (some go) := G7.out
  obtain ⟨curg, hbg, _⟩ := I6.out.own.blk
  have hne7 : ∀ (b : Nat) (t : TypeId) (cs : Array Value), Blk w6 b t cs → t ≠ 47 → Blk w7 b t cs := fun b t cs hk ht => hk.grown hgo7 (by intro q; injection q with q; exact Blk.ne_ hk hbg ht q)
  have K7 : Hid (Blk w7 g 45 #[.slice (some ⟨go, 0, none⟩) n co, .int .u64 s.nx, vp, .int .u64 s.us, .int .u64 s.pr, vr]) := Lib.hid (hne7 _ _ _ K6.out (by decide))
  have T7 := Lib.hid (hne7 _ _ _ T6.out (by decide))
  have F7 := Lib.hid (hne7 _ _ _ F6.out (by decide))
  have U7 := Lib.hid (U6.out.grown hgo7 (hbg.notT (by decide)))
  have P7 := Lib.hid (I6.out.peer.grown hgo7 (fun q => I6.out.ap go rfl q) (hbg.notT (by decide)))
  have X7 := Lib.hid (X6.out.grown2 hgo7 (hbg.notT (by decide)))
  have Y7 : Hid ((⟨s.nx, A5, n5, c5, bs, tk t⟩ : CX).Ok w7) := Lib.hid (Y6.out.grown hgo7 (hbg.notT (by decide)))
  have OK7 : Hid (∀ x ∈ s.own, x.Ok w7) := Lib.hid (fun x hx => (I6.out.own.2 x hx).grown hgo7 (hbg.notT (by decide)))
  have TW7 : Hid (w.grownBy w7 (some go)) := Lib.hid (grown_cat_ (only_of_below B6.out (some go)) hgo7)
  have HAT7 : Hid (Value.ownBlock (.slice Av (n + 1) cv) = some go ∨ ∃ k, Value.ownBlock (.slice Av (n + 1) cv) = some k ∧ w.heap.size ≤ k) := Lib.hid (by
    rcases A7.out with h | h
    · exact .inl h
    · exact .inr ⟨_, h, B6.out.size⟩)
  have AP7 : Hid (∀ k, Value.ownBlock (.slice Av (n + 1) cv) = some k → vp.ownBlock ≠ some k) := Lib.hid (fun k hk q => by
    rcases A7.out with h | h
    · rw [h] at hk
      exact I6.out.ap k hk q
    · rw [h] at hk
      injection hk with hk
      have := (I6.out.peer.1.lt k q).2
      omega)
  refine MixO.narrow (fun _ h => h) ⟨CW.mk' (show (fun v : World => IdB g #[.slice (some ⟨go, 0, none⟩) n co, .int .u64 s.nx, vp, .int .u64 s.us, .int .u64 s.pr, vr] v ∧ Blk v gt 30 #[.int .u8 t, .int .u8 0, .int .u8 0, .int .u8 0, .int .u8 0, .int .u8 0, .int .u8 0, .int .u8 0, .int .u8 0, .int .u8 0, .int .u8 0, .int .u8 0, .int .u8 0, .int .u8 0, .int .u8 0, .int .u8 0]) w7 from ⟨K7.out, T7.out⟩), rfl⟩ ?_
  refine mixO_cons ?_
  repeat (show wpQuiet _ _ _ _ (_ :: _) _; go_big_quiet_step (fail))
  refine wpQuiet_nil ?_
  show wpList _ _ _ [_] _ _
  have k0 := Blk.cell K7.out 0
  have f0 := Blk.frozen K7.out 0
  simp at k0
  go_wp2_with fail
  refine MixO.last ?_
  refine mixO_nil ?_
  refine wpQuiet_nil ?_
  refine NoPanic.normal ?_
  clear hne k0 f0 T6 F6 I6 X6 K6 U6 hne7 hgo7 hbg HOW V6 Y6 G7 A7
  have G8 : Hid (w7.grownBy (w7.setCell ⟨g, 0, none⟩ (.slice Av (n + 1) cv)) (some g)) := Lib.hid set_only
  have K8 : Hid (Blk (w7.setCell ⟨g, 0, none⟩ (.slice Av (n + 1) cv)) g 45 #[.slice Av (n + 1) cv, .int .u64 s.nx, vp, .int .u64 s.us, .int .u64 s.pr, vr]) := Lib.hid (Blk.cast (Blk.set_ K7.out 0 _) (by simp))
  have T8 := Lib.hid (Blk.grown T7.out G8.out (by intro q; injection q with q; exact Blk.ne_ T7.out K7.out (by decide) q))
  have F8 := Lib.hid (Blk.grown F7.out G8.out (by intro q; injection q with q; exact Blk.ne_ F7.out K7.out (by decide) q))
  have U8 := Lib.hid (U7.out.grown G8.out (K7.out.notT (by decide)))
  have P8 := Lib.hid (P7.out.grown G8.out (row_ne P7.out (K7.out.notT (by decide))) (K7.out.notT (by decide)))
  have X8 := Lib.hid (X7.out.grown2 G8.out (K7.out.notT (by decide)))
  have E7 : Hid (EntR B w7 (.slice Av (n + 1) cv) (s.own ++ [(⟨s.nx, A5, n5, c5, bs, tk t⟩ : CX)])) := Lib.hid (by
    refine ⟨?_, fun y hy => ?_⟩
    · have e := O7.out
      rw [vsE_snoc, List.length_append, HLN.out]
      exact e
    · rcases List.mem_append.1 hy with hy | hy
      · exact OK7.out y hy
      · simp at hy; subst hy; exact Y7.out)
  have E8 := Lib.hid (E7.out.grown G8.out (row_ne E7.out (K7.out.notT (by decide))) (K7.out.notT (by decide)))
  clear T7 F7 U7 P7 X7 E7 OK7 Y7 O7
  go_wp2_with fail
  have HK7 := K7
  clear K7
  generalize (w7.setCell ⟨g, 0, none⟩ (.slice Av (n + 1) cv)) = w8 at *
  have hcw : (fun v : World => Blk v gt 30 #[.int .u8 t, .int .u8 0, .int .u8 0, .int .u8 0, .int .u8 0, .int .u8 0, .int .u8 0, .int .u8 0, .int .u8 0, .int .u8 0, .int .u8 0, .int .u8 0, .int .u8 0, .int .u8 0, .int .u8 0, .int .u8 0] ∧ v.cell? ⟨g, 1, none⟩ = some (.int .u64 s.nx)) w8.drew := ⟨Blk.drew T8.out, Blk.cell (Blk.drew K8.out) 1⟩
  have e1 : ∀ r : CW (fun v : World => Blk v gt 30 #[.int .u8 t, .int .u8 0, .int .u8 0, .int .u8 0, .int .u8 0, .int .u8 0, .int .u8 0, .int .u8 0, .int .u8 0, .int .u8 0, .int .u8 0, .int .u8 0, .int .u8 0, .int .u8 0, .int .u8 0, .int .u8 0] ∧ v.cell? ⟨g, 1, none⟩ = some (.int .u64 s.nx)), r.world.cell? ⟨g, 1, none⟩ = some (.int .u64 s.nx) := fun r => r.holds.2
  have hne : Nonempty (CW (fun v : World => Blk v gt 30 #[.int .u8 t, .int .u8 0, .int .u8 0, .int .u8 0, .int .u8 0, .int .u8 0, .int .u8 0, .int .u8 0, .int .u8 0, .int .u8 0, .int .u8 0, .int .u8 0, .int .u8 0, .int .u8 0, .int .u8 0, .int .u8 0] ∧ v.cell? ⟨g, 1, none⟩ = some (.int .u64 s.nx))) := CW.inh hcw
  refine wp_region_sig (fun v : World => Blk v gt 30 #[.int .u8 t, .int .u8 0, .int .u8 0, .int .u8 0, .int .u8 0, .int .u8 0, .int .u8 0, .int .u8 0, .int .u8 0, .int .u8 0, .int .u8 0, .int .u8 0, .int .u8 0, .int .u8 0, .int .u8 0, .int .u8 0] ∧ v.cell? ⟨g, 1, none⟩ = some (.int .u64 s.nx)) (.two [0, 1, 2, 3, 4, 5, 7] 6 (.one [8] 9 (.one [] 10 (.fin []))) 9 (.one [] 6 (.one [8] 10 (.fin [])))) (by kernel_rfl) (by kernel_rfl) (by kernel_rfl) (by kernel_rfl) hcw ?_
  refine mixT_two ?_
  simp only [pickL, List.filterMap_cons, List.filterMap_nil, List.getElem?_cons_succ, List.getElem?_cons_zero]
  show wpQuiet _ _ _ _ (_ :: _) _
  go_big_quiet_step (fail)
  show wpQuiet _ _ _ _ (_ :: _) _
  go_big_quiet_step (fail)
  show wpQuiet _ _ _ _ (_ :: _) _
  go_big_quiet_step (fail)
  show wpQuiet _ _ _ _ (_ :: _) _
  go_big_quiet_step (fail)
  show wpQuiet _ _ _ _ (_ :: _) _
  go_big_quiet_step (fail)
  show wpQuiet _ _ _ _ (_ :: _) _
  go_big_quiet_step (fail)
  show wpQuiet _ _ _ _ (_ :: _) _
  refine wpQuiet_loadV (o := ⟨some 71, _, _, _, _, _⟩) rfl _ rfl rfl (fun w' hw' => by obtain ⟨r, rfl⟩ := hw'; exact tokB_load r.holds.1) ?_
  simp only [Act.put, List.setIfInBounds_toArray, List.set_cons_zero, List.set_cons_succ]
  refine wpQuiet_nil ?_
  refine ⟨?_, ?_⟩
  · skip
    show wpList _ _ _ [_] _ _
    have T9 := Lib.hid (Blk.drew T8.out)
    have F9 := Lib.hid (Blk.drew F8.out)
    have K9 := Lib.hid (Blk.drew K8.out)
    have U9 := Lib.hid (U8.out.below (Below.refl w8.heap.size w8).drew)
    have P9 := Lib.hid (P8.out.below (Below.refl w8.heap.size w8).drew)
    have E9 := Lib.hid (E8.out.below (Below.refl w8.heap.size w8).drew)
    have X9 := Lib.hid (X8.out.below (Below.refl w8.heap.size w8).drew)
    have D9 : Hid (Below w8.heap.size w8 w8.drew) := Lib.hid (Below.refl w8.heap.size w8).drew
    clear T8 F8 K8 U8 P8 E8 X8 e1 hcw
    go_wp2_with fail
    generalize w8.drew = w9 at *
    refine Calls.mono (clone_n Ac cc nc bs w9 (slT_rd X9.out) hcn.symm (by omega)) ?_
    rintro e w10 ⟨A9, n9, c9, rfl, o10, b10⟩
    have Q10 := Lib.hid o10
    have T10 := Lib.hid (Blk.below T9.out b10 (Blk.lt T9.out))
    have F10 := Lib.hid (Blk.below F9.out b10 (Blk.lt F9.out))
    have K10 := Lib.hid (Blk.below K9.out b10 (Blk.lt K9.out))
    have U10 := Lib.hid (U9.out.below b10)
    have P10 := Lib.hid (P9.out.below b10)
    have E10 := Lib.hid (E9.out.below b10)
    have D10 := Lib.hid (D9.out.trans (b10.mono D9.out.size))
    clear T9 F9 K9 U9 P9 E9 X9 D9 o10 b10
    go_wp2_with fail
    refine MixQ.class (show (fun v : World => Blk v gt 30 #[.int .u8 t, .int .u8 0, .int .u8 0, .int .u8 0, .int .u8 0, .int .u8 0, .int .u8 0, .int .u8 0, .int .u8 0, .int .u8 0, .int .u8 0, .int .u8 0, .int .u8 0, .int .u8 0, .int .u8 0, .int .u8 0] ∧ v.cell? ⟨g, 1, none⟩ = some (.int .u64 s.nx)) w10 from ⟨T10.out, Blk.cell K10.out 1⟩) ?_
    refine mixT_one ?_
    simp only [pickL, List.filterMap_cons, List.filterMap_nil, List.getElem?_cons_succ, List.getElem?_cons_zero]
    repeat (show wpQuiet _ _ _ _ (_ :: _) _; go_big_quiet_step (fail))
    refine wpQuiet_nil ?_
    show wpList _ _ _ [_] _ _
    go_wp2_with fail
    have HG10 : Hid (gt + 1 < w10.heap.size ∧ w8.heap.size ≤ w10.heap.size) := Lib.hid ⟨Blk.lt F10.out, D10.out.size⟩
    have bl := (Below.refl w10.heap.size w10).alloc (Nat.le_refl _) (.cells #[.int .u64 0, .int .u64 0, .int .u64 0, .int .u64 0, .int .u64 0, .int .u64 0, .bool false, .slice none 0 0, .slice none 0 0, .int .u8 0, .int .u8 0, .int .u8 0, .int .u8 0, .int .u8 0, .int .u8 0, .int .u8 0, .int .u8 0, .int .u8 0, .int .u8 0, .int .u8 0, .int .u8 0, .int .u8 0, .int .u8 0, .int .u8 0, .int .u8 0, .slice none 0 0, .int .u64 0, .int .u64 0, .int .u64 0, .int .u64 0] 34)
    have V11 : Hid (Blk (w10.alloc (.cells #[.int .u64 0, .int .u64 0, .int .u64 0, .int .u64 0, .int .u64 0, .int .u64 0, .bool false, .slice none 0 0, .slice none 0 0, .int .u8 0, .int .u8 0, .int .u8 0, .int .u8 0, .int .u8 0, .int .u8 0, .int .u8 0, .int .u8 0, .int .u8 0, .int .u8 0, .int .u8 0, .int .u8 0, .int .u8 0, .int .u8 0, .int .u8 0, .int .u8 0, .slice none 0 0, .int .u64 0, .int .u64 0, .int .u64 0, .int .u64 0] 34)) w10.heap.size 34 #[.int .u64 0, .int .u64 0, .int .u64 0, .int .u64 0, .int .u64 0, .int .u64 0, .bool false, .slice none 0 0, .slice none 0 0, .int .u8 0, .int .u8 0, .int .u8 0, .int .u8 0, .int .u8 0, .int .u8 0, .int .u8 0, .int .u8 0, .int .u8 0, .int .u8 0, .int .u8 0, .int .u8 0, .int .u8 0, .int .u8 0, .int .u8 0, .int .u8 0, .slice none 0 0, .int .u64 0, .int .u64 0, .int .u64 0, .int .u64 0]) := Lib.hid (Blk.new w10 _ _)
    have T11 := Lib.hid (Blk.below T10.out bl (Blk.lt T10.out))
    have F11 := Lib.hid (Blk.below F10.out bl (Blk.lt F10.out))
    have K11 := Lib.hid (Blk.below K10.out bl (Blk.lt K10.out))
    have U11 := Lib.hid (U10.out.below bl)
    have P11 := Lib.hid (P10.out.below bl)
    have E11 := Lib.hid (E10.out.below bl)
    have Q11 := Lib.hid ((SlT.own Q10.out).below bl)
    have D11 := Lib.hid (D10.out.trans (bl.mono D10.out.size))
    clear T10 F10 K10 U10 P10 E10 D10 Q10 bl
    generalize w10.alloc (.cells #[.int .u64 0, .int .u64 0, .int .u64 0, .int .u64 0, .int .u64 0, .int .u64 0, .bool false, .slice none 0 0, .slice none 0 0, .int .u8 0, .int .u8 0, .int .u8 0, .int .u8 0, .int .u8 0, .int .u8 0, .int .u8 0, .int .u8 0, .int .u8 0, .int .u8 0, .int .u8 0, .int .u8 0, .int .u8 0, .int .u8 0, .int .u8 0, .int .u8 0, .slice none 0 0, .int .u64 0, .int .u64 0, .int .u64 0, .int .u64 0] 34) = w11 at *
    obtain ⟨g10, hg10⟩ : ∃ z, w10.heap.size = z := ⟨_, rfl⟩
    rw [hg10] at V11 HG10 ⊢
    clear hg10
    refine MixQ.class (show (fun v : World => Blk v gt 30 #[.int .u8 t, .int .u8 0, .int .u8 0, .int .u8 0, .int .u8 0, .int .u8 0, .int .u8 0, .int .u8 0, .int .u8 0, .int .u8 0, .int .u8 0, .int .u8 0, .int .u8 0, .int .u8 0, .int .u8 0, .int .u8 0] ∧ v.cell? ⟨g, 1, none⟩ = some (.int .u64 s.nx)) w11 from ⟨T11.out, Blk.cell K11.out 1⟩) ?_
    refine mixT_one ?_
    simp only [pickL, List.filterMap_cons, List.filterMap_nil, List.getElem?_cons_succ, List.getElem?_cons_zero]
    refine wpQuiet_nil ?_
    show wpList _ _ _ [_] _ _
    go_wp2_with ((with_reducible (show wpList _ _ _ (⟨none, .store 34 _ _, _, _, _, _⟩ :: _) _ _)); go_loud (refine wpList_storeBlk (o := ⟨none, .store 34 _ _, _, _, _, _⟩) (g := g10) (t := 34) (vs := [.int .u64 24, .int .u64 s.nx, .int .u64 0, .int .u64 0, .int .u64 0, .int .u64 0, .bool false, .slice none 0 0, .slice A9 n9 c9, .int .u8 t, .int .u8 0, .int .u8 0, .int .u8 0, .int .u8 0, .int .u8 0, .int .u8 0, .int .u8 0, .int .u8 0, .int .u8 0, .int .u8 0, .int .u8 0, .int .u8 0, .int .u8 0, .int .u8 0, .int .u8 0, .slice none 0 0, .int .u64 0, .int .u64 0, .int .u64 0, .int .u64 0]) rfl _ _ rfl rfl rfl V11.out rfl (frN_one _ _ _ _ _) sizeF34 ?_); intro w12 z12 g12)
    have Z12 := Lib.hid z12
    have T12 := Lib.hid (Blk.grown T11.out g12 (by intro q; injection q with q; exact Blk.ne_ T11.out V11.out (by decide) q))
    have F12 := Lib.hid (Blk.grown F11.out g12 (by intro q; injection q with q; have := HG10.out; omega))
    have K12 := Lib.hid (Blk.grown K11.out g12 (by intro q; injection q with q; exact Blk.ne_ K11.out V11.out (by decide) q))
    have U12 := Lib.hid (U11.out.grown g12 (V11.out.notT (by decide)))
    have P12 := Lib.hid (P11.out.grown g12 (row_ne P11.out (V11.out.notT (by decide))) (V11.out.notT (by decide)))
    have E12 := Lib.hid (E11.out.grown g12 (row_ne E11.out (V11.out.notT (by decide))) (V11.out.notT (by decide)))
    have Q12 := Lib.hid (Q11.out.grown2 g12 (V11.out.notT (by decide)))
    have D12 := Lib.hid (D11.out.trans (below_of_only g12 (by have := HG10.out; omega) D11.out.size))
    clear T11 F11 K11 U11 P11 E11 Q11 D11 V11 z12 g12
    refine MixQ.class (show (fun v : World => Blk v gt 30 #[.int .u8 t, .int .u8 0, .int .u8 0, .int .u8 0, .int .u8 0, .int .u8 0, .int .u8 0, .int .u8 0, .int .u8 0, .int .u8 0, .int .u8 0, .int .u8 0, .int .u8 0, .int .u8 0, .int .u8 0, .int .u8 0] ∧ v.cell? ⟨g, 1, none⟩ = some (.int .u64 s.nx)) w12 from ⟨T12.out, Blk.cell K12.out 1⟩) ?_
    refine mixT_fin ?_
    simp only [pickL, List.filterMap_nil]
    refine wpQuiet_nil ?_
    refine NoPanic.normal ?_
    have HLG : Hid (g ≠ gt + 1) := Lib.hid (by have := HGO.out; have := HGT.out; omega)
    have k1 := Blk.cell K12.out 1
    have f1 := Blk.frozen K12.out 1
    simp at k1
    have N13 : Hid (∀ u : Value, Blk (w12.setCell ⟨g, 1, none⟩ u) gt 30 #[.int .u8 t, .int .u8 0, .int .u8 0, .int .u8 0, .int .u8 0, .int .u8 0, .int .u8 0, .int .u8 0, .int .u8 0, .int .u8 0, .int .u8 0, .int .u8 0, .int .u8 0, .int .u8 0, .int .u8 0, .int .u8 0] ∧ Blk (w12.setCell ⟨g, 1, none⟩ u) (gt + 1) 34 #[.int .u64 0, .int .u64 0, .int .u64 0, .int .u64 0, .int .u64 0, .int .u64 0, .bool false, .slice none 0 0, .slice none 0 0, .int .u8 0, .int .u8 0, .int .u8 0, .int .u8 0, .int .u8 0, .int .u8 0, .int .u8 0, .int .u8 0, .int .u8 0, .int .u8 0, .int .u8 0, .int .u8 0, .int .u8 0, .int .u8 0, .int .u8 0, .int .u8 0, .slice none 0 0, .int .u64 0, .int .u64 0, .int .u64 0, .int .u64 0] ∧ Blk (w12.setCell ⟨g, 1, none⟩ u) g10 34 #[.int .u64 24, .int .u64 s.nx, .int .u64 0, .int .u64 0, .int .u64 0, .int .u64 0, .bool false, .slice none 0 0, .slice A9 n9 c9, .int .u8 t, .int .u8 0, .int .u8 0, .int .u8 0, .int .u8 0, .int .u8 0, .int .u8 0, .int .u8 0, .int .u8 0, .int .u8 0, .int .u8 0, .int .u8 0, .int .u8 0, .int .u8 0, .int .u8 0, .int .u8 0, .slice none 0 0, .int .u64 0, .int .u64 0, .int .u64 0, .int .u64 0]) := Lib.hid (fun u => ⟨Blk.grown T12.out set_only (by intro q; injection q with q; exact Blk.ne_ T12.out K12.out (by decide) q), Blk.grown F12.out set_only (by intro q; injection q with q; exact Blk.ne_ F12.out K12.out (by decide) q), Blk.grown Z12.out set_only (by intro q; injection q with q; exact Blk.ne_ Z12.out K12.out (by decide) q)⟩)
    go_wp2_with (first
      | ((with_reducible (show wpList _ _ _ (⟨some 82, .load _ _, _, _, _, _⟩ :: _) _ _)); refine wpList_loadV (o := ⟨some 82, .load _ _, _, _, _, _⟩) rfl _ rfl rfl (fr_load (gF := g10) (N13.out _).2.2 rfl) ?_)
      | ((with_reducible (show wpList _ _ _ (⟨none, .store 34 _ _, _, _, _, _⟩ :: _) _ _)); go_loud (refine wpList_storeBlk (o := ⟨none, .store 34 _ _, _, _, _, _⟩) (g := gt + 1) (t := 34) (vs := [.int .u64 24, .int .u64 s.nx, .int .u64 0, .int .u64 0, .int .u64 0, .int .u64 0, .bool false, .slice none 0 0, .slice A9 n9 c9, .int .u8 t, .int .u8 0, .int .u8 0, .int .u8 0, .int .u8 0, .int .u8 0, .int .u8 0, .int .u8 0, .int .u8 0, .int .u8 0, .int .u8 0, .int .u8 0, .int .u8 0, .int .u8 0, .int .u8 0, .int .u8 0, .slice none 0 0, .int .u64 0, .int .u64 0, .int .u64 0, .int .u64 0]) rfl _ _ rfl rfl rfl (N13.out _).2.1 rfl (frN_one _ _ _ _ _) sizeF34 ?_); intro w14 z14 g14))
    refine bodyPost_ret (results_fr rfl rfl z14 rfl) rfl ⟨_, ⟨s.nx, A5, n5, c5, bs, tk t⟩, A9, n9, c9, rfl, ?_, rfl, ⟨⟨vr, ?_, ?_⟩, ?_, ?_, AP7.out⟩, HAT7.out, ?_⟩
    · exact (Q12.out.grown2 set_only (K12.out.notT (by decide))).grown2 g14 ((N13.out _).2.1.notT (by decide))
    · exact Blk.cast ((Blk.set_ K12.out 1 _).grown g14 (by intro q; injection q with q; have := HLG.out; omega)) (by simp)
    · exact (U12.out.grown set_only (K12.out.notT (by decide))).grown g14 ((N13.out _).2.1.notT (by decide))
    · have e1 := E12.out.grown (set_only (g := g) (i := 1) (u := .int .u64 (s.nx + 1))) (row_ne E12.out (K12.out.notT (by decide))) (K12.out.notT (by decide))
      exact e1.grown g14 (row_ne e1 ((N13.out _).2.1.notT (by decide))) ((N13.out _).2.1.notT (by decide))
    · have e1 := P12.out.grown (set_only (g := g) (i := 1) (u := .int .u64 (s.nx + 1))) (row_ne P12.out (K12.out.notT (by decide))) (K12.out.notT (by decide))
      exact e1.grown g14 (row_ne e1 ((N13.out _).2.1.notT (by decide))) ((N13.out _).2.1.notT (by decide))
    · exact (((Two.of TW7.out G8.out).below D12.out).one set_only).hi g14 (by have := HGT.out; omega)
  · skip
    show wpList _ _ _ [_] _ _
    have T9 := Lib.hid (Blk.drew T8.out)
    have F9 := Lib.hid (Blk.drew F8.out)
    have K9 := Lib.hid (Blk.drew K8.out)
    have U9 := Lib.hid (U8.out.below (Below.refl w8.heap.size w8).drew)
    have P9 := Lib.hid (P8.out.below (Below.refl w8.heap.size w8).drew)
    have E9 := Lib.hid (E8.out.below (Below.refl w8.heap.size w8).drew)
    have X9 := Lib.hid (X8.out.below (Below.refl w8.heap.size w8).drew)
    have D9 : Hid (Below w8.heap.size w8 w8.drew) := Lib.hid (Below.refl w8.heap.size w8).drew
    clear T8 F8 K8 U8 P8 E8 X8 e1 hcw
    generalize w8.drew = w9 at *
    go_wp2_with fail
    have HG10 : Hid (gt + 1 < w9.heap.size ∧ w8.heap.size ≤ w9.heap.size) := Lib.hid ⟨Blk.lt F9.out, D9.out.size⟩
    have bl := (Below.refl w9.heap.size w9).alloc (Nat.le_refl _) (.cells #[.int .u64 0, .int .u64 0, .int .u64 0, .int .u64 0, .int .u64 0, .int .u64 0, .bool false, .slice none 0 0, .slice none 0 0, .int .u8 0, .int .u8 0, .int .u8 0, .int .u8 0, .int .u8 0, .int .u8 0, .int .u8 0, .int .u8 0, .int .u8 0, .int .u8 0, .int .u8 0, .int .u8 0, .int .u8 0, .int .u8 0, .int .u8 0, .int .u8 0, .slice none 0 0, .int .u64 0, .int .u64 0, .int .u64 0, .int .u64 0] 34)
    have V10 : Hid (Blk (w9.alloc (.cells #[.int .u64 0, .int .u64 0, .int .u64 0, .int .u64 0, .int .u64 0, .int .u64 0, .bool false, .slice none 0 0, .slice none 0 0, .int .u8 0, .int .u8 0, .int .u8 0, .int .u8 0, .int .u8 0, .int .u8 0, .int .u8 0, .int .u8 0, .int .u8 0, .int .u8 0, .int .u8 0, .int .u8 0, .int .u8 0, .int .u8 0, .int .u8 0, .int .u8 0, .slice none 0 0, .int .u64 0, .int .u64 0, .int .u64 0, .int .u64 0] 34)) w9.heap.size 34 #[.int .u64 0, .int .u64 0, .int .u64 0, .int .u64 0, .int .u64 0, .int .u64 0, .bool false, .slice none 0 0, .slice none 0 0, .int .u8 0, .int .u8 0, .int .u8 0, .int .u8 0, .int .u8 0, .int .u8 0, .int .u8 0, .int .u8 0, .int .u8 0, .int .u8 0, .int .u8 0, .int .u8 0, .int .u8 0, .int .u8 0, .int .u8 0, .int .u8 0, .slice none 0 0, .int .u64 0, .int .u64 0, .int .u64 0, .int .u64 0]) := Lib.hid (Blk.new w9 _ _)
    have T10 := Lib.hid (Blk.below T9.out bl (Blk.lt T9.out))
    have F10 := Lib.hid (Blk.below F9.out bl (Blk.lt F9.out))
    have K10 := Lib.hid (Blk.below K9.out bl (Blk.lt K9.out))
    have U10 := Lib.hid (U9.out.below bl)
    have P10 := Lib.hid (P9.out.below bl)
    have E10 := Lib.hid (E9.out.below bl)
    have X10 := Lib.hid (X9.out.below bl)
    have D10 := Lib.hid (D9.out.trans (bl.mono D9.out.size))
    clear T9 F9 K9 U9 P9 E9 X9 D9 bl
    generalize w9.alloc (.cells #[.int .u64 0, .int .u64 0, .int .u64 0, .int .u64 0, .int .u64 0, .int .u64 0, .bool false, .slice none 0 0, .slice none 0 0, .int .u8 0, .int .u8 0, .int .u8 0, .int .u8 0, .int .u8 0, .int .u8 0, .int .u8 0, .int .u8 0, .int .u8 0, .int .u8 0, .int .u8 0, .int .u8 0, .int .u8 0, .int .u8 0, .int .u8 0, .int .u8 0, .slice none 0 0, .int .u64 0, .int .u64 0, .int .u64 0, .int .u64 0] 34) = w10 at *
    obtain ⟨g10, hg10⟩ : ∃ z, w9.heap.size = z := ⟨_, rfl⟩
    rw [hg10] at V10 HG10 ⊢
    clear hg10
    refine MixQ.class (show (fun v : World => Blk v gt 30 #[.int .u8 t, .int .u8 0, .int .u8 0, .int .u8 0, .int .u8 0, .int .u8 0, .int .u8 0, .int .u8 0, .int .u8 0, .int .u8 0, .int .u8 0, .int .u8 0, .int .u8 0, .int .u8 0, .int .u8 0, .int .u8 0] ∧ v.cell? ⟨g, 1, none⟩ = some (.int .u64 s.nx)) w10 from ⟨T10.out, Blk.cell K10.out 1⟩) ?_
    refine mixT_one ?_
    simp only [pickL, List.filterMap_cons, List.filterMap_nil, List.getElem?_cons_succ, List.getElem?_cons_zero]
    refine wpQuiet_nil ?_
    show wpList _ _ _ [_] _ _
    go_wp2_with fail
    refine Calls.mono (clone_n Ac cc nc bs w10 (slT_rd X10.out) hcn.symm (by omega)) ?_
    rintro e w11 ⟨A9, n9, c9, rfl, o10, b10⟩
    have Q11 := Lib.hid (SlT.own o10)
    have T11 := Lib.hid (Blk.below T10.out b10 (Blk.lt T10.out))
    have F11 := Lib.hid (Blk.below F10.out b10 (Blk.lt F10.out))
    have K11 := Lib.hid (Blk.below K10.out b10 (Blk.lt K10.out))
    have V11 := Lib.hid (Blk.below V10.out b10 (Blk.lt V10.out))
    have U11 := Lib.hid (U10.out.below b10)
    have P11 := Lib.hid (P10.out.below b10)
    have E11 := Lib.hid (E10.out.below b10)
    have D11 := Lib.hid (D10.out.trans (b10.mono D10.out.size))
    clear T10 F10 K10 V10 U10 P10 E10 X10 D10 o10 b10
    go_wp2_with fail
    refine MixQ.class (show (fun v : World => Blk v gt 30 #[.int .u8 t, .int .u8 0, .int .u8 0, .int .u8 0, .int .u8 0, .int .u8 0, .int .u8 0, .int .u8 0, .int .u8 0, .int .u8 0, .int .u8 0, .int .u8 0, .int .u8 0, .int .u8 0, .int .u8 0, .int .u8 0] ∧ v.cell? ⟨g, 1, none⟩ = some (.int .u64 s.nx)) w11 from ⟨T11.out, Blk.cell K11.out 1⟩) ?_
    refine mixT_one ?_
    simp only [pickL, List.filterMap_cons, List.filterMap_nil, List.getElem?_cons_succ, List.getElem?_cons_zero]
    repeat (show wpQuiet _ _ _ _ (_ :: _) _; go_big_quiet_step (fail))
    refine wpQuiet_nil ?_
    show wpList _ _ _ [_] _ _
    go_wp2_with ((with_reducible (show wpList _ _ _ (⟨none, .store 34 _ _, _, _, _, _⟩ :: _) _ _)); go_loud (refine wpList_storeBlk (o := ⟨none, .store 34 _ _, _, _, _, _⟩) (g := g10) (t := 34) (vs := [.int .u64 24, .int .u64 s.nx, .int .u64 0, .int .u64 0, .int .u64 0, .int .u64 0, .bool false, .slice none 0 0, .slice A9 n9 c9, .int .u8 t, .int .u8 0, .int .u8 0, .int .u8 0, .int .u8 0, .int .u8 0, .int .u8 0, .int .u8 0, .int .u8 0, .int .u8 0, .int .u8 0, .int .u8 0, .int .u8 0, .int .u8 0, .int .u8 0, .int .u8 0, .slice none 0 0, .int .u64 0, .int .u64 0, .int .u64 0, .int .u64 0]) rfl _ _ rfl rfl rfl V11.out rfl (frN_one _ _ _ _ _) sizeF34 ?_); intro w12 z12 g12)
    have Z12 := Lib.hid z12
    have T12 := Lib.hid (Blk.grown T11.out g12 (by intro q; injection q with q; exact Blk.ne_ T11.out V11.out (by decide) q))
    have F12 := Lib.hid (Blk.grown F11.out g12 (by intro q; injection q with q; have := HG10.out; omega))
    have K12 := Lib.hid (Blk.grown K11.out g12 (by intro q; injection q with q; exact Blk.ne_ K11.out V11.out (by decide) q))
    have U12 := Lib.hid (U11.out.grown g12 (V11.out.notT (by decide)))
    have P12 := Lib.hid (P11.out.grown g12 (row_ne P11.out (V11.out.notT (by decide))) (V11.out.notT (by decide)))
    have E12 := Lib.hid (E11.out.grown g12 (row_ne E11.out (V11.out.notT (by decide))) (V11.out.notT (by decide)))
    have Q12 := Lib.hid (Q11.out.grown2 g12 (V11.out.notT (by decide)))
    have D12 := Lib.hid (D11.out.trans (below_of_only g12 (by have := HG10.out; omega) D11.out.size))
    clear T11 F11 K11 U11 P11 E11 Q11 D11 V11 z12 g12
    refine MixQ.class (show (fun v : World => Blk v gt 30 #[.int .u8 t, .int .u8 0, .int .u8 0, .int .u8 0, .int .u8 0, .int .u8 0, .int .u8 0, .int .u8 0, .int .u8 0, .int .u8 0, .int .u8 0, .int .u8 0, .int .u8 0, .int .u8 0, .int .u8 0, .int .u8 0] ∧ v.cell? ⟨g, 1, none⟩ = some (.int .u64 s.nx)) w12 from ⟨T12.out, Blk.cell K12.out 1⟩) ?_
    refine mixT_fin ?_
    simp only [pickL, List.filterMap_nil]
    refine wpQuiet_nil ?_
    refine NoPanic.normal ?_
    have HLG : Hid (g ≠ gt + 1) := Lib.hid (by have := HGO.out; have := HGT.out; omega)
    have k1 := Blk.cell K12.out 1
    have f1 := Blk.frozen K12.out 1
    simp at k1
    have N13 : Hid (∀ u : Value, Blk (w12.setCell ⟨g, 1, none⟩ u) gt 30 #[.int .u8 t, .int .u8 0, .int .u8 0, .int .u8 0, .int .u8 0, .int .u8 0, .int .u8 0, .int .u8 0, .int .u8 0, .int .u8 0, .int .u8 0, .int .u8 0, .int .u8 0, .int .u8 0, .int .u8 0, .int .u8 0] ∧ Blk (w12.setCell ⟨g, 1, none⟩ u) (gt + 1) 34 #[.int .u64 0, .int .u64 0, .int .u64 0, .int .u64 0, .int .u64 0, .int .u64 0, .bool false, .slice none 0 0, .slice none 0 0, .int .u8 0, .int .u8 0, .int .u8 0, .int .u8 0, .int .u8 0, .int .u8 0, .int .u8 0, .int .u8 0, .int .u8 0, .int .u8 0, .int .u8 0, .int .u8 0, .int .u8 0, .int .u8 0, .int .u8 0, .int .u8 0, .slice none 0 0, .int .u64 0, .int .u64 0, .int .u64 0, .int .u64 0] ∧ Blk (w12.setCell ⟨g, 1, none⟩ u) g10 34 #[.int .u64 24, .int .u64 s.nx, .int .u64 0, .int .u64 0, .int .u64 0, .int .u64 0, .bool false, .slice none 0 0, .slice A9 n9 c9, .int .u8 t, .int .u8 0, .int .u8 0, .int .u8 0, .int .u8 0, .int .u8 0, .int .u8 0, .int .u8 0, .int .u8 0, .int .u8 0, .int .u8 0, .int .u8 0, .int .u8 0, .int .u8 0, .int .u8 0, .int .u8 0, .slice none 0 0, .int .u64 0, .int .u64 0, .int .u64 0, .int .u64 0]) := Lib.hid (fun u => ⟨Blk.grown T12.out set_only (by intro q; injection q with q; exact Blk.ne_ T12.out K12.out (by decide) q), Blk.grown F12.out set_only (by intro q; injection q with q; exact Blk.ne_ F12.out K12.out (by decide) q), Blk.grown Z12.out set_only (by intro q; injection q with q; exact Blk.ne_ Z12.out K12.out (by decide) q)⟩)
    go_wp2_with (first
      | ((with_reducible (show wpList _ _ _ (⟨some 82, .load _ _, _, _, _, _⟩ :: _) _ _)); refine wpList_loadV (o := ⟨some 82, .load _ _, _, _, _, _⟩) rfl _ rfl rfl (fr_load (gF := g10) (N13.out _).2.2 rfl) ?_)
      | ((with_reducible (show wpList _ _ _ (⟨none, .store 34 _ _, _, _, _, _⟩ :: _) _ _)); go_loud (refine wpList_storeBlk (o := ⟨none, .store 34 _ _, _, _, _, _⟩) (g := gt + 1) (t := 34) (vs := [.int .u64 24, .int .u64 s.nx, .int .u64 0, .int .u64 0, .int .u64 0, .int .u64 0, .bool false, .slice none 0 0, .slice A9 n9 c9, .int .u8 t, .int .u8 0, .int .u8 0, .int .u8 0, .int .u8 0, .int .u8 0, .int .u8 0, .int .u8 0, .int .u8 0, .int .u8 0, .int .u8 0, .int .u8 0, .int .u8 0, .int .u8 0, .int .u8 0, .int .u8 0, .slice none 0 0, .int .u64 0, .int .u64 0, .int .u64 0, .int .u64 0]) rfl _ _ rfl rfl rfl (N13.out _).2.1 rfl (frN_one _ _ _ _ _) sizeF34 ?_); intro w14 z14 g14))
    refine bodyPost_ret (results_fr rfl rfl z14 rfl) rfl ⟨_, ⟨s.nx, A5, n5, c5, bs, tk t⟩, A9, n9, c9, rfl, ?_, rfl, ⟨⟨vr, ?_, ?_⟩, ?_, ?_, AP7.out⟩, HAT7.out, ?_⟩
    · exact (Q12.out.grown2 set_only (K12.out.notT (by decide))).grown2 g14 ((N13.out _).2.1.notT (by decide))
    · exact Blk.cast ((Blk.set_ K12.out 1 _).grown g14 (by intro q; injection q with q; have := HLG.out; omega)) (by simp)
    · exact (U12.out.grown set_only (K12.out.notT (by decide))).grown g14 ((N13.out _).2.1.notT (by decide))
    · have e1 := E12.out.grown (set_only (g := g) (i := 1) (u := .int .u64 (s.nx + 1))) (row_ne E12.out (K12.out.notT (by decide))) (K12.out.notT (by decide))
      exact e1.grown g14 (row_ne e1 ((N13.out _).2.1.notT (by decide))) ((N13.out _).2.1.notT (by decide))
    · have e1 := P12.out.grown (set_only (g := g) (i := 1) (u := .int .u64 (s.nx + 1))) (row_ne P12.out (K12.out.notT (by decide))) (K12.out.notT (by decide))
      exact e1.grown g14 (row_ne e1 ((N13.out _).2.1.notT (by decide))) ((N13.out _).2.1.notT (by decide))
    · exact (((Two.of TW7.out G8.out).below D12.out).one set_only).hi g14 (by have := HGT.out; omega)
end Go.Proofs.Ytghjlndkleclfaa
