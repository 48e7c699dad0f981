/- Layer 20: slices.IndexFunc over entries; find, named, may. Conditions: as each theorem states them. -/
import Derived.Test.YtghjlndkleclfaaI1
namespace Go.Proofs.Ytghjlndkleclfaa
open Go.RowKit
theorem row_load {P : Program} {w : World} {p : Addr} {ty : TypeId} {vs : List Value} {fs : Array Field} (h : ∀ j v, vs[j]? = some v → w.cell? (p.add j) = some v) (hu : P.underlying ty = some (.struct fs)) (hi : (P.info? ty).map (·.size) = some vs.length) :
    (Instr.loadAt ty (.pointer (some p))).run P w = .ok (.agg vs.toArray) w := by
  have hl : (loadCells p vs.length).run P w = .ok vs.toArray w := run_loadCells_list (P := P) w p vs h
  cases hq : P.info? ty with
  | none => simp [hq] at hi
  | some i =>
    have hs : i.size = vs.length := by simpa [hq] using hi
    have hagg : (isAgg ty).run P w = .ok true w := by
      unfold isAgg
      rw [Sem.run_bind, run_underlying hu w]
      rfl
    simp [Instr.loadAt, Instr.sureAddr, loadVar, Sem.run_bind, hagg, sizeOf, typeInfo, hq, hs, hl]
/-- the first that fits, from a place on; below 0: none -/
def idxN (p : CX → Bool) : List CX → Nat → Int
  | [], _ => -1
  | x :: l, k => if p x then k else idxN p l (k + 1)
def idx (p : CX → Bool) (l : List CX) : Int := idxN p l 0
theorem idxN_spec (p : CX → Bool) : ∀ (l : List CX) (k : Nat), (idxN p l k = -1 ∧ ∀ x ∈ l, p x = false) ∨ ∃ i, i < l.length ∧ idxN p l k = (k + i : Nat) ∧ p (l.getD i CX.zero) = true ∧ ∀ j, j < i → p (l.getD j CX.zero) = false
  | [], _ => .inl ⟨rfl, fun x hx => by cases hx⟩
  | x :: l, k => by
    unfold idxN
    by_cases q : p x = true
    · rw [if_pos q]
      exact .inr ⟨0, by simp, by simp, by simpa using q, fun j hj => absurd hj (Nat.not_lt_zero j)⟩
    · rw [if_neg q]
      have q2 : p x = false := by simpa using q
      rcases idxN_spec p l (k + 1) with ⟨h1, h2⟩ | ⟨i, h1, h2, h3, h4⟩
      · refine .inl ⟨h1, fun y hy => ?_⟩
        rcases List.mem_cons.1 hy with rfl | hy
        · exact q2
        · exact h2 y hy
      · refine .inr ⟨i + 1, by simpa using h1, by rw [h2]; omega, by rw [List.getD_cons_succ]; exact h3, fun j hj => ?_⟩
        cases j with
        | zero => rw [List.getD_cons_zero]; exact q2
        | succ j => rw [List.getD_cons_succ]; exact h4 j (by omega)
theorem dropD (l : List CX) (k : Nat) (h : k < l.length) : l.drop k = l.getD k CX.zero :: l.drop (k + 1) := by
  rw [List.drop_eq_getElem_cons h, List.getD_eq_getElem?_getD, List.getElem?_eq_getElem h]; rfl
/-- a slice of entries that is read -/
def EntS (w : World) (A : Option Addr) (l : List CX) : Prop := (∀ x ∈ l, x.Ok w) ∧ ∀ i, i < l.length → ∃ g, A = some ⟨g, 0, none⟩ ∧ g < w.heap.size ∧ ∀ j v, (l.getD i CX.zero).vs[j]? = some v → w.cell? ⟨g, i * 18 + j, none⟩ = some v
theorem EntS.below {w w' : World} {A : Option Addr} {l : List CX} (h : EntS w A l) (hb : Below w.heap.size w w') : EntS w' A l :=
  ⟨fun x hx => (h.1 x hx).below hb, fun i hi => by
    obtain ⟨g, e, hg, hc⟩ := h.2 i hi
    exact ⟨g, e, Nat.lt_of_lt_of_le hg hb.size, fun j v hv => Below.cell_some hb (hc j v hv) hg⟩⟩
theorem EntR.s {B n c : Nat} {A : Option Addr} {w : World} {l : List CX} (h : EntR B w (.slice A n c) l) : EntS w A l := ⟨h.2, fun i hi => by
  rcases h.form with ⟨_, rfl⟩ | ⟨g, c', e, _, hg, _⟩
  · exact absurd hi (Nat.not_lt_zero i)
  · injection e with e1 _ _
    subst e1
    exact ⟨g, rfl, hg, fun j v hv => h.cells hi j v hv⟩⟩
set_option maxRecDepth 100000 in
set_option maxHeartbeats 2000000 in
theorem indexF_find (cp : Value) (p : CX → Bool) (l : List CX) (A : Option Addr) (n c : Nat) (w : World) (h : EntS w A l) (hn : l.length = n) (hn2 : n ≤ 100000)
    (hF : ∀ x ∈ l, ∀ v, Below w.heap.size w v → Calls Try.prog 35 #[.agg x.vs.toArray, cp] v fun e v' => e = .returned (.bool (p x)) ∧ Below v.heap.size v v') :
    Calls Try.prog 29 #[.slice A n c, .func (.func 35) #[] #[cp]] w fun e w' => e = .returned (.int .i64 (idx p l)) ∧ Below w.heap.size w w' := by
  have HS := Lib.hid h
  have HN := Lib.hid hn
  have HF := Lib.hid hF
  clear h hn hF
  go_enter Try.func29, Try.ntmps29
  go_wp2_with fail
  go_loopw [8] (fun i wr => ∃ m : Nat, m ≤ n ∧ i = .int .i64 m ∧ Hid (idxN p (l.drop m) m = idx p l) ∧ Hid (Below w.heap.size w wr)) (fun i _ => n - (intOf i).toNat)
  case atStart => exact ⟨0, by omega, rfl, Lib.hid rfl, Lib.hid (Below.refl _ _)⟩
  case round =>
    obtain ⟨m, hm, rfl, HI, HB⟩ := hrel
    by_cases hlt : m < n
    · have hm2 : m < l.length := by rw [HN.out]; exact hlt
      obtain ⟨g, rfl, hg, hc⟩ := (HS.out.below HB.out).2 m hm2
      have hx := memD hm2
      have hd := HI.out
      rw [dropD l m hm2] at hd
      have hok := HS.out.1 _ hx
      have hcl := HF.out _ hx wr HB.out
      generalize l.getD m CX.zero = x at *
      have HROW : Hid ((Instr.loadAt 47 (.pointer (some ⟨g, m * 18, none⟩))).run Try.prog wr = .ok (.agg x.vs.toArray) wr) := Lib.hid (row_load (P := Try.prog) (vs := x.vs) (fun j v hv => by
        have := hc j v hv
        rw [show (⟨g, m * 18, none⟩ : Addr) = (⟨g, 0, none⟩ : Addr).add (m * 18) by rw [add_zero_addr2], add_of_add, add_zero_addr2]
        exact this) Try.underlying47 (by rw [sizeE, CX.vs_len hok.tl]))
      have HCL := Lib.hid hcl
      have HD := Lib.hid hd
      clear hc hx hd hok hcl hm2
      go_wp2_with ((with_reducible (show wpList _ _ _ (⟨some 15, .load _ _, _, _, _, _⟩ :: _) _ _)); refine wpList_loadV (o := ⟨some 15, .load _ _, _, _, _, _⟩) rfl _ rfl rfl (HROW.out) ?_)
      refine Calls.mono HCL.out ?_
      clear HROW HCL
      rintro e w1 ⟨rfl, b1⟩
      have B1 := Lib.hid (HB.out.trans (b1.mono HB.out.size))
      clear b1
      cases hp : p x with
      | true =>
        have HX : Hid (idx p l = m) := Lib.hid (by rw [← HD.out]; unfold idxN; rw [if_pos hp])
        go_wp2_with fail
        go_ret
        rw [HX.out]
        exact ⟨rfl, B1.out⟩
      | false =>
        have HX : Hid (idxN p (l.drop (m + 1)) (m + 1) = idx p l) := Lib.hid (by
          have h := HD.out
          unfold idxN at h
          rwa [if_neg (by rw [hp]; decide)] at h)
        go_wp2_with fail
        refine ⟨⟨m + 1, by omega, by go_num, HX, B1⟩, ?_⟩
        simp [intOf]
        omega
    · go_wp2_with fail
      go_ret
      have hd := HI.out
      rw [List.drop_eq_nil_of_le (by rw [HN.out]; omega)] at hd
      unfold idxN at hd
      rw [← hd]
      exact ⟨rfl, HB.out⟩
set_option maxRecDepth 100000 in
set_option maxHeartbeats 2000000 in
theorem indexF_named (cp : Value) (p : CX → Bool) (l : List CX) (A : Option Addr) (n c : Nat) (w : World) (h : EntS w A l) (hn : l.length = n) (hn2 : n ≤ 100000)
    (hF : ∀ x ∈ l, ∀ v, Below w.heap.size w v → Calls Try.prog 36 #[.agg x.vs.toArray, cp] v fun e v' => e = .returned (.bool (p x)) ∧ Below v.heap.size v v') :
    Calls Try.prog 29 #[.slice A n c, .func (.func 36) #[] #[cp]] w fun e w' => e = .returned (.int .i64 (idx p l)) ∧ Below w.heap.size w w' := by
  have HS := Lib.hid h
  have HN := Lib.hid hn
  have HF := Lib.hid hF
  clear h hn hF
  go_enter Try.func29, Try.ntmps29
  go_wp2_with fail
  go_loopw [8] (fun i wr => ∃ m : Nat, m ≤ n ∧ i = .int .i64 m ∧ Hid (idxN p (l.drop m) m = idx p l) ∧ Hid (Below w.heap.size w wr)) (fun i _ => n - (intOf i).toNat)
  case atStart => exact ⟨0, by omega, rfl, Lib.hid rfl, Lib.hid (Below.refl _ _)⟩
  case round =>
    obtain ⟨m, hm, rfl, HI, HB⟩ := hrel
    by_cases hlt : m < n
    · have hm2 : m < l.length := by rw [HN.out]; exact hlt
      obtain ⟨g, rfl, hg, hc⟩ := (HS.out.below HB.out).2 m hm2
      have hx := memD hm2
      have hd := HI.out
      rw [dropD l m hm2] at hd
      have hok := HS.out.1 _ hx
      have hcl := HF.out _ hx wr HB.out
      generalize l.getD m CX.zero = x at *
      have HROW : Hid ((Instr.loadAt 47 (.pointer (some ⟨g, m * 18, none⟩))).run Try.prog wr = .ok (.agg x.vs.toArray) wr) := Lib.hid (row_load (P := Try.prog) (vs := x.vs) (fun j v hv => by
        have := hc j v hv
        rw [show (⟨g, m * 18, none⟩ : Addr) = (⟨g, 0, none⟩ : Addr).add (m * 18) by rw [add_zero_addr2], add_of_add, add_zero_addr2]
        exact this) Try.underlying47 (by rw [sizeE, CX.vs_len hok.tl]))
      have HCL := Lib.hid hcl
      have HD := Lib.hid hd
      clear hc hx hd hok hcl hm2
      go_wp2_with ((with_reducible (show wpList _ _ _ (⟨some 15, .load _ _, _, _, _, _⟩ :: _) _ _)); refine wpList_loadV (o := ⟨some 15, .load _ _, _, _, _, _⟩) rfl _ rfl rfl (HROW.out) ?_)
      refine Calls.mono HCL.out ?_
      clear HROW HCL
      rintro e w1 ⟨rfl, b1⟩
      have B1 := Lib.hid (HB.out.trans (b1.mono HB.out.size))
      clear b1
      cases hp : p x with
      | true =>
        have HX : Hid (idx p l = m) := Lib.hid (by rw [← HD.out]; unfold idxN; rw [if_pos hp])
        go_wp2_with fail
        go_ret
        rw [HX.out]
        exact ⟨rfl, B1.out⟩
      | false =>
        have HX : Hid (idxN p (l.drop (m + 1)) (m + 1) = idx p l) := Lib.hid (by
          have h := HD.out
          unfold idxN at h
          rwa [if_neg (by rw [hp]; decide)] at h)
        go_wp2_with fail
        refine ⟨⟨m + 1, by omega, by go_num, HX, B1⟩, ?_⟩
        simp [intOf]
        omega
    · go_wp2_with fail
      go_ret
      have hd := HI.out
      rw [List.drop_eq_nil_of_le (by rw [HN.out]; omega)] at hd
      unfold idxN at hd
      rw [← hd]
      exact ⟨rfl, HB.out⟩
set_option maxRecDepth 100000 in
set_option maxHeartbeats 2000000 in
theorem indexF_next (cp : Value) (p : CX → Bool) (l : List CX) (A : Option Addr) (n c : Nat) (w : World) (h : EntS w A l) (hn : l.length = n) (hn2 : n ≤ 100000)
    (hF : ∀ x ∈ l, ∀ v, Below w.heap.size w v → Calls Try.prog 30 #[.agg x.vs.toArray, cp] v fun e v' => e = .returned (.bool (p x)) ∧ Below v.heap.size v v') :
    Calls Try.prog 29 #[.slice A n c, .func (.func 30) #[] #[cp]] w fun e w' => e = .returned (.int .i64 (idx p l)) ∧ Below w.heap.size w w' := by
  have HS := Lib.hid h
  have HN := Lib.hid hn
  have HF := Lib.hid hF
  clear h hn hF
  go_enter Try.func29, Try.ntmps29
  go_wp2_with fail
  go_loopw [8] (fun i wr => ∃ m : Nat, m ≤ n ∧ i = .int .i64 m ∧ Hid (idxN p (l.drop m) m = idx p l) ∧ Hid (Below w.heap.size w wr)) (fun i _ => n - (intOf i).toNat)
  case atStart => exact ⟨0, by omega, rfl, Lib.hid rfl, Lib.hid (Below.refl _ _)⟩
  case round =>
    obtain ⟨m, hm, rfl, HI, HB⟩ := hrel
    by_cases hlt : m < n
    · have hm2 : m < l.length := by rw [HN.out]; exact hlt
      obtain ⟨g, rfl, hg, hc⟩ := (HS.out.below HB.out).2 m hm2
      have hx := memD hm2
      have hd := HI.out
      rw [dropD l m hm2] at hd
      have hok := HS.out.1 _ hx
      have hcl := HF.out _ hx wr HB.out
      generalize l.getD m CX.zero = x at *
      have HROW : Hid ((Instr.loadAt 47 (.pointer (some ⟨g, m * 18, none⟩))).run Try.prog wr = .ok (.agg x.vs.toArray) wr) := Lib.hid (row_load (P := Try.prog) (vs := x.vs) (fun j v hv => by
        have := hc j v hv
        rw [show (⟨g, m * 18, none⟩ : Addr) = (⟨g, 0, none⟩ : Addr).add (m * 18) by rw [add_zero_addr2], add_of_add, add_zero_addr2]
        exact this) Try.underlying47 (by rw [sizeE, CX.vs_len hok.tl]))
      have HCL := Lib.hid hcl
      have HD := Lib.hid hd
      clear hc hx hd hok hcl hm2
      go_wp2_with ((with_reducible (show wpList _ _ _ (⟨some 15, .load _ _, _, _, _, _⟩ :: _) _ _)); refine wpList_loadV (o := ⟨some 15, .load _ _, _, _, _, _⟩) rfl _ rfl rfl (HROW.out) ?_)
      refine Calls.mono HCL.out ?_
      clear HROW HCL
      rintro e w1 ⟨rfl, b1⟩
      have B1 := Lib.hid (HB.out.trans (b1.mono HB.out.size))
      clear b1
      cases hp : p x with
      | true =>
        have HX : Hid (idx p l = m) := Lib.hid (by rw [← HD.out]; unfold idxN; rw [if_pos hp])
        go_wp2_with fail
        go_ret
        rw [HX.out]
        exact ⟨rfl, B1.out⟩
      | false =>
        have HX : Hid (idxN p (l.drop (m + 1)) (m + 1) = idx p l) := Lib.hid (by
          have h := HD.out
          unfold idxN at h
          rwa [if_neg (by rw [hp]; decide)] at h)
        go_wp2_with fail
        refine ⟨⟨m + 1, by omega, by go_num, HX, B1⟩, ?_⟩
        simp [intOf]
        omega
    · go_wp2_with fail
      go_ret
      have hd := HI.out
      rw [List.drop_eq_nil_of_le (by rw [HN.out]; omega)] at hd
      unfold idxN at hd
      rw [← hd]
      exact ⟨rfl, HB.out⟩
/-- a variable of one cell -/
theorem find_cl (gb : Nat) (q : Int) (x : CX) (w : World) (hb : Blk w gb 27 #[.int .u64 q]) : Calls Try.prog 35 #[.agg x.vs.toArray, .pointer (some ⟨gb, 0, none⟩)] w fun e w' => e = .returned (.bool (x.seq == q)) ∧ Below w.heap.size w w' := by
  have x0 : x.vs[0]? = some (.int .u64 x.seq) := rfl
  have b0 := Blk.cell (hb.alloc (.cells x.vs.toArray 47)) 0
  simp at b0
  have HB := Lib.hid ((Below.refl w.heap.size w).alloc (Nat.le_refl _) (.cells x.vs.toArray 47))
  go_enter Try.func35, Try.ntmps35
  go_wp2_with fail
  go_ret
  exact ⟨rfl, HB.out⟩
theorem named_cl (gb : Nat) (A : Option Addr) (n c : Nat) (q : List Int) (x : CX) (w : World) (hb : Blk w gb 26 #[.slice A n c]) (hx : x.Ok w) (hq : Rd w.heap.size .u8 w A q) (hn : q.length = n) (hqb : Byt q) : Calls Try.prog 36 #[.agg x.vs.toArray, .pointer (some ⟨gb, 0, none⟩)] w fun e w' => e = .returned (.bool (decide (x.bs = q))) ∧ Below w.heap.size w w' := by
  have x1 : x.vs[1]? = some (.slice x.A x.n x.c) := rfl
  have b0 := Blk.cell (hb.alloc (.cells x.vs.toArray 47)) 0
  simp at b0
  have hB := (Below.refl w.heap.size w).alloc (Nat.le_refl _) (.cells x.vs.toArray 47)
  have HB := Lib.hid hB
  have HX := Lib.hid (hx.below hB)
  have HQ := Lib.hid ((hq.below hB (Nat.le_refl _)).mono hB.size)
  clear hB hx hq
  go_enter Try.func36, Try.ntmps36
  go_wp2_with fail
  refine Calls.mono (equal_n HX.out.n.symm hn HX.out.rd HQ.out HX.out.byt hqb) ?_
  rintro e w1 ⟨rfl, rfl⟩
  go_wp2_with fail
  go_ret
  exact ⟨rfl, HB.out⟩
theorem find_any (l : List CX) (A : Option Addr) (n c : Nat) (q : Int) (w : World) (h : EntS w A l) (hn : l.length = n) (hn2 : n ≤ 100000) :
    Calls Try.prog 21 #[.slice A n c, .int .u64 q] w fun e w' => e = .returned (.int .i64 (idx (fun x => x.seq == q) l)) ∧ Below w.heap.size w w' := by
  have b1 := (Below.refl w.heap.size w).alloc (Nat.le_refl _) (.cells #[.int .u64 q] 27)
  have RD := indexF_find (.pointer (some ⟨w.heap.size, 0, none⟩)) (fun x => x.seq == q) l A n c (w.alloc (.cells #[.int .u64 q] 27)) (h.below b1) hn hn2 (fun x _ v hv => find_cl w.heap.size q x v (Blk.below (Blk.new w _ _) hv (Blk.lt (Blk.new w _ _))))
  have HRD := Lib.hid RD
  have B1 := Lib.hid b1
  clear RD b1 h
  go_enter Try.func21, Try.ntmps21
  go_wp2_with fail
  refine Calls.mono HRD.out ?_
  rintro e w1 ⟨rfl, b1⟩
  have B2 := Lib.hid (B1.out.trans (b1.mono B1.out.size))
  clear b1 HRD
  go_wp2_with fail
  go_ret
  exact ⟨rfl, B2.out⟩
theorem named_any (l : List CX) (A A2 : Option Addr) (n c n2 c2 : Nat) (q : List Int) (w : World) (h : EntS w A l) (hn : l.length = n) (hn2 : n ≤ 100000) (hq : Rd w.heap.size .u8 w A2 q) (hq2 : q.length = n2) (hqb : Byt q) :
    Calls Try.prog 22 #[.slice A n c, .slice A2 n2 c2] w fun e w' => e = .returned (.int .i64 (idx (fun x => decide (x.bs = q)) l)) ∧ Below w.heap.size w w' := by
  have b1 := (Below.refl w.heap.size w).alloc (Nat.le_refl _) (.cells #[.slice A2 n2 c2] 26)
  have hq1 := (hq.below b1 (Nat.le_refl _)).mono b1.size
  have RD := indexF_named (.pointer (some ⟨w.heap.size, 0, none⟩)) (fun x => decide (x.bs = q)) l A n c (w.alloc (.cells #[.slice A2 n2 c2] 26)) (h.below b1) hn hn2 (fun x hx v hv => named_cl w.heap.size A2 n2 c2 q x v (Blk.below (Blk.new w _ _) hv (Blk.lt (Blk.new w _ _))) (((h.below b1).1 x hx).below hv) ((hq1.below hv (Nat.le_refl _)).mono hv.size) hq2 hqb)
  have HRD := Lib.hid RD
  have B1 := Lib.hid b1
  clear RD b1 h hq hq1
  go_enter Try.func22, Try.ntmps22
  go_wp2_with fail
  refine Calls.mono HRD.out ?_
  rintro e w1 ⟨rfl, b1⟩
  have B2 := Lib.hid (B1.out.trans (b1.mono B1.out.size))
  clear b1 HRD
  go_wp2_with fail
  go_ret
  exact ⟨rfl, B2.out⟩
theorem may_any (A : Option Addr) (n c : Nat) (w : World) (hn : n ≤ 100000) : Calls Try.prog 20 #[.slice A n c] w fun e w' => e = .returned (.bool (decide (1 ≤ n ∧ n ≤ 20))) ∧ w = w' := by
  by_cases h1 : 1 ≤ n
  · by_cases h2 : n ≤ 20
    · have hd : decide (1 ≤ n ∧ n ≤ 20) = true := decide_eq_true ⟨h1, h2⟩
      rw [hd]
      clear hd
      go_enter Try.func20, Try.ntmps20
      go_wp2_with fail
      go_ret
      exact ⟨by simp; omega, rfl⟩
    · have hd : decide (1 ≤ n ∧ n ≤ 20) = false := decide_eq_false (fun q => h2 q.2)
      rw [hd]
      clear hd
      go_enter Try.func20, Try.ntmps20
      go_wp2_with fail
      go_ret
      exact ⟨by simp; omega, rfl⟩
  · have hd : decide (1 ≤ n ∧ n ≤ 20) = false := decide_eq_false (fun q => h1 q.1)
    rw [hd]
    clear hd
    obtain rfl : n = 0 := by omega
    go_enter Try.func20, Try.ntmps20
    go_wp2_with fail
    go_ret
    exact ⟨rfl, rfl⟩
end Go.Proofs.Ytghjlndkleclfaa
