/- Layer 3's Bare; heads that are the same. Conditions: as each theorem states them. -/
import Derived.Test.YthpacdondnenmaaJHb
import Derived.Test.YthpacdondnenmaaQB
/- Contract of the reference (layer 3): Same, of two heads that read alike. Conditions: as each theorem states them. -/
namespace Go.Proofs.Ythpacdondnenmaa
open Go.RowKit
/-- a head's value, whose parts read so -/
def HdV (w : World) (v : Value) (h : HD) : Prop := ∃ v1 v2 v3, v = .agg #[.int .u8 h.space, v1, v2, v3, .bool h.phase, .int .u64 h.pn, .int .i64 h.pb] ∧ Sl w v1 h.dst ∧ Sl w v2 h.src ∧ Sl w v3 h.tok
theorem HdV.below {w w' : World} {v : Value} {h : HD} (hv : HdV w v h) (hb : Below w.heap.size w w') : HdV w' v h := by
  obtain ⟨v1, v2, v3, e, s1, s2, s3⟩ := hv
  exact ⟨v1, v2, v3, e, s1.below hb, s2.below hb, s3.below hb⟩
set_option maxRecDepth 100000 in
theorem conv_sl {w : World} {A : Option Addr} {n c : Nat} {L : List Int} (h : Sl w (.slice A n c) L) : (convert 28 9 (.slice A n c)).run Try.prog w = .ok (.string (strOfNums L)) w := by
  obtain ⟨A', n', c', e, hn, hc, hr⟩ := h
  simp only [Value.slice.injEq] at e
  obtain ⟨rfl, rfl, rfl⟩ := e
  subst hn
  exact conv_rd elUh Try.underlying9 hr c
theorem Sl.form {w : World} {v : Value} {L : List Int} (h : Sl w v L) : ∃ A n c, v = .slice A n c := by
  obtain ⟨A, n, c, e, _⟩ := h; exact ⟨A, n, c, e⟩
set_option maxRecDepth 100000 in
set_option maxHeartbeats 2000000 in
theorem same_yes (a b : Value) (h : HD) (w : World) (ha : HdV w a h) (hb : HdV w b h) : Calls Try.prog 13 #[a, b] w fun e w' => e = .returned (.bool true) ∧ Below w.heap.size w w' := by
  obtain ⟨a1, a2, a3, rfl, s1, s2, s3⟩ := ha
  obtain ⟨b1, b2, b3, rfl, t1, t2, t3⟩ := hb
  obtain ⟨A1, n1, c1, rfl⟩ := s1.form
  obtain ⟨A2, n2, c2, rfl⟩ := s2.form
  obtain ⟨A3, n3, c3, rfl⟩ := s3.form
  obtain ⟨B1, m1, d1, rfl⟩ := t1.form
  obtain ⟨B2, m2, d2, rfl⟩ := t2.form
  obtain ⟨B3, m3, d3, rfl⟩ := t3.form
  have hw : Below w.heap.size w ((w.alloc (.cells #[.int .u8 h.space, .slice A1 n1 c1, .slice A2 n2 c2, .slice A3 n3 c3, .bool h.phase, .int .u64 h.pn, .int .i64 h.pb] 30)).alloc (.cells #[.int .u8 h.space, .slice B1 m1 d1, .slice B2 m2 d2, .slice B3 m3 d3, .bool h.phase, .int .u64 h.pn, .int .i64 h.pb] 30)) := ((Below.refl _ _).alloc (Nat.le_refl _) _).alloc (by simp) _
  have k1 := conv_sl (s1.below hw)
  have k2 := conv_sl (s2.below hw)
  have k3 := conv_sl (s3.below hw)
  have l1 := conv_sl (t1.below hw)
  have l2 := conv_sl (t2.below hw)
  have l3 := conv_sl (t3.below hw)
  clear s1 s2 s3 t1 t2 t3
  generalize strOfNums h.dst = x1 at *
  generalize strOfNums h.src = x2 at *
  generalize strOfNums h.tok = x3 at *
  have HW := Lib.hid hw
  clear hw
  go_enter Try.func13, Try.ntmps13
  go_wp2_with fail
  go_ret
  exact ⟨rfl, HW.out⟩
end Go.Proofs.Ythpacdondnenmaa
/- Contract (layer 3): Bare, of a packet whose head is there. Conditions: as each theorem states them. -/
namespace Go.Proofs.Ythpacdondnenmaa
open Go.RowKit
theorem and_3 : (allB.all fun b => bits .and .u8 b 3 == b % 4) = true := by decide +kernel
theorem and3 {b : Int} (h0 : 0 ≤ b) (h1 : b < 256) : bits .and .u8 b 3 = b % 4 := by
  have h := List.all_eq_true.1 and_3 b (all_mem h0 h1)
  rwa [beq_iff_eq] at h
theorem and_4 : (allB.all fun b => bits .and .u8 b 4 == (if b / 4 % 2 = 1 then 4 else 0)) = true := by decide +kernel
theorem and4 {b : Int} (h0 : 0 ≤ b) (h1 : b < 256) : bits .and .u8 b 4 = if b / 4 % 2 = 1 then 4 else 0 := by
  have h := List.all_eq_true.1 and_4 b (all_mem h0 h1)
  rwa [beq_iff_eq] at h
theorem results_hd {w : World} {g : Nat} {c0 c1 c2 c3 c4 c5 c6 : Value} {fn : Func} {x u : Tmp} {tmps : Array Value} (hr : fn.results = #[.cell x 30, .tmp u]) (hx : tmps.getD x undef = .pointer (some ⟨g, 0, none⟩)) (h : Blk w g 30 #[c0, c1, c2, c3, c4, c5, c6]) :
    (results fn tmps).run Try.prog w = .ok (.tuple #[.agg #[c0, c1, c2, c3, c4, c5, c6], tmps.getD u undef]) w := by
  obtain ⟨a0, a1, a2, a3, a4, a5, a6⟩ := hv_facts h
  have hx' : tmps[x]?.getD undef = .pointer (some ⟨g, 0, none⟩) := by simpa using hx
  simp [results, hr, hx', go_sem, a0, a1, a2, a3, a4, a5, a6]
theorem hv_frozen {w : World} {g : Nat} {t : TypeId} {cs : Array Value} (h : Blk w g t cs) : w.frozen? ⟨g, 0, none⟩ = false ∧ w.frozen? ⟨g, 1, none⟩ = false ∧ w.frozen? ⟨g, 2, none⟩ = false ∧ w.frozen? ⟨g, 3, none⟩ = false ∧ w.frozen? ⟨g, 4, none⟩ = false ∧ w.frozen? ⟨g, 5, none⟩ = false ∧ w.frozen? ⟨g, 6, none⟩ = false :=
  ⟨Blk.frozen h 0, Blk.frozen h 1, Blk.frozen h 2, Blk.frozen h 3, Blk.frozen h 4, Blk.frozen h 5, Blk.frozen h 6⟩
theorem or64' {z y : Int} (h0 : 0 ≤ z) (h1 : z < 72057594037927936) (y0 : 0 ≤ y) (y1 : y < 256) : bits .or .u64 (z * 256) y = z * 256 + y := or64 h0 h1 y0 y1
theorem apd_ne {B : Nat} {e : TypeId} {k : IntKind} {w : World} {zs : List Int} {A' : Option Addr} {n' c' : Nat} {w' : World} {g : Nat} (h : Apd B e k w none zs A' n' c' w') (hg : g < w.heap.size) : ∀ ad, A' = some ad → ad.block ≠ g := by
  intro ad hA
  rcases h.2.2.2 with h | ⟨b, h, hb⟩
  · rw [hA] at h; cases h
  · rw [hA] at h; injection h with h; subst h; omega
theorem wp_named {P : Program} {c : Code} {Q : Exit → Act → World → Prop} {a : Act} {w : World} (h : ∀ Q', Q' = Q → c.wp P Q' a w) : c.wp P Q a w := h Q rfl
theorem abs_world {M : World → Prop} {W : World} (F : World → Prop) (h : F W) (k : ∀ W', F W' → M W') : M W := k W h
def PkB (bx : Nat) (cs : Array Value) (w' : World) : Prop := Blk w' bx 38 cs
def bareH (sp : Int) (Ld Ls Lt Ln : List Int) (x : Int) : HD := ⟨sp, Ld, Ls, Lt, decide (sp = 2) && decide (x / 4 % 2 = 1), ofF 0 (Ln.take (x % 4 + 1).toNat), x % 4 + 1⟩
def BarePost (sp : Int) (Ld Ls Lt Ln : List Int) (x : Int) (w : World) (e : Ending) (w' : World) : Prop := ∃ v, e = .returned (.tuple #[v, .int .i64 0]) ∧ HdV w' v (bareH sp Ld Ls Lt Ln x) ∧ Below w.heap.size w w'

/-- a head's value, whose parts lie in blocks from B on -/
def HdF (B : Nat) (w : World) (v : Value) (h : HD) : Prop := ∃ v1 v2 v3, v = .agg #[.int .u8 h.space, v1, v2, v3, .bool h.phase, .int .u64 h.pn, .int .i64 h.pb] ∧ SlF B w v1 h.dst ∧ SlF B w v2 h.src ∧ SlF B w v3 h.tok
theorem HdF.toV {B : Nat} {w : World} {v : Value} {h : HD} (hf : HdF B w v h) : HdV w v h := by
  obtain ⟨v1, v2, v3, e, s1, s2, s3⟩ := hf
  exact ⟨v1, v2, v3, e, s1.1, s2.1, s3.1⟩
def BarePostF (sp : Int) (Ld Ls Lt Ln : List Int) (x : Int) (w : World) (e : Ending) (w' : World) : Prop := ∃ v, e = .returned (.tuple #[v, .int .i64 0]) ∧ HdF w.heap.size w' v (bareH sp Ld Ls Lt Ln x) ∧ Below w.heap.size w w'
set_option maxRecDepth 100000 in
set_option maxHeartbeats 8000000 in
theorem bare_yesF (sp at_ : Int) (vd vs vt vb vn : Value) (Ld Ls Lt Lb Ln : List Int) (x : Int) (w : World) (sd : Sl w vd Ld) (ss : Sl w vs Ls) (st : Sl w vt Lt) (sb : Sl w vb Lb) (sn : Sl w vn Ln) (hnb : Byt Ln)
    (hx0 : 0 ≤ x) (hx1 : x < 256) (h1 : 0 < Lb.length) (h2 : bits .andNot .u8 (bits .xor .u8 x (Lb.getD 0 0)) (bitsV sp) = 0) (h3 : bits .and .u8 x (if sp = 2 then 24 else 12) = 0) (h4 : x % 4 + 1 ≤ Ln.length)
    (hl : Ld.length ≤ 1000000000000 ∧ Ls.length ≤ 1000000000000 ∧ Lt.length ≤ 1000000000000 ∧ Lb.length ≤ 1000000000000 ∧ Ln.length ≤ 1000000000000) :
    Calls Try.prog 39 #[.agg #[.int .u8 sp, vd, vs, vt, .int .i64 at_, vb], .int .u8 x, vn] w (BarePostF sp Ld Ls Lt Ln x w) := by
  obtain ⟨Ad, nd, cd, rfl, ld, kd, rd⟩ := sd
  obtain ⟨As, ns, cs, rfl, ls, ks, rs⟩ := ss
  obtain ⟨At, nt, ct, rfl, lt, kt, rt⟩ := st
  obtain ⟨Ab, nb, cb, rfl, lb, kb, rb⟩ := sb
  obtain ⟨An, nn, cn, rfl, ln, kn, rn⟩ := sn
  obtain ⟨z1, z2, z3, z4, z5⟩ := hl
  subst ld
  subst ls
  subst lt
  have hnb0 : 0 < nb := by omega
  have hnbz : ((nb : Int) == 0) = false := by rw [beq_eq_false_iff_ne]; omega
  have H1 := Lib.hid h1
  subst ln
  have RD := Lib.hid rd
  have RS := Lib.hid rs
  have RT := Lib.hid rt
  have RN := Lib.hid rn
  have KN := Lib.hid kn
  have HNB := Lib.hid hnb
  obtain ⟨ab, hab, _⟩ := rb.isSome h1
  subst hab
  have RB := Lib.hid rb
  have a3 := and3 hx0 hx1
  have HX4 := Lib.hid (and4 hx0 hx1)
  obtain ⟨y0, hy0⟩ : ∃ y, Lb.getD 0 0 = y := ⟨_, rfl⟩
  rw [hy0] at h2
  have HY0 := Lib.hid hy0
  obtain ⟨pb, hpb⟩ : ∃ p : Nat, (p : Int) = x % 4 + 1 := ⟨(x % 4 + 1).toNat, by omega⟩
  have hp1 : 1 ≤ pb := by omega
  have hp4 : pb ≤ 4 := by omega
  have hpl : pb ≤ Ln.length := by omega
  have HPB := Lib.hid hpb
  have hpbs : x % 4 + 1 = (pb : Int) := hpb.symm
  have HBH : Hid (bareH sp Ld Ls Lt Ln x = ⟨sp, Ld, Ls, Lt, decide (sp = 2) && decide (x / 4 % 2 = 1), ofF 0 (Ln.take pb), pb⟩) := Lib.hid (by unfold bareH; rw [← hpb, Int.toNat_natCast])
  have H2 := Lib.hid h2
  have H3 := Lib.hid h3
  clear rd rs rt rn rb kn hnb hy0 h2 h3 hpb h4 kd ks kt kb lb h1 z4
  generalize hbx : w.heap.size = bx at *
  have HBX := Lib.hid hbx
  have HP0 : Hid (Blk ((w.alloc (.cells #[.int .u8 sp, .slice Ad Ld.length cd, .slice As Ls.length cs, .slice At Lt.length ct, .int .i64 at_, .slice (some ab) nb cb] 38)).alloc (.cells #[.int .u8 0, .slice none 0 0, .slice none 0 0, .slice none 0 0, .bool false, .int .u64 0, .int .i64 0] 30)) bx 38 #[.int .u8 sp, .slice Ad Ld.length cd, .slice As Ls.length cs, .slice At Lt.length ct, .int .i64 at_, .slice (some ab) nb cb]) := Lib.hid (by rw [← hbx]; exact Blk.alloc (Blk.new _ _ _) _)
  have HR0 : Hid (Blk ((w.alloc (.cells #[.int .u8 sp, .slice Ad Ld.length cd, .slice As Ls.length cs, .slice At Lt.length ct, .int .i64 at_, .slice (some ab) nb cb] 38)).alloc (.cells #[.int .u8 0, .slice none 0 0, .slice none 0 0, .slice none 0 0, .bool false, .int .u64 0, .int .i64 0] 30)) (bx + 1) 30 #[.int .u8 0, .slice none 0 0, .slice none 0 0, .slice none 0 0, .bool false, .int .u64 0, .int .i64 0]) := Lib.hid (by
    have h := Blk.new (w.alloc (.cells #[.int .u8 sp, .slice Ad Ld.length cd, .slice As Ls.length cs, .slice At Lt.length ct, .int .i64 at_, .slice (some ab) nb cb] 38)) 30 #[.int .u8 0, .slice none 0 0, .slice none 0 0, .slice none 0 0, .bool false, .int .u64 0, .int .i64 0]
    rwa [show (w.alloc (.cells #[.int .u8 sp, .slice Ad Ld.length cd, .slice As Ls.length cs, .slice At Lt.length ct, .int .i64 at_, .slice (some ab) nb cb] 38)).heap.size = bx + 1 by simp [hbx]] at h)
  have HB0 : Hid (Below bx w ((w.alloc (.cells #[.int .u8 sp, .slice Ad Ld.length cd, .slice As Ls.length cs, .slice At Lt.length ct, .int .i64 at_, .slice (some ab) nb cb] 38)).alloc (.cells #[.int .u8 0, .slice none 0 0, .slice none 0 0, .slice none 0 0, .bool false, .int .u64 0, .int .i64 0] 30))) := Lib.hid (((Below.refl bx w).alloc (by omega) _).alloc (by simp; omega) _)
  have hz0 : bx + 1 < ((w.alloc (.cells #[.int .u8 sp, .slice Ad Ld.length cd, .slice As Ls.length cs, .slice At Lt.length ct, .int .i64 at_, .slice (some ab) nb cb] 38)).alloc (.cells #[.int .u8 0, .slice none 0 0, .slice none 0 0, .slice none 0 0, .bool false, .int .u64 0, .int .i64 0] 30)).heap.size := Blk.lt HR0.out
  clear hbx
  go_enter Try.func39, Try.ntmps39
  go_wp2_with fail
  rw [HBX.out]
  generalize ((w.alloc (.cells #[.int .u8 sp, .slice Ad Ld.length cd, .slice As Ls.length cs, .slice At Lt.length ct, .int .i64 at_, .slice (some ab) nb cb] 38)).alloc (.cells #[.int .u8 0, .slice none 0 0, .slice none 0 0, .slice none 0 0, .bool false, .int .u64 0, .int .i64 0] 30)) = w0 at *
  have hS : PkB bx #[.int .u8 sp, .slice Ad Ld.length cd, .slice As Ls.length cs, .slice At Lt.length ct, .int .i64 at_, .slice (some ab) nb cb] w0.drew := Blk.drew HP0.out
  have hne : Nonempty (CW (PkB bx #[.int .u8 sp, .slice Ad Ld.length cd, .slice As Ls.length cs, .slice At Lt.length ct, .int .i64 at_, .slice (some ab) nb cb])) := CW.inh hS
  have hc0 : ∀ r : CW (PkB bx #[.int .u8 sp, .slice Ad Ld.length cd, .slice As Ls.length cs, .slice At Lt.length ct, .int .i64 at_, .slice (some ab) nb cb]), r.world.cell? ⟨bx, 0, none⟩ = some (.int .u8 sp) := fun r => Blk.cell r.holds 0
  have hc1 : ∀ r : CW (PkB bx #[.int .u8 sp, .slice Ad Ld.length cd, .slice As Ls.length cs, .slice At Lt.length ct, .int .i64 at_, .slice (some ab) nb cb]), r.world.cell? ⟨bx, 1, none⟩ = some (.slice Ad Ld.length cd) := fun r => Blk.cell r.holds 1
  have hc2 : ∀ r : CW (PkB bx #[.int .u8 sp, .slice Ad Ld.length cd, .slice As Ls.length cs, .slice At Lt.length ct, .int .i64 at_, .slice (some ab) nb cb]), r.world.cell? ⟨bx, 2, none⟩ = some (.slice As Ls.length cs) := fun r => Blk.cell r.holds 2
  have hc3 : ∀ r : CW (PkB bx #[.int .u8 sp, .slice Ad Ld.length cd, .slice As Ls.length cs, .slice At Lt.length ct, .int .i64 at_, .slice (some ab) nb cb]), r.world.cell? ⟨bx, 3, none⟩ = some (.slice At Lt.length ct) := fun r => Blk.cell r.holds 3
  have HB1 := Lib.hid HB0.out.drew
  have HP1 : Hid (Blk w0.drew bx 38 #[.int .u8 sp, .slice Ad Ld.length cd, .slice As Ls.length cs, .slice At Lt.length ct, .int .i64 at_, .slice (some ab) nb cb]) := Lib.hid (Blk.drew HP0.out)
  have HR1 : Hid (Blk w0.drew (bx + 1) 30 #[.int .u8 0, .slice none 0 0, .slice none 0 0, .slice none 0 0, .bool false, .int .u64 0, .int .i64 0]) := Lib.hid (Blk.drew HR0.out)
  have hz1 : bx + 1 < w0.drew.heap.size := hz0
  refine wp_named ?_
  intro QQ hQQ
  have REST : ∀ (W : World) (g8 : Nat) (O1A : Option Addr) (O1n O1c : Nat) (O2A : Option Addr) (O2n O2c : Nat) (O3A : Option Addr) (O3n O3c : Nat), bx + 1 < g8 → Below bx w W → PkB bx #[.int .u8 sp, .slice Ad Ld.length cd, .slice As Ls.length cs, .slice At Lt.length ct, .int .i64 at_, .slice (some ab) nb cb] W → Blk W g8 30 #[.int .u8 sp, .slice O1A O1n O1c, .slice O2A O2n O2c, .slice O3A O3n O3c, .bool false, .int .u64 0, .int .i64 (pb : Nat)] → Blk W (bx + 1) 30 #[.int .u8 0, .slice none 0 0, .slice none 0 0, .slice none 0 0, .bool false, .int .u64 0, .int .i64 0] →
      Own (bx + 2) 5 .u8 W O1A O1n O1c Ld → Own (bx + 2) 5 .u8 W O2A O2n O2c Ls → Own (bx + 2) 5 .u8 W O3A O3n O3c Lt → (∀ ad, O1A = some ad → ad.block ≠ g8) → (∀ ad, O2A = some ad → ad.block ≠ g8) → (∀ ad, O3A = some ad → ad.block ≠ g8) →
      QQ .normal { tmps := #[.agg #[.int .u8 sp, .slice Ad Ld.length cd, .slice As Ls.length cs, .slice At Lt.length ct, .int .i64 at_, .slice (some ab) nb cb], .int .u8 x, .slice An Ln.length cn, .pointer (some ⟨bx, 0, none⟩), undef, undef, .pointer (some ⟨bx + 1, 0, none⟩), .int .i64 0, .pointer (some ⟨g8, 0, none⟩), undef, undef, undef, undef, .pointer (some ⟨bx, 0, none⟩), .int .u8 sp, .pointer (some ⟨bx, 1, none⟩), .slice Ad Ld.length cd, .slice O1A O1n O1c, .pointer (some ⟨bx, 2, none⟩), .slice As Ls.length cs, .slice O2A O2n O2c, .pointer (some ⟨bx, 3, none⟩), .slice At Lt.length ct, .slice O3A O3n O3c, .int .u8 x, .int .u8 (x % 4), .int .i64 (x % 4), .int .i64 (pb : Nat), .agg #[.int .u8 sp, .slice O1A O1n O1c, .slice O2A O2n O2c, .slice O3A O3n O3c, .bool false, .int .u64 0, .int .i64 (pb : Nat)], undef, undef, undef, undef, undef, undef, undef, undef, undef, undef, undef, undef, undef, undef, undef, undef, undef, undef, undef, undef, undef, undef, undef, undef, undef, undef, undef, undef, undef, undef, undef, undef, undef, undef, undef, undef, undef, undef, undef, undef, undef, undef, undef, undef, undef, undef, undef, undef, undef, undef, undef, undef, undef, undef, undef, undef, undef], defers := [] } W := by
    subst hQQ
    intro W g8 O1A O1n O1c O2A O2n O2c O3A O3n O3c hg8 hbs fp f8 fr ho1 ho2 ho3 hd1 hd2 hd3
    have HBs := Lib.hid hbs
    have HPs := Lib.hid fp
    have HRs := Lib.hid fr
    have H8s := Lib.hid f8
    have hzs : bx + 1 < W.heap.size := Blk.lt fr
    have hgz : g8 < W.heap.size := Blk.lt f8
    have O1 := Lib.hid ho1
    have O2 := Lib.hid ho2
    have O3 := Lib.hid ho3
    have DO1 := Lib.hid hd1
    have DO2 := Lib.hid hd2
    have DO3 := Lib.hid hd3
    have hgne : bx ≠ g8 := by omega
    have hgne1 : bx + 1 ≠ g8 := by omega
    clear hbs fp f8 fr ho1 ho2 ho3 hd1 hd2 hd3 hc0 hc1 hc2 hc3 hS HB1 HP1 HR1 hz1 hz0 HB0 HP0 HR0
    have p0 : W.cell? ⟨bx, 0, none⟩ = some (.int .u8 sp) := Blk.cell HPs.out 0
    have p5 : W.cell? ⟨bx, 5, none⟩ = some (.slice (some ab) nb cb) := Blk.cell HPs.out 5
    obtain ⟨e0, e1, e2, e3, e4, e5, e6⟩ := hv_facts H8s.out
    obtain ⟨q0, q1, q2, q3, q4, q5, q6⟩ := hv_frozen H8s.out
    have b0 := (RB.out.below HBs.out (Nat.le_refl _)).at0 H1.out
    rw [HY0.out] at b0
    have b0t := ((RB.out.below HBs.out (Nat.le_refl _)).setCell (p := ⟨g8, 4, none⟩) (by simp; omega) (.bool true)).at0 H1.out
    have b0f := ((RB.out.below HBs.out (Nat.le_refl _)).setCell (p := ⟨g8, 4, none⟩) (by simp; omega) (.bool false)).at0 H1.out
    rw [HY0.out] at b0t b0f
    obtain ⟨A9, c9, hc9, _, r9, l9, run9⟩ := slice_h elUh RN.out KN.out (pb : Int) pb (by omega) rfl
    have R9 := Lib.hid r9
    have L9 := Lib.hid l9
    clear r9 l9
    by_cases hs : sp = 2
    · subst hs
      have h2 : bits .andNot .u8 (bits .xor .u8 x y0) 31 = 0 := by have h := H2.out; unfold bitsV at h; rw [if_pos rfl] at h; exact h
      have h3 : bits .and .u8 x 24 = 0 := by have h := H3.out; rw [if_pos rfl] at h; exact h
      by_cases hph : x / 4 % 2 = 1
      · have a4 : bits .and .u8 x 4 = 4 := by have h := HX4.out; rw [if_pos hph] at h; exact h
        have HPH := Lib.hid hph
        clear hph
        go_wp2_with (go_at_call 28; refine (bits_any _ _).mono ?_; rintro e w99 ⟨rfl, rfl⟩; unfold bitsV)
        have HB2 : Hid (Below bx w (W.setCell ⟨g8, 4, none⟩ (.bool true))) := Lib.hid (HBs.out.setCell (by simp; omega) _)
        have H82 : Hid (Blk (W.setCell ⟨g8, 4, none⟩ (.bool true)) g8 30 #[.int .u8 2, .slice O1A O1n O1c, .slice O2A O2n O2c, .slice O3A O3n O3c, .bool true, .int .u64 0, .int .i64 (pb : Nat)]) := Lib.hid (Blk.cast (Blk.set_ H8s.out 4 _) (by simp))
        have G2 : Hid (W.grownBy (W.setCell ⟨g8, 4, none⟩ (.bool true)) (some g8)) := Lib.hid (only_setCell (World.grownBy.refl _ _) (.inl rfl) _)
        clear e0 e1 e2 e3 e4 e5 e6 q0 q1 q2 q3 q4 q5 q6
        go_loopw [73] (fun iv wr => ∃ j : Nat, j ≤ pb ∧ iv = .int .i64 (j : Nat) ∧ Hid (Blk wr g8 30 #[.int .u8 2, .slice O1A O1n O1c, .slice O2A O2n O2c, .slice O3A O3n O3c, .bool true, .int .u64 (ofF 0 (Ln.take j)), .int .i64 (pb : Nat)]) ∧ Hid (W.grownBy wr (some g8))) (fun iv _ => pb - (intOf iv).toNat)
        case atStart => exact ⟨0, by omega, rfl, H82, G2⟩
        case round =>
          obtain ⟨j, hj, rfl, HK, HG⟩ := hrel
          obtain ⟨e0, e1, e2, e3, e4, e5, e6⟩ := hv_facts HK.out
          obtain ⟨q0, q1, q2, q3, q4, q5, q6⟩ := hv_frozen HK.out
          have HBr := Lib.hid (HBs.out.trans (below_of_only HG.out (by omega) (by omega)))
          have hrg := ofF_range 0 (Ln.take j) (HNB.out.take j) (by omega)
          rw [List.length_take, show min j Ln.length = j by omega] at hrg
          by_cases hjl : j < pb
          · have hp6 := pow_le_256 (j := j) (by omega)
            have hrd := R9.out.below HBr.out (Nat.le_refl _)
            obtain ⟨ad9, hA9, _, hc9'⟩ := hrd j (by rw [L9.out]; exact hjl)
            have hgt : (Ln.take pb).getD j 0 = Ln.getD j 0 := getD_take hjl
            rw [hgt] at hc9'
            have hyb := HNB.out.getD j
            have HN : Hid (ofF 0 (Ln.take (j + 1)) = ofF 0 (Ln.take j) * 256 + Ln.getD j 0) := Lib.hid (by rw [ofF_take (by omega)]; omega)
            generalize ofF 0 (Ln.take j) = z at *
            generalize Ln.getD j 0 = y at *
            have hor := or64 (z := z) (y := y) hrg.1 (by omega) hyb.1 hyb.2
            obtain ⟨hy0, hy1⟩ := hyb
            obtain ⟨hz00, hz01⟩ := hrg
            subst hA9
            clear hrd hgt
            go_wp2_with fail
            go_roundw
            case rel => exact ⟨j + 1, by omega, by go_num, Lib.hid (Blk.cast (Blk.set_ HK.out 5 _) (by rw [HN.out]; simp)), Lib.hid (only_setCell HG.out (.inl rfl) _)⟩
            case measure => simp [intOf]; omega
          · obtain rfl : j = pb := by omega
            have HRr := Lib.hid (Blk.grown HRs.out HG.out (by simp; omega))
            obtain ⟨x0, x1, x2, x3, x4, x5, x6⟩ := hv_facts HRr.out
            obtain ⟨v0, v1, v2, v3, v4, v5, v6⟩ := hv_frozen HRr.out
            replace O1 := Lib.hid (O1.out.kept HG.out (fun ad hA e => DO1.out ad hA (by injection e)))
            replace O2 := Lib.hid (O2.out.kept HG.out (fun ad hA e => DO2.out ad hA (by injection e)))
            replace O3 := Lib.hid (O3.out.kept HG.out (fun ad hA e => DO3.out ad hA (by injection e)))
            go_wp2_with fail
            have hst : ∀ i v, ((⟨bx + 1, i, v⟩ : Addr)).block < bx + 2 := fun _ _ => by simp
            refine bodyPost_ret (results_hd (g := bx + 1) (c0 := .int .u8 2) (c1 := .slice O1A O1n O1c) (c2 := .slice O2A O2n O2c) (c3 := .slice O3A O3n O3c) (c4 := .bool true) (c5 := .int .u64 (ofF 0 (Ln.take j))) (c6 := .int .i64 (j : Nat)) rfl rfl ?_) rfl ⟨_, rfl, ⟨_, _, _, ?_, SlF.own (?_ : Own (bx + 2) 5 .u8 _ O1A O1n O1c Ld) (by have := HBX.out; omega), SlF.own (?_ : Own (bx + 2) 5 .u8 _ O2A O2n O2c Ls) (by have := HBX.out; omega), SlF.own (?_ : Own (bx + 2) 5 .u8 _ O3A O3n O3c Lt) (by have := HBX.out; omega)⟩, ?_⟩
            · apply Blk.cast
              · (repeat (first | with_reducible exact HRr.out | with_reducible apply Blk.set_))
              · simp
            · rw [HBH.out]; rw [HPH.out]; rfl
            · (repeat (first | with_reducible exact O1.out | (with_reducible refine Own.st ?_ (hst _ _) _)))
            · (repeat (first | with_reducible exact O2.out | (with_reducible refine Own.st ?_ (hst _ _) _)))
            · (repeat (first | with_reducible exact O3.out | (with_reducible refine Own.st ?_ (hst _ _) _)))
            · rw [HBX.out]; (repeat (first | with_reducible exact HBr.out | (with_reducible refine Below.setCell ?_ (by simp) _)))
      · have a4 : bits .and .u8 x 4 = 0 := by have h := HX4.out; rw [if_neg hph] at h; exact h
        have HPH := Lib.hid (decide_eq_false hph)
        clear hph
        go_wp2_with (go_at_call 28; refine (bits_any _ _).mono ?_; rintro e w99 ⟨rfl, rfl⟩; unfold bitsV)
        have HB2 : Hid (Below bx w (W.setCell ⟨g8, 4, none⟩ (.bool false))) := Lib.hid (HBs.out.setCell (by simp; omega) _)
        have H82 : Hid (Blk (W.setCell ⟨g8, 4, none⟩ (.bool false)) g8 30 #[.int .u8 2, .slice O1A O1n O1c, .slice O2A O2n O2c, .slice O3A O3n O3c, .bool false, .int .u64 0, .int .i64 (pb : Nat)]) := Lib.hid (Blk.cast (Blk.set_ H8s.out 4 _) (by simp))
        have G2 : Hid (W.grownBy (W.setCell ⟨g8, 4, none⟩ (.bool false)) (some g8)) := Lib.hid (only_setCell (World.grownBy.refl _ _) (.inl rfl) _)
        clear e0 e1 e2 e3 e4 e5 e6 q0 q1 q2 q3 q4 q5 q6
        go_loopw [73] (fun iv wr => ∃ j : Nat, j ≤ pb ∧ iv = .int .i64 (j : Nat) ∧ Hid (Blk wr g8 30 #[.int .u8 2, .slice O1A O1n O1c, .slice O2A O2n O2c, .slice O3A O3n O3c, .bool false, .int .u64 (ofF 0 (Ln.take j)), .int .i64 (pb : Nat)]) ∧ Hid (W.grownBy wr (some g8))) (fun iv _ => pb - (intOf iv).toNat)
        case atStart => exact ⟨0, by omega, rfl, H82, G2⟩
        case round =>
          obtain ⟨j, hj, rfl, HK, HG⟩ := hrel
          obtain ⟨e0, e1, e2, e3, e4, e5, e6⟩ := hv_facts HK.out
          obtain ⟨q0, q1, q2, q3, q4, q5, q6⟩ := hv_frozen HK.out
          have HBr := Lib.hid (HBs.out.trans (below_of_only HG.out (by omega) (by omega)))
          have hrg := ofF_range 0 (Ln.take j) (HNB.out.take j) (by omega)
          rw [List.length_take, show min j Ln.length = j by omega] at hrg
          by_cases hjl : j < pb
          · have hp6 := pow_le_256 (j := j) (by omega)
            have hrd := R9.out.below HBr.out (Nat.le_refl _)
            obtain ⟨ad9, hA9, _, hc9'⟩ := hrd j (by rw [L9.out]; exact hjl)
            have hgt : (Ln.take pb).getD j 0 = Ln.getD j 0 := getD_take hjl
            rw [hgt] at hc9'
            have hyb := HNB.out.getD j
            have HN : Hid (ofF 0 (Ln.take (j + 1)) = ofF 0 (Ln.take j) * 256 + Ln.getD j 0) := Lib.hid (by rw [ofF_take (by omega)]; omega)
            generalize ofF 0 (Ln.take j) = z at *
            generalize Ln.getD j 0 = y at *
            have hor := or64 (z := z) (y := y) hrg.1 (by omega) hyb.1 hyb.2
            obtain ⟨hy0, hy1⟩ := hyb
            obtain ⟨hz00, hz01⟩ := hrg
            subst hA9
            clear hrd hgt
            go_wp2_with fail
            go_roundw
            case rel => exact ⟨j + 1, by omega, by go_num, Lib.hid (Blk.cast (Blk.set_ HK.out 5 _) (by rw [HN.out]; simp)), Lib.hid (only_setCell HG.out (.inl rfl) _)⟩
            case measure => simp [intOf]; omega
          · obtain rfl : j = pb := by omega
            have HRr := Lib.hid (Blk.grown HRs.out HG.out (by simp; omega))
            obtain ⟨x0, x1, x2, x3, x4, x5, x6⟩ := hv_facts HRr.out
            obtain ⟨v0, v1, v2, v3, v4, v5, v6⟩ := hv_frozen HRr.out
            replace O1 := Lib.hid (O1.out.kept HG.out (fun ad hA e => DO1.out ad hA (by injection e)))
            replace O2 := Lib.hid (O2.out.kept HG.out (fun ad hA e => DO2.out ad hA (by injection e)))
            replace O3 := Lib.hid (O3.out.kept HG.out (fun ad hA e => DO3.out ad hA (by injection e)))
            go_wp2_with fail
            have hst : ∀ i v, ((⟨bx + 1, i, v⟩ : Addr)).block < bx + 2 := fun _ _ => by simp
            refine bodyPost_ret (results_hd (g := bx + 1) (c0 := .int .u8 2) (c1 := .slice O1A O1n O1c) (c2 := .slice O2A O2n O2c) (c3 := .slice O3A O3n O3c) (c4 := .bool false) (c5 := .int .u64 (ofF 0 (Ln.take j))) (c6 := .int .i64 (j : Nat)) rfl rfl ?_) rfl ⟨_, rfl, ⟨_, _, _, ?_, SlF.own (?_ : Own (bx + 2) 5 .u8 _ O1A O1n O1c Ld) (by have := HBX.out; omega), SlF.own (?_ : Own (bx + 2) 5 .u8 _ O2A O2n O2c Ls) (by have := HBX.out; omega), SlF.own (?_ : Own (bx + 2) 5 .u8 _ O3A O3n O3c Lt) (by have := HBX.out; omega)⟩, ?_⟩
            · apply Blk.cast
              · (repeat (first | with_reducible exact HRr.out | with_reducible apply Blk.set_))
              · simp
            · rw [HBH.out]; rw [HPH.out]; rfl
            · (repeat (first | with_reducible exact O1.out | (with_reducible refine Own.st ?_ (hst _ _) _)))
            · (repeat (first | with_reducible exact O2.out | (with_reducible refine Own.st ?_ (hst _ _) _)))
            · (repeat (first | with_reducible exact O3.out | (with_reducible refine Own.st ?_ (hst _ _) _)))
            · rw [HBX.out]; (repeat (first | with_reducible exact HBr.out | (with_reducible refine Below.setCell ?_ (by simp) _)))
    · have hs' : decide (sp = 2) = false := by simp [hs]
      have h2 : bits .andNot .u8 (bits .xor .u8 x y0) 15 = 0 := by have h := H2.out; unfold bitsV at h; rw [if_neg hs] at h; exact h
      have h3 : bits .and .u8 x 12 = 0 := by have h := H3.out; rw [if_neg hs] at h; exact h
      go_wp2_with (go_at_call 28; refine (bits_any _ _).mono ?_; rintro e w99 ⟨rfl, rfl⟩; unfold bitsV)
      have HB2 : Hid (Below bx w W) := Lib.hid HBs.out
      have H82 : Hid (Blk W g8 30 #[.int .u8 sp, .slice O1A O1n O1c, .slice O2A O2n O2c, .slice O3A O3n O3c, .bool false, .int .u64 0, .int .i64 (pb : Nat)]) := Lib.hid H8s.out
      have G2 : Hid (W.grownBy W (some g8)) := Lib.hid (World.grownBy.refl _ _)
      clear e0 e1 e2 e3 e4 e5 e6 q0 q1 q2 q3 q4 q5 q6
      go_loopw [73] (fun iv wr => ∃ j : Nat, j ≤ pb ∧ iv = .int .i64 (j : Nat) ∧ Hid (Blk wr g8 30 #[.int .u8 sp, .slice O1A O1n O1c, .slice O2A O2n O2c, .slice O3A O3n O3c, .bool false, .int .u64 (ofF 0 (Ln.take j)), .int .i64 (pb : Nat)]) ∧ Hid (W.grownBy wr (some g8))) (fun iv _ => pb - (intOf iv).toNat)
      case atStart => exact ⟨0, by omega, rfl, H82, G2⟩
      case round =>
        obtain ⟨j, hj, rfl, HK, HG⟩ := hrel
        obtain ⟨e0, e1, e2, e3, e4, e5, e6⟩ := hv_facts HK.out
        obtain ⟨q0, q1, q2, q3, q4, q5, q6⟩ := hv_frozen HK.out
        have HBr := Lib.hid (HBs.out.trans (below_of_only HG.out (by omega) (by omega)))
        have hrg := ofF_range 0 (Ln.take j) (HNB.out.take j) (by omega)
        rw [List.length_take, show min j Ln.length = j by omega] at hrg
        by_cases hjl : j < pb
        · have hp6 := pow_le_256 (j := j) (by omega)
          have hrd := R9.out.below HBr.out (Nat.le_refl _)
          obtain ⟨ad9, hA9, _, hc9'⟩ := hrd j (by rw [L9.out]; exact hjl)
          have hgt : (Ln.take pb).getD j 0 = Ln.getD j 0 := getD_take hjl
          rw [hgt] at hc9'
          have hyb := HNB.out.getD j
          have HN : Hid (ofF 0 (Ln.take (j + 1)) = ofF 0 (Ln.take j) * 256 + Ln.getD j 0) := Lib.hid (by rw [ofF_take (by omega)]; omega)
          generalize ofF 0 (Ln.take j) = z at *
          generalize Ln.getD j 0 = y at *
          have hor := or64 (z := z) (y := y) hrg.1 (by omega) hyb.1 hyb.2
          obtain ⟨hy0, hy1⟩ := hyb
          obtain ⟨hz00, hz01⟩ := hrg
          subst hA9
          clear hrd hgt
          go_wp2_with fail
          go_roundw
          case rel => exact ⟨j + 1, by omega, by go_num, Lib.hid (Blk.cast (Blk.set_ HK.out 5 _) (by rw [HN.out]; simp)), Lib.hid (only_setCell HG.out (.inl rfl) _)⟩
          case measure => simp [intOf]; omega
        · obtain rfl : j = pb := by omega
          have HRr := Lib.hid (Blk.grown HRs.out HG.out (by simp; omega))
          obtain ⟨x0, x1, x2, x3, x4, x5, x6⟩ := hv_facts HRr.out
          obtain ⟨v0, v1, v2, v3, v4, v5, v6⟩ := hv_frozen HRr.out
          replace O1 := Lib.hid (O1.out.kept HG.out (fun ad hA e => DO1.out ad hA (by injection e)))
          replace O2 := Lib.hid (O2.out.kept HG.out (fun ad hA e => DO2.out ad hA (by injection e)))
          replace O3 := Lib.hid (O3.out.kept HG.out (fun ad hA e => DO3.out ad hA (by injection e)))
          go_wp2_with fail
          have hst : ∀ i v, ((⟨bx + 1, i, v⟩ : Addr)).block < bx + 2 := fun _ _ => by simp
          refine bodyPost_ret (results_hd (g := bx + 1) (c0 := .int .u8 sp) (c1 := .slice O1A O1n O1c) (c2 := .slice O2A O2n O2c) (c3 := .slice O3A O3n O3c) (c4 := .bool false) (c5 := .int .u64 (ofF 0 (Ln.take j))) (c6 := .int .i64 (j : Nat)) rfl rfl ?_) rfl ⟨_, rfl, ⟨_, _, _, ?_, SlF.own (?_ : Own (bx + 2) 5 .u8 _ O1A O1n O1c Ld) (by have := HBX.out; omega), SlF.own (?_ : Own (bx + 2) 5 .u8 _ O2A O2n O2c Ls) (by have := HBX.out; omega), SlF.own (?_ : Own (bx + 2) 5 .u8 _ O3A O3n O3c Lt) (by have := HBX.out; omega)⟩, ?_⟩
          · apply Blk.cast
            · (repeat (first | with_reducible exact HRr.out | with_reducible apply Blk.set_))
            · simp
          · rw [HBH.out]; rw [decide_eq_false hs]; rfl
          · (repeat (first | with_reducible exact O1.out | (with_reducible refine Own.st ?_ (hst _ _) _)))
          · (repeat (first | with_reducible exact O2.out | (with_reducible refine Own.st ?_ (hst _ _) _)))
          · (repeat (first | with_reducible exact O3.out | (with_reducible refine Own.st ?_ (hst _ _) _)))
          · rw [HBX.out]; (repeat (first | with_reducible exact HBr.out | (with_reducible refine Below.setCell ?_ (by simp) _)))
  refine wp_region_sig (PkB bx #[.int .u8 sp, .slice Ad Ld.length cd, .slice As Ls.length cs, .slice At Lt.length ct, .int .i64 at_, .slice (some ab) nb cb]) (.two [0, 1, 2, 3, 5, 6, 8, 9, 11, 12, 13, 14] 4 (.two [] 7 (.two [] 10 (.one [15] 16 (.one [] 17 (.fin []))) 16 (.one [] 10 (.one [15] 17 (.fin [])))) 16 (.one [] 7 (.one [] 10 (.one [15] 17 (.fin []))))) 16 (.one [] 4 (.one [] 7 (.one [] 10 (.one [15] 17 (.fin [])))))) (by kernel_rfl) (by kernel_rfl) (by kernel_rfl) (by kernel_rfl) hS ?_
  refine mixT_two ?_
  simp only [pickL, List.filterMap_cons, List.filterMap_nil, List.getElem?_cons_succ, List.getElem?_cons_zero]
  repeat (show wpQuiet _ _ _ _ (_ :: _) _; go_big_quiet_step (fail))
  refine wpQuiet_nil ?_
  generalize w0.drew = w1 at *
  clear hc0 hc1 hc2 hc3 hS hz0 HB0 HP0 HR0
  refine ⟨?_, ?_⟩
  · skip
    show wpList _ _ _ [_] _ _
    go_wp2_with (at_builtin; refine wpList_app (o := ⟨some 17, _, _, _, _, _⟩) (B := bx + 2) elUh rfl _ _ rfl rfl rfl (Own.nil _ _ _ _) (RD.out.below HB1.out (Nat.le_refl _)) rfl ?_ ?_ ?_; (simp <;> omega); exact hz1; intro O1A O1n O1c w2 h2; have b2 := below_of_none h2.2.1; have O1 := Lib.hid (Own.cast h2.1 (List.nil_append _)); clear h2)
    have HB2 := Lib.hid (HB1.out.trans (b2.mono (by omega)))
    have HP2 := Lib.hid (Blk.below HP1.out b2 (Blk.lt HP1.out))
    have HR2 := Lib.hid (Blk.below HR1.out b2 (Blk.lt HR1.out))
    have hz2 : bx + 1 < w2.heap.size := Blk.lt HR2.out
    refine MixQ.class HP2.out ?_
    refine mixT_two ?_
    simp only [pickL, List.filterMap_cons, List.filterMap_nil, List.getElem?_cons_succ, List.getElem?_cons_zero]
    refine wpQuiet_nil ?_
    refine ⟨?_, ?_⟩
    · skip
      show wpList _ _ _ [_] _ _
      go_wp2_with (at_builtin; refine wpList_app (o := ⟨some 20, _, _, _, _, _⟩) (B := bx + 2) elUh rfl _ _ rfl rfl rfl (Own.nil _ _ _ _) (RS.out.below HB2.out (Nat.le_refl _)) rfl ?_ ?_ ?_; (simp <;> omega); exact hz2; intro O2A O2n O2c w3 h3; have b3 := below_of_none h3.2.1; have O2 := Lib.hid (Own.cast h3.1 (List.nil_append _)); clear h3)
      have HB3 := Lib.hid (HB2.out.trans (b3.mono (by omega)))
      have HP3 := Lib.hid (Blk.below HP2.out b3 (Blk.lt HP2.out))
      have HR3 := Lib.hid (Blk.below HR2.out b3 (Blk.lt HR2.out))
      have hz3 : bx + 1 < w3.heap.size := Blk.lt HR3.out
      replace O1 := Lib.hid (O1.out.below b3)
      refine MixQ.class HP3.out ?_
      refine mixT_two ?_
      simp only [pickL, List.filterMap_cons, List.filterMap_nil, List.getElem?_cons_succ, List.getElem?_cons_zero]
      refine wpQuiet_nil ?_
      refine ⟨?_, ?_⟩
      · skip
        show wpList _ _ _ [_] _ _
        go_wp2_with (at_builtin; refine wpList_app (o := ⟨some 23, _, _, _, _, _⟩) (B := bx + 2) elUh rfl _ _ rfl rfl rfl (Own.nil _ _ _ _) (RT.out.below HB3.out (Nat.le_refl _)) rfl ?_ ?_ ?_; (simp <;> omega); exact hz3; intro O3A O3n O3c w4 h4; have b4 := below_of_none h4.2.1; have O3 := Lib.hid (Own.cast h4.1 (List.nil_append _)); clear h4)
        have HB4 := Lib.hid (HB3.out.trans (b4.mono (by omega)))
        have HP4 := Lib.hid (Blk.below HP3.out b4 (Blk.lt HP3.out))
        have HR4 := Lib.hid (Blk.below HR3.out b4 (Blk.lt HR3.out))
        have hz4 : bx + 1 < w4.heap.size := Blk.lt HR4.out
        replace O1 := Lib.hid (O1.out.below b4)
        replace O2 := Lib.hid (O2.out.below b4)
        refine MixQ.class HP4.out ?_
        refine mixT_one ?_
        simp only [pickL, List.filterMap_cons, List.filterMap_nil, List.getElem?_cons_succ, List.getElem?_cons_zero]
        repeat (show wpQuiet _ _ _ _ (_ :: _) _; go_big_quiet_step (fail))
        refine wpQuiet_nil ?_
        show wpList _ _ _ [_] _ _
        go_wp2_with fail
        have HB5 : Hid (Below bx w (w4.alloc (.cells #[.int .u8 0, .slice none 0 0, .slice none 0 0, .slice none 0 0, .bool false, .int .u64 0, .int .i64 0] 30))) := Lib.hid (HB4.out.alloc (by omega) _)
        have HP5 : Hid (Blk (w4.alloc (.cells #[.int .u8 0, .slice none 0 0, .slice none 0 0, .slice none 0 0, .bool false, .int .u64 0, .int .i64 0] 30)) bx 38 #[.int .u8 sp, .slice Ad Ld.length cd, .slice As Ls.length cs, .slice At Lt.length ct, .int .i64 at_, .slice (some ab) nb cb]) := Lib.hid (Blk.alloc HP4.out _)
        have HR5 : Hid (Blk (w4.alloc (.cells #[.int .u8 0, .slice none 0 0, .slice none 0 0, .slice none 0 0, .bool false, .int .u64 0, .int .i64 0] 30)) (bx + 1) 30 #[.int .u8 0, .slice none 0 0, .slice none 0 0, .slice none 0 0, .bool false, .int .u64 0, .int .i64 0]) := Lib.hid (Blk.alloc HR4.out _)
        have hz5 : bx + 1 < (w4.alloc (.cells #[.int .u8 0, .slice none 0 0, .slice none 0 0, .slice none 0 0, .bool false, .int .u64 0, .int .i64 0] 30)).heap.size := Blk.lt HR5.out
        have H8 : Hid (Blk (w4.alloc (.cells #[.int .u8 0, .slice none 0 0, .slice none 0 0, .slice none 0 0, .bool false, .int .u64 0, .int .i64 0] 30)) w4.heap.size 30 #[.int .u8 0, .slice none 0 0, .slice none 0 0, .slice none 0 0, .bool false, .int .u64 0, .int .i64 0]) := Lib.hid (Blk.new _ _ _)
        have DO1_ : Hid (∀ ad, O1A = some ad → ad.block < w4.heap.size) := Lib.hid (fun ad hA => (O1.out.block ad hA).2)
        replace O1 := Lib.hid (O1.out.alloc (.cells #[.int .u8 0, .slice none 0 0, .slice none 0 0, .slice none 0 0, .bool false, .int .u64 0, .int .i64 0] 30))
        have DO2_ : Hid (∀ ad, O2A = some ad → ad.block < w4.heap.size) := Lib.hid (fun ad hA => (O2.out.block ad hA).2)
        replace O2 := Lib.hid (O2.out.alloc (.cells #[.int .u8 0, .slice none 0 0, .slice none 0 0, .slice none 0 0, .bool false, .int .u64 0, .int .i64 0] 30))
        have DO3_ : Hid (∀ ad, O3A = some ad → ad.block < w4.heap.size) := Lib.hid (fun ad hA => (O3.out.block ad hA).2)
        replace O3 := Lib.hid (O3.out.alloc (.cells #[.int .u8 0, .slice none 0 0, .slice none 0 0, .slice none 0 0, .bool false, .int .u64 0, .int .i64 0] 30))
        have hg8 : bx + 1 < w4.heap.size := hz4
        have DO1 : Hid (∀ ad, O1A = some ad → ad.block ≠ w4.heap.size) := Lib.hid (fun ad hA => Nat.ne_of_lt (DO1_.out ad hA))
        have DO2 : Hid (∀ ad, O2A = some ad → ad.block ≠ w4.heap.size) := Lib.hid (fun ad hA => Nat.ne_of_lt (DO2_.out ad hA))
        have DO3 : Hid (∀ ad, O3A = some ad → ad.block ≠ w4.heap.size) := Lib.hid (fun ad hA => Nat.ne_of_lt (DO3_.out ad hA))
        generalize (w4.alloc (.cells #[.int .u8 0, .slice none 0 0, .slice none 0 0, .slice none 0 0, .bool false, .int .u64 0, .int .i64 0] 30)) = w5 at *
        generalize w4.heap.size = g8 at *
        refine MixQ.class HP5.out ?_
        have h8z : g8 < w5.heap.size := Blk.lt H8.out
        obtain ⟨e0, e1, e2, e3, e4, e5, e6⟩ := hv_facts H8.out
        obtain ⟨q0, q1, q2, q3, q4, q5, q6⟩ := hv_frozen H8.out
        refine mixT_one ?_
        simp only [pickL, List.filterMap_cons, List.filterMap_nil, List.getElem?_cons_succ, List.getElem?_cons_zero]
        refine wpQuiet_nil ?_
        show wpList _ _ _ [_] _ _
        go_wp2_with fail
        have hgne : bx ≠ g8 := by omega
        have hgne1 : bx + 1 ≠ g8 := by omega
        have HBi := HB5
        have HPi := HP5
        have HRi := HR5
        have hzi := hz5
        obtain ⟨wi, hwi⟩ : ∃ y : World, y = w5 := ⟨_, rfl⟩
        subst hwi
        refine abs_world (M := fun W => MixQ _ _ _ .normal _ W) (fun W' => PkB bx #[.int .u8 sp, .slice Ad Ld.length cd, .slice As Ls.length cs, .slice At Lt.length ct, .int .i64 at_, .slice (some ab) nb cb] W' ∧ Blk W' g8 30 #[.int .u8 sp, .slice O1A O1n O1c, .slice O2A O2n O2c, .slice O3A O3n O3c, .bool false, .int .u64 0, .int .i64 (pb : Nat)] ∧ Blk W' (bx + 1) 30 #[.int .u8 0, .slice none 0 0, .slice none 0 0, .slice none 0 0, .bool false, .int .u64 0, .int .i64 0] ∧ wi.grownBy W' (some g8)) ⟨?_, ?_, ?_, ?_⟩ ?_
        · show Blk _ _ _ _; (repeat (first | with_reducible exact HPi.out | (with_reducible refine Blk.far ?_ hgne _)))
        · apply Blk.cast
          · (repeat (first | with_reducible exact H8.out | with_reducible apply Blk.set_))
          · simp
        · (repeat (first | with_reducible exact HRi.out | (with_reducible refine Blk.far ?_ hgne1 _)))
        · (repeat (first | with_reducible exact World.grownBy.refl _ _ | (with_reducible refine only_setCell ?_ (.inl rfl) _)))
        rintro W ⟨fp, f8, fr, fg⟩
        have HBs := Lib.hid (HBi.out.trans (below_of_only fg (by omega) (by omega)))
        refine MixQ.class fp ?_
        refine mixT_fin ?_
        simp only [pickL, List.filterMap_nil]
        refine wpQuiet_nil ?_
        refine NoPanic.normal ?_
        have HRR := REST W g8 O1A O1n O1c O2A O2n O2c O3A O3n O3c (by omega) HBs.out fp f8 fr (O1.out.kept fg (fun ad hA e => DO1.out ad hA (by injection e))) (O2.out.kept fg (fun ad hA e => DO2.out ad hA (by injection e))) (O3.out.kept fg (fun ad hA e => DO3.out ad hA (by injection e))) DO1.out DO2.out DO3.out
        first | exact HRR | (rw [hQQ] at HRR; exact HRR) | (subst hQQ; exact HRR)
      · skip
        show wpList _ _ _ [_] _ _
        go_wp2_with fail
        have HB4 : Hid (Below bx w (w3.alloc (.cells #[.int .u8 0, .slice none 0 0, .slice none 0 0, .slice none 0 0, .bool false, .int .u64 0, .int .i64 0] 30))) := Lib.hid (HB3.out.alloc (by omega) _)
        have HP4 : Hid (Blk (w3.alloc (.cells #[.int .u8 0, .slice none 0 0, .slice none 0 0, .slice none 0 0, .bool false, .int .u64 0, .int .i64 0] 30)) bx 38 #[.int .u8 sp, .slice Ad Ld.length cd, .slice As Ls.length cs, .slice At Lt.length ct, .int .i64 at_, .slice (some ab) nb cb]) := Lib.hid (Blk.alloc HP3.out _)
        have HR4 : Hid (Blk (w3.alloc (.cells #[.int .u8 0, .slice none 0 0, .slice none 0 0, .slice none 0 0, .bool false, .int .u64 0, .int .i64 0] 30)) (bx + 1) 30 #[.int .u8 0, .slice none 0 0, .slice none 0 0, .slice none 0 0, .bool false, .int .u64 0, .int .i64 0]) := Lib.hid (Blk.alloc HR3.out _)
        have hz4 : bx + 1 < (w3.alloc (.cells #[.int .u8 0, .slice none 0 0, .slice none 0 0, .slice none 0 0, .bool false, .int .u64 0, .int .i64 0] 30)).heap.size := Blk.lt HR4.out
        have H8 : Hid (Blk (w3.alloc (.cells #[.int .u8 0, .slice none 0 0, .slice none 0 0, .slice none 0 0, .bool false, .int .u64 0, .int .i64 0] 30)) w3.heap.size 30 #[.int .u8 0, .slice none 0 0, .slice none 0 0, .slice none 0 0, .bool false, .int .u64 0, .int .i64 0]) := Lib.hid (Blk.new _ _ _)
        have DO1_ : Hid (∀ ad, O1A = some ad → ad.block < w3.heap.size) := Lib.hid (fun ad hA => (O1.out.block ad hA).2)
        replace O1 := Lib.hid (O1.out.alloc (.cells #[.int .u8 0, .slice none 0 0, .slice none 0 0, .slice none 0 0, .bool false, .int .u64 0, .int .i64 0] 30))
        have DO2_ : Hid (∀ ad, O2A = some ad → ad.block < w3.heap.size) := Lib.hid (fun ad hA => (O2.out.block ad hA).2)
        replace O2 := Lib.hid (O2.out.alloc (.cells #[.int .u8 0, .slice none 0 0, .slice none 0 0, .slice none 0 0, .bool false, .int .u64 0, .int .i64 0] 30))
        have hg8 : bx + 1 < w3.heap.size := hz3
        have DO1 : Hid (∀ ad, O1A = some ad → ad.block ≠ w3.heap.size) := Lib.hid (fun ad hA => Nat.ne_of_lt (DO1_.out ad hA))
        have DO2 : Hid (∀ ad, O2A = some ad → ad.block ≠ w3.heap.size) := Lib.hid (fun ad hA => Nat.ne_of_lt (DO2_.out ad hA))
        generalize (w3.alloc (.cells #[.int .u8 0, .slice none 0 0, .slice none 0 0, .slice none 0 0, .bool false, .int .u64 0, .int .i64 0] 30)) = w4 at *
        generalize w3.heap.size = g8 at *
        refine MixQ.class HP4.out ?_
        refine mixT_one ?_
        simp only [pickL, List.filterMap_cons, List.filterMap_nil, List.getElem?_cons_succ, List.getElem?_cons_zero]
        refine wpQuiet_nil ?_
        show wpList _ _ _ [_] _ _
        go_wp2_with (at_builtin; refine wpList_app (o := ⟨some 23, _, _, _, _, _⟩) (B := bx + 2) elUh rfl _ _ rfl rfl rfl (Own.nil _ _ _ _) (RT.out.below HB4.out (Nat.le_refl _)) rfl ?_ ?_ ?_; (simp <;> omega); exact hz4; intro O3A O3n O3c w5 h5; have b5 := below_of_none h5.2.1; have O3 := Lib.hid (Own.cast h5.1 (List.nil_append _)); have hlt8 := Blk.lt H8.out; have DO3 : Hid (∀ ad, O3A = some ad → ad.block ≠ g8) := Lib.hid (apd_ne h5 hlt8); clear hlt8; clear h5)
        have HB5 := Lib.hid (HB4.out.trans (b5.mono (by omega)))
        have HP5 := Lib.hid (Blk.below HP4.out b5 (Blk.lt HP4.out))
        have HR5 := Lib.hid (Blk.below HR4.out b5 (Blk.lt HR4.out))
        have hz5 : bx + 1 < w5.heap.size := Blk.lt HR5.out
        replace O1 := Lib.hid (O1.out.below b5)
        replace O2 := Lib.hid (O2.out.below b5)
        replace H8 := Lib.hid (Blk.below H8.out b5 (Blk.lt H8.out))
        refine MixQ.class HP5.out ?_
        have h8z : g8 < w5.heap.size := Blk.lt H8.out
        obtain ⟨e0, e1, e2, e3, e4, e5, e6⟩ := hv_facts H8.out
        obtain ⟨q0, q1, q2, q3, q4, q5, q6⟩ := hv_frozen H8.out
        refine mixT_one ?_
        simp only [pickL, List.filterMap_cons, List.filterMap_nil, List.getElem?_cons_succ, List.getElem?_cons_zero]
        repeat (show wpQuiet _ _ _ _ (_ :: _) _; go_big_quiet_step (fail))
        refine wpQuiet_nil ?_
        show wpList _ _ _ [_] _ _
        go_wp2_with fail
        have hgne : bx ≠ g8 := by omega
        have hgne1 : bx + 1 ≠ g8 := by omega
        have HBi := HB5
        have HPi := HP5
        have HRi := HR5
        have hzi := hz5
        obtain ⟨wi, hwi⟩ : ∃ y : World, y = w5 := ⟨_, rfl⟩
        subst hwi
        refine abs_world (M := fun W => MixQ _ _ _ .normal _ W) (fun W' => PkB bx #[.int .u8 sp, .slice Ad Ld.length cd, .slice As Ls.length cs, .slice At Lt.length ct, .int .i64 at_, .slice (some ab) nb cb] W' ∧ Blk W' g8 30 #[.int .u8 sp, .slice O1A O1n O1c, .slice O2A O2n O2c, .slice O3A O3n O3c, .bool false, .int .u64 0, .int .i64 (pb : Nat)] ∧ Blk W' (bx + 1) 30 #[.int .u8 0, .slice none 0 0, .slice none 0 0, .slice none 0 0, .bool false, .int .u64 0, .int .i64 0] ∧ wi.grownBy W' (some g8)) ⟨?_, ?_, ?_, ?_⟩ ?_
        · show Blk _ _ _ _; (repeat (first | with_reducible exact HPi.out | (with_reducible refine Blk.far ?_ hgne _)))
        · apply Blk.cast
          · (repeat (first | with_reducible exact H8.out | with_reducible apply Blk.set_))
          · simp
        · (repeat (first | with_reducible exact HRi.out | (with_reducible refine Blk.far ?_ hgne1 _)))
        · (repeat (first | with_reducible exact World.grownBy.refl _ _ | (with_reducible refine only_setCell ?_ (.inl rfl) _)))
        rintro W ⟨fp, f8, fr, fg⟩
        have HBs := Lib.hid (HBi.out.trans (below_of_only fg (by omega) (by omega)))
        refine MixQ.class fp ?_
        refine mixT_fin ?_
        simp only [pickL, List.filterMap_nil]
        refine wpQuiet_nil ?_
        refine NoPanic.normal ?_
        have HRR := REST W g8 O1A O1n O1c O2A O2n O2c O3A O3n O3c (by omega) HBs.out fp f8 fr (O1.out.kept fg (fun ad hA e => DO1.out ad hA (by injection e))) (O2.out.kept fg (fun ad hA e => DO2.out ad hA (by injection e))) (O3.out.kept fg (fun ad hA e => DO3.out ad hA (by injection e))) DO1.out DO2.out DO3.out
        first | exact HRR | (rw [hQQ] at HRR; exact HRR) | (subst hQQ; exact HRR)
    · skip
      show wpList _ _ _ [_] _ _
      go_wp2_with fail
      have HB3 : Hid (Below bx w (w2.alloc (.cells #[.int .u8 0, .slice none 0 0, .slice none 0 0, .slice none 0 0, .bool false, .int .u64 0, .int .i64 0] 30))) := Lib.hid (HB2.out.alloc (by omega) _)
      have HP3 : Hid (Blk (w2.alloc (.cells #[.int .u8 0, .slice none 0 0, .slice none 0 0, .slice none 0 0, .bool false, .int .u64 0, .int .i64 0] 30)) bx 38 #[.int .u8 sp, .slice Ad Ld.length cd, .slice As Ls.length cs, .slice At Lt.length ct, .int .i64 at_, .slice (some ab) nb cb]) := Lib.hid (Blk.alloc HP2.out _)
      have HR3 : Hid (Blk (w2.alloc (.cells #[.int .u8 0, .slice none 0 0, .slice none 0 0, .slice none 0 0, .bool false, .int .u64 0, .int .i64 0] 30)) (bx + 1) 30 #[.int .u8 0, .slice none 0 0, .slice none 0 0, .slice none 0 0, .bool false, .int .u64 0, .int .i64 0]) := Lib.hid (Blk.alloc HR2.out _)
      have hz3 : bx + 1 < (w2.alloc (.cells #[.int .u8 0, .slice none 0 0, .slice none 0 0, .slice none 0 0, .bool false, .int .u64 0, .int .i64 0] 30)).heap.size := Blk.lt HR3.out
      have H8 : Hid (Blk (w2.alloc (.cells #[.int .u8 0, .slice none 0 0, .slice none 0 0, .slice none 0 0, .bool false, .int .u64 0, .int .i64 0] 30)) w2.heap.size 30 #[.int .u8 0, .slice none 0 0, .slice none 0 0, .slice none 0 0, .bool false, .int .u64 0, .int .i64 0]) := Lib.hid (Blk.new _ _ _)
      have DO1_ : Hid (∀ ad, O1A = some ad → ad.block < w2.heap.size) := Lib.hid (fun ad hA => (O1.out.block ad hA).2)
      replace O1 := Lib.hid (O1.out.alloc (.cells #[.int .u8 0, .slice none 0 0, .slice none 0 0, .slice none 0 0, .bool false, .int .u64 0, .int .i64 0] 30))
      have hg8 : bx + 1 < w2.heap.size := hz2
      have DO1 : Hid (∀ ad, O1A = some ad → ad.block ≠ w2.heap.size) := Lib.hid (fun ad hA => Nat.ne_of_lt (DO1_.out ad hA))
      generalize (w2.alloc (.cells #[.int .u8 0, .slice none 0 0, .slice none 0 0, .slice none 0 0, .bool false, .int .u64 0, .int .i64 0] 30)) = w3 at *
      generalize w2.heap.size = g8 at *
      refine MixQ.class HP3.out ?_
      refine mixT_one ?_
      simp only [pickL, List.filterMap_cons, List.filterMap_nil, List.getElem?_cons_succ, List.getElem?_cons_zero]
      refine wpQuiet_nil ?_
      show wpList _ _ _ [_] _ _
      go_wp2_with (at_builtin; refine wpList_app (o := ⟨some 20, _, _, _, _, _⟩) (B := bx + 2) elUh rfl _ _ rfl rfl rfl (Own.nil _ _ _ _) (RS.out.below HB3.out (Nat.le_refl _)) rfl ?_ ?_ ?_; (simp <;> omega); exact hz3; intro O2A O2n O2c w4 h4; have b4 := below_of_none h4.2.1; have O2 := Lib.hid (Own.cast h4.1 (List.nil_append _)); have hlt8 := Blk.lt H8.out; have DO2 : Hid (∀ ad, O2A = some ad → ad.block ≠ g8) := Lib.hid (apd_ne h4 hlt8); clear hlt8; clear h4)
      have HB4 := Lib.hid (HB3.out.trans (b4.mono (by omega)))
      have HP4 := Lib.hid (Blk.below HP3.out b4 (Blk.lt HP3.out))
      have HR4 := Lib.hid (Blk.below HR3.out b4 (Blk.lt HR3.out))
      have hz4 : bx + 1 < w4.heap.size := Blk.lt HR4.out
      replace O1 := Lib.hid (O1.out.below b4)
      replace H8 := Lib.hid (Blk.below H8.out b4 (Blk.lt H8.out))
      refine MixQ.class HP4.out ?_
      refine mixT_one ?_
      simp only [pickL, List.filterMap_cons, List.filterMap_nil, List.getElem?_cons_succ, List.getElem?_cons_zero]
      refine wpQuiet_nil ?_
      show wpList _ _ _ [_] _ _
      go_wp2_with (at_builtin; refine wpList_app (o := ⟨some 23, _, _, _, _, _⟩) (B := bx + 2) elUh rfl _ _ rfl rfl rfl (Own.nil _ _ _ _) (RT.out.below HB4.out (Nat.le_refl _)) rfl ?_ ?_ ?_; (simp <;> omega); exact hz4; intro O3A O3n O3c w5 h5; have b5 := below_of_none h5.2.1; have O3 := Lib.hid (Own.cast h5.1 (List.nil_append _)); have hlt8 := Blk.lt H8.out; have DO3 : Hid (∀ ad, O3A = some ad → ad.block ≠ g8) := Lib.hid (apd_ne h5 hlt8); clear hlt8; clear h5)
      have HB5 := Lib.hid (HB4.out.trans (b5.mono (by omega)))
      have HP5 := Lib.hid (Blk.below HP4.out b5 (Blk.lt HP4.out))
      have HR5 := Lib.hid (Blk.below HR4.out b5 (Blk.lt HR4.out))
      have hz5 : bx + 1 < w5.heap.size := Blk.lt HR5.out
      replace O1 := Lib.hid (O1.out.below b5)
      replace O2 := Lib.hid (O2.out.below b5)
      replace H8 := Lib.hid (Blk.below H8.out b5 (Blk.lt H8.out))
      refine MixQ.class HP5.out ?_
      have h8z : g8 < w5.heap.size := Blk.lt H8.out
      obtain ⟨e0, e1, e2, e3, e4, e5, e6⟩ := hv_facts H8.out
      obtain ⟨q0, q1, q2, q3, q4, q5, q6⟩ := hv_frozen H8.out
      refine mixT_one ?_
      simp only [pickL, List.filterMap_cons, List.filterMap_nil, List.getElem?_cons_succ, List.getElem?_cons_zero]
      repeat (show wpQuiet _ _ _ _ (_ :: _) _; go_big_quiet_step (fail))
      refine wpQuiet_nil ?_
      show wpList _ _ _ [_] _ _
      go_wp2_with fail
      have hgne : bx ≠ g8 := by omega
      have hgne1 : bx + 1 ≠ g8 := by omega
      have HBi := HB5
      have HPi := HP5
      have HRi := HR5
      have hzi := hz5
      obtain ⟨wi, hwi⟩ : ∃ y : World, y = w5 := ⟨_, rfl⟩
      subst hwi
      refine abs_world (M := fun W => MixQ _ _ _ .normal _ W) (fun W' => PkB bx #[.int .u8 sp, .slice Ad Ld.length cd, .slice As Ls.length cs, .slice At Lt.length ct, .int .i64 at_, .slice (some ab) nb cb] W' ∧ Blk W' g8 30 #[.int .u8 sp, .slice O1A O1n O1c, .slice O2A O2n O2c, .slice O3A O3n O3c, .bool false, .int .u64 0, .int .i64 (pb : Nat)] ∧ Blk W' (bx + 1) 30 #[.int .u8 0, .slice none 0 0, .slice none 0 0, .slice none 0 0, .bool false, .int .u64 0, .int .i64 0] ∧ wi.grownBy W' (some g8)) ⟨?_, ?_, ?_, ?_⟩ ?_
      · show Blk _ _ _ _; (repeat (first | with_reducible exact HPi.out | (with_reducible refine Blk.far ?_ hgne _)))
      · apply Blk.cast
        · (repeat (first | with_reducible exact H8.out | with_reducible apply Blk.set_))
        · simp
      · (repeat (first | with_reducible exact HRi.out | (with_reducible refine Blk.far ?_ hgne1 _)))
      · (repeat (first | with_reducible exact World.grownBy.refl _ _ | (with_reducible refine only_setCell ?_ (.inl rfl) _)))
      rintro W ⟨fp, f8, fr, fg⟩
      have HBs := Lib.hid (HBi.out.trans (below_of_only fg (by omega) (by omega)))
      refine MixQ.class fp ?_
      refine mixT_fin ?_
      simp only [pickL, List.filterMap_nil]
      refine wpQuiet_nil ?_
      refine NoPanic.normal ?_
      have HRR := REST W g8 O1A O1n O1c O2A O2n O2c O3A O3n O3c (by omega) HBs.out fp f8 fr (O1.out.kept fg (fun ad hA e => DO1.out ad hA (by injection e))) (O2.out.kept fg (fun ad hA e => DO2.out ad hA (by injection e))) (O3.out.kept fg (fun ad hA e => DO3.out ad hA (by injection e))) DO1.out DO2.out DO3.out
      first | exact HRR | (rw [hQQ] at HRR; exact HRR) | (subst hQQ; exact HRR)
  · skip
    show wpList _ _ _ [_] _ _
    go_wp2_with fail
    have HB2 : Hid (Below bx w (w1.alloc (.cells #[.int .u8 0, .slice none 0 0, .slice none 0 0, .slice none 0 0, .bool false, .int .u64 0, .int .i64 0] 30))) := Lib.hid (HB1.out.alloc (by omega) _)
    have HP2 : Hid (Blk (w1.alloc (.cells #[.int .u8 0, .slice none 0 0, .slice none 0 0, .slice none 0 0, .bool false, .int .u64 0, .int .i64 0] 30)) bx 38 #[.int .u8 sp, .slice Ad Ld.length cd, .slice As Ls.length cs, .slice At Lt.length ct, .int .i64 at_, .slice (some ab) nb cb]) := Lib.hid (Blk.alloc HP1.out _)
    have HR2 : Hid (Blk (w1.alloc (.cells #[.int .u8 0, .slice none 0 0, .slice none 0 0, .slice none 0 0, .bool false, .int .u64 0, .int .i64 0] 30)) (bx + 1) 30 #[.int .u8 0, .slice none 0 0, .slice none 0 0, .slice none 0 0, .bool false, .int .u64 0, .int .i64 0]) := Lib.hid (Blk.alloc HR1.out _)
    have hz2 : bx + 1 < (w1.alloc (.cells #[.int .u8 0, .slice none 0 0, .slice none 0 0, .slice none 0 0, .bool false, .int .u64 0, .int .i64 0] 30)).heap.size := Blk.lt HR2.out
    have H8 : Hid (Blk (w1.alloc (.cells #[.int .u8 0, .slice none 0 0, .slice none 0 0, .slice none 0 0, .bool false, .int .u64 0, .int .i64 0] 30)) w1.heap.size 30 #[.int .u8 0, .slice none 0 0, .slice none 0 0, .slice none 0 0, .bool false, .int .u64 0, .int .i64 0]) := Lib.hid (Blk.new _ _ _)
    have hg8 : bx + 1 < w1.heap.size := hz1
    generalize (w1.alloc (.cells #[.int .u8 0, .slice none 0 0, .slice none 0 0, .slice none 0 0, .bool false, .int .u64 0, .int .i64 0] 30)) = w2 at *
    generalize w1.heap.size = g8 at *
    refine MixQ.class HP2.out ?_
    refine mixT_one ?_
    simp only [pickL, List.filterMap_cons, List.filterMap_nil, List.getElem?_cons_succ, List.getElem?_cons_zero]
    refine wpQuiet_nil ?_
    show wpList _ _ _ [_] _ _
    go_wp2_with (at_builtin; refine wpList_app (o := ⟨some 17, _, _, _, _, _⟩) (B := bx + 2) elUh rfl _ _ rfl rfl rfl (Own.nil _ _ _ _) (RD.out.below HB2.out (Nat.le_refl _)) rfl ?_ ?_ ?_; (simp <;> omega); exact hz2; intro O1A O1n O1c w3 h3; have b3 := below_of_none h3.2.1; have O1 := Lib.hid (Own.cast h3.1 (List.nil_append _)); have hlt8 := Blk.lt H8.out; have DO1 : Hid (∀ ad, O1A = some ad → ad.block ≠ g8) := Lib.hid (apd_ne h3 hlt8); clear hlt8; clear h3)
    have HB3 := Lib.hid (HB2.out.trans (b3.mono (by omega)))
    have HP3 := Lib.hid (Blk.below HP2.out b3 (Blk.lt HP2.out))
    have HR3 := Lib.hid (Blk.below HR2.out b3 (Blk.lt HR2.out))
    have hz3 : bx + 1 < w3.heap.size := Blk.lt HR3.out
    replace H8 := Lib.hid (Blk.below H8.out b3 (Blk.lt H8.out))
    refine MixQ.class HP3.out ?_
    refine mixT_one ?_
    simp only [pickL, List.filterMap_cons, List.filterMap_nil, List.getElem?_cons_succ, List.getElem?_cons_zero]
    refine wpQuiet_nil ?_
    show wpList _ _ _ [_] _ _
    go_wp2_with (at_builtin; refine wpList_app (o := ⟨some 20, _, _, _, _, _⟩) (B := bx + 2) elUh rfl _ _ rfl rfl rfl (Own.nil _ _ _ _) (RS.out.below HB3.out (Nat.le_refl _)) rfl ?_ ?_ ?_; (simp <;> omega); exact hz3; intro O2A O2n O2c w4 h4; have b4 := below_of_none h4.2.1; have O2 := Lib.hid (Own.cast h4.1 (List.nil_append _)); have hlt8 := Blk.lt H8.out; have DO2 : Hid (∀ ad, O2A = some ad → ad.block ≠ g8) := Lib.hid (apd_ne h4 hlt8); clear hlt8; clear h4)
    have HB4 := Lib.hid (HB3.out.trans (b4.mono (by omega)))
    have HP4 := Lib.hid (Blk.below HP3.out b4 (Blk.lt HP3.out))
    have HR4 := Lib.hid (Blk.below HR3.out b4 (Blk.lt HR3.out))
    have hz4 : bx + 1 < w4.heap.size := Blk.lt HR4.out
    replace O1 := Lib.hid (O1.out.below b4)
    replace H8 := Lib.hid (Blk.below H8.out b4 (Blk.lt H8.out))
    refine MixQ.class HP4.out ?_
    refine mixT_one ?_
    simp only [pickL, List.filterMap_cons, List.filterMap_nil, List.getElem?_cons_succ, List.getElem?_cons_zero]
    refine wpQuiet_nil ?_
    show wpList _ _ _ [_] _ _
    go_wp2_with (at_builtin; refine wpList_app (o := ⟨some 23, _, _, _, _, _⟩) (B := bx + 2) elUh rfl _ _ rfl rfl rfl (Own.nil _ _ _ _) (RT.out.below HB4.out (Nat.le_refl _)) rfl ?_ ?_ ?_; (simp <;> omega); exact hz4; intro O3A O3n O3c w5 h5; have b5 := below_of_none h5.2.1; have O3 := Lib.hid (Own.cast h5.1 (List.nil_append _)); have hlt8 := Blk.lt H8.out; have DO3 : Hid (∀ ad, O3A = some ad → ad.block ≠ g8) := Lib.hid (apd_ne h5 hlt8); clear hlt8; clear h5)
    have HB5 := Lib.hid (HB4.out.trans (b5.mono (by omega)))
    have HP5 := Lib.hid (Blk.below HP4.out b5 (Blk.lt HP4.out))
    have HR5 := Lib.hid (Blk.below HR4.out b5 (Blk.lt HR4.out))
    have hz5 : bx + 1 < w5.heap.size := Blk.lt HR5.out
    replace O1 := Lib.hid (O1.out.below b5)
    replace O2 := Lib.hid (O2.out.below b5)
    replace H8 := Lib.hid (Blk.below H8.out b5 (Blk.lt H8.out))
    refine MixQ.class HP5.out ?_
    have h8z : g8 < w5.heap.size := Blk.lt H8.out
    obtain ⟨e0, e1, e2, e3, e4, e5, e6⟩ := hv_facts H8.out
    obtain ⟨q0, q1, q2, q3, q4, q5, q6⟩ := hv_frozen H8.out
    refine mixT_one ?_
    simp only [pickL, List.filterMap_cons, List.filterMap_nil, List.getElem?_cons_succ, List.getElem?_cons_zero]
    repeat (show wpQuiet _ _ _ _ (_ :: _) _; go_big_quiet_step (fail))
    refine wpQuiet_nil ?_
    show wpList _ _ _ [_] _ _
    go_wp2_with fail
    have hgne : bx ≠ g8 := by omega
    have hgne1 : bx + 1 ≠ g8 := by omega
    have HBi := HB5
    have HPi := HP5
    have HRi := HR5
    have hzi := hz5
    obtain ⟨wi, hwi⟩ : ∃ y : World, y = w5 := ⟨_, rfl⟩
    subst hwi
    refine abs_world (M := fun W => MixQ _ _ _ .normal _ W) (fun W' => PkB bx #[.int .u8 sp, .slice Ad Ld.length cd, .slice As Ls.length cs, .slice At Lt.length ct, .int .i64 at_, .slice (some ab) nb cb] W' ∧ Blk W' g8 30 #[.int .u8 sp, .slice O1A O1n O1c, .slice O2A O2n O2c, .slice O3A O3n O3c, .bool false, .int .u64 0, .int .i64 (pb : Nat)] ∧ Blk W' (bx + 1) 30 #[.int .u8 0, .slice none 0 0, .slice none 0 0, .slice none 0 0, .bool false, .int .u64 0, .int .i64 0] ∧ wi.grownBy W' (some g8)) ⟨?_, ?_, ?_, ?_⟩ ?_
    · show Blk _ _ _ _; (repeat (first | with_reducible exact HPi.out | (with_reducible refine Blk.far ?_ hgne _)))
    · apply Blk.cast
      · (repeat (first | with_reducible exact H8.out | with_reducible apply Blk.set_))
      · simp
    · (repeat (first | with_reducible exact HRi.out | (with_reducible refine Blk.far ?_ hgne1 _)))
    · (repeat (first | with_reducible exact World.grownBy.refl _ _ | (with_reducible refine only_setCell ?_ (.inl rfl) _)))
    rintro W ⟨fp, f8, fr, fg⟩
    have HBs := Lib.hid (HBi.out.trans (below_of_only fg (by omega) (by omega)))
    refine MixQ.class fp ?_
    refine mixT_fin ?_
    simp only [pickL, List.filterMap_nil]
    refine wpQuiet_nil ?_
    refine NoPanic.normal ?_
    have HRR := REST W g8 O1A O1n O1c O2A O2n O2c O3A O3n O3c (by omega) HBs.out fp f8 fr (O1.out.kept fg (fun ad hA e => DO1.out ad hA (by injection e))) (O2.out.kept fg (fun ad hA e => DO2.out ad hA (by injection e))) (O3.out.kept fg (fun ad hA e => DO3.out ad hA (by injection e))) DO1.out DO2.out DO3.out
    first | exact HRR | (rw [hQQ] at HRR; exact HRR) | (subst hQQ; exact HRR)
theorem bare_yes (sp at_ : Int) (vd vs vt vb vn : Value) (Ld Ls Lt Lb Ln : List Int) (x : Int) (w : World) (sd : Sl w vd Ld) (ss : Sl w vs Ls) (st : Sl w vt Lt) (sb : Sl w vb Lb) (sn : Sl w vn Ln) (hnb : Byt Ln)
    (hx0 : 0 ≤ x) (hx1 : x < 256) (h1 : 0 < Lb.length) (h2 : bits .andNot .u8 (bits .xor .u8 x (Lb.getD 0 0)) (bitsV sp) = 0) (h3 : bits .and .u8 x (if sp = 2 then 24 else 12) = 0) (h4 : x % 4 + 1 ≤ Ln.length)
    (hl : Ld.length ≤ 1000000000000 ∧ Ls.length ≤ 1000000000000 ∧ Lt.length ≤ 1000000000000 ∧ Lb.length ≤ 1000000000000 ∧ Ln.length ≤ 1000000000000) :
    Calls Try.prog 39 #[.agg #[.int .u8 sp, vd, vs, vt, .int .i64 at_, vb], .int .u8 x, vn] w (BarePost sp Ld Ls Lt Ln x w) :=
  (bare_yesF sp at_ vd vs vt vb vn Ld Ls Lt Lb Ln x w sd ss st sb sn hnb hx0 hx1 h1 h2 h3 h4 hl).mono fun _ _ ⟨v, he, hd, hb⟩ => ⟨v, he, hd.toV, hb⟩
end Go.Proofs.Ythpacdondnenmaa
/- The law HeadBack (layer 3): plain. Conditions: as each theorem states them. -/
namespace Go.Proofs.Ythpacdondnenmaa
open Go.RowKit
theorem mask_short : ([64, 65, 66, 67, 68, 69, 70, 71].all fun f => allB.all fun m => bits .xor .u8 f (bits .and .u8 m 31) / 32 == f / 32 && (0 ≤ bits .xor .u8 f (bits .and .u8 m 31) && bits .xor .u8 f (bits .and .u8 m 31) < 256) && bits .andNot .u8 (bits .xor .u8 f (bits .xor .u8 f (bits .and .u8 m 31))) 31 == 0 && bits .and .u8 f 24 == 0) = true := by decide +kernel
theorem mask_long : ([192, 193, 194, 195, 224, 225, 226, 227].all fun f => allB.all fun m => bits .xor .u8 f (bits .and .u8 m 15) / 16 == f / 16 && (0 ≤ bits .xor .u8 f (bits .and .u8 m 15) && bits .xor .u8 f (bits .and .u8 m 15) < 256) && bits .andNot .u8 (bits .xor .u8 f (bits .xor .u8 f (bits .and .u8 m 15))) 15 == 0 && bits .and .u8 f 12 == 0) = true := by decide +kernel
theorem mask_s {f m : Int} (hf : f ∈ [64, 65, 66, 67, 68, 69, 70, 71]) (h0 : 0 ≤ m) (h1 : m < 256) : bits .xor .u8 f (bits .and .u8 m 31) / 32 = f / 32 ∧ 0 ≤ bits .xor .u8 f (bits .and .u8 m 31) ∧ bits .xor .u8 f (bits .and .u8 m 31) < 256 ∧ bits .andNot .u8 (bits .xor .u8 f (bits .xor .u8 f (bits .and .u8 m 31))) 31 = 0 ∧ bits .and .u8 f 24 = 0 := by
  have h := List.all_eq_true.1 (List.all_eq_true.1 mask_short f hf) m (all_mem h0 h1)
  simp only [Bool.and_eq_true, beq_iff_eq, decide_eq_true_eq] at h
  exact ⟨h.1.1.1, h.1.1.2.1, h.1.1.2.2, h.1.2, h.2⟩
theorem mask_l {f m : Int} (hf : f ∈ [192, 193, 194, 195, 224, 225, 226, 227]) (h0 : 0 ≤ m) (h1 : m < 256) : bits .xor .u8 f (bits .and .u8 m 15) / 16 = f / 16 ∧ 0 ≤ bits .xor .u8 f (bits .and .u8 m 15) ∧ bits .xor .u8 f (bits .and .u8 m 15) < 256 ∧ bits .andNot .u8 (bits .xor .u8 f (bits .xor .u8 f (bits .and .u8 m 15))) 15 = 0 ∧ bits .and .u8 f 12 = 0 := by
  have h := List.all_eq_true.1 (List.all_eq_true.1 mask_long f hf) m (all_mem h0 h1)
  simp only [Bool.and_eq_true, beq_iff_eq, decide_eq_true_eq] at h
  exact ⟨h.1.1.1, h.1.1.2.1, h.1.1.2.2, h.1.2, h.2⟩
theorem first_s {h : HD} (hm : h.May) (hs : h.space = 2) : h.first ∈ [(64 : Int), 65, 66, 67, 68, 69, 70, 71] := by
  obtain ⟨m1, m2, m3, m4, m5, m6, m7, m8, m9⟩ := hm
  unfold HD.first
  rw [if_pos hs]
  simp only [List.mem_cons, List.not_mem_nil, or_false]
  split <;> omega
theorem first_l {h : HD} (hm : h.May) (hs : h.space ≠ 2) : h.first ∈ [(192 : Int), 193, 194, 195, 224, 225, 226, 227] := by
  obtain ⟨m1, m2, m3, m4, m5, m6, m7, m8, m9⟩ := hm
  unfold HD.first
  rw [if_neg hs]
  simp only [List.mem_cons, List.not_mem_nil, or_false]
  split <;> omega
theorem first_rng {h : HD} (hm : h.May) : 0 ≤ h.first ∧ h.first < 256 ∧ h.first % 4 + 1 = h.pb ∧ (decide (h.space = 2) && decide (h.first / 4 % 2 = 1)) = h.phase := by
  obtain ⟨m1, m2, m3, m4, m5, m6, m7, m8, m9⟩ := hm
  unfold HD.first
  by_cases hs : h.space = 2
  · rw [if_pos hs]
    refine ⟨?_, ?_, ?_, ?_⟩
    · split <;> omega
    · split <;> omega
    · split <;> omega
    · rw [decide_eq_true hs, Bool.true_and]
      cases h.phase
      · simp; omega
      · simp; omega
  · rw [if_neg hs, m9 hs, decide_eq_false hs, Bool.false_and]
    refine ⟨?_, ?_, ?_, rfl⟩
    · split <;> omega
    · split <;> omega
    · split <;> omega
/-- the first byte as the mask leaves it -/
def HD.masked (h : HD) (m : Int) : Int := bits .xor .u8 h.first (bits .and .u8 m (bitsV h.space))
theorem masked_rng {h : HD} (hm : h.May) {m : Int} (h0 : 0 ≤ m) (h1 : m < 256) : 0 ≤ h.masked m ∧ h.masked m < 256 ∧ bits .andNot .u8 (bits .xor .u8 h.first (h.masked m)) (bitsV h.space) = 0 ∧ bits .and .u8 h.first (if h.space = 2 then 24 else 12) = 0 := by
  unfold HD.masked bitsV
  by_cases hs : h.space = 2
  · rw [if_pos hs, if_pos hs]
    obtain ⟨a, b, c, d, e⟩ := mask_s (first_s hm hs) h0 h1
    exact ⟨b, c, d, e⟩
  · rw [if_neg hs, if_neg hs]
    obtain ⟨a, b, c, d, e⟩ := mask_l (first_l hm hs) h0 h1
    exact ⟨b, c, d, e⟩
theorem rest_end (h : HD) (n : Int) : ∃ q, h.rest n = q ++ beL h.pn h.pb.toNat := by
  unfold HD.rest
  split <;> exact ⟨_, rfl⟩
/-- the bytes of its number -/
theorem put_number {h : HD} (hm : h.May) (n : Int) (at_ : Nat) (hat : (at_ : Int) = (h.put n).length - h.pb) : (h.put n).drop at_ = beL h.pn h.pb.toNat ∧ h.pb ≤ (h.put n).length := by
  obtain ⟨m1, m2, m3, m4, m5, m6, m7, m8, m9⟩ := hm
  obtain ⟨q, hq⟩ := rest_end h n
  have e : h.put n = (h.first :: q) ++ beL h.pn h.pb.toNat := by unfold HD.put; rw [hq]; rfl
  rw [e, List.length_append, beL_len] at hat
  rw [e, List.length_append, beL_len, List.drop_left' (by omega)]
  exact ⟨rfl, by omega⟩
/-- what was put, with its payload and whatever stands behind it, is split as it was -/
theorem put_back {h : HD} (hf : h.Fit) (hm : h.May) {m : Int} (h0 : 0 ≤ m) (h1 : m < 256) (load behind : List Int) (h20 : 20 ≤ h.pb + load.length) (hlen : load.length ≤ 65536) (htok : h.tok.length ≤ 4611686018427387903) (at_ : Nat) (hat : (at_ : Int) = (h.put load.length).length - h.pb) :
    splitL (((h.put load.length ++ load) ++ (if h.space = 2 then [] else behind)).set 0 (h.masked m)) h.dst.length = some ⟨h.space, h.dst, h.src, h.tok, at_, (h.put load.length).length + load.length⟩ := by
  have hm' := hm
  obtain ⟨m1, m2, m3, m4, m5, m6, m7, m8, m9⟩ := hm
  have hl : (h.put load.length).length = 1 + (h.rest load.length).length := by unfold HD.put; simp; omega
  have he : ∀ y : List Int, ((h.put load.length ++ load) ++ y).set 0 (h.masked m) = h.masked m :: (h.rest load.length ++ (load ++ y)) := fun y => by
    unfold HD.put; simp
  rw [he, hl]
  have hpb := (put_number hm' load.length at_ hat).2
  by_cases hs : h.space = 2
  · rw [if_pos hs, List.append_nil, put_short hm' hs (h.masked m) load (by unfold HD.masked bitsV; rw [if_pos hs]; exact (mask_s (first_s hm' hs) h0 h1).1) h20]
    have e1 : h.src = [] := List.eq_nil_of_length_eq_zero (m8 hs)
    have e2 : h.tok = [] := List.eq_nil_of_length_eq_zero (m7 (by omega))
    rw [e1, e2, hs]
    congr 2
    omega
  · rw [if_neg hs, put_long hf hm' hs (h.masked m) load behind (by unfold HD.masked bitsV; rw [if_neg hs]; exact (mask_l (first_l hm' hs) h0 h1).1) h20 hlen htok]
    congr 2
    omega
/-- the head as it is read bare: its number cut to its bytes -/
def HD.cut (h : HD) : HD := { h with pn := h.pn % 256 ^ h.pb.toNat }
theorem bare_cut {h : HD} (hf : h.Fit) (hm : h.May) : bareH h.space h.dst h.src h.tok (beL h.pn h.pb.toNat) h.first = h.cut := by
  obtain ⟨f0, f1, f2, f3⟩ := first_rng hm
  obtain ⟨g1, g2, g3, g4, g5, g6, g7⟩ := hf
  unfold bareH HD.cut
  rw [f2, f3, List.take_of_length_le (by rw [beL_len]; omega), ofF_beL _ _ g6]
  simp
theorem shl8 {pb : Int} (h1 : 1 ≤ pb) (h4 : pb ≤ 4) : (256 : Int) ^ pb.toNat = 1 * 2 ^ (8 * pb).toNat := by
  rcases (by omega : pb = 1 ∨ pb = 2 ∨ pb = 3 ∨ pb = 4) with rfl | rfl | rfl | rfl <;> rfl
end Go.Proofs.Ythpacdondnenmaa
