/- Layer 20: ids in memory; Begin, Owns, Current; calls of no ids. Conditions: as each theorem states them. -/
import Derived.Test.YtghjlndkleclfaaI8
namespace Go.Proofs.Ytghjlndkleclfaa
open Go.RowKit
/-- a connection's ids -/
structure IS where
  own : List CX
  nx : Int
  peer : List CX
  us : Int
  pr : Int
  ret : List Int
def RetR (B : Nat) (w : World) (v : Value) (xs : List Int) : Prop := ∃ A n c, v = .slice A n c ∧ Own B 27 .u64 w A n c xs
theorem RetR.below {B : Nat} {w w' : World} {v : Value} {xs : List Int} (h : RetR B w v xs) (hb : Below w.heap.size w w') : RetR B w' v xs := by
  obtain ⟨A, n, c, e, h⟩ := h
  exact ⟨A, n, c, e, h.below hb⟩
theorem RetR.grown {B b : Nat} {w w' : World} {v : Value} {xs : List Int} (h : RetR B w v xs) (hg : w.grownBy w' (some b)) (ht : ∀ cur, w.heap[b]? ≠ some (.cells cur 27 (0, 0))) : RetR B w' v xs := by
  obtain ⟨A, n, c, rfl, h⟩ := h
  exact ⟨A, n, c, rfl, ⟨row_kept h.1 hg ht, h.2⟩⟩
/-- a row that is not in that block, by what the block holds -/
theorem row_ne {B b : Nat} {w : World} {v : Value} {l : List CX} (h : EntR B w v l) (ht : ∀ cur, w.heap[b]? ≠ some (.cells cur 47 (0, 0))) : v.ownBlock ≠ some b := by
  rcases h.1.2 with ⟨rfl, _⟩ | ⟨g, _, cur, rfl, _, h1, _⟩
  · simp [Value.ownBlock]
  · intro q
    simp only [Value.ownBlock] at q
    injection q with q
    subst q
    exact ht cur h1
/-- ids in memory that are read -/
structure IdR (B g : Nat) (w : World) (vo vp : Value) (s : IS) : Prop where
  blk : ∃ vr, Blk w g 45 #[vo, .int .u64 s.nx, vp, .int .u64 s.us, .int .u64 s.pr, vr] ∧ RetR B w vr s.ret
  own : EntR B w vo s.own
  peer : EntR B w vp s.peer
theorem IdR.lt {B g : Nat} {w : World} {vo vp : Value} {s : IS} (h : IdR B g w vo vp s) : g < w.heap.size := by obtain ⟨vr, h1, _⟩ := h.blk; exact h1.lt
theorem IdR.below {B g : Nat} {w w' : World} {vo vp : Value} {s : IS} (h : IdR B g w vo vp s) (hb : Below w.heap.size w w') : IdR B g w' vo vp s := by
  obtain ⟨vr, h1, h2⟩ := h.blk
  exact ⟨⟨vr, h1.below hb h1.lt, h2.below hb⟩, h.own.below hb, h.peer.below hb⟩
/-- ids in memory, their two rows by name -/
structure IdV (B g : Nat) (w : World) (vo vp : Value) (s : IS) : Prop where
  blk : ∃ vr, Blk w g 45 #[vo, .int .u64 s.nx, vp, .int .u64 s.us, .int .u64 s.pr, vr] ∧ RetR B w vr s.ret
  own : EntR B w vo s.own
  peer : EntR B w vp s.peer
  ap : ∀ k, vo.ownBlock = some k → vp.ownBlock ≠ some k
section
variable {B g b : Nat} {w w' : World} {vo vp : Value} {s : IS}
theorem IdV.r (h : IdV B g w vo vp s) : IdR B g w vo vp s := ⟨h.blk, h.own, h.peer⟩
theorem IdR.grown {t : TypeId} {cs : Array Value} (h : IdR B g w vo vp s) (hg : w.grownBy w' (some b)) (hk : Blk w b t cs) (hne : b ≠ g) (h1 : t ≠ 5) (h2 : t ≠ 47) (h3 : t ≠ 27) : IdR B g w' vo vp s := by
  obtain ⟨vr, k1, k2⟩ := h.blk
  exact ⟨⟨vr, k1.grown hg (by intro q; injection q with q; exact hne q.symm), k2.grown hg (hk.notT h3)⟩, h.own.grown hg (row_ne h.own (hk.notT h2)) (hk.notT h1), h.peer.grown hg (row_ne h.peer (hk.notT h2)) (hk.notT h1)⟩
/-- a row of entries that is not theirs is turned -/
theorem IdR.grownE {cs : Array Value} (h : IdR B g w vo vp s) (hg : w.grownBy w' (some b)) (hk : Blk w b 47 cs) (ho : vo.ownBlock ≠ some b) (hp : vp.ownBlock ≠ some b) : IdR B g w' vo vp s := by
  obtain ⟨vr, k1, k2⟩ := h.blk
  exact ⟨⟨vr, k1.grown hg (by intro q; injection q with q; exact Blk.ne_ k1 hk (by decide) q), k2.grown hg (hk.notT (by decide))⟩, h.own.grown hg ho (hk.notT (by decide)), h.peer.grown hg hp (hk.notT (by decide))⟩
theorem IdV.lt (h : IdV B g w vo vp s) : g < w.heap.size := by obtain ⟨vr, h1, _⟩ := h.blk; exact h1.lt
theorem IdV.below (h : IdV B g w vo vp s) (hb : Below w.heap.size w w') : IdV B g w' vo vp s := by
  obtain ⟨vr, h1, h2⟩ := h.blk
  exact ⟨⟨vr, h1.below hb h1.lt, h2.below hb⟩, h.own.below hb, h.peer.below hb, h.ap⟩
/-- a block of another kind is turned -/
theorem IdV.grown {t : TypeId} {cs : Array Value} (h : IdV B g w vo vp s) (hg : w.grownBy w' (some b)) (hk : Blk w b t cs) (hne : b ≠ g) (h1 : t ≠ 5) (h2 : t ≠ 47) (h3 : t ≠ 27) : IdV B g w' vo vp s := by
  obtain ⟨vr, k1, k2⟩ := h.blk
  exact ⟨⟨vr, k1.grown hg (by intro q; injection q with q; exact hne q.symm), k2.grown hg (hk.notT h3)⟩, h.own.grown hg (row_ne h.own (hk.notT h2)) (hk.notT h1), h.peer.grown hg (row_ne h.peer (hk.notT h2)) (hk.notT h1), h.ap⟩
/-- a row of entries that is not theirs is turned -/
theorem IdV.grownE {cs : Array Value} (h : IdV B g w vo vp s) (hg : w.grownBy w' (some b)) (hk : Blk w b 47 cs) (ho : vo.ownBlock ≠ some b) (hp : vp.ownBlock ≠ some b) : IdV B g w' vo vp s := by
  obtain ⟨vr, k1, k2⟩ := h.blk
  exact ⟨⟨vr, k1.grown hg (by intro q; injection q with q; exact Blk.ne_ k1 hk (by decide) q), k2.grown hg (hk.notT (by decide))⟩, h.own.grown hg ho (hk.notT (by decide)), h.peer.grown hg hp (hk.notT (by decide)), h.ap⟩
theorem id_cells {c0 c1 c2 c3 c4 c5 : Value} (h : Blk w g 45 #[c0, c1, c2, c3, c4, c5]) : w.cell? ⟨g, 0, none⟩ = some c0 ∧ w.cell? ⟨g, 1, none⟩ = some c1 ∧ w.cell? ⟨g, 2, none⟩ = some c2 ∧ w.cell? ⟨g, 3, none⟩ = some c3 ∧ w.cell? ⟨g, 4, none⟩ = some c4 ∧ w.cell? ⟨g, 5, none⟩ = some c5 :=
  ⟨Blk.cell h 0, Blk.cell h 1, Blk.cell h 2, Blk.cell h 3, Blk.cell h 4, Blk.cell h 5⟩
theorem EntR.slice {v : Value} {l : List CX} (h : EntR B w v l) : ∃ A c, v = .slice A l.length c ∧ EntS w A l := by
  obtain ⟨A, c, e, _⟩ := own_form h.1
  subst e
  exact ⟨A, c, rfl, h.s⟩
end
theorem CX.Ok.ofOwn {B n c : Nat} {w : World} {A : Option Addr} {q : Int} {xs tok : List Int} (h : Own B 5 .u8 w A n c xs) (hb : Byt xs) (hl : xs.length ≤ 1000) (ht : tok.length = 16) (htb : Byt tok) : (⟨q, A, n, c, xs, tok⟩ : CX).Ok w := ⟨SlT.own h, hb, hl, ht, htb⟩
/-- a row of one entry, new -/
theorem entR_one {B g : Nat} {w : World} {x : CX} (hk : Blk w g 47 x.vs.toArray) (hB : B ≤ g) (hx : x.Ok w) : EntR B w (.slice (some ⟨g, 0, none⟩) 1 1) [x] :=
  entR_of hk rfl (Nat.le_refl _) (by decide) (CX.vs_len hx.tl) (by rw [show vsE [x] = x.vs by simp [vsE], List.take_of_length_le (by rw [CX.vs_len hx.tl]; decide)]) hB (fun y hy => by simp at hy; subst hy; exact hx)
set_option maxRecDepth 100000 in
set_option maxHeartbeats 2000000 in
theorem begin_any (A1 A2 : Option Addr) (n1 c1 n2 c2 : Nat) (xs ys : List Int) (w : World) (h1 : Rd w.heap.size .u8 w A1 xs) (h2 : Rd w.heap.size .u8 w A2 ys) (e1 : n1 = xs.length) (e2 : n2 = ys.length) (b1 : Byt xs) (b2 : Byt ys) (l1 : n1 ≤ 1000) (l2 : n2 ≤ 1000) :
    Calls Try.prog 5 #[.slice A1 n1 c1, .slice A2 n2 c2] w fun e w' => ∃ g vo vp x y, e = .returned (.pointer (some ⟨g, 0, none⟩)) ∧ IdV w.heap.size g w' vo vp ⟨[x], 1, [y], 0, 0, []⟩ ∧ x.e = ⟨0, xs, List.replicate 16 0⟩ ∧ y.e = ⟨0, ys, List.replicate 16 0⟩ ∧ w.heap.size ≤ g ∧ Below w.heap.size w w' := by
  have H1 := Lib.hid h1
  have H2 := Lib.hid h2
  have E1 := Lib.hid e1
  have E2 := Lib.hid e2
  clear h1 h2 e1 e2
  go_enter Try.func5, Try.ntmps5
  go_wp2_with fail
  refine Calls.mono (clone_n A1 c1 n1 xs w H1.out E1.out (by omega)) ?_
  rintro e w1 ⟨A3, n3, c3, rfl, o3, bb1⟩
  have O3 := Lib.hid o3
  have B1 := Lib.hid bb1
  clear o3 bb1
  go_wp2_with fail
  have bb2 := (Below.refl w1.heap.size w1).alloc (Nat.le_refl _) (.cells #[.int .u64 0, .slice A3 n3 c3, .int .u8 0, .int .u8 0, .int .u8 0, .int .u8 0, .int .u8 0, .int .u8 0, .int .u8 0, .int .u8 0, .int .u8 0, .int .u8 0, .int .u8 0, .int .u8 0, .int .u8 0, .int .u8 0, .int .u8 0, .int .u8 0] 47)
  have K2 : Hid (Blk (w1.alloc (.cells #[.int .u64 0, .slice A3 n3 c3, .int .u8 0, .int .u8 0, .int .u8 0, .int .u8 0, .int .u8 0, .int .u8 0, .int .u8 0, .int .u8 0, .int .u8 0, .int .u8 0, .int .u8 0, .int .u8 0, .int .u8 0, .int .u8 0, .int .u8 0, .int .u8 0] 47)) w1.heap.size 47 (⟨0, A3, n3, c3, xs, List.replicate 16 0⟩ : CX).vs.toArray) := Lib.hid (Blk.new w1 _ _)
  have O4 := Lib.hid (O3.out.below bb2)
  have B2 := Lib.hid (B1.out.trans (bb2.mono B1.out.size))
  have HW : Hid (w.heap.size ≤ w1.heap.size) := Lib.hid B1.out.size
  have HS2 := Lib.hid B2.out.size
  clear bb2 O3 B1
  generalize w1.alloc (.cells #[.int .u64 0, .slice A3 n3 c3, .int .u8 0, .int .u8 0, .int .u8 0, .int .u8 0, .int .u8 0, .int .u8 0, .int .u8 0, .int .u8 0, .int .u8 0, .int .u8 0, .int .u8 0, .int .u8 0, .int .u8 0, .int .u8 0, .int .u8 0, .int .u8 0] 47) = w2 at *
  obtain ⟨gp, hgp⟩ : ∃ z, w1.heap.size = z := ⟨_, rfl⟩
  rw [hgp] at K2 HW ⊢
  clear hgp
  refine Calls.mono (clone_n A2 c2 n2 ys w2 ((H2.out.below B2.out (Nat.le_refl _)).mono B2.out.size) E2.out (by omega)) ?_
  rintro e w3 ⟨A5, n5, c5, rfl, o5, bb3⟩
  have O5 := Lib.hid o5
  have O6 := Lib.hid (O4.out.below bb3)
  have K3 := Lib.hid (Blk.below K2.out bb3 (Blk.lt K2.out))
  have B3 := Lib.hid (B2.out.trans (bb3.mono B2.out.size))
  have HLT : Hid (gp < w3.heap.size) := Lib.hid (Blk.lt K3.out)
  clear o5 bb3 O4 K2 B2
  go_wp2_with fail
  have HE1 := E1.out
  have HE2 := E2.out
  have ox : (⟨0, A3, n3, c3, xs, List.replicate 16 0⟩ : CX).Ok w3 := CX.Ok.ofOwn O6.out b1 (by omega) (by simp) (fun x hx => by rw [List.eq_of_mem_replicate hx]; decide)
  have oy : (⟨0, A5, n5, c5, ys, List.replicate 16 0⟩ : CX).Ok w3 := CX.Ok.ofOwn O5.out b2 (by omega) (by simp) (fun x hx => by rw [List.eq_of_mem_replicate hx]; decide)
  have OX := Lib.hid ox
  have OY := Lib.hid oy
  clear ox oy HE1 HE2
  have bb4 := (Below.refl w3.heap.size w3).alloc (Nat.le_refl _) (.cells #[.int .u64 0, .slice A5 n5 c5, .int .u8 0, .int .u8 0, .int .u8 0, .int .u8 0, .int .u8 0, .int .u8 0, .int .u8 0, .int .u8 0, .int .u8 0, .int .u8 0, .int .u8 0, .int .u8 0, .int .u8 0, .int .u8 0, .int .u8 0, .int .u8 0] 47)
  have K4 : Hid (Blk (w3.alloc (.cells #[.int .u64 0, .slice A5 n5 c5, .int .u8 0, .int .u8 0, .int .u8 0, .int .u8 0, .int .u8 0, .int .u8 0, .int .u8 0, .int .u8 0, .int .u8 0, .int .u8 0, .int .u8 0, .int .u8 0, .int .u8 0, .int .u8 0, .int .u8 0, .int .u8 0] 47)) w3.heap.size 47 (⟨0, A5, n5, c5, ys, List.replicate 16 0⟩ : CX).vs.toArray) := Lib.hid (Blk.new w3 _ _)
  have K5 := Lib.hid (Blk.below K3.out bb4 (Blk.lt K3.out))
  have bb5 := (Below.refl (w3.alloc (.cells #[.int .u64 0, .slice A5 n5 c5, .int .u8 0, .int .u8 0, .int .u8 0, .int .u8 0, .int .u8 0, .int .u8 0, .int .u8 0, .int .u8 0, .int .u8 0, .int .u8 0, .int .u8 0, .int .u8 0, .int .u8 0, .int .u8 0, .int .u8 0, .int .u8 0] 47)).heap.size (w3.alloc (.cells #[.int .u64 0, .slice A5 n5 c5, .int .u8 0, .int .u8 0, .int .u8 0, .int .u8 0, .int .u8 0, .int .u8 0, .int .u8 0, .int .u8 0, .int .u8 0, .int .u8 0, .int .u8 0, .int .u8 0, .int .u8 0, .int .u8 0, .int .u8 0, .int .u8 0] 47))).alloc (Nat.le_refl _) (.cells #[.slice (some ⟨gp, 0, none⟩) 1 1, .int .u64 1, .slice (some ⟨w3.heap.size, 0, none⟩) 1 1, .int .u64 0, .int .u64 0, .slice none 0 0] 45)
  have K6 : Hid (Blk ((w3.alloc (.cells #[.int .u64 0, .slice A5 n5 c5, .int .u8 0, .int .u8 0, .int .u8 0, .int .u8 0, .int .u8 0, .int .u8 0, .int .u8 0, .int .u8 0, .int .u8 0, .int .u8 0, .int .u8 0, .int .u8 0, .int .u8 0, .int .u8 0, .int .u8 0, .int .u8 0] 47)).alloc (.cells #[.slice (some ⟨gp, 0, none⟩) 1 1, .int .u64 1, .slice (some ⟨w3.heap.size, 0, none⟩) 1 1, .int .u64 0, .int .u64 0, .slice none 0 0] 45)) (w3.heap.size + 1) 45 #[.slice (some ⟨gp, 0, none⟩) 1 1, .int .u64 1, .slice (some ⟨w3.heap.size, 0, none⟩) 1 1, .int .u64 0, .int .u64 0, .slice none 0 0]) := Lib.hid (blk_new_at (by simp))
  have b35 := bb4.trans (bb5.mono bb4.size)
  have HB := Lib.hid (B3.out.trans (b35.mono B3.out.size))
  have E0 := Lib.hid ((entR_one K5.out HW.out (OX.out.below bb4)).below bb5)
  have P0 := Lib.hid ((entR_one K4.out (Nat.le_trans B3.out.size (Nat.le_refl _)) (OY.out.below bb4)).below bb5)
  have HG : Hid (w.heap.size ≤ w3.heap.size + 1) := Lib.hid (Nat.le_succ_of_le B3.out.size)
  clear bb4 bb5 b35 K4 K5
  go_ret
  refine ⟨_, _, _, _, _, rfl, ⟨⟨_, K6.out, none, 0, 0, rfl, Own.nil _ _ _ _⟩, E0.out, P0.out, fun k hk q => ?_⟩, rfl, rfl, HG.out, HB.out⟩
  simp only [Value.ownBlock] at hk q
  injection hk with hk
  injection q with q
  have := HLT.out
  omega
theorem owns_any (B g : Nat) (vo vp : Value) (s : IS) (A : Option Addr) (n c : Nat) (q : List Int) (w : World) (h : IdR B g w vo vp s) (hl : s.own.length ≤ 1000) (hq : Rd w.heap.size .u8 w A q) (hq2 : q.length = n) (hqb : Byt q) :
    Calls Try.prog 8 #[.pointer (some ⟨g, 0, none⟩), .slice A n c] w fun e w' => e = .returned (.bool (decide (0 ≤ idx (fun x => decide (x.bs = q)) s.own))) ∧ Below w.heap.size w w' := by
  obtain ⟨vr, k1, _⟩ := h.blk
  obtain ⟨c0, c1, c2, c3, c4, c5⟩ := id_cells k1
  obtain ⟨Ao, co, rfl, hs⟩ := h.own.slice
  have RD := Lib.hid (named_any s.own Ao A _ co n c q w hs rfl (by omega) hq hq2 hqb)
  clear h k1 hs hq hqb
  go_enter Try.func8, Try.ntmps8
  go_wp2_with fail
  refine Calls.mono RD.out ?_
  rintro e w1 ⟨rfl, b1⟩
  have B1 := Lib.hid b1
  clear b1 RD
  go_wp2_with fail
  go_ret
  exact ⟨rfl, B1.out⟩
theorem owns_nil (A : Option Addr) (n c : Nat) (w : World) : Calls Try.prog 8 #[.pointer none, .slice A n c] w fun e w' => e = .returned (.bool false) ∧ w = w' := by
  go_enter Try.func8, Try.ntmps8
  go_wp2_with fail
  go_ret
  exact ⟨rfl, rfl⟩
end Go.Proofs.Ytghjlndkleclfaa
