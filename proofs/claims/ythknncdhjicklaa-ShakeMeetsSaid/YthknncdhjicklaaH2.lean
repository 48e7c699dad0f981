/- Layer 21: words: bytes in blocks of bytes, bytes.Clone, bytes.Equal; a handshake in memory. Conditions: as each theorem states them. -/
import Derived.Test.YthknncdhjicklaaH1
namespace Go.Proofs.Ythknncdhjicklaa
open Go.RowKit
theorem elC : ElT Try.prog 23 5 .u8 1 := ⟨Try.underlying23, Try.underlying5, by kernel_rfl, by decide⟩
/-- bytes that lie in a block of bytes -/
def SlT (w : World) (v : Value) (L : List Int) : Prop := ∃ A c, v = .slice A L.length c ∧ L.length ≤ c ∧ Rd w.heap.size .u8 w A L ∧ ∀ ad, A = some ad → ∃ cur, w.heap[ad.block]? = some (.cells cur 5 (0, 0))
theorem SlT.nil (w : World) : SlT w (.slice none 0 0) [] := ⟨none, 0, rfl, Nat.le_refl _, Rd.nil, fun ad e => by cases e⟩
theorem SlT.own {B : Nat} {w : World} {A : Option Addr} {n c : Nat} {L : List Int} (h : Own B 5 .u8 w A n c L) : SlT w (.slice A n c) L := by
  obtain rfl := h.2
  refine ⟨A, c, rfl, h.cap.1, h.rd, fun ad e => ?_⟩
  subst e
  rcases h.1.2 with ⟨h1, _⟩ | ⟨g, cap, cur, h1, _, h3, _⟩
  · cases h1
  · injection h1 with h1
    injection h1 with h1
    subst h1
    exact ⟨cur, h3⟩
theorem SlT.below {w w' : World} {v : Value} {L : List Int} (h : SlT w v L) (hb : Below w.heap.size w w') : SlT w' v L := by
  obtain ⟨A, c, h1, h2, h3, h4⟩ := h
  refine ⟨A, c, h1, h2, (h3.below hb (Nat.le_refl _)).mono hb.size, fun ad e => ?_⟩
  obtain ⟨cur, hc⟩ := h4 ad e
  have hlt : ad.block < w.heap.size := by
    rcases Nat.lt_or_ge ad.block w.heap.size with q | q
    · exact q
    · rw [Array.getElem?_eq_none q] at hc; cases hc
  exact ⟨cur, (hb.block _ hlt).trans hc⟩
theorem SlT.grown2 {w w' : World} {v : Value} {L : List Int} {b : Nat} (h : SlT w v L) (hg : w.grownBy w' (some b)) (ht : ∀ cur, w.heap[b]? ≠ some (.cells cur 5 (0, 0))) : SlT w' v L := by
  obtain ⟨A, c, h1, h2, h3, h4⟩ := h
  have hne : ∀ ad, A = some ad → ad.block ≠ b := fun ad e q => by
    obtain ⟨cur, hc⟩ := h4 ad e
    rw [q] at hc
    exact ht cur hc
  refine ⟨A, c, h1, h2, fun i hi => ?_, fun ad e => ?_⟩
  · obtain ⟨ad, e, h5, h6⟩ := h3 i hi
    exact ⟨ad, e, Nat.lt_of_lt_of_le h5 hg.size, (World.cell?_of_block (hg.block _ (by rw [block_of_add]; exact h5) (by rw [block_of_add]; intro q; injection q with q; exact hne ad e q))).trans h6⟩
  · obtain ⟨cur, hc⟩ := h4 ad e
    have hlt : ad.block < w.heap.size := by
      rcases Nat.lt_or_ge ad.block w.heap.size with q | q
      · exact q
      · rw [Array.getElem?_eq_none q] at hc; cases hc
    exact ⟨cur, (hg.block _ hlt (by intro q; injection q with q; exact hne ad e q)).trans hc⟩
theorem clone_any (A : Option Addr) (c : Nat) (xs : List Int) (w : World) (hr : Rd w.heap.size .u8 w A xs) (hl : xs.length ≤ 1099511627776) :
    Calls Try.prog 11 #[.slice A xs.length c] w (RetOwn 5 .u8 xs w) := by
  have HR := Lib.hid hr
  have hnil := fun (w : World) (a : Option Addr) (n c : Nat) => Lib.run_eql_slice_nil (P := Try.prog) w 23 5 a n c 0 0 Try.underlying23
  rcases A with _ | ad
  · have hx : xs = [] := by
      rcases xs with _ | ⟨x, r⟩
      · rfl
      · obtain ⟨ad, h, _⟩ := hr 0 (by simp); cases h
    subst hx
    clear hr HR
    go_enter Try.func11, Try.ntmps11
    go_wp2_with fail
    go_ret
    exact ⟨none, 0, 0, rfl, Own.nil _ _ _ _, Below.refl _ _⟩
  · clear hr
    go_enter Try.func11, Try.ntmps11
    go_wp2_with (first
      | (at_builtin; refine wpList_app (o := ⟨some 7, _, _, _, _, _⟩) elC rfl _ _ rfl rfl rfl (Own.litAt (xs := []) rfl rfl rfl (Nat.le_refl _) (by simp)) (HR.out.alloc (Nat.le_refl _) _) (by first | rfl | simp) ?_ ?_ ?_; (simp <;> omega); exact Below.size ((Below.refl w.heap.size w).alloc (Nat.le_refl _) _); intro A1 n1 c1 w1 h1; have H1 := Lib.hid h1; have B1 := Lib.hid (Below.trans ((Below.refl w.heap.size w).alloc (Nat.le_refl _) _) h1.2.2.1); clear h1))
    go_ret
    exact ⟨A1, n1, c1, rfl, H1.out.1, B1.out⟩
theorem clone_n (A : Option Addr) (c n : Nat) (xs : List Int) (w : World) (hr : Rd w.heap.size .u8 w A xs) (hn : n = xs.length) (hl : n ≤ 1099511627776) :
    Calls Try.prog 11 #[.slice A n c] w (RetOwn 5 .u8 xs w) := by
  subst hn; exact clone_any A c xs w hr hl

theorem equal_any (A A2 : Option Addr) (c c2 : Nat) (xs ys : List Int) (w : World) (hr : Rd w.heap.size .u8 w A xs) (hr2 : Rd w.heap.size .u8 w A2 ys) (hb : Byt xs) (hb2 : Byt ys) :
    Calls Try.prog 25 #[.slice A xs.length c, .slice A2 ys.length c2] w fun e w' => e = .returned (.bool (decide (xs = ys))) ∧ w = w' := by
  have h1 := conv_rd elC Try.underlying9 hr c
  have h2 := conv_rd elC Try.underlying9 hr2 c2
  have HE := Lib.hid (str_eq hb hb2)
  clear hr hr2 hb hb2
  generalize strOfNums xs = s1 at *
  generalize strOfNums ys = s2 at *
  go_enter Try.func25, Try.ntmps25
  go_wp2_with fail
  go_ret
  exact ⟨ret_bool HE.out, rfl⟩


theorem equal_n {A A2 : Option Addr} {n n2 c c2 : Nat} {xs ys : List Int} {w : World} (h1 : xs.length = n) (h2 : ys.length = n2) (hr : Rd w.heap.size .u8 w A xs) (hr2 : Rd w.heap.size .u8 w A2 ys) (hb : Byt xs) (hb2 : Byt ys) :
    Calls Try.prog 25 #[.slice A n c, .slice A2 n2 c2] w fun e w' => e = .returned (.bool (decide (xs = ys))) ∧ w = w' := by subst h1; subst h2; exact equal_any A A2 c c2 xs ys w hr hr2 hb hb2
theorem wpList_storeBlk {P : Program} {ops : Array Oper} {rest : List Oper} {o : Oper} {a : Act} {w : World} {Q : Exit → Act → World → Prop} {ty t : TypeId} {g : Nat} {vs : List Value} {old : Array Value} (hgd : o.guard = none) (x y : Operand) (ho : o.op = .store ty x y) (hx : a.eval x = .pointer (some ⟨g, 0, none⟩)) (hy : a.eval y = .agg vs.toArray)
    (h : Blk w g t old) (hl : vs.length = old.size) (h1 : ∀ v ∈ vs, v.oneCell' = true) (hi : (P.info? ty).map (·.size) = some vs.length) (hK : ∀ w', Blk w' g t vs.toArray → w.grownBy w' (some g) → wpList P ops Q rest (a.put o.dst undef) w') : wpList P ops Q (o :: rest) a w := by
  obtain ⟨w', h2, h3, h4⟩ := blk_storeAll (P := P) (ty := ty) h hl h1 hi
  exact wpList_storeV hgd x y ho hx hy h2 (hK w' h3 h4)
theorem blk_new_at {w : World} {cs : Array Value} {t : TypeId} {g : Nat} (hg : w.heap.size = g) : Blk (w.alloc (.cells cs t)) g t cs := by subst hg; exact Blk.new _ _ _
theorem below_own {w w' : World} {B : Nat} {e : TypeId} {size n : Nat} {v : Value} {xs : List Value} (h : w.ownsRow B e size v n xs) (hg : w.grownBy w' v.ownBlock) (hB : B ≤ w.heap.size) : Below B w w' :=
  ⟨hg.os, hg.tape, hg.output, hg.size, fun i hi => hg.block i (by omega) (fun e' => by
    rcases h.2 with ⟨rfl, _⟩ | ⟨g, _, _, rfl, h1, _⟩
    · cases e'
    · simp only [Value.ownBlock] at e'
      injection e' with e'
      omega)⟩
theorem own_form {w : World} {B : Nat} {e : TypeId} {size n : Nat} {v : Value} {xs : List Value} (h : w.ownsRow B e size v n xs) : ∃ A c, v = .slice A n c ∧ n ≤ c := by
  rcases h.2 with ⟨rfl, rfl⟩ | ⟨g, cap, cur, rfl, _, _, h4, _⟩
  · exact ⟨none, 0, rfl, Nat.le_refl _⟩
  · exact ⟨_, _, rfl, h4⟩
theorem own_below {w w' : World} {B : Nat} {e : TypeId} {size n : Nat} {v : Value} {xs : List Value} (h : w.ownsRow B e size v n xs) (hb : Below w.heap.size w w') : w'.ownsRow B e size v n xs :=
  h.kept (only_of_below hb none) (by
    rcases h.2 with ⟨rfl, _⟩ | ⟨g, _, _, rfl, h1, _⟩
    · exact .inl rfl
    · exact .inr (by simp [Value.ownBlock]))
theorem add_zero_addr2 (g j : Nat) : (⟨g, 0, none⟩ : Addr).add j = ⟨g, j, none⟩ := by
  unfold Addr.add
  split
  · rename_i q; subst q; rfl
  · simp
theorem blk_at {w : World} {g : Nat} {t : TypeId} {vs : List Value} (h : Blk w g t vs.toArray) : ∀ j u, vs[j]? = some u → w.cell? ((⟨g, 0, none⟩ : Addr).add j) = some u := fun j u hu => by
  rw [add_zero_addr2, Blk.cell h j]; simpa using hu
/-- a block that is not the row's -/
theorem row_kept {w w' : World} {B b : Nat} {e : TypeId} {size n : Nat} {v : Value} {xs : List Value} (h : w.ownsRow B e size v n xs) (hg : w.grownBy w' (some b)) (hne : ∀ cur, w.heap[b]? ≠ some (.cells cur e (0, 0))) : w'.ownsRow B e size v n xs :=
  h.kept hg (by
    rcases h.2 with ⟨rfl, _⟩ | ⟨g, _, cur, rfl, _, h1, _⟩
    · exact .inl rfl
    · refine .inr (fun q => ?_)
      simp only [Value.ownBlock] at q
      injection q with q
      subst q
      exact hne cur h1)
theorem Blk.notT {w : World} {g : Nat} {t e : TypeId} {cs : Array Value} (h : Blk w g t cs) (ht : t ≠ e) : ∀ cur, w.heap[g]? ≠ some (.cells cur e (0, 0)) := fun cur q => by
  unfold Blk at h
  rw [h] at q
  injection q with q
  injection q with _ q
  exact ht q
/-- a row's own block, if it has one -/
theorem row_block {w w' : World} {B : Nat} {e : TypeId} {size n : Nat} {v : Value} {xs : List Value} (h : w.ownsRow B e size v n xs) (hg : w.grownBy w' v.ownBlock) : Below w.heap.size w w' ∨ ∃ b cs, w.grownBy w' (some b) ∧ Blk w b e cs := by
  rcases h.2 with ⟨rfl, _⟩ | ⟨g, _, cur, rfl, _, h1, _⟩
  · exact .inl ⟨hg.os, hg.tape, hg.output, hg.size, fun i hi => hg.block i hi (by simp [Value.ownBlock])⟩
  · exact .inr ⟨g, cur, hg, h1⟩
theorem SlT.mk {w : World} {A : Option Addr} {n c : Nat} {L : List Int} (h : SlT w (.slice A n c) L) : n = L.length ∧ n ≤ c ∧ Rd w.heap.size .u8 w A L := by
  obtain ⟨A', c', e, h1, h2, _⟩ := h
  injection e with e1 e2 e3
  subst e1 e2 e3
  exact ⟨rfl, h1, h2⟩
theorem SlT.form {w : World} {v : Value} {L : List Int} (h : SlT w v L) : ∃ A c, v = .slice A L.length c ∧ L.length ≤ c ∧ Rd w.heap.size .u8 w A L := by
  obtain ⟨A', c', e, h1, h2, _⟩ := h
  exact ⟨A', c', e, h1, h2⟩
/-- a handshake by itself -/
structure PS where
  sv : Bool
  st : Int
  psk : List Int
  rnd : List Int
  peer : List Int
  par : List Int
  pp : List Int
  i0 : List Int
  i1 : List Int
  tr : List Int
  c0 : List Int
  c1 : List Int
  a0 : List Int
  a1 : List Int
structure PS.Ok (p : PS) : Prop where
  psk : p.psk.length = 32
  rnd : p.rnd.length = 32
  peer : p.peer.length = 32
  c0 : p.c0.length = 32
  c1 : p.c1.length = 32
  a0 : p.a0.length = 32
  a1 : p.a1.length = 32
  bpsk : Byt p.psk
  brnd : Byt p.rnd
  bpeer : Byt p.peer
  bpar : Byt p.par
  bpp : Byt p.pp
  bi0 : Byt p.i0
  bi1 : Byt p.i1
  btr : Byt p.tr
  bc0 : Byt p.c0
  bc1 : Byt p.c1
  ba0 : Byt p.a0
  ba1 : Byt p.a1
def b8 (l : List Int) : List Value := l.map (Value.int .u8)
theorem b8_len (l : List Int) : (b8 l).length = l.length := by simp [b8]
theorem b8_one (l : List Int) : ∀ v ∈ b8 l, v.oneCell' = true := ints_oneCell .u8 l
/-- its cells -/
def shV (p : PS) (vp vq v0 v1 vt : Value) : List Value := [.bool p.sv, .int .u8 p.st] ++ (b8 p.psk ++ (b8 p.rnd ++ (b8 p.peer ++ ([vp, vq, v0, v1, vt] ++ (b8 p.c0 ++ (b8 p.c1 ++ (b8 p.a0 ++ b8 p.a1)))))))
theorem shV_len {p : PS} (h : p.Ok) (vp vq v0 v1 vt : Value) : (shV p vp vq v0 v1 vt).length = 231 := by
  simp [shV, b8_len, h.psk, h.rnd, h.peer, h.c0, h.c1, h.a0, h.a1]
structure ShB (g : Nat) (w : World) (p : PS) (vp vq v0 v1 vt : Value) : Prop where
  blk : Blk w g 43 (shV p vp vq v0 v1 vt).toArray
  par : SlT w vp p.par
  pp : SlT w vq p.pp
  i0 : SlT w v0 p.i0
  i1 : SlT w v1 p.i1
  tr : SlT w vt p.tr
  ok : p.Ok
section
variable {g b : Nat} {w w' : World} {p : PS} {vp vq v0 v1 vt : Value}
theorem ShB.lt (h : ShB g w p vp vq v0 v1 vt) : g < w.heap.size := h.blk.lt
theorem ShB.below (h : ShB g w p vp vq v0 v1 vt) (hb : Below w.heap.size w w') : ShB g w' p vp vq v0 v1 vt :=
  ⟨h.blk.below hb h.lt, h.par.below hb, h.pp.below hb, h.i0.below hb, h.i1.below hb, h.tr.below hb, h.ok⟩
/-- another block is turned, not of bytes -/
theorem ShB.grown {t : TypeId} {cs : Array Value} (h : ShB g w p vp vq v0 v1 vt) (hg : w.grownBy w' (some b)) (hk : Blk w b t cs) (hne : b ≠ g) (h1 : t ≠ 5) : ShB g w' p vp vq v0 v1 vt :=
  ⟨h.blk.grown hg (by intro q; injection q with q; exact hne q.symm), h.par.grown2 hg (hk.notT h1), h.pp.grown2 hg (hk.notT h1), h.i0.grown2 hg (hk.notT h1), h.i1.grown2 hg (hk.notT h1), h.tr.grown2 hg (hk.notT h1), h.ok⟩
/-- the block itself is turned -/
theorem ShB.turn {p' : PS} {vp' vq' v0' v1' vt' : Value} (h : ShB g w p vp vq v0 v1 vt) (hg : w.grownBy w' (some g)) (hk : Blk w' g 43 (shV p' vp' vq' v0' v1' vt').toArray)
    (e1 : SlT w vp' p'.par) (e2 : SlT w vq' p'.pp) (e3 : SlT w v0' p'.i0) (e4 : SlT w v1' p'.i1) (e5 : SlT w vt' p'.tr) (ok : p'.Ok) : ShB g w' p' vp' vq' v0' v1' vt' := by
  have hn := h.blk.notT (e := 5) (by decide)
  exact ⟨hk, e1.grown2 hg hn, e2.grown2 hg hn, e3.grown2 hg hn, e4.grown2 hg hn, e5.grown2 hg hn, ok⟩
theorem ShB.c0 (h : ShB g w p vp vq v0 v1 vt) : w.cell? ⟨g, 0, none⟩ = some (.bool p.sv) := by
  rw [Blk.cell h.blk]; simp [shV]
theorem ShB.c1 (h : ShB g w p vp vq v0 v1 vt) : w.cell? ⟨g, 1, none⟩ = some (.int .u8 p.st) := by
  rw [Blk.cell h.blk]; simp [shV]
theorem ShB.c5 (h : ShB g w p vp vq v0 v1 vt) : w.cell? ⟨g, 98, none⟩ = some vp ∧ w.cell? ⟨g, 99, none⟩ = some vq ∧ w.cell? ⟨g, 100, none⟩ = some v0 ∧ w.cell? ⟨g, 101, none⟩ = some v1 ∧ w.cell? ⟨g, 102, none⟩ = some vt := by
  have k := h.ok
  refine ⟨?_, ?_, ?_, ?_, ?_⟩ <;> (rw [Blk.cell h.blk]; simp [shV, List.getElem?_append, b8_len, k.psk, k.rnd, k.peer])
theorem ShB.fz (h : ShB g w p vp vq v0 v1 vt) (i : Nat) : w.frozen? ⟨g, i, none⟩ = false := h.blk.frozen i
/-- an array of 32 bytes among the cells -/
theorem sh_ld {A C : List Value} {x : List Int} {o : Nat} (h : Blk w g 43 (A ++ (b8 x ++ C)).toArray) (ho : o = A.length) (hx : x.length = 32) : (Instr.loadAt 22 (.pointer (some ⟨g, o, none⟩))).run Try.prog w = .ok (.agg (cellsL .u8 x)) w :=
  blk_loadMid (P := Try.prog) h ho Try.underlying22 rfl (by rw [size32]; simp [hx])
theorem sh_rd {A C : List Value} {x : List Int} {o : Nat} (h : Blk w g 43 (A ++ (b8 x ++ C)).toArray) (ho : o = A.length) : Rd w.heap.size .u8 w (some ⟨g, o, none⟩) x := fun i hi => by
  refine ⟨_, rfl, h.lt, ?_⟩
  have h1 := blk_range h ho i (.int .u8 (x.getD i 0)) (by simp [b8, List.getD_eq_getElem?_getD, List.getElem?_eq_getElem hi])
  have e : (⟨g, o, none⟩ : Addr).add i = ⟨g, o + i, none⟩ := by unfold Addr.add; split <;> simp_all
  rw [e]; exact h1
theorem sh_st {A C : List Value} {x y : List Int} {o : Nat} (h : Blk w g 43 (A ++ (b8 x ++ C)).toArray) (ho : o = A.length) (hx : x.length = 32) (hy : y.length = 32) :
    ∃ w', (Instr.storeAt 22 (.pointer (some ⟨g, o, none⟩)) (.agg (cellsL .u8 y))).run Try.prog w = .ok () w' ∧ Blk w' g 43 (A ++ (b8 y ++ C)).toArray ∧ w.grownBy w' (some g) := by
  obtain ⟨w', h1, h2, h3⟩ := blk_storeMid (P := Try.prog) (ty := 22) (o := o) (vs := b8 y) h (by simp [b8_len, hx, hy]; omega) (b8_one y) (by rw [size32, b8_len, hy])
  rw [over_at ho (by rw [b8_len, b8_len, hx, hy])] at h2
  exact ⟨w', h1, h2, h3⟩
theorem sh_one {A C : List Value} {u v : Value} {o : Nat} (h : Blk w g 43 (A ++ (u :: C)).toArray) (ho : o = A.length) : Blk (w.setCell ⟨g, o, none⟩ v) g 43 (A ++ (v :: C)).toArray := by
  refine (Blk.set_ h o v).cast ?_
  subst ho
  simp
end
end Go.Proofs.Ythknncdhjicklaa
