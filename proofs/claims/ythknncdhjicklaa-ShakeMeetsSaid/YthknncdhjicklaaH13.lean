/- Layer 21: contracts of Begin, Start. Conditions: as each theorem states them. -/
import Derived.Test.YthknncdhjicklaaH12
namespace Go.Proofs.Ythknncdhjicklaa
open Go.RowKit
theorem fill_stepC {place : Nat → Option (Nat × Nat)} {cs vs : List Value} {i off size : Nat} {v : Value} (rest : List (Nat × Value)) (hv : v.cells = vs.toArray) (hp : place i = some (off, size)) (hl : vs.length = size) (hs : off + size ≤ cs.length) :
    Instr.fill place cs.toArray ((i, v) :: rest) = Instr.fill place (ovl cs off vs).toArray rest := by
  rw [← fill_step rest hp hl hs, Instr.fill, Instr.fill]
  simp only [hp, hv]
  rfl
/-- a handshake that has not begun -/
def PS.new (sv : Bool) (psk rnd par : List Int) : PS := ⟨sv, 0, psk, rnd, zer 32, par, [], [], [], [], zer 32, zer 32, zer 32, zer 32⟩
theorem zer_byt (n : Nat) : Byt (zer n) := fun x hx => by have := (List.mem_replicate.1 hx).2; omega
theorem PS.new_ok {sv : Bool} {psk rnd par : List Int} (h1 : psk.length = 32) (h2 : rnd.length = 32) (b1 : Byt psk) (b2 : Byt rnd) (b3 : Byt par) : (PS.new sv psk rnd par).Ok :=
  ⟨h1, h2, zer_len _, zer_len _, zer_len _, zer_len _, zer_len _, b1, b2, zer_byt _, b3, Byt.nil, Byt.nil, Byt.nil, Byt.nil, zer_byt _, zer_byt _, zer_byt _, zer_byt _⟩
theorem zer_ok : (PS.new false (zer 32) (zer 32) []).Ok := PS.new_ok (zer_len _) (zer_len _) (zer_byt _) (zer_byt _) Byt.nil
def shPlaces : Array (Nat × Nat) := #[(0, 1), (1, 1), (2, 32), (34, 32), (66, 32), (98, 1), (99, 1), (100, 2), (102, 1), (103, 64), (167, 64)]
def nilV : Value := .slice none 0 0
def shZ : List Value := shV (PS.new false (zer 32) (zer 32) []) nilV nilV nilV nilV nilV
theorem built41 (parts : List (Nat × Value)) : Try.prog.built 41 parts = Instr.fill (shPlaces[·]?) shZ.toArray parts := by kernel_rfl
theorem built43 (parts : List (Nat × Value)) : Try.prog.built 43 parts = Instr.fill ((#[(0, 231)] : Array (Nat × Nat))[·]?) shZ.toArray parts := by kernel_rfl
section
variable {p : PS} {vp vq v0 v1 vt : Value}
theorem ov_sv (s : Bool) : ovl (shV p vp vq v0 v1 vt) 0 [.bool s] = shV { p with sv := s } vp vq v0 v1 vt := by
  have e : shV p vp vq v0 v1 vt = [] ++ ([Value.bool p.sv] ++ (shV p vp vq v0 v1 vt).drop 1) := by simp [shV]
  rw [e, over_at (o := 0) (vs := [Value.bool s]) (by rfl) (by rfl)]; simp [shV]
theorem ov_psk {y : List Int} (h : p.psk.length = 32) (hy : y.length = 32) : ovl (shV p vp vq v0 v1 vt) 2 (b8 y) = shV { p with psk := y } vp vq v0 v1 vt := by
  have e : shV p vp vq v0 v1 vt = [Value.bool p.sv, Value.int .u8 p.st] ++ (b8 p.psk ++ (b8 p.rnd ++ (b8 p.peer ++ ([vp, vq, v0, v1, vt] ++ (b8 p.c0 ++ (b8 p.c1 ++ (b8 p.a0 ++ b8 p.a1))))))) := rfl
  rw [e, over_at (o := 2) (by rfl) (by rw [b8_len, b8_len, h, hy])]; rfl
theorem ov_rnd {y : List Int} (h1 : p.psk.length = 32) (h : p.rnd.length = 32) (hy : y.length = 32) : ovl (shV p vp vq v0 v1 vt) 34 (b8 y) = shV { p with rnd := y } vp vq v0 v1 vt := by
  have e : shV p vp vq v0 v1 vt = ([Value.bool p.sv, Value.int .u8 p.st] ++ b8 p.psk) ++ (b8 p.rnd ++ (b8 p.peer ++ ([vp, vq, v0, v1, vt] ++ (b8 p.c0 ++ (b8 p.c1 ++ (b8 p.a0 ++ b8 p.a1)))))) := by simp [shV]
  rw [e, over_at (by simp [b8_len, h1]) (by rw [b8_len, b8_len, h, hy])]; simp [shV]
theorem ov_par {v : Value} (h1 : p.psk.length = 32) (h2 : p.rnd.length = 32) (h3 : p.peer.length = 32) : ovl (shV p vp vq v0 v1 vt) 98 [v] = shV p v vq v0 v1 vt := by
  have e : shV p vp vq v0 v1 vt = ([Value.bool p.sv, Value.int .u8 p.st] ++ b8 p.psk ++ b8 p.rnd ++ b8 p.peer) ++ ([vp] ++ ([vq, v0, v1, vt] ++ (b8 p.c0 ++ (b8 p.c1 ++ (b8 p.a0 ++ b8 p.a1))))) := by simp [shV]
  rw [e, over_at (o := 98) (vs := [v]) (by simp [b8_len, h1, h2, h3]) (by rfl)]; simp [shV]
end
theorem cells_one {v : Value} (h : v.oneCell' = true) : v.cells = [v].toArray := by cases v <;> first | rfl | cases h
theorem built_sh {sv : Bool} {psk rnd par : List Int} {A : Option Addr} {n c : Nat} (h1 : psk.length = 32) (h2 : rnd.length = 32) (b1 : Byt psk) (b2 : Byt rnd) :
    Try.prog.built 41 [(0, .bool sv), (2, .agg (cellsL .u8 psk)), (3, .agg (cellsL .u8 rnd)), (5, .slice A n c)] = some (shV (PS.new sv psk rnd par) (.slice A n c) nilV nilV nilV nilV).toArray := by
  rw [built41]
  have L : ∀ (s : Bool) (a b : List Int) (v : Value), a.length = 32 → b.length = 32 → Byt a → Byt b → (shV (PS.new s a b []) v nilV nilV nilV nilV).length = 231 := fun s a b v ha hb h3 h4 => shV_len (PS.new_ok ha hb h3 h4 Byt.nil) _ _ _ _ _
  unfold shZ
  rw [fill_stepC (off := 0) (size := 1) (vs := [.bool sv]) _ rfl rfl rfl (by rw [L _ _ _ _ (zer_len _) (zer_len _) (zer_byt _) (zer_byt _)]; decide), ov_sv]
  rw [show (Value.agg (cellsL .u8 psk)) = .agg (b8 psk).toArray from rfl, show (Value.agg (cellsL .u8 rnd)) = .agg (b8 rnd).toArray from rfl]
  rw [fill_step (off := 2) (size := 32) _ rfl (by rw [b8_len, h1]) (by show _ ≤ (shV (PS.new sv (zer 32) (zer 32) []) _ _ _ _ _).length; rw [L _ _ _ _ (zer_len _) (zer_len _) (zer_byt _) (zer_byt _)]; decide), ov_psk (zer_len _) h1]
  rw [fill_step (off := 34) (size := 32) _ rfl (by rw [b8_len, h2]) (by show _ ≤ (shV (PS.new sv psk (zer 32) []) _ _ _ _ _).length; rw [L _ _ _ _ h1 (zer_len _) b1 (zer_byt _)]; decide), ov_rnd h1 (zer_len _) h2]
  rw [fill_stepC (off := 98) (size := 1) (vs := [.slice A n c]) _ rfl rfl rfl (by show _ ≤ (shV (PS.new sv psk rnd []) _ _ _ _ _).length; rw [L _ _ _ _ h1 h2 b1 b2]; decide), ov_par h1 h2 (zer_len _)]
  rfl
theorem built_sh2 {vs : List Value} (h : vs.length = 231) : Try.prog.built 43 [(0, .agg vs.toArray)] = some vs.toArray := by
  rw [built43, fill_step (off := 0) (size := 231) _ rfl h (by unfold shZ; rw [shV_len zer_ok]; decide), over_all (by rw [h]; unfold shZ; rw [shV_len zer_ok])]
  rfl
set_option maxRecDepth 100000 in
set_option maxHeartbeats 4000000 in
theorem begin_long (sv : Bool) (psk rnd : List Int) (A : Option Addr) (n c : Nat) (w : World) (hl : 1000 < n) (hn : n ≤ 1000000) :
    Calls Try.prog 5 #[.bool sv, .agg (cellsL .u8 psk), .agg (cellsL .u8 rnd), .slice A n c] w fun e w' => e = .returned (.tuple #[.pointer none, .int .i64 3]) ∧ Below w.heap.size w w' := by
  have B := Lib.hid (((Below.refl w.heap.size w).alloc (Nat.le_refl _) (.cells (cellsL .u8 psk) 22)).alloc (by simp) (.cells (cellsL .u8 rnd) 22))
  go_enter Try.func5, Try.ntmps5
  go_wp2_with fail
  exact bodyPost_ret (results_tmp2 rfl _ _ _) rfl ⟨rfl, B.out⟩
set_option maxRecDepth 100000 in
set_option maxHeartbeats 4000000 in
theorem sbegin_any (sv : Bool) (psk rnd : List Int) (A : Option Addr) (n c : Nat) (par : List Int) (w : World) (h1 : psk.length = 32) (h2 : rnd.length = 32) (b1 : Byt psk) (b2 : Byt rnd) (hr : Rd w.heap.size .u8 w A par) (hn : par.length = n) (b3 : Byt par) (hl : n ≤ 1000) :
    Calls Try.prog 5 #[.bool sv, .agg (cellsL .u8 psk), .agg (cellsL .u8 rnd), .slice A n c] w fun e w' => ∃ g vp, e = .returned (.tuple #[.pointer (some ⟨g, 0, none⟩), .int .i64 0]) ∧ ShB g w' (PS.new sv psk rnd par) vp nilV nilV nilV nilV ∧ w.heap.size ≤ g ∧ Below w.heap.size w w' := by
  have HB : Hid (∀ (A : Option Addr) (n c : Nat), Try.prog.built 41 [(0, .bool sv), (2, .agg (cellsL .u8 psk)), (3, .agg (cellsL .u8 rnd)), (5, .slice A n c)] = some (shV (PS.new sv psk rnd par) (.slice A n c) nilV nilV nilV nilV).toArray) := Lib.hid (fun A n c => built_sh h1 h2 b1 b2)
  have HPB := Lib.hid b3
  have HOK := Lib.hid (PS.new_ok (sv := sv) h1 h2 b1 b2 b3)
  have E2 := Lib.hid (((Below.refl w.heap.size w).alloc (Nat.le_refl _) (.cells (cellsL .u8 psk) 22)).alloc (by simp) (.cells (cellsL .u8 rnd) 22))
  have A1 : Hid (Arr ((w.alloc (.cells (cellsL .u8 psk) 22)).alloc (.cells (cellsL .u8 rnd) 22)) w.heap.size 22 .u8 psk) := Lib.hid ((Arr.newAt rfl rfl).alloc _)
  have A2 : Hid (Arr ((w.alloc (.cells (cellsL .u8 psk) 22)).alloc (.cells (cellsL .u8 rnd) 22)) (w.heap.size + 1) 22 .u8 rnd) := Lib.hid (Arr.newAt (by simp) rfl)
  have R2 := Lib.hid ((hr.below E2.out (Nat.le_refl _)).mono E2.out.size)
  have HN := Lib.hid hn
  have H12 := Lib.hid (And.intro h1 h2)
  clear h1 h2 b1 b2 b3 hr hn
  go_enter Try.func5, Try.ntmps5
  go_wp2_with fail
  generalize (w.alloc (.cells (cellsL .u8 psk) 22)).alloc (.cells (cellsL .u8 rnd) 22) = w2 at *
  refine wp_region_mix_below w2.heap.size [([0, 1, 2, 3], 4), ([5, 6], 7)] [8, 9] (by kernel_rfl) (by kernel_rfl) (by kernel_rfl) (by kernel_rfl) ?_
  simp only [pickL, List.map_cons, List.map_nil, List.filterMap_cons, List.filterMap_nil, List.getElem?_cons_succ, List.getElem?_cons_zero]
  refine mixS_cons ?_
  show wpQuiet _ _ _ _ (_ :: _) _
  go_big_quiet_step (fail)
  show wpQuiet _ _ _ _ (_ :: _) _
  refine wpQuiet_loadV (o := ⟨some 14, _, _, _, _, _⟩) rfl _ rfl rfl (fun w' hw' => by obtain ⟨r, rfl⟩ := hw'; exact arr_load (A1.out.belowAll r.below) Try.underlying22 size32 H12.out.1.symm) ?_
  simp only [Act.put, List.setIfInBounds_toArray, List.set_cons_zero, List.set_cons_succ]
  show wpQuiet _ _ _ _ (_ :: _) _
  refine wpQuiet_loadV (o := ⟨some 15, _, _, _, _, _⟩) rfl _ rfl rfl (fun w' hw' => by obtain ⟨r, rfl⟩ := hw'; exact arr_load (A2.out.belowAll r.below) Try.underlying22 size32 H12.out.2.symm) ?_
  simp only [Act.put, List.setIfInBounds_toArray, List.set_cons_zero, List.set_cons_succ]
  repeat (show wpQuiet _ _ _ _ (_ :: _) _; go_big_quiet_step (fail))
  refine wpQuiet_nil ?_
  show wpList _ _ _ [_] _ _
  go_wp2_with fail
  refine Calls.mono (clone_n A c n par _ (R2.out.below (Below.refl w2.heap.size w2).drew (Nat.le_refl _)) HN.out.symm (by omega)) ?_
  rintro e w3 ⟨A3, n3, c3, rfl, o3, b3⟩
  have B3 := Lib.hid ((Below.refl w2.heap.size w2).drew.trans b3)
  have O3 := Lib.hid o3
  clear b3 o3
  go_wp2_with fail
  refine MixQ.below B3.out ?_
  refine mixS_cons ?_
  show wpQuiet _ _ _ _ (_ :: _) _
  refine wpQuiet_buildV (o := ⟨some 18, _, _, _, _, _⟩) rfl _ rfl (HB.out _ _ _) ?_
  simp only [Act.put, List.setIfInBounds_toArray, List.set_cons_zero, List.set_cons_succ]
  show wpQuiet _ _ _ _ (_ :: _) _
  refine wpQuiet_buildV (o := ⟨some 19, _, _, _, _, _⟩) rfl _ rfl (built_sh2 (shV_len HOK.out _ _ _ _ _)) ?_
  simp only [Act.put, List.setIfInBounds_toArray, List.set_cons_zero, List.set_cons_succ]
  refine wpQuiet_nil ?_
  show wpList _ _ _ [_] _ _
  go_wp2_with fail
  refine MixQ.below (B3.out.alloc B3.out.size _) ?_
  refine mixS_nil ?_
  repeat (show wpQuiet _ _ _ _ (_ :: _) _; go_big_quiet_step (fail))
  refine wpQuiet_nil ?_
  refine NoPanic.normal ?_
  have B5 := Lib.hid (E2.out.trans ((B3.out.alloc B3.out.size (.cells (shV (PS.new sv psk rnd par) (.slice A3 n3 c3) nilV nilV nilV nilV).toArray 43)).mono E2.out.size))
  have HG : Hid (w.heap.size ≤ w3.heap.size) := Lib.hid (Nat.le_trans E2.out.size B3.out.size)
  clear A1 A2 R2 HB
  go_wp2_with fail
  have T := (SlT.own O3.out).below ((Below.refl w3.heap.size w3).alloc (Nat.le_refl _) (.cells (shV (PS.new sv psk rnd par) (.slice A3 n3 c3) nilV nilV nilV nilV).toArray 43))
  exact bodyPost_ret (results_tmp2 rfl _ _ _) rfl ⟨w3.heap.size, .slice A3 n3 c3, rfl, ⟨Blk.new _ _ _, T, SlT.nil _, SlT.nil _, SlT.nil _, SlT.nil _, HOK.out⟩, HG.out, B5.out⟩
/-- a client that has begun -/
def PS.start (p : PS) : PS := { p with tr := msgL 1 (p.rnd ++ p.par), st := 1 }
set_option maxRecDepth 100000 in
set_option maxHeartbeats 4000000 in
theorem start_any (g : Nat) (p : PS) (vp vq v0 v1 vt : Value) (w : World) (h : ShB g w p vp vq v0 v1 vt) (hs : p.sv = false) (h0 : p.st = 0) (hp : p.par.length ≤ 1000) :
    Calls Try.prog 8 #[.pointer (some ⟨g, 0, none⟩)] w fun e w' => ∃ A n c vt', e = .returned (.tuple #[.slice A n c, .int .i64 0]) ∧ SlT w' (.slice A n c) (msgL 1 (p.rnd ++ p.par)) ∧ ShB g w' p.start vp vq v0 v1 vt' ∧ w.grownBy w' (some g) := by
  obtain ⟨Ap, cp, hvp, hcp, hrp⟩ := h.par.form
  subst hvp
  have RP := Lib.hid hrp
  obtain ⟨kp, hkp⟩ : ∃ z, p.par.length = z := ⟨_, rfl⟩
  have HKP := Lib.hid hkp
  have H0 := Lib.hid h
  have HRN : Hid (p.rnd.length = 32 ∧ Byt p.rnd ∧ Byt p.par) := Lib.hid ⟨h.ok.rnd, h.ok.brnd, h.ok.bpar⟩
  rw [hkp] at hcp
  have q98 : ∀ r : BW w.heap.size w, r.world.cell? ⟨g, 98, none⟩ = some (.slice Ap kp cp) := fun r => by
    have := (H0.out.below r.below).c5.1
    rw [hkp] at this
    exact this
  have q0 := h.c0
  have q1 := h.c1
  rw [hs] at q0
  rw [h0] at q1
  have hk2 : kp ≤ 1000 := by omega
  clear h hrp hs h0 hkp hp
  go_enter Try.func8, Try.ntmps8
  go_wp2_with fail
  clear q0 q1
  have E1 : Below w.heap.size w (w.alloc (.cells #[.slice (some ⟨g, 34, none⟩) 32 32, .slice Ap kp cp] 23)).drew := ((Below.refl w.heap.size w).alloc (Nat.le_refl _) _).drew
  have H1 := Lib.hid (H0.out.below E1)
  have RP1 := Lib.hid ((RP.out.below E1 (Nat.le_refl _)).mono E1.size)
  have C1 : Hid ((w.alloc (.cells #[.slice (some ⟨g, 34, none⟩) 32 32, .slice Ap kp cp] 23)).drew.cell? ⟨w.heap.size, 0, none⟩ = some (.slice (some ⟨g, 34, none⟩) p.rnd.length 32) ∧ (w.alloc (.cells #[.slice (some ⟨g, 34, none⟩) 32 32, .slice Ap kp cp] 23)).drew.cell? ⟨w.heap.size, 1, none⟩ = some (.slice Ap p.par.length cp)) := Lib.hid ⟨by rw [HRN.out.1, Blk.cell (Blk.drew (Blk.new w _ _))]; rfl, by rw [HKP.out, Blk.cell (Blk.drew (Blk.new w _ _))]; rfl⟩
  have B1 := Lib.hid E1
  clear E1
  refine wp_region_mixOB w.heap.size [([0, 1, 2, 3, 4, 5, 6, 7, 8, 9, 10], 11), ([], 12), ([13, 14, 15], 16)] (by kernel_rfl) (by kernel_rfl) (by kernel_rfl) (by kernel_rfl) (by kernel_rfl) ?_
  try (rw [put_none])
  simp only [pickL, List.map_cons, List.map_nil, List.filterMap_cons, List.filterMap_nil, List.getElem?_cons_succ, List.getElem?_cons_zero]
  refine mixO_cons ?_
  repeat (show wpQuiet _ _ _ _ (_ :: _) _; go_big_quiet_step (fail))
  refine wpQuiet_nil ?_
  show wpList _ _ _ [_] _ _
  go_wp2_with fail
  clear q98
  generalize (w.alloc (.cells #[.slice (some ⟨g, 34, none⟩) 32 32, .slice Ap kp cp] 23)).drew = w1 at *
  refine MixO.narrowB B1.out B1.out.size ?_
  refine mixO_cons ?_
  repeat (show wpQuiet _ _ _ _ (_ :: _) _; go_big_quiet_step (fail))
  refine wpQuiet_nil ?_
  show wpList _ _ _ [_] _ _
  go_wp2_with fail
  refine Calls.mono (message_two 1 w.heap.size 2 ⟨some ⟨g, 34, none⟩, 32, p.rnd⟩ ⟨Ap, cp, p.par⟩ w1 (Nat.le_refl _) C1.out.1 C1.out.2 H1.out.rd_rnd RP1.out HRN.out.2.1 HRN.out.2.2 (by show p.rnd.length ≤ _; rw [HRN.out.1]; omega) (by show p.par.length ≤ _; rw [HKP.out]; omega)) ?_
  rintro e w2 ⟨A2, n2, c2, rfl, o2, b2⟩
  have HM : Hid ((msgL 1 (p.rnd ++ p.par)).length = n2 ∧ n2 ≤ 1036 ∧ Byt (msgL 1 (p.rnd ++ p.par))) := Lib.hid ⟨o2.len.symm, by rw [o2.len, msgL_len]; show (p.rnd ++ p.par).length + 4 ≤ _; rw [List.length_append, HRN.out.1, HKP.out]; omega, msgL_byt ⟨by omega, by omega⟩ (HRN.out.2.1.append HRN.out.2.2)⟩
  have T2 : Hid (SlT w2 (.slice A2 n2 c2) (msgL 1 (p.rnd ++ p.par))) := Lib.hid (SlT.own o2)
  have H2 := Lib.hid (H1.out.below b2)
  have B2 := Lib.hid b2
  have G2 := Lib.hid (grown_cat_ (only_of_below B1.out (some g)) (only_of_below b2 _))
  clear o2 b2 C1 RP1 H1 B1 RP
  go_wp2_with fail
  refine MixO.narrowB B2.out B2.out.size ?_
  refine mixO_cons ?_
  have q2 := H2.out.c5.2.2.2.2
  have f2 := H2.out.fz 102
  repeat (show wpQuiet _ _ _ _ (_ :: _) _; go_big_quiet_step (fail))
  refine wpQuiet_nil ?_
  show wpList _ _ _ [_] _ _
  go_wp2_with fail
  refine MixO.last ?_
  refine mixO_nil ?_
  refine wpQuiet_nil ?_
  refine NoPanic.normal ?_
  have H3 := Lib.hid (H2.out.set_tr T2.out HM.out.2.2)
  have g3 := grown_st (p := ⟨g, 102, none⟩) (v := .slice A2 n2 c2) (World.grownBy.refl w2 (some g)) rfl
  have G3 := Lib.hid (grown_cat_ G2.out g3)
  have T3 := Lib.hid (T2.out.turn H2.out g3)
  clear g3 q2 f2 H2 G2 T2 B2 H0
  generalize w2.setCell ⟨g, 102, none⟩ (.slice A2 n2 c2) = w3 at *
  have q1 := H3.out.c1
  have f1 := H3.out.fz 1
  have H4 : Hid (ShB g (w3.setCell ⟨g, 1, none⟩ (.int .u8 1)) p.start (.slice Ap p.par.length cp) vq v0 v1 (.slice A2 n2 c2)) := Lib.hid (H3.out.set_st 1)
  have g4 := grown_st (p := ⟨g, 1, none⟩) (v := .int .u8 1) (World.grownBy.refl w3 (some g)) rfl
  have G4 := Lib.hid (grown_cat_ G3.out g4)
  have T4 := Lib.hid (T3.out.turn H3.out g4)
  have q4 := H4.out.c5.2.2.2.2
  clear g4 H3 G3 T3
  go_wp2_with fail
  clear q1 f1 q4
  refine Calls.mono (clone_n A2 c2 n2 _ _ T4.out.mk.2.2 HM.out.1.symm (by have := HM.out.2.1; omega)) ?_
  rintro e w5 ⟨A5, n5, c5, rfl, o5, b5⟩
  have O5 := Lib.hid o5
  have H5 := Lib.hid (H4.out.below b5)
  have G5 := Lib.hid (grown_cat_ G4.out (only_of_below b5 _))
  clear o5 b5 H4 G4 T4
  go_wp2_with fail
  exact bodyPost_ret (results_tmp2 rfl _ _ _) rfl ⟨A5, n5, c5, _, rfl, SlT.own O5.out, H5.out, G5.out⟩
/-- calls that are refused -/
theorem start_nil (w : World) : Calls Try.prog 8 #[.pointer none] w fun e w' => e = .returned (.tuple #[.slice none 0 0, .int .i64 1]) ∧ w = w' := by
  go_enter Try.func8, Try.ntmps8
  go_wp2_with fail
  exact bodyPost_ret (results_tmp2 rfl _ _ _) rfl ⟨rfl, rfl⟩
theorem start_twice (g : Nat) (p : PS) (vp vq v0 v1 vt : Value) (w : World) (h : ShB g w p vp vq v0 v1 vt) (hs : p.sv = false) (h0 : p.st = 1) :
    Calls Try.prog 8 #[.pointer (some ⟨g, 0, none⟩)] w fun e w' => e = .returned (.tuple #[.slice none 0 0, .int .i64 6]) ∧ w = w' := by
  have q0 := h.c0
  have q1 := h.c1
  rw [hs] at q0
  rw [h0] at q1
  clear h hs h0
  go_enter Try.func8, Try.ntmps8
  go_wp2_with fail
  exact bodyPost_ret (results_tmp2 rfl _ _ _) rfl ⟨rfl, rfl⟩
end Go.Proofs.Ythknncdhjicklaa
