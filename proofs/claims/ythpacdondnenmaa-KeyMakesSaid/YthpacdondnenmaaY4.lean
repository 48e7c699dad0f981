/- Contracts: key.salt, key.Initial, key.Token. Conditions: as each theorem states them. -/
import Derived.Test.YthpacdondnenmaaY3
namespace Go.Proofs.Ythpacdondnenmaa
open Go.RowKit
def saltL : List Int := [56, 118, 44, 247, 245, 89, 52, 179, 77, 23, 154, 230, 164, 200, 12, 173, 204, 187, 127, 10]
theorem saltL_byt : Byt saltL := by intro x hx; simp [saltL] at hx; omega
def sCl : ByteArray := ⟨#[99, 108, 105, 101, 110, 116, 32, 105, 110]⟩
def sSe : ByteArray := ⟨#[115, 101, 114, 118, 101, 114, 32, 105, 110]⟩
theorem salt_any (w : World) : Calls Try.prog 46 #[] w (RetOwn 5 .u8 saltL w) := by
  go_enter Try.func46, Try.ntmps46
  go_wp2_with fail
  go_ret
  exact ⟨_, _, _, rfl, Own.litAt rfl rfl rfl (Nat.le_refl _) (by decide), (Below.refl _ _).alloc (Nat.le_refl _) _⟩
theorem results_row2 {fn : Func} {p q : Tmp} {ty tz : TypeId} {g g' : Nat} {a b : Value} (h : fn.results = #[.cell p ty, .cell q tz]) (tmps : Array Value) (w : World) (hp : tmps.getD p undef = .pointer (some ⟨g, 0, none⟩)) (hq : tmps.getD q undef = .pointer (some ⟨g', 0, none⟩))
    (h1 : (Instr.loadAt ty (.pointer (some ⟨g, 0, none⟩))).run Try.prog w = .ok a w) (h2 : (Instr.loadAt tz (.pointer (some ⟨g', 0, none⟩))).run Try.prog w = .ok b w) : (results fn tmps).run Try.prog w = .ok (.tuple #[a, b]) w := by
  have hp' : tmps[p]?.getD undef = .pointer (some ⟨g, 0, none⟩) := by simpa using hp
  have hq' : tmps[q]?.getD undef = .pointer (some ⟨g', 0, none⟩) := by simpa using hq
  simp only [Instr.loadAt, Instr.sureAddr, Sem.run_bind, Sem.run_pure, Result.andThen_ok] at h1 h2
  simp [results, h, hp', hq', asAddr, h1, h2]
theorem ret_row2 {fn : Func} {R : Ending → World → Prop} {c : Act} {w : World} {p q : Tmp} {ty tz : TypeId} {g g' : Nat} {a b : Value} (hf : fn.results = #[.cell p ty, .cell q tz]) (hp : c.tmps.getD p undef = .pointer (some ⟨g, 0, none⟩)) (hq : c.tmps.getD q undef = .pointer (some ⟨g', 0, none⟩))
    (h1 : (Instr.loadAt ty (.pointer (some ⟨g, 0, none⟩))).run Try.prog w = .ok a w) (h2 : (Instr.loadAt tz (.pointer (some ⟨g', 0, none⟩))).run Try.prog w = .ok b w) (hd : c.defers = []) (hR : R (.returned (.tuple #[a, b])) w) : bodyPost Try.prog fn R .ret c w :=
  bodyPost_ret (results_row2 hf c.tmps w hp hq h1 h2) hd hR
def iniV (C : List Int) (s : ByteArray) : Value := ofV (kSec (macL saltL C) s)
theorem secret_cl (S : List Int) (w : World) (hS : S.length = 32) (hSb : Byt S) : Calls Try.prog 40 #[.agg (cellsL .u8 S), .string ⟨#[99, 108, 105, 101, 110, 116, 32, 105, 110]⟩] w (RetV (.agg (cellsL .u8 (kSec S sCl))) w) := secret_any S sCl w hS hSb (by decide)
theorem secret_se (S : List Int) (w : World) (hS : S.length = 32) (hSb : Byt S) : Calls Try.prog 40 #[.agg (cellsL .u8 S), .string ⟨#[115, 101, 114, 118, 101, 114, 32, 105, 110]⟩] w (RetV (.agg (cellsL .u8 (kSec S sSe))) w) := secret_any S sSe w hS hSb (by decide)
set_option maxRecDepth 100000 in
set_option maxHeartbeats 8000000 in
theorem initial_any {m : Nat} (A : Option Addr) (c : Nat) (C : List Int) (w : World) (hm : C.length = m) (hr : Rd w.heap.size .u8 w A C) (hb : Byt C) (hcap : C.length ≤ c) (hl : C.length ≤ 1000000000) :
    Calls Try.prog 18 #[.slice A m c] w (RetV (.tuple #[iniV C sCl, iniV C sSe]) w) := by
  have HR := Lib.hid hr
  have HBY := Lib.hid hb
  have HM := Lib.hid hm
  have HZ := Lib.hid zeroKeys
  clear hr hb hm
  go_enter Try.func18, Try.ntmps18
  go_wp2_with fail
  refine Calls.mono (salt_any _) ?_
  rintro e w3 ⟨A3, n3, c3, rfl, ho3, hb3⟩
  have B3 : Hid (Below w.heap.size w w3) := Lib.hid ((((Below.refl _ _).alloc (Nat.le_refl _) _).alloc (by simp) _).trans (hb3.mono (by simp <;> omega)))
  have Z3 : Hid (Blk w3 (w.heap.size + 1) 27 Try.zeroCells27) := Lib.hid (blk_below_new hb3 (by simp) (by simp))
  have Y3 : Hid (Blk w3 w.heap.size 27 Try.zeroCells27) := Lib.hid (((Blk.new _ _ _).alloc _).below hb3 (by simp <;> omega))
  have O3 := Lib.hid ho3.rd
  have N3 := Lib.hid ho3.len
  have hc3 := ho3.cap
  have R3 := Lib.hid ((HR.out.below B3.out (Nat.le_refl _)).mono B3.out.size)
  clear ho3 hb3
  go_wp2_with fail
  refine Calls.mono (extract_at A3 c3 saltL A c C _ N3.out.symm HM.out O3.out saltL_byt (by rw [← N3.out]; exact hc3.1) (by decide) R3.out HBY.out hcap hl) ?_
  rintro e w4 ⟨rfl, hb4⟩
  have B4 := Lib.hid hb4
  have Z4 := Lib.hid (Blk.below Z3.out hb4 (Blk.lt Z3.out))
  have Y4 := Lib.hid (Blk.below Y3.out hb4 (Blk.lt Y3.out))
  have HX := Lib.hid (macL_len saltL C)
  have HXB := Lib.hid (macL_byt saltL C)
  have HV1 : Hid (iniV C sCl = ofV (kSec (macL saltL C) sCl)) := Lib.hid rfl
  have HV2 : Hid (iniV C sSe = ofV (kSec (macL saltL C) sSe)) := Lib.hid rfl
  clear hb4
  generalize macL saltL C = X at *
  generalize iniV C sCl = V1 at *
  generalize iniV C sSe = V2 at *
  go_wp2_with ((with_reducible (show wpList _ _ _ (⟨none, .store 22 _ _, _, _, _, _⟩ :: _) _ _)); refine wpList_storeArr (o := ⟨none, .store 22 _ _, _, _, _, _⟩) (g := w4.heap.size) (t := 22) (k := .u8) (xs := X) (n := 32) rfl _ _ rfl rfl rfl (Blk.new _ _ _) size32 (HX.out.symm) rfl ?_; intro w5 ha5 hg5; have HA5 := Lib.hid ha5; have HG5 := Lib.hid hg5; clear ha5 hg5)
  have B5 : Hid (Below w4.heap.size w4 w5) := Lib.hid (((Below.refl _ _).alloc (Nat.le_refl _) _).trans (below_of_only HG5.out (Nat.le_refl _) (by simp)))
  have Z5 := Lib.hid (Blk.below Z4.out B5.out (Blk.lt Z4.out))
  have Y5 := Lib.hid (Blk.below Y4.out B5.out (Blk.lt Y4.out))
  have hgz : w.heap.size + 1 < w4.heap.size := Blk.lt Z4.out
  have B05 := Lib.hid ((B3.out.trans (B4.out.mono B3.out.size)).trans (B5.out.mono (Nat.le_of_lt (Nat.lt_of_succ_lt hgz))))
  have hg5 : w4.heap.size < w5.heap.size := HA5.out.lt
  clear HG5 B5 Z4 Y4 B4 B3 Z3 Y3 O3 N3 hc3 R3
  generalize w4.heap.size = g at *
  refine wp_region_mixO (fun w' => Arr w' g 22 .u8 X) [([0, 3], 1), ([], 2), ([], 4), ([], 5), ([], 6), ([], 7)] (by kernel_rfl) (by kernel_rfl) (by kernel_rfl) (by kernel_rfl) (by kernel_rfl) HA5.out ?_
  try (rw [put_none])
  simp only [pickL, List.map_cons, List.map_nil, List.filterMap_cons, List.filterMap_nil, List.getElem?_cons_succ, List.getElem?_cons_zero]
  refine mixO_cons ?_
  show wpQuiet _ _ _ _ (_ :: _) _
  refine wpQuiet_loadV (o := ⟨some 8, _, _, _, _, _⟩) rfl _ rfl rfl (fun w' hw' => arr_load hw' Try.underlying22 size32 HX.out.symm) ?_
  simp only [Act.put, List.setIfInBounds_toArray, List.set_cons_zero, List.set_cons_succ]
  show wpQuiet _ _ _ _ (_ :: _) _
  refine wpQuiet_loadV (o := ⟨some 11, _, _, _, _, _⟩) rfl _ rfl rfl (fun w' hw' => arr_load hw' Try.underlying22 size32 HX.out.symm) ?_
  simp only [Act.put, List.setIfInBounds_toArray, List.set_cons_zero, List.set_cons_succ]
  refine wpQuiet_nil ?_
  show wpList _ _ _ [_] _ _
  go_wp2_with fail
  refine Calls.mono (secret_cl X _ HX.out HXB.out) ?_
  rintro e w6 ⟨rfl, hb6⟩
  have B6 := Lib.hid (((Below.refl w5.heap.size w5).drew).trans hb6)
  have A6 := Lib.hid (Arr.belowAll HA5.out B6.out)
  clear hb6
  go_wp2_with fail
  refine MixO.narrow (fun _ h => h) (A6.out) ?_
  refine mixO_cons ?_
  refine wpQuiet_nil ?_
  show wpList _ _ _ [_] _ _
  go_wp2_with fail
  refine Calls.mono (of_any (kSec X sCl) _ (kSec_len X (by decide)) (kSec_byt _ _)) ?_
  rintro e w7 ⟨rfl, hb7⟩
  have B7 := Lib.hid (B6.out.trans (hb7.mono B6.out.size))
  have A7 := Lib.hid (Arr.belowAll A6.out hb7)
  clear hb7
  go_wp2_with fail
  refine MixO.narrow (fun _ h => h) (A7.out) ?_
  refine mixO_cons ?_
  refine wpQuiet_nil ?_
  show wpList _ _ _ [_] _ _
  go_wp2_with fail
  refine Calls.mono (secret_se X _ HX.out HXB.out) ?_
  rintro e w8 ⟨rfl, hb8⟩
  have B8 := Lib.hid (B7.out.trans (hb8.mono B7.out.size))
  have A8 := Lib.hid (Arr.belowAll A7.out hb8)
  clear hb8
  go_wp2_with fail
  refine MixO.narrow (fun _ h => h) (A8.out) ?_
  refine mixO_cons ?_
  refine wpQuiet_nil ?_
  show wpList _ _ _ [_] _ _
  go_wp2_with fail
  refine Calls.mono (of_any (kSec X sSe) _ (kSec_len X (by decide)) (kSec_byt _ _)) ?_
  rintro e w9 ⟨rfl, hb9⟩
  have B9 := Lib.hid (B8.out.trans (hb9.mono B8.out.size))
  have A9 := Lib.hid (Arr.belowAll A8.out hb9)
  clear hb9
  rw [← HV1.out, ← HV2.out]
  have Z9 := Lib.hid (Blk.below Z5.out B9.out (Blk.lt Z5.out))
  have Y9 := Lib.hid (Blk.below Y5.out B9.out (Blk.lt Y5.out))
  have K1 := Lib.hid (ofOk (kSec_len X (s := sCl) (by decide)) (kSec_byt X sCl))
  have K2 := Lib.hid (ofOk (kSec_len X (s := sSe) (by decide)) (kSec_byt X sSe))
  obtain ⟨w10, hs10, hk10, hg10⟩ := ky_store (p := 0) K1.out Y9.out HZ.out
  have S10 : Hid ((Instr.storeAt 27 (.pointer (some ⟨w.heap.size, 0, none⟩)) V1).run Try.prog w9 = .ok () w10) := Lib.hid (by rw [HV1.out]; exact hs10)
  have A10 := Lib.hid (A9.out.grown hg10 (by simp; omega))
  have Z10 := Lib.hid (Blk.grown Z9.out hg10 (by simp))
  have B10 : Hid (Below w.heap.size w w10) := Lib.hid ((B05.out.trans (B9.out.mono B05.out.size)).trans (below_of_only hg10 (Nat.le_refl _) (Nat.le_of_lt (Blk.lt Y9.out))))
  obtain ⟨w11, hs11, hk11, hg11⟩ := ky_store (p := 0) K2.out Z10.out HZ.out
  have S11 : Hid ((Instr.storeAt 27 (.pointer (some ⟨w.heap.size + 1, 0, none⟩)) V2).run Try.prog w10 = .ok () w11) := Lib.hid (by rw [HV2.out]; exact hs11)
  have hl1 := ky_load K1.out (Blk.grown hk10 hg11 (by simp))
  have hl2 := ky_load K2.out hk11
  have L1 : Hid ((Instr.loadAt 27 (.pointer (some ⟨w.heap.size, 0, none⟩))).run Try.prog w11 = .ok V1 w11) := Lib.hid (by rw [HV1.out]; exact hl1)
  have L2 : Hid ((Instr.loadAt 27 (.pointer (some ⟨w.heap.size + 1, 0, none⟩))).run Try.prog w11 = .ok V2 w11) := Lib.hid (by rw [HV2.out]; exact hl2)
  have B11 := Lib.hid (B10.out.trans (below_of_only hg11 (Nat.le_succ _) B10.out.size))
  clear hs10 hk10 hg10 hs11 hk11 hg11 hl1 hl2
  go_wp2_with fail
  refine MixO.narrow (fun _ h => h) (A9.out) ?_
  refine mixO_cons ?_
  refine wpQuiet_nil ?_
  show wpList _ _ _ [_] _ _
  go_wp2_with ((with_reducible (show wpList _ _ _ (⟨none, .store 27 _ _, _, _, _, _⟩ :: _) _ _)); refine wpList_storeV (o := ⟨none, .store 27 _ _, _, _, _, _⟩) rfl _ _ rfl rfl rfl (S10.out) ?_)
  refine MixO.narrow (fun _ h => h) (A10.out) ?_
  refine mixO_cons ?_
  refine wpQuiet_nil ?_
  show wpList _ _ _ [_] _ _
  go_wp2_with ((with_reducible (show wpList _ _ _ (⟨none, .store 27 _ _, _, _, _, _⟩ :: _) _ _)); refine wpList_storeV (o := ⟨none, .store 27 _ _, _, _, _, _⟩) rfl _ _ rfl rfl rfl (S11.out) ?_)
  refine MixO.last ?_
  refine mixO_nil ?_
  refine wpQuiet_nil ?_
  refine NoPanic.normal ?_
  go_wp2_with fail
  exact ret_row2 rfl rfl rfl L1.out L2.out rfl ⟨rfl, B11.out⟩
end Go.Proofs.Ythpacdondnenmaa
