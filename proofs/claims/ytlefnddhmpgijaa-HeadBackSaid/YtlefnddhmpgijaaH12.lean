/- Contract: the law's own known (layer 3). Conditions: as each theorem states them. -/
import Derived.Test.YtlefnddhmpgijaaH11
import Derived.Test.YtlefnddhmpgijaaBZ
namespace Go.Proofs.Ytlefnddhmpgijaa
open Go.RowKit
theorem putA : HD.put ⟨0, [1, 2], [], [], false, 2, 4⟩ 1162 = [195, 0, 0, 0, 1, 2, 1, 2, 0, 0, 68, 142, 0, 0, 0, 2] := by decide
theorem putB : HD.put ⟨2, [5], [], [], true, 258, 1⟩ 9 = [68, 5, 2] := by decide
theorem strA : strOfNums [195, 0, 0, 0, 1, 2, 1, 2, 0, 0, 68, 142, 0, 0, 0, 2] = ⟨#[195, 0, 0, 0, 1, 2, 1, 2, 0, 0, 68, 142, 0, 0, 0, 2]⟩ := by kernel_rfl
theorem strB : strOfNums [68, 5, 2] = ⟨#[68, 5, 2]⟩ := by kernel_rfl
theorem spl1 : splitL ([65] ++ List.replicate 20 0) 1 = none := by kernel_rfl
theorem spl2 : splitL ([65] ++ List.replicate 20 0) 0 = some ⟨2, [], [], [], 1, 21⟩ := by kernel_rfl
theorem spl3 : splitL (List.replicate 31 0) 0 = none := by kernel_rfl
theorem spl4 : splitL ([211, 0, 0, 0, 1] ++ List.replicate 30 0) 0 = none := by kernel_rfl
theorem make31 (W : World) : (Instr.makeSlice 25 (.int .i64 31) (.int .i64 31)).run Try.prog W = .ok (.slice (some ⟨W.heap.size, 0, none⟩) 31 31) (W.alloc (.cells ((List.replicate 31 (0 : Int)).map (Value.int .u8)).toArray 5)) := by kernel_rfl
theorem byt_rep (n : Nat) : Byt (List.replicate n 0) := fun x hx => by rw [(List.mem_replicate.1 hx).2]; decide
theorem byt_short : Byt ([65] ++ List.replicate 20 0) := Byt.append (by intro x hx; simp at hx; omega) (byt_rep 20)
theorem byt_four : Byt ([211, 0, 0, 0, 1] ++ List.replicate 30 0) := Byt.append (by intro x hx; simp at hx; omega) (byt_rep 30)
def LA : List Int := [195, 0, 0, 0, 1, 2, 1, 2, 0, 0, 68, 142, 0, 0, 0, 2]
def LB2 : List Int := [68, 5, 2]
def LS : List Int := [65] ++ List.replicate 20 0
def L31 : List Int := List.replicate 31 0
def LF : List Int := [211, 0, 0, 0, 1] ++ List.replicate 30 0
theorem LA_str : strOfNums LA = ⟨#[195, 0, 0, 0, 1, 2, 1, 2, 0, 0, 68, 142, 0, 0, 0, 2]⟩ := strA
theorem LB_str : strOfNums LB2 = ⟨#[68, 5, 2]⟩ := strB
theorem LS_len : LS.length = 21 := rfl
theorem L31_len : L31.length = 31 := rfl
theorem LF_len : LF.length = 35 := rfl
theorem L31_make (W : World) : (Instr.makeSlice 25 (.int .i64 31) (.int .i64 31)).run Try.prog W = .ok (.slice (some ⟨W.heap.size, 0, none⟩) 31 31) (W.alloc (.cells (L31.map (Value.int .u8)).toArray 5)) := make31 W
attribute [irreducible] LA LB2 LS L31 LF
theorem split_len (A : Option Addr) (n c : Nat) (b : List Int) (own : Int) (w : World) (hr : Rd w.heap.size .u8 w A b) (hby : Byt b) (hn : n = b.length) (hc : n ≤ c) (hl : n ≤ 1000000000000) (ho0 : -9223372036854775808 ≤ own) (ho1 : own ≤ 9223372036854775807) :
    Calls Try.prog 27 #[.slice A n c, .int .i64 own] w (SplitPost b own w) := by
  subst hn; exact split_any A c b own w hr hby hc hl ho0 ho1

set_option maxRecDepth 100000 in
set_option maxHeartbeats 4000000 in
theorem known03_any (w : World) : Calls Try.prog 22 #[] w fun e w' => e = .returned (.bool true) ∧ Below w.heap.size w w' := by
  have e1 := Lib.hid (show HD.put ⟨0, [1, 2], [], [], false, 2, 4⟩ 1162 = LA by unfold LA; exact putA)
  have e2 := Lib.hid (show HD.put ⟨2, [5], [], [], true, 258, 1⟩ 9 = LB2 by unfold LB2; exact putB)
  have s1 := Lib.hid (show splitL LS 1 = none by unfold LS; exact spl1)
  have s2 := Lib.hid (show splitL LS 0 = some ⟨2, [], [], [], 1, 21⟩ by unfold LS; exact spl2)
  have s3 := Lib.hid (show splitL L31 0 = none by unfold L31; exact spl3)
  have s4 := Lib.hid (show splitL LF 0 = none by unfold LF; exact spl4)
  have y1 := Lib.hid (show Byt LS by unfold LS; exact byt_short)
  have y3 := Lib.hid (show Byt L31 by unfold L31; exact byt_rep 31)
  have y4 := Lib.hid (show Byt LF by unfold LF; exact byt_four)
  have x1 := Lib.hid (show [65] ++ List.replicate 20 (0 : Int) = LS by unfold LS; rfl)
  have x4 := Lib.hid (show [211, 0, 0, 0, 1] ++ List.replicate 30 (0 : Int) = LF by unfold LF; rfl)
  go_enter Try.func22, Try.ntmps22
  go_wp2_with fail
  refine (put_yes ⟨0, [1, 2], [], [], false, 2, 4⟩ (some ⟨w.heap.size, 0, none⟩) 2 none 0 none 0 1162 _ (by refine ⟨by decide, by decide, ?_, Byt.nil, Byt.nil, by decide, by decide⟩; intro x hx; simp at hx; omega) (by decide) (by omega) (by omega) ((Rd.newAt rfl rfl).mono (by simp)) Rd.nil Rd.nil (by simp)).mono ?_
  rintro e w1 ⟨A1, n1, c1, rfl, ho1, hb1⟩
  rw [e1.out] at ho1
  have O1 := Lib.hid (ho1.mono (show w.heap.size ≤ _ by simp))
  have B1 := Lib.hid (((Below.refl w.heap.size w).alloc (Nat.le_refl _) _).trans (hb1.mono (by simp)))
  clear ho1 hb1
  have hz1 := B1.out.size
  go_wp2_with fail
  refine (put_yes ⟨2, [5], [], [], true, 258, 1⟩ (some ⟨w1.heap.size, 0, none⟩) 1 none 0 none 0 9 _ (by refine ⟨by decide, by decide, ?_, Byt.nil, Byt.nil, by decide, by decide⟩; intro x hx; simp at hx; omega) (by decide) (by omega) (by omega) ((Rd.newAt rfl rfl).mono (by simp)) Rd.nil Rd.nil (by simp)).mono ?_
  rintro e w2 ⟨A2, n2, c2, rfl, ho2, hb2⟩
  rw [e2.out] at ho2
  have O2 := Lib.hid (ho2.mono (show w.heap.size ≤ _ by simp; omega))
  replace O1 := Lib.hid ((O1.out.alloc _).below hb2)
  have B2 := Lib.hid ((B1.out.alloc hz1 _).trans (hb2.mono (by simp; omega)))
  clear ho2 hb2
  have hz2 := B2.out.size
  have cv1 := conv_own elU8 Try.underlying9 O1.out
  have cv2 := conv_own elU8 Try.underlying9 O2.out
  rw [LA_str] at cv1
  rw [LB_str] at cv2
  go_wp2_with (at_builtin; refine wpList_appz (o := ⟨some 47, _, _, _, _, _⟩) (B := w.heap.size) elU8 Try.underlying3 rfl _ _ rfl rfl rfl (Own.litAt (xs := [65]) rfl rfl rfl (by omega) (by simp [maxLen])) (by decide : 0 < 20) ?_ ?_ ?_; (simp); (simp; omega); intro A3 n3 c3 w3 h3; have H3 := Lib.hid h3.1; have B3 := Lib.hid ((B2.out.alloc hz2 _).trans h3.2.2.1); clear h3 cv1 cv2)
  rw [x1.out] at H3
  have hz3 := B3.out.size
  have l3 := H3.out.len
  have k3 := H3.out.cap.1
  rw [LS_len] at l3
  subst l3
  refine (split_len A3 21 c3 LS 1 w3 H3.out.rd y1.out LS_len.symm k3 (by decide) (by decide) (by decide)).mono ?_
  rintro e w4 hp
  obtain ⟨rfl, hb4⟩ := hp.2 s1.out
  have H4 := Lib.hid (H3.out.below hb4)
  have B4 := Lib.hid (B3.out.trans (hb4.mono hz3))
  clear hb4 hp
  have hz4 := B4.out.size
  have R4 := Lib.hid H4.out.rd
  go_wp2_with fail
  refine (split_len A3 21 c3 LS 0 _ (by refine Rd.mono (B := w4.heap.size) ?_ (by simp); (repeat (first | with_reducible exact R4.out | with_reducible refine Rd.alloc ?_ (by simp) _ | with_reducible refine Rd.setCell ?_ (by simp) _))) y1.out LS_len.symm k3 (by decide) (by decide) (by decide)).mono ?_
  rintro e w5 hp
  obtain ⟨vd, vs, vt, vb, vr, rfl, sd, ss, st, sb, sr, hb5⟩ := hp.1 _ s2.out
  have B5 : Hid (Below w.heap.size w w5) := Lib.hid (Below.trans (by (repeat (first | with_reducible exact B4.out | with_reducible refine Below.alloc ?_ (by first | omega | (simp <;> omega)) _ | with_reducible refine Below.setCell ?_ (by first | (simp; done) | (simp <;> omega)) _))) (hb5.mono (by simp <;> omega)))
  obtain ⟨Ad, nd, cd, rfl, hnd, _, _⟩ := sd
  obtain rfl : nd = 0 := by rw [hnd]; rfl
  obtain ⟨As, ns, cs, rfl, hns, _, _⟩ := ss
  obtain rfl : ns = 0 := by rw [hns]; rfl
  obtain ⟨At, nt, ct, rfl, hnt, _, _⟩ := st
  obtain rfl : nt = 0 := by rw [hnt]; rfl
  obtain ⟨Ab, nb, cb, rfl, hnb, _, _⟩ := sb
  obtain ⟨Ar, nr, cr, rfl, hnr, _, _⟩ := sr
  obtain rfl : nb = 21 := by rw [hnb, List.length_take, LS_len]; rfl
  obtain rfl : nr = 0 := by rw [hnr, List.length_drop, LS_len]; rfl
  clear hp hb5 hnb hnr hnd hns hnt R4 H4
  have hz5 := B5.out.size
  have mk := L31_make
  go_wp2_with fail
  clear mk
  refine (split_len (some ⟨w5.heap.size + 1, 0, none⟩) 31 31 L31 0 _ ((Rd.newAt (xs := L31) (by simp) rfl).mono (by simp)) y3.out L31_len.symm (by decide) (by decide) (by decide) (by decide)).mono ?_
  rintro e w6 hp
  obtain ⟨rfl, hb6⟩ := hp.2 s3.out
  have B6 : Hid (Below w.heap.size w w6) := Lib.hid (Below.trans (by (repeat (first | with_reducible exact B5.out | with_reducible refine Below.alloc ?_ (by first | omega | (simp <;> omega)) _ | with_reducible refine Below.setCell ?_ (by first | (simp; done) | (simp <;> omega)) _))) (hb6.mono (by simp <;> omega)))
  have P6 : Hid (Blk w6 w5.heap.size 67 #[.int .u8 2, .slice Ad 0 cd, .slice As 0 cs, .slice At 0 ct, .int .i64 1, .slice Ab 21 cb]) := Lib.hid (Blk.below (by apply Blk.cast; (repeat (first | with_reducible exact Blk.new _ _ _ | with_reducible apply Blk.set_ | with_reducible apply Blk.alloc)); (simp)) hb6 (by simp <;> omega))
  clear hp hb6
  have hz6 := B6.out.size
  have hzp6 := Blk.lt P6.out
  go_wp2_with (at_builtin; refine wpList_appz (o := ⟨some 68, _, _, _, _, _⟩) (B := w.heap.size) elU8 Try.underlying3 rfl _ _ rfl rfl rfl (Own.litAt (xs := [211, 0, 0, 0, 1]) (by simp) rfl rfl (by omega) (by simp [maxLen])) (by decide : 0 < 30) ?_ ?_ ?_; (simp); (simp; omega); intro A7 n7 c7 w7 h7; have H7 := Lib.hid h7.1; have B7 : Hid (Below w.heap.size w w7) := Lib.hid (Below.trans (by (repeat (first | with_reducible exact B6.out | with_reducible refine Below.alloc ?_ (by first | omega | (simp <;> omega)) _ | with_reducible refine Below.setCell ?_ (by first | (simp; done) | (simp <;> omega)) _))) h7.2.2.1); have P7 : Hid (Blk w7 w5.heap.size 67 #[.int .u8 2, .slice Ad 0 cd, .slice As 0 cs, .slice At 0 ct, .int .i64 1, .slice Ab 21 cb]) := Lib.hid (Blk.grown (by (repeat (first | with_reducible exact P6.out | with_reducible apply Blk.alloc | with_reducible refine Blk.far ?_ (by simp; omega) _))) h7.2.1 (by simp [ablk] <;> omega)); clear h7)
  rw [x4.out] at H7
  have hz7 := B7.out.size
  have l7 := H7.out.len
  have k7 := H7.out.cap.1
  rw [LF_len] at l7
  subst l7
  refine (split_len A7 35 c7 LF 0 w7 H7.out.rd y4.out LF_len.symm k7 (by decide) (by decide) (by decide)).mono ?_
  rintro e w8 hp
  obtain ⟨rfl, hb8⟩ := hp.2 s4.out
  have B8 : Hid (Below w.heap.size w w8) := Lib.hid (B7.out.trans (hb8.mono hz7))
  have P8 := Lib.hid (Blk.below P7.out hb8 (Blk.lt P7.out))
  have q0 := Blk.cell P8.out 0
  have q4 := Blk.cell P8.out 4
  have q5 := Blk.cell P8.out 5
  simp only [List.getElem?_toArray, List.getElem?_cons_succ, List.getElem?_cons_zero] at q0 q4 q5
  clear hp hb8
  have hz8 := B8.out.size
  have hzp8 := Blk.lt P8.out
  go_wp2_with (go_at_call 28; refine (bits_any _ _).mono ?_; rintro e w9 ⟨rfl, rfl⟩; unfold bitsV)
  go_ret
  exact ⟨rfl, (by (repeat (first | with_reducible exact B8.out | with_reducible refine Below.alloc ?_ (by first | omega | (simp <;> omega)) _ | with_reducible refine Below.setCell ?_ (by first | (simp; done) | (simp <;> omega)) _)))⟩
end Go.Proofs.Ytlefnddhmpgijaa
