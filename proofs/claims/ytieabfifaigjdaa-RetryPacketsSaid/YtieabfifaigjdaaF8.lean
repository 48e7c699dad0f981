/- Layer 33: contract of Make. Conditions: as each theorem states them. -/
import Derived.Test.YtieabfifaigjdaaF7
namespace Go.Proofs.Ytieabfifaigjdaa
open Go.RowKit
theorem make_nil (addr now : Int) (A : Option Addr) (n c : Nat) (w : World) :
    Calls Try.prog 14 #[.pointer none, .int .u32 addr, .slice A n c, .int .u64 now] w fun e w' => e = .returned (.tuple #[.slice none 0 0, .int .i64 1]) ∧ w = w' := by
  go_enter Try.func14, Try.ntmps14
  go_wp2_with fail
  go_ret2
  exact ⟨rfl, rfl⟩
theorem make_long (g : Nat) (addr now : Int) (A : Option Addr) (n c : Nat) (w : World) (h : 20 < n) :
    Calls Try.prog 14 #[.pointer (some ⟨g, 0, none⟩), .int .u32 addr, .slice A n c, .int .u64 now] w fun e w' => e = .returned (.tuple #[.slice none 0 0, .int .i64 2]) ∧ w = w' := by
  have h' : (20 : Int) < (n : Int) := by omega
  go_enter Try.func14, Try.ntmps14
  go_wp2_with fail
  go_ret2
  exact ⟨rfl, rfl⟩
attribute [local irreducible] macR tokB
set_option maxRecDepth 100000 in
set_option maxHeartbeats 4000000 in
theorem make_any_ (g : Nat) (sec : List Int) (life addr now : Int) (A : Option Addr) (n c : Nat) (orig : List Int) (w : World) (hk : Kp w g sec life) (hs : sec.length = 32) (hsb : Byt sec) (hn : orig.length = n) (hr : Rd w.heap.size .u8 w A orig) (hb : Byt orig) (hl : n ≤ 20) (hc : n ≤ c)
    (a0 : 0 ≤ addr) (a1 : addr < 4294967296) (t0 : 0 ≤ now) (t1 : now < 18446744073709551616) :
    Calls Try.prog 14 #[.pointer (some ⟨g, 0, none⟩), .int .u32 addr, .slice A n c, .int .u64 now] w (RetOwn2 5 .u8 (tknL sec addr now orig) (.int .i64 0) w) := by
  have HK := Lib.hid hk
  have HS := Lib.hid hs
  have HSB := Lib.hid hsb
  have HN := Lib.hid hn
  have HR := Lib.hid hr
  have HB := Lib.hid hb
  have h20 : decide ((20 : Int) < (n : Int)) = false := decide_eq_false (by omega)
  have hg : g < w.heap.size := Blk.lt hk
  clear hk hs hsb hn hr hb
  go_enter Try.func14, Try.ntmps14
  go_wp2_with fail
  clear h20
  refine Calls.mono (be_any addr 4 w a0 (by omega) (by decide)) ?_
  rintro e w1 ⟨A1, n1, c1, rfl, o1, b1⟩
  have O1 := Lib.hid o1
  have N1 := Lib.hid (show n1 = 4 by rw [o1.len, beL_len])
  have B1 := Lib.hid b1
  clear o1 b1
  go_wp2_with fail
  refine Calls.mono (be_any now 8 w1 t0 t1 (by decide)) ?_
  rintro e w2 ⟨A2, n2, c2, rfl, o2, b2⟩
  have O2 := Lib.hid o2
  have N2 := Lib.hid (show n2 = 8 by rw [o2.len, beL_len])
  have O1' := Lib.hid (O1.out.below b2)
  have B2 := Lib.hid (B1.out.trans (b2.mono B1.out.size))
  clear o2 b2 O1 B1
  have BW : Hid (Below w2.heap.size w2 ((w2.alloc (.cells #[.int .u8 n] 5)).alloc (.cells #[.slice A1 n1 c1, .slice A2 n2 c2, .slice (some ⟨w2.heap.size, 0, none⟩) 1 1, .slice A n c] 22))) := Lib.hid (((Below.refl w2.heap.size w2).alloc (Nat.le_refl _) _).alloc (by simp) _)
  have R3 : Hid (Rd ((w2.alloc (.cells #[.int .u8 n] 5)).alloc (.cells #[.slice A1 n1 c1, .slice A2 n2 c2, .slice (some ⟨w2.heap.size, 0, none⟩) 1 1, .slice A n c] 22)).heap.size .u8 ((w2.alloc (.cells #[.int .u8 n] 5)).alloc (.cells #[.slice A1 n1 c1, .slice A2 n2 c2, .slice (some ⟨w2.heap.size, 0, none⟩) 1 1, .slice A n c] 22)) (some ⟨w2.heap.size, 0, none⟩) [(n : Int)]) := Lib.hid (((Rd.newAt (xs := [(n : Int)]) rfl rfl).alloc (by simp) _).mono (by simp))
  have K3 : Hid (Blk ((w2.alloc (.cells #[.int .u8 n] 5)).alloc (.cells #[.slice A1 n1 c1, .slice A2 n2 c2, .slice (some ⟨w2.heap.size, 0, none⟩) 1 1, .slice A n c] 22)) (w2.heap.size + 1) 22 #[.slice A1 n1 c1, .slice A2 n2 c2, .slice (some ⟨w2.heap.size, 0, none⟩) 1 1, .slice A n c]) := Lib.hid (by
    have h := Blk.new (w2.alloc (.cells #[.int .u8 n] 5)) 22 #[.slice A1 n1 c1, .slice A2 n2 c2, .slice (some ⟨w2.heap.size, 0, none⟩) 1 1, .slice A n c]
    simpa using h)
  go_wp2_with fail
  generalize hw3 : ((w2.alloc (.cells #[.int .u8 n] 5)).alloc (.cells #[.slice A1 n1 c1, .slice A2 n2 c2, .slice (some ⟨w2.heap.size, 0, none⟩) 1 1, .slice A n c] 22)) = w3 at *
  clear hw3
  have B3 := Lib.hid (B2.out.trans (BW.out.mono B2.out.size))
  have O13 := Lib.hid (O1'.out.below BW.out)
  have O23 := Lib.hid (O2.out.below BW.out)
  have R4 := Lib.hid ((HR.out.below B3.out (Nat.le_refl _)).mono B3.out.size)
  clear O1' O2 B2 BW
  have HJ : Hid (joinT [(⟨A1, c1, beL addr 4⟩ : Tx), ⟨A2, c2, beL now 8⟩, ⟨some ⟨w2.heap.size, 0, none⟩, 1, [(n : Int)]⟩, ⟨A, c, orig⟩] = tokB addr now orig) := Lib.hid (by unfold tokB; rw [HN.out]; simp [joinT])
  have HTL := Lib.hid (tokB_len addr now orig)
  have HTB := Lib.hid (tokB_byt (addr := addr) (at_ := now) HB.out (by rw [HN.out]; omega))
  refine Calls.mono (concat_any (some ⟨w2.heap.size + 1, 0, none⟩) 4 4 [⟨A1, c1, beL addr 4⟩, ⟨A2, c2, beL now 8⟩, ⟨some ⟨w2.heap.size, 0, none⟩, 1, [(n : Int)]⟩, ⟨A, c, orig⟩] w3 rfl (txs_lit _ K3.out (by simp [HN.out, N1.out, N2.out, beL_len]) K3.out.lt (by
    intro t ht
    simp only [List.mem_cons, List.not_mem_nil, or_false] at ht
    rcases ht with rfl | rfl | rfl | rfl
    · exact ⟨O13.out.rd, by rw [beL_len, ← N1.out]; exact O13.out.cap.1⟩
    · exact ⟨O23.out.rd, by rw [beL_len, ← N2.out]; exact O23.out.cap.1⟩
    · exact ⟨R3.out, Nat.le_refl _⟩
    · exact ⟨R4.out, by rw [HN.out]; exact hc⟩)) (by rw [HJ.out, HTL.out, HN.out]; omega) (by decide)) ?_
  rw [HJ.out]
  have HTK : Hid (tknL sec addr now orig = tokB addr now orig ++ macR sec (tokB addr now orig)) := Lib.hid rfl
  generalize tokB addr now orig = L at *
  rintro e w4 ⟨A4, n4, c4, rfl, o4, b4⟩
  have O4 := Lib.hid o4
  have N4 := Lib.hid o4.len
  have hn4 : n4 ≤ 33 := by rw [o4.len, HTL.out, HN.out]; omega
  have B4 := Lib.hid (B3.out.trans (b4.mono B3.out.size))
  clear o4 b4 K3 R3 O13 O23 R4 HJ
  go_wp2_with fail
  have K4 : Hid (Kp w4 g sec life) := Lib.hid (Blk.below HK.out B4.out hg)
  refine Calls.mono (kmac_any g sec life A4 n4 c4 L w4 K4.out HS.out HSB.out N4.out.symm O4.out.rd HTB.out (by omega) O4.out.cap.1) ?_
  have HM := Lib.hid (macR_len sec L)
  rintro e w5 ⟨A5, rfl, r5, b5⟩
  have R5 := Lib.hid r5
  have O5 := Lib.hid ((O4.out.below b5).mono B3.out.size)
  have B5 := Lib.hid (B4.out.trans (b5.mono B4.out.size))
  clear r5 b5 O4 B4 B3 K4
  go_wp2_with (at_builtin; go_loud (refine wpList_app (o := ⟨some 34, _, _, _, _, _⟩) elC rfl _ _ rfl rfl rfl O5.out R5.out HM.out.symm ?_ B5.out.size ?_); (rw [← N4.out, HM.out]; omega); intro A7 n7 c7 w7 h7; have H7 := Lib.hid h7; clear h7)
  go_ret2
  exact ⟨_, _, _, rfl, Own.cast H7.out.1 HTK.out.symm, B5.out.trans H7.out.2.2.1⟩
end Go.Proofs.Ytieabfifaigjdaa
