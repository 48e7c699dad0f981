/- Layer 33: what a packet that Put makes is; contract of early. Conditions: as each theorem states them. -/
import Derived.Test.YtieabfifaigjdaaF17
import Derived.Test.YtieabfifaigjdaaF15
namespace Go.Proofs.Ytieabfifaigjdaa
open Go.RowKit
theorem pkB_split (f : Int) (dst src tok : List Int) : pkB f dst src tok = [f, 0, 0, 0, 1, (dst.length : Int)] ++ (dst ++ ((src.length : Int) :: (src ++ tok))) := by
  unfold pkB; simp only [List.append_assoc, List.cons_append, List.nil_append]
theorem pkB_d6 (f : Int) (dst src tok : List Int) : (pkB f dst src tok).drop 6 = dst ++ ((src.length : Int) :: (src ++ tok)) := by
  rw [pkB_split]; exact List.drop_left' rfl
theorem pkB_d7 (f : Int) (dst src tok : List Int) : (pkB f dst src tok).drop (6 + dst.length) = (src.length : Int) :: (src ++ tok) := by
  rw [← List.drop_drop, pkB_d6]; exact List.drop_left' rfl
theorem pkB_d8 (f : Int) (dst src tok : List Int) : (pkB f dst src tok).drop (7 + dst.length) = src ++ tok := by
  rw [show 7 + dst.length = (6 + dst.length) + 1 by omega, ← List.drop_drop, pkB_d7]; rfl
theorem pkB_d9 (f : Int) (dst src tok : List Int) : (pkB f dst src tok).drop (7 + dst.length + src.length) = tok := by
  rw [← List.drop_drop, pkB_d8]; exact List.drop_left' rfl
theorem getD_drop0 (xs : List Int) (k : Nat) : xs.getD k 0 = (xs.drop k).getD 0 0 := by
  rw [List.getD_eq_getElem?_getD, List.getD_eq_getElem?_getD, List.getElem?_drop, Nat.add_zero]
theorem pktL_len_ (f : Int) (dst src tok orig : List Int) : (pktL f dst src tok orig).length = 23 + dst.length + src.length + tok.length := by
  unfold pktL; rw [List.length_append, pkB_len, tagP_len]; omega
theorem pktL_cut (f : Int) (dst src tok orig : List Int) : (pktL f dst src tok orig).length - 16 = (pkB f dst src tok).length := by
  rw [pktL_len_, pkB_len]; omega
theorem pktL_take (f : Int) (dst src tok orig : List Int) : (pktL f dst src tok orig).take ((pktL f dst src tok orig).length - 16) = pkB f dst src tok := by
  rw [pktL_cut]; unfold pktL; exact List.take_left' rfl
theorem pktL_drop (f : Int) (dst src tok orig : List Int) : (pktL f dst src tok orig).drop ((pktL f dst src tok orig).length - 16) = tagP (pkB f dst src tok) orig := by
  rw [pktL_cut]; unfold pktL; exact List.drop_left' rfl
theorem pktL_getD (f : Int) (dst src tok orig : List Int) (k : Nat) (h : k < (pkB f dst src tok).length) : (pktL f dst src tok orig).getD k 0 = (pkB f dst src tok).getD k 0 := by
  unfold pktL
  rw [List.getD_eq_getElem?_getD, List.getD_eq_getElem?_getD, List.getElem?_append_left h]
theorem pktL_byt_ {dst src tok : List Int} (orig : List Int) (hd : Byt dst) (hs : Byt src) (ht : Byt tok) (ld : dst.length ≤ 20) (ls : src.length ≤ 20) : Byt (pktL 255 dst src tok orig) :=
  (pkB_byt (by decide) (by decide) hd hs ht (by omega) (by omega)).append (tagP_byt _ _)
theorem pkOk_made (dst src tok orig : List Int) (ld : dst.length ≤ 20) (ls : src.length ≤ 20) (lt : 0 < tok.length) : PkOk (pktL 255 dst src tok orig) orig dst.length src.length := by
  have hl := pkB_len 255 dst src tok
  have g0 : (pktL 255 dst src tok orig).getD 0 0 = 255 := by rw [pktL_getD _ _ _ _ _ _ (by omega), pkB_split]; rfl
  have e := pktL_cut 255 dst src tok orig
  refine ⟨by rw [g0]; decide, ?_, ?_, ld, by omega, ?_, ls, by omega, by rw [pktL_take, pktL_drop]⟩
  · unfold pktL; rw [pkB_split]; simp [ofF]
  · rw [pktL_getD _ _ _ _ _ _ (by omega), pkB_split]; rfl
  · rw [pktL_getD _ _ _ _ _ _ (by omega), getD_drop0, pkB_d7]; rfl
theorem pkt_dst (dst src tok orig : List Int) : (((pktL 255 dst src tok orig).take ((pktL 255 dst src tok orig).length - 16)).drop 6).take dst.length = dst := by
  rw [pktL_take, pkB_d6]; exact List.take_left' rfl
theorem pkt_src (dst src tok orig : List Int) : (((pktL 255 dst src tok orig).take ((pktL 255 dst src tok orig).length - 16)).drop (7 + dst.length)).take src.length = src := by
  rw [pktL_take, pkB_d8]; exact List.take_left' rfl
theorem pkt_tok (dst src tok orig : List Int) : ((pktL 255 dst src tok orig).take ((pktL 255 dst src tok orig).length - 16)).drop (7 + dst.length + src.length) = tok := by
  rw [pktL_take, pkB_d9]
attribute [local irreducible] chkL
set_option maxRecDepth 100000 in
set_option maxHeartbeats 2000000 in
theorem early_yes (g : Nat) (sec : List Int) (life addr now : Int) (A : Option Addr) (n c : Nat) (tok : List Int) (w : World) (hk : Kp w g sec life) (hs : sec.length = 32) (hsb : Byt sec) (hn : tok.length = n) (hr : Rd w.heap.size .u8 w A tok) (hb : Byt tok) (hl : n ≤ 1000) (hc : n ≤ c)
    (a0 : 0 ≤ addr) (a1 : addr < 4294967296) (t0 : 0 ≤ now) (t1 : now < 18446744073709551616) (h : chkL sec life tok addr now = ([], 8)) :
    Calls Try.prog 18 #[.pointer (some ⟨g, 0, none⟩), .slice A n c, .int .u32 addr, .int .u64 now] w fun e w' => e = .returned (.bool true) ∧ Below w.heap.size w w' := by
  have HC := Lib.hid (check_any_ g sec life addr now A n c tok w hk hs hsb hn hr hb hl hc a0 a1 t0 t1)
  rw [h] at HC
  clear hk hs hsb hn hr hb hl hc h
  go_enter Try.func18, Try.ntmps18
  go_wp2_with fail
  refine Calls.mono HC.out ?_
  rintro e w3 ⟨A3, n3, c3, rfl, r3, l3, m3, b3, f3⟩
  clear HC r3 l3 m3 f3
  go_wp2_with fail
  go_ret
  exact ⟨rfl, b3⟩
end Go.Proofs.Ytieabfifaigjdaa
