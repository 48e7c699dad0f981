/- Layer 33: Take and the reference's Take, side by side. Conditions: as each theorem states them. -/
import Derived.Test.YtieabfifaigjdaaF27
import Derived.Test.YtieabfifaigjdaaF24
namespace Go.Proofs.Ytieabfifaigjdaa
open Go.RowKit
theorem take_no_all (A1 A2 : Option Addr) (n1 n2 c1 c2 : Nat) (b orig : List Int) (w : World) (hn1 : b.length = n1) (hn2 : orig.length = n2) (hr1 : Rd w.heap.size .u8 w A1 b) (hr2 : Rd w.heap.size .u8 w A2 orig) (hb1 : Byt b) (hb2 : Byt orig) (hl1 : n1 ≤ 1000) (hc1 : n1 ≤ c1) (hc2 : n2 ≤ c2)
    (hno : ¬ (n2 ≤ 20 ∧ ∃ d s, PkOk b orig d s)) : Calls Try.prog 11 #[.slice A1 n1 c1, .slice A2 n2 c2] w (TkNo w) := by
  by_cases h23 : n1 < 23
  · exact take_short A1 A2 n1 n2 c1 c2 w h23
  by_cases q0 : b.getD 0 0 / 16 = 15
  · by_cases q1 : ofF 0 ((b.drop 1).take 4) = 1
    · by_cases q2 : 20 < n2
      · exact take_long A1 A2 n1 n2 c1 c2 b w hn1 hr1 hb1 (by omega) hl1 hc1 q0 q1 q2
      · exact take_tail A1 A2 n1 n2 c1 c2 b orig w hn1 hn2 hr1 hr2 hb1 hb2 hl1 (by omega) hc1 hc2 (by omega) q0 q1 (fun q => hno ⟨by omega, q⟩)
    · exact take_ver A1 A2 n1 n2 c1 c2 b w hn1 hr1 hb1 (by omega) hl1 hc1 q0 q1
  · exact take_first A1 A2 n1 n2 c1 c2 b w hn1 hr1 hb1 (by omega) hl1 hc1 q0
theorem rtake_yes (A1 A2 : Option Addr) (n1 n2 c1 c2 : Nat) (b orig : List Int) (d s : Nat) (w : World) (hn1 : b.length = n1) (hn2 : orig.length = n2) (hr1 : Rd w.heap.size .u8 w A1 b) (hr2 : Rd w.heap.size .u8 w A2 orig) (hb1 : Byt b) (hb2 : Byt orig) (hl1 : n1 ≤ 1000) (hl2 : n2 ≤ 20) (hc1 : n1 ≤ c1) (h : PkOk b orig d s) :
    Calls Try.prog 12 #[.slice A1 n1 c1, .slice A2 n2 c2] w (RtYes b d s w) :=
  (rtake_rk A1 A2 n1 n2 c1 c2 b orig d s w hn1 hn2 hr1 hr2 hb1 hb2 hl1 hl2 hc1 (pkOk_rk hb1 h)).mono fun _ _ q => q.1 h
theorem rtake_no_all (A1 A2 : Option Addr) (n1 n2 c1 c2 : Nat) (b orig : List Int) (w : World) (hn1 : b.length = n1) (hn2 : orig.length = n2) (hr1 : Rd w.heap.size .u8 w A1 b) (hr2 : Rd w.heap.size .u8 w A2 orig) (hb1 : Byt b) (hb2 : Byt orig) (hl1 : n1 ≤ 1000) (hc1 : n1 ≤ c1)
    (hno : ¬ (n2 ≤ 20 ∧ ∃ d s, PkOk b orig d s)) : Calls Try.prog 12 #[.slice A1 n1 c1, .slice A2 n2 c2] w (RtNo w) := by
  by_cases h : n2 ≤ 20 ∧ ∃ d s, RkOk b d s
  · obtain ⟨h2, d, s, h⟩ := h
    exact (rtake_rk A1 A2 n1 n2 c1 c2 b orig d s w hn1 hn2 hr1 hr2 hb1 hb2 hl1 h2 hc1 h).mono fun _ _ q => q.2 fun q2 => hno ⟨h2, d, s, q2⟩
  · exact rtake_no A1 A2 n1 n2 c1 c2 b w hn1 hr1 hb1 hl1 h
theorem tk_dst (b : List Int) (d : Nat) (h : 6 + d ≤ b.length - 16) : ((b.take (b.length - 16)).drop 6).take d = pkDst b d := by
  unfold pkDst; exact cut_take _ _ _ _ h
theorem tk_src (b : List Int) (d s : Nat) (h : 7 + d + s ≤ b.length - 16) : ((b.take (b.length - 16)).drop (7 + d)).take s = pkSrc b d s := by
  unfold pkSrc; exact cut_take _ _ _ _ h
theorem tk_tok (b : List Int) (d s : Nat) : (b.take (b.length - 16)).drop (7 + d + s) = pkTok b d s := by
  unfold pkTok; rw [List.drop_take]
end Go.Proofs.Ytieabfifaigjdaa
