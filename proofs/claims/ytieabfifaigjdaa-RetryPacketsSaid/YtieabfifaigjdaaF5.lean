/- Layer 33: the document's example of a packet. Conditions: none. -/
import Derived.Test.YtieabfifaigjdaaF4
import Derived.Test.YtieabfifaigjdaaJS
import Derived.Lib.SlBytesConst
import Derived.Lib.SmallJoins
namespace Go.Proofs.Ytieabfifaigjdaa
open Go.RowKit
def exSrc : List Int := [240, 103, 165, 80, 42, 66, 98, 181]
def exTok : List Int := [116, 111, 107, 101, 110]
def exOrig : List Int := [131, 148, 200, 240, 62, 81, 87, 8]
def exPkt : List Int := [255, 0, 0, 0, 1, 0, 8, 240, 103, 165, 80, 42, 66, 98, 181, 116, 111, 107, 101, 110, 4, 162, 101, 186, 46, 255, 77, 130, 144, 88, 251, 63, 15, 36, 150, 186]
theorem exPkt_eq : pktL 255 [] exSrc exTok exOrig = exPkt := by decide +kernel
attribute [local irreducible] pktL
set_option maxRecDepth 100000 in
set_option maxHeartbeats 2000000 in
theorem works_any (w : World) : Calls Try.prog 8 #[] w fun e w' => e = .returned (.bool true) ∧ Below w.heap.size w w' := by
  have cv1 := Lib.run_convert_bytes_const (P := Try.prog) w 22 5 #[.int .u8 240, .int .u8 103, .int .u8 165, .int .u8 80, .int .u8 42, .int .u8 66, .int .u8 98, .int .u8 181] 8 8 Try.underlying22 Try.underlying5
  have cv2 := Joins.run_convert_bytes_const_at (P := Try.prog) (w.alloc (.cells #[.int .u8 240, .int .u8 103, .int .u8 165, .int .u8 80, .int .u8 42, .int .u8 66, .int .u8 98, .int .u8 181] 5 (8, 9))) 22 5 #[.int .u8 116, .int .u8 111, .int .u8 107, .int .u8 101, .int .u8 110] 5 5 (w.heap.size + 1) (by simp) Try.underlying22 Try.underlying5
  have cv3 := Joins.run_convert_bytes_const_at (P := Try.prog) ((w.alloc (.cells #[.int .u8 240, .int .u8 103, .int .u8 165, .int .u8 80, .int .u8 42, .int .u8 66, .int .u8 98, .int .u8 181] 5 (8, 9))).alloc (.cells #[.int .u8 116, .int .u8 111, .int .u8 107, .int .u8 101, .int .u8 110] 5 (5, 6))) 22 5 #[.int .u8 131, .int .u8 148, .int .u8 200, .int .u8 240, .int .u8 62, .int .u8 81, .int .u8 87, .int .u8 8] 8 8 (w.heap.size + 1 + 1) (by simp) Try.underlying22 Try.underlying5
  have S1 : Hid (Rd (((w.alloc (.cells #[.int .u8 240, .int .u8 103, .int .u8 165, .int .u8 80, .int .u8 42, .int .u8 66, .int .u8 98, .int .u8 181] 5 (8, 9))).alloc (.cells #[.int .u8 116, .int .u8 111, .int .u8 107, .int .u8 101, .int .u8 110] 5 (5, 6))).alloc (.cells #[.int .u8 131, .int .u8 148, .int .u8 200, .int .u8 240, .int .u8 62, .int .u8 81, .int .u8 87, .int .u8 8] 5 (8, 9))).heap.size .u8 (((w.alloc (.cells #[.int .u8 240, .int .u8 103, .int .u8 165, .int .u8 80, .int .u8 42, .int .u8 66, .int .u8 98, .int .u8 181] 5 (8, 9))).alloc (.cells #[.int .u8 116, .int .u8 111, .int .u8 107, .int .u8 101, .int .u8 110] 5 (5, 6))).alloc (.cells #[.int .u8 131, .int .u8 148, .int .u8 200, .int .u8 240, .int .u8 62, .int .u8 81, .int .u8 87, .int .u8 8] 5 (8, 9))) (some ⟨w.heap.size, 0, none⟩) exSrc) := Lib.hid ((((Rd.mark (xs := exSrc) rfl rfl).alloc (by simp) _).alloc (by simp) _).mono (by simp))
  have S2 : Hid (Rd (((w.alloc (.cells #[.int .u8 240, .int .u8 103, .int .u8 165, .int .u8 80, .int .u8 42, .int .u8 66, .int .u8 98, .int .u8 181] 5 (8, 9))).alloc (.cells #[.int .u8 116, .int .u8 111, .int .u8 107, .int .u8 101, .int .u8 110] 5 (5, 6))).alloc (.cells #[.int .u8 131, .int .u8 148, .int .u8 200, .int .u8 240, .int .u8 62, .int .u8 81, .int .u8 87, .int .u8 8] 5 (8, 9))).heap.size .u8 (((w.alloc (.cells #[.int .u8 240, .int .u8 103, .int .u8 165, .int .u8 80, .int .u8 42, .int .u8 66, .int .u8 98, .int .u8 181] 5 (8, 9))).alloc (.cells #[.int .u8 116, .int .u8 111, .int .u8 107, .int .u8 101, .int .u8 110] 5 (5, 6))).alloc (.cells #[.int .u8 131, .int .u8 148, .int .u8 200, .int .u8 240, .int .u8 62, .int .u8 81, .int .u8 87, .int .u8 8] 5 (8, 9))) (some ⟨w.heap.size + 1, 0, none⟩) exTok) := Lib.hid (((Rd.mark (xs := exTok) (by simp) rfl).alloc (by simp) _).mono (by simp))
  have S3 : Hid (Rd (((w.alloc (.cells #[.int .u8 240, .int .u8 103, .int .u8 165, .int .u8 80, .int .u8 42, .int .u8 66, .int .u8 98, .int .u8 181] 5 (8, 9))).alloc (.cells #[.int .u8 116, .int .u8 111, .int .u8 107, .int .u8 101, .int .u8 110] 5 (5, 6))).alloc (.cells #[.int .u8 131, .int .u8 148, .int .u8 200, .int .u8 240, .int .u8 62, .int .u8 81, .int .u8 87, .int .u8 8] 5 (8, 9))).heap.size .u8 (((w.alloc (.cells #[.int .u8 240, .int .u8 103, .int .u8 165, .int .u8 80, .int .u8 42, .int .u8 66, .int .u8 98, .int .u8 181] 5 (8, 9))).alloc (.cells #[.int .u8 116, .int .u8 111, .int .u8 107, .int .u8 101, .int .u8 110] 5 (5, 6))).alloc (.cells #[.int .u8 131, .int .u8 148, .int .u8 200, .int .u8 240, .int .u8 62, .int .u8 81, .int .u8 87, .int .u8 8] 5 (8, 9))) (some ⟨w.heap.size + 1 + 1, 0, none⟩) exOrig) := Lib.hid ((Rd.mark (xs := exOrig) (by simp) rfl).mono (by simp))
  have BW : Hid (Below w.heap.size w (((w.alloc (.cells #[.int .u8 240, .int .u8 103, .int .u8 165, .int .u8 80, .int .u8 42, .int .u8 66, .int .u8 98, .int .u8 181] 5 (8, 9))).alloc (.cells #[.int .u8 116, .int .u8 111, .int .u8 107, .int .u8 101, .int .u8 110] 5 (5, 6))).alloc (.cells #[.int .u8 131, .int .u8 148, .int .u8 200, .int .u8 240, .int .u8 62, .int .u8 81, .int .u8 87, .int .u8 8] 5 (8, 9)))) := Lib.hid ((((Below.refl w.heap.size w).alloc (Nat.le_refl _) _).alloc (by simp) _).alloc (by simp; omega) _)
  simp only [List.size_toArray, List.length_cons, List.length_nil] at cv1 cv2 cv3
  go_enter Try.func8, Try.ntmps8
  go_wp2_with fail
  generalize hw1 : (((w.alloc (.cells #[.int .u8 240, .int .u8 103, .int .u8 165, .int .u8 80, .int .u8 42, .int .u8 66, .int .u8 98, .int .u8 181] 5 (8, 9))).alloc (.cells #[.int .u8 116, .int .u8 111, .int .u8 107, .int .u8 101, .int .u8 110] 5 (5, 6))).alloc (.cells #[.int .u8 131, .int .u8 148, .int .u8 200, .int .u8 240, .int .u8 62, .int .u8 81, .int .u8 87, .int .u8 8] 5 (8, 9))) = w1 at *
  clear hw1 cv1 cv2 cv3
  refine Calls.mono (put_yes none (some ⟨w.heap.size, 0, none⟩) (some ⟨w.heap.size + 1, 0, none⟩) (some ⟨w.heap.size + 1 + 1, 0, none⟩) 0 8 5 8 0 8 5 8 [] exSrc exTok exOrig w1 rfl rfl rfl rfl Rd.nil S1.out S2.out S3.out Byt.nil (by unfold exSrc; intro x hx; simp only [List.mem_cons, List.not_mem_nil, or_false] at hx; omega) (by unfold exTok; intro x hx; simp only [List.mem_cons, List.not_mem_nil, or_false] at hx; omega) (by unfold exOrig; intro x hx; simp only [List.mem_cons, List.not_mem_nil, or_false] at hx; omega) (by decide) (by decide) (by decide) (by decide) (by decide) (by decide) (by decide) (by decide) (by decide)) ?_
  rw [exPkt_eq]
  rintro e w2 ⟨A2, n2, c2, rfl, o2, b2⟩
  have B2 := Lib.hid (BW.out.trans (b2.mono BW.out.size))
  have hcv := conv_own elC Try.underlying9 o2
  clear S1 S2 S3 BW b2 o2
  have HV : strOfNums exPkt = ⟨#[255, 0, 0, 0, 1, 0, 8, 240, 103, 165, 80, 42, 66, 98, 181, 116, 111, 107, 101, 110, 4, 162, 101, 186, 46, 255, 77, 130, 144, 88, 251, 63, 15, 36, 150, 186]⟩ := by decide +kernel
  rw [HV] at hcv
  clear HV
  go_wp2_with fail
  go_ret
  exact ⟨rfl, B2.out⟩
end Go.Proofs.Ytieabfifaigjdaa
