
/- Contract: the closure of sha.Sum that feeds bytes. Conditions: as each theorem states them. -/
import Derived.Test.YtibjafkclojimaaS3
namespace Go.Proofs.Ytibjafkclojimaa
open Go.RowKit

theorem comps_step {k : Nat} {s : S8} {Y : List Int} : comps (k + 1) s Y = comp (comps k s Y) ((Y.drop (64 * k)).take 64) := by
  rw [comps_add k 1, comps_one]

/-- what a feeding leaves: the rest's variable in block br, the state in block g -/
def FeedPost (B br g gk : Nat) (s : S8) (Y : List Int) (w : World) (e : Ending) (w' : World) : Prop :=
  e = .returned (.tuple #[]) ∧ ∃ A n c, Blk w' br 50 #[.slice A n c] ∧ Own B 5 .u8 w' A n c (Y.drop (64 * (Y.length / 64))) ∧ Arr w' g 77 .u32 (comps (Y.length / 64) s Y).l ∧ Arr w' gk 79 .u32 kL ∧ Below (min br g) w w'

set_option maxHeartbeats 4000000 in
theorem feed_any (B br g gk : Nat) (s : S8) (A0 A : Option Addr) (n0 c0 c : Nat) (R X : List Int) (w : World) (hbr : Blk w br 50 #[.slice A0 n0 c0]) (ho : Own B 5 .u8 w A0 n0 c0 R) (hs : Arr w g 77 .u32 s.l) (hk : Arr w gk 79 .u32 kL)
    (hr : Rd w.heap.size .u8 w A X) (hb : Byt X) (hbR : Byt R) (hok : s.Ok) (h1 : br < B) (h2 : g < B) (h3 : gk < B) (hBs : B ≤ w.heap.size) (hne : br ≠ g) (hne2 : gk ≠ g) (hne3 : gk ≠ br) (hl : R.length + X.length ≤ 1099511627776) :
    Calls Try.prog 32 #[.slice A X.length c, .pointer (some ⟨br, 0, none⟩), .pointer (some ⟨g, 0, none⟩), .pointer (some ⟨gk, 0, none⟩)] w (FeedPost B br g gk s (R ++ X) w) := by
  have k0 := Blk.cell hbr 0
  have f0 := Blk.frozen hbr 0
  simp at k0
  have HBR := Lib.hid hbr
  have HO := Lib.hid ho
  have HS := Lib.hid hs
  have HK := Lib.hid hk
  have HR := Lib.hid hr
  have HOK := Lib.hid hok
  have HYB := Lib.hid (hbR.append hb)
  clear hbr ho hs hk hr hb hbR hok
  go_enter Try.func32, Try.ntmps32
  go_wp2_with (at_builtin; refine wpList_app (o := ⟨some 8, _, _, _, _, _⟩) elU8 rfl _ _ rfl rfl rfl HO.out HR.out rfl ?_ ?_ ?_; omega; exact hBs; intro A1 n1 c1 w1 q1; have H1 := Lib.hid q1; have k1 := Blk.cell (Blk.below HBR.out q1.2.2.1 h1) 0; have f1 := Blk.frozen (Blk.below HBR.out q1.2.2.1 h1) 0; simp at k1; clear q1)
  have O1 := Lib.hid H1.out.1
  have hO1 : ∀ ad, A1 = some ad → B ≤ ad.block := fun ad hA => (H1.out.1.block ad hA).1
  have T1 : Hid (Blk (w1.setCell ⟨br, 0, none⟩ (.slice A1 n1 c1)) br 50 #[.slice A1 n1 c1]) := Lib.hid (Blk.cast (Blk.set_ (Blk.below HBR.out H1.out.2.2.1 h1) 0 _) (by simp))
  have T2 : Hid (Own B 5 .u8 (w1.setCell ⟨br, 0, none⟩ (.slice A1 n1 c1)) A1 n1 c1 (R ++ X)) := Lib.hid (O1.out.same (fun ad hA => Below.heap_setCell _ _ _ _ (by have := hO1 ad hA; simp; omega)))
  have T3 : Hid (Arr (w1.setCell ⟨br, 0, none⟩ (.slice A1 n1 c1)) g 77 .u32 s.l) := Lib.hid (Arr.far (HS.out.below H1.out.2.2.1 h2) (by simp; omega) _)
  have T4 : Hid (Arr (w1.setCell ⟨br, 0, none⟩ (.slice A1 n1 c1)) gk 79 .u32 kL) := Lib.hid (Arr.far (HK.out.below H1.out.2.2.1 h3) (by simp; omega) _)
  have T5 : Hid (Below (min br g) w (w1.setCell ⟨br, 0, none⟩ (.slice A1 n1 c1))) := Lib.hid ((H1.out.2.2.1.mono (by omega)).setCell (by simp; omega) _)
  have T6 : B ≤ (w1.setCell ⟨br, 0, none⟩ (.slice A1 n1 c1)).heap.size := by have := H1.out.2.2.1.size; simp; omega
  have hYl : (R ++ X).length ≤ 1099511627776 := by rw [List.length_append]; exact hl
  generalize R ++ X = Y at *
  generalize w1.setCell ⟨br, 0, none⟩ (.slice A1 n1 c1) = w2 at *
  obtain rfl := T2.out.len
  clear H1 O1 hO1 k0 f0 k1 f1 HBR HO HS HK HR
  go_loopw [5] (fun a wr => ∃ p k : Nat, p ≤ Y.length ∧ a = .int .i64 p ∧ Hid (p = 64 * k) ∧ Hid (Blk wr br 50 #[.slice A1 Y.length c1]) ∧ Hid (Own B 5 .u8 wr A1 Y.length c1 Y) ∧ Hid (Arr wr g 77 .u32 (comps k s Y).l) ∧ Hid (Arr wr gk 79 .u32 kL) ∧ Hid (Below (min br g) w wr) ∧ B ≤ wr.heap.size) (fun a _ => Y.length - (intOf a).toNat)
  case atStart => exact ⟨0, 0, by omega, rfl, Lib.hid rfl, T1, T2, Lib.hid (by rw [comps_zero]; exact T3.out), T4, T5, T6⟩
  case round =>
    clear T1 T2 T3 T4 T5 T6
    obtain ⟨p, k, hp, rfl, HP, T1, T2, T3, T4, T5, T6⟩ := hrel
    have k1 := Blk.cell T1.out 0
    have f1 := Blk.frozen T1.out 0
    simp at k1
    by_cases hlt : p + 64 ≤ Y.length
    · obtain ⟨A', c', q1, q2, q3, q4, q5⟩ := slice_lh elU8 T2.out.rd T2.out.cap.1 (p : Int) ((p : Int) + 64) 64 (by omega) (by omega) (by omega) (by omega)
      rw [Int.toNat_natCast] at q3 q4
      have Q3 := Lib.hid q3
      have Q4 := Lib.hid q4
      have HBL := Lib.hid ((HYB.out.drop p).take 64)
      clear q3 q4
      go_wp2_with fail
      refine (take_any g gk (comps k s Y) A' c' _ _ T3.out T4.out Q3.out HBL.out Q4.out (comps_ok HOK.out _ _)).mono ?_
      rintro e w3 ⟨rfl, ha3, hg3⟩
      have U1 := Lib.hid (Blk.grown T1.out hg3 (by simp; omega))
      have U2 := Lib.hid (T2.out.kept hg3 (fun ad hA he => by have := (T2.out.block ad hA).1; simp at he; omega))
      have U3 : Hid (Arr w3 g 77 .u32 (comps (k + 1) s Y).l) := Lib.hid (by rw [comps_step, ← HP.out]; exact ha3)
      have U4 := Lib.hid (T4.out.grown hg3 (by simp; omega))
      have U5 := Lib.hid (T5.out.trans (below_of_only hg3 (by omega) (by omega)))
      have U6 : B ≤ w3.heap.size := Nat.le_trans T6 hg3.size
      clear ha3 hg3 k1 f1 q5
      go_wp2_with fail
      go_roundw
      case rel => exact ⟨p + 64, k + 1, by omega, by go_num, Lib.hid (by have := HP.out; omega), U1, U2, U3, U4, U5, U6⟩
      case measure => simp [intOf]; omega
    · have hk : Y.length / 64 = k := by have := HP.out; omega
      obtain ⟨A', c', q1, q2, q3, q4, q5⟩ := slice_l elU8 T2.out.rd T2.out.cap.1 (p : Int) (Y.length - p) (by omega) (by omega) (by omega)
      rw [Int.toNat_natCast] at q3 q4
      have Q3 := Lib.hid q3
      have Q4 := Lib.hid q4
      have HK2 := Lib.hid hk
      clear q3 q4 hk
      have hdl : (Y.drop p).length ≤ 17592186044416 := by rw [Q4.out]; omega
      go_wp2_with (at_builtin; refine wpList_app (o := ⟨some 25, _, _, _, _, _⟩) (B := B) elU8 rfl _ _ rfl rfl rfl (Own.nil _ _ _ _) Q3.out Q4.out.symm ?_ ?_ ?_; (simp only [List.length_nil, Nat.zero_add]; exact hdl); exact T6; intro A9 n9 c9 w9 q9; have H9 := Lib.hid q9; have k9 := Blk.cell (Blk.below T1.out q9.2.2.1 h1) 0; have f9 := Blk.frozen (Blk.below T1.out q9.2.2.1 h1) 0; simp at k9; clear q9)
      go_end0
      have hO9 : ∀ ad, A9 = some ad → B ≤ ad.block := fun ad hA => (H9.out.1.block ad hA).1
      refine ⟨rfl, A9, n9, c9, ?_, ?_, ?_, ?_, ?_⟩
      · exact Blk.cast (Blk.set_ (Blk.below T1.out H9.out.2.2.1 h1) 0 _) (by simp)
      · rw [HK2.out, ← HP.out]
        exact H9.out.1.same (fun ad hA => Below.heap_setCell _ _ _ _ (by have := hO9 ad hA; simp; omega))
      · rw [HK2.out]
        exact Arr.far (T3.out.below H9.out.2.2.1 h2) (by simp; omega) _
      · exact Arr.far (T4.out.below H9.out.2.2.1 h3) (by simp; omega) _
      · exact (T5.out.trans (H9.out.2.2.1.mono (by omega))).setCell (by simp; omega) _
end Go.Proofs.Ytibjafkclojimaa
