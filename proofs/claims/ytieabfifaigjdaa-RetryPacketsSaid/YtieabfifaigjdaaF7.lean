/- Layer 33: contracts of mac, Make. Conditions: as each theorem states them. -/
import Derived.Test.YtieabfifaigjdaaF6
namespace Go.Proofs.Ytieabfifaigjdaa
open Go.RowKit
def retryT : List Int := [104, 111, 115, 116, 108, 101, 114, 32, 114, 101, 116, 114, 121]
/-- what stands behind a token's bytes -/
def macR (sec b : List Int) : List Int := (macL sec (retryT ++ b)).take 16
def tokB (addr at_ : Int) (orig : List Int) : List Int := beL addr 4 ++ beL at_ 8 ++ [(orig.length : Int)] ++ orig
def tknL (sec : List Int) (addr at_ : Int) (orig : List Int) : List Int := tokB addr at_ orig ++ macR sec (tokB addr at_ orig)
theorem macR_len (sec b : List Int) : (macR sec b).length = 16 := by unfold macR; rw [List.length_take, macL_len]; rfl
theorem macR_byt (sec b : List Int) : Byt (macR sec b) := by unfold macR; exact (macL_byt _ _).take 16
theorem retryT_byt : Byt retryT := by unfold retryT; intro x hx; simp only [List.mem_cons, List.not_mem_nil, or_false] at hx; omega
theorem tokB_len (addr at_ : Int) (orig : List Int) : (tokB addr at_ orig).length = 13 + orig.length := by
  unfold tokB; simp only [List.length_append, beL_len, List.length_cons, List.length_nil]
theorem tokB_byt {addr at_ : Int} {orig : List Int} (ho : Byt orig) (hl : orig.length < 256) : Byt (tokB addr at_ orig) :=
  ((((beL_byt _ _).append (beL_byt _ _)).append (Byt.cons ⟨by omega, by omega⟩ Byt.nil)).append ho)
theorem tknL_len (sec : List Int) (addr at_ : Int) (orig : List Int) : (tknL sec addr at_ orig).length = 29 + orig.length := by
  unfold tknL; rw [List.length_append, tokB_len, macR_len]; omega
theorem tknL_byt {sec : List Int} {addr at_ : Int} {orig : List Int} (ho : Byt orig) (hl : orig.length < 256) : Byt (tknL sec addr at_ orig) := (tokB_byt ho hl).append (macR_byt _ _)
def MacPost (sec b : List Int) (w : World) (e : Ending) (w' : World) : Prop := ∃ A, e = .returned (.slice A 16 32) ∧ Rd w'.heap.size .u8 w' A (macR sec b) ∧ Below w.heap.size w w'
theorem rd_take_ {B : Nat} {k : IntKind} {w : World} {A : Option Addr} {xs : List Int} (h : Rd B k w A xs) (m : Nat) : Rd B k w A (xs.take m) := fun i hi => by
  rw [List.length_take] at hi
  obtain ⟨ad, e, hb, hc⟩ := h i (by omega)
  exact ⟨ad, e, hb, by rw [getD_take (by omega)]; exact hc⟩
set_option maxRecDepth 100000 in
set_option maxHeartbeats 4000000 in
theorem kmac_any (g : Nat) (sec : List Int) (life : Int) (A : Option Addr) (n c : Nat) (b : List Int) (w : World) (hk : Kp w g sec life) (hs : sec.length = 32) (hsb : Byt sec) (hn : b.length = n) (hr : Rd w.heap.size .u8 w A b) (hb : Byt b) (hl : n ≤ 1000) (hc : n ≤ c) :
    Calls Try.prog 28 #[.pointer (some ⟨g, 0, none⟩), .slice A n c] w (MacPost sec b w) := by
  have cv1 := Lib.run_convert_bytes_const (P := Try.prog) w 22 5 #[.int .u8 104, .int .u8 111, .int .u8 115, .int .u8 116, .int .u8 108, .int .u8 101, .int .u8 114, .int .u8 32, .int .u8 114, .int .u8 101, .int .u8 116, .int .u8 114, .int .u8 121] 13 13 Try.underlying22 Try.underlying5
  simp only [List.size_toArray, List.length_cons, List.length_nil] at cv1
  have BW : Hid (Below w.heap.size w ((w.alloc (.cells #[.int .u8 104, .int .u8 111, .int .u8 115, .int .u8 116, .int .u8 108, .int .u8 101, .int .u8 114, .int .u8 32, .int .u8 114, .int .u8 101, .int .u8 116, .int .u8 114, .int .u8 121] 5 (13, 14))).alloc (.cells #[.slice (some ⟨w.heap.size, 0, none⟩) 13 13, .slice A n c] 22))) := Lib.hid (((Below.refl w.heap.size w).alloc (Nat.le_refl _) _).alloc (by simp) _)
  have T1 : Hid (Rd ((w.alloc (.cells #[.int .u8 104, .int .u8 111, .int .u8 115, .int .u8 116, .int .u8 108, .int .u8 101, .int .u8 114, .int .u8 32, .int .u8 114, .int .u8 101, .int .u8 116, .int .u8 114, .int .u8 121] 5 (13, 14))).alloc (.cells #[.slice (some ⟨w.heap.size, 0, none⟩) 13 13, .slice A n c] 22)).heap.size .u8 ((w.alloc (.cells #[.int .u8 104, .int .u8 111, .int .u8 115, .int .u8 116, .int .u8 108, .int .u8 101, .int .u8 114, .int .u8 32, .int .u8 114, .int .u8 101, .int .u8 116, .int .u8 114, .int .u8 121] 5 (13, 14))).alloc (.cells #[.slice (some ⟨w.heap.size, 0, none⟩) 13 13, .slice A n c] 22)) (some ⟨w.heap.size, 0, none⟩) retryT) := Lib.hid (((Rd.mark (xs := retryT) rfl rfl).alloc (by simp) _).mono (by simp))
  have TB : Hid (Rd ((w.alloc (.cells #[.int .u8 104, .int .u8 111, .int .u8 115, .int .u8 116, .int .u8 108, .int .u8 101, .int .u8 114, .int .u8 32, .int .u8 114, .int .u8 101, .int .u8 116, .int .u8 114, .int .u8 121] 5 (13, 14))).alloc (.cells #[.slice (some ⟨w.heap.size, 0, none⟩) 13 13, .slice A n c] 22)).heap.size .u8 ((w.alloc (.cells #[.int .u8 104, .int .u8 111, .int .u8 115, .int .u8 116, .int .u8 108, .int .u8 101, .int .u8 114, .int .u8 32, .int .u8 114, .int .u8 101, .int .u8 116, .int .u8 114, .int .u8 121] 5 (13, 14))).alloc (.cells #[.slice (some ⟨w.heap.size, 0, none⟩) 13 13, .slice A n c] 22)) A b) := Lib.hid ((hr.below BW.out (Nat.le_refl _)).mono BW.out.size)
  have KS : Hid (Rd ((w.alloc (.cells #[.int .u8 104, .int .u8 111, .int .u8 115, .int .u8 116, .int .u8 108, .int .u8 101, .int .u8 114, .int .u8 32, .int .u8 114, .int .u8 101, .int .u8 116, .int .u8 114, .int .u8 121] 5 (13, 14))).alloc (.cells #[.slice (some ⟨w.heap.size, 0, none⟩) 13 13, .slice A n c] 22)).heap.size .u8 ((w.alloc (.cells #[.int .u8 104, .int .u8 111, .int .u8 115, .int .u8 116, .int .u8 108, .int .u8 101, .int .u8 114, .int .u8 32, .int .u8 114, .int .u8 101, .int .u8 116, .int .u8 114, .int .u8 121] 5 (13, 14))).alloc (.cells #[.slice (some ⟨w.heap.size, 0, none⟩) 13 13, .slice A n c] 22)) (some ⟨g, 0, none⟩) sec) := Lib.hid (Kp.rd (show Kp ((w.alloc (.cells #[.int .u8 104, .int .u8 111, .int .u8 115, .int .u8 116, .int .u8 108, .int .u8 101, .int .u8 114, .int .u8 32, .int .u8 114, .int .u8 101, .int .u8 116, .int .u8 114, .int .u8 121] 5 (13, 14))).alloc (.cells #[.slice (some ⟨w.heap.size, 0, none⟩) 13 13, .slice A n c] 22)) g sec life from Blk.below hk BW.out (Blk.lt hk)))
  have KB : Hid (Blk ((w.alloc (.cells #[.int .u8 104, .int .u8 111, .int .u8 115, .int .u8 116, .int .u8 108, .int .u8 101, .int .u8 114, .int .u8 32, .int .u8 114, .int .u8 101, .int .u8 116, .int .u8 114, .int .u8 121] 5 (13, 14))).alloc (.cells #[.slice (some ⟨w.heap.size, 0, none⟩) 13 13, .slice A n c] 22)) (w.heap.size + 1) 22 #[.slice (some ⟨w.heap.size, 0, none⟩) 13 13, .slice A n c]) := Lib.hid (by
    have h := Blk.new (w.alloc (.cells #[.int .u8 104, .int .u8 111, .int .u8 115, .int .u8 116, .int .u8 108, .int .u8 101, .int .u8 114, .int .u8 32, .int .u8 114, .int .u8 101, .int .u8 116, .int .u8 114, .int .u8 121] 5 (13, 14))) 22 #[.slice (some ⟨w.heap.size, 0, none⟩) 13 13, .slice A n c]
    simpa using h)
  have MC : Hid (Calls Try.prog 37 #[.slice (some ⟨g, 0, none⟩) 32 32, .slice (some ⟨w.heap.size + 1, 0, none⟩) 2 2] ((w.alloc (.cells #[.int .u8 104, .int .u8 111, .int .u8 115, .int .u8 116, .int .u8 108, .int .u8 101, .int .u8 114, .int .u8 32, .int .u8 114, .int .u8 101, .int .u8 116, .int .u8 114, .int .u8 121] 5 (13, 14))).alloc (.cells #[.slice (some ⟨w.heap.size, 0, none⟩) 13 13, .slice A n c] 22)) (ArrPost (macL sec (retryT ++ b)) ((w.alloc (.cells #[.int .u8 104, .int .u8 111, .int .u8 115, .int .u8 116, .int .u8 108, .int .u8 101, .int .u8 114, .int .u8 32, .int .u8 114, .int .u8 101, .int .u8 116, .int .u8 114, .int .u8 121] 5 (13, 14))).alloc (.cells #[.slice (some ⟨w.heap.size, 0, none⟩) 13 13, .slice A n c] 22)))) := Lib.hid (by
    have hj : joinT [(⟨some ⟨w.heap.size, 0, none⟩, 13, retryT⟩ : Tx), ⟨A, c, b⟩] = retryT ++ b := by simp [joinT]
    have h := mac_any (some ⟨g, 0, none⟩) 32 sec (some ⟨w.heap.size + 1, 0, none⟩) 2 [⟨some ⟨w.heap.size, 0, none⟩, 13, retryT⟩, ⟨A, c, b⟩] ((w.alloc (.cells #[.int .u8 104, .int .u8 111, .int .u8 115, .int .u8 116, .int .u8 108, .int .u8 101, .int .u8 114, .int .u8 32, .int .u8 114, .int .u8 101, .int .u8 116, .int .u8 114, .int .u8 121] 5 (13, 14))).alloc (.cells #[.slice (some ⟨w.heap.size, 0, none⟩) 13 13, .slice A n c] 22)) KS.out hsb (by rw [hs]; exact Nat.le_refl _) (by rw [hs]; decide)
      (txs_lit _ KB.out (by simp [hn]; rfl) KB.out.lt (by
        intro t ht
        simp only [List.mem_cons, List.not_mem_nil, or_false] at ht
        rcases ht with rfl | rfl
        · exact ⟨T1.out, Nat.le_refl _⟩
        · exact ⟨TB.out, by rw [hn]; exact hc⟩)) (by
        intro t ht
        simp only [List.mem_cons, List.not_mem_nil, or_false] at ht
        rcases ht with rfl | rfl
        · exact retryT_byt
        · exact hb) (by rw [hj, List.length_append, hn]; show 13 + n ≤ _; omega) (by simp)
    rw [hs, hj] at h
    exact h)
  have HX := Lib.hid (macL_len sec (retryT ++ b))
  have HMR : Hid (macR sec b = (macL sec (retryT ++ b)).take 16) := Lib.hid rfl
  rw [show MacPost sec b w = fun e w' => ∃ A, e = .returned (.slice A 16 32) ∧ Rd w'.heap.size .u8 w' A (macR sec b) ∧ Below w.heap.size w w' from rfl, HMR.out]
  generalize macL sec (retryT ++ b) = X at *
  have hg : g < w.heap.size := Blk.lt hk
  clear hk hs hsb hn hr hb T1 TB KS KB HMR
  go_enter Try.func28, Try.ntmps28
  go_wp2_with fail
  generalize hw1 : ((w.alloc (.cells #[.int .u8 104, .int .u8 111, .int .u8 115, .int .u8 116, .int .u8 108, .int .u8 101, .int .u8 114, .int .u8 32, .int .u8 114, .int .u8 101, .int .u8 116, .int .u8 114, .int .u8 121] 5 (13, 14))).alloc (.cells #[.slice (some ⟨w.heap.size, 0, none⟩) 13 13, .slice A n c] 22)) = w1 at *
  clear hw1 cv1
  refine Calls.mono MC.out ?_
  rintro e w2 ⟨rfl, b2⟩
  have B2 := Lib.hid (BW.out.trans (b2.mono BW.out.size))
  clear b2 MC BW
  go_wp2_with ((with_reducible (show wpList _ _ _ (⟨none, .store 35 _ _, _, _, _, _⟩ :: _) _ _)); refine wpList_storeArr (o := ⟨none, .store 35 _ _, _, _, _, _⟩) (g := w2.heap.size) (t := 35) (k := .u8) (xs := X) (n := 32) rfl _ _ rfl rfl rfl (Blk.new _ _ _) size35 (HX.out.symm) rfl ?_; intro w3 ha3 hg3; have HA3 := Lib.hid ha3; have HG3 := Lib.hid hg3; clear ha3 hg3)
  have B3 := Lib.hid (B2.out.trans ((((Below.refl w2.heap.size w2).alloc (Nat.le_refl _) _).trans (below_of_only HG3.out (Nat.le_refl _) (by simp))).mono B2.out.size))
  clear HG3 B2
  go_wp2_with fail
  go_ret
  exact ⟨_, rfl, (rd_take_ HA3.out.rd 16), B3.out⟩
end Go.Proofs.Ytieabfifaigjdaa
