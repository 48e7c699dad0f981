/- Contracts: the law's own known of layer 10; the law KeyMakes, walked. Conditions: as each theorem states them. -/
import Derived.Test.YthpacdondnenmaaY8
namespace Go.Proofs.Ythpacdondnenmaa
open Go.RowKit
section
variable {S K I H : List Int} {p : Int} {w : World} {g : Nat}
theorem ky_rdK (h : KyOk S K I H) (b : KyB w g S K I H p) : Rd w.heap.size .u8 w (some ⟨g, 32, none⟩) K := blk_rd (A := iv .u8 S) b (by rw [iv_len, h.s])
theorem ky_rdI (h : KyOk S K I H) (b : KyB w g S K I H p) : Rd w.heap.size .u8 w (some ⟨g, 48, none⟩) I := blk_rd (A := iv .u8 S ++ iv .u8 K) (Blk.cast b (by rw [kyL_2])) (by simp [iv_len, h.s, h.k])
theorem ky_rdH (h : KyOk S K I H) (b : KyB w g S K I H p) : Rd w.heap.size .u8 w (some ⟨g, 60, none⟩) H := blk_rd (A := iv .u8 S ++ iv .u8 K ++ iv .u8 I) (Blk.cast b (by rw [kyL_3])) (by simp [iv_len, h.s, h.k, h.i])
end
set_option maxRecDepth 100000 in
set_option maxHeartbeats 4000000 in
theorem known10_any (w : World) : Calls Try.prog 6 #[] w fun e w' => e = .returned (.bool true) ∧ Below w.heap.size w w' := by
  have HZ := Lib.hid zeroKeys
  go_enter Try.func6, Try.ntmps6
  go_wp2_with fail
  refine Calls.mono (initial_any (some ⟨w.heap.size, 0, none⟩) 8 idK _ rfl ((Rd.newAt (e := 5) rfl rfl).mono (by simp)) idK_byt (by decide) (by decide)) ?_
  rintro e w1 ⟨rfl, hb1⟩
  have B1 := Lib.hid (((Below.refl _ _).alloc (Nat.le_refl _) _).trans (hb1.mono (by simp)))
  have KC := Lib.hid exC_ok
  have KS := Lib.hid exS_ok
  have h1 := ini_c
  have h2 := ini_s
  have I1 := Lib.hid h1
  have I2 := Lib.hid h2
  clear h1 h2 hb1
  generalize iniV idK sCl = V1 at *
  generalize iniV idK sSe = V2 at *
  have ZA : Hid (Blk ((w1.alloc (.cells Try.zeroCells27 27)).alloc (.cells Try.zeroCells27 27)) w1.heap.size 27 Try.zeroCells27) := Lib.hid ((Blk.new _ _ _).alloc _)
  have ZB : Hid (Blk ((w1.alloc (.cells Try.zeroCells27 27)).alloc (.cells Try.zeroCells27 27)) (w1.heap.size + 1) 27 Try.zeroCells27) := Lib.hid (blk_new_at (by simp))
  obtain ⟨w2, hs2, hk2, hg2⟩ := ky_store (p := 0) KC.out ZA.out HZ.out
  have S2 := Lib.hid hs2
  rw [← I1.out] at S2
  have Z2 := Lib.hid (Blk.grown ZB.out hg2 (by simp))
  obtain ⟨w3, hs3, hk3, hg3⟩ := ky_store (p := 0) KS.out Z2.out HZ.out
  have S3 := Lib.hid hs3
  rw [← I2.out] at S3
  have K2 := Lib.hid (Blk.grown hk2 hg3 (by simp))
  have K3 := Lib.hid hk3
  have B3 : Hid (Below w.heap.size w w3) := Lib.hid (((B1.out.trans ((((Below.refl w1.heap.size w1).alloc (Nat.le_refl _) _).alloc (by simp) _).mono B1.out.size)).trans (below_of_only hg2 B1.out.size (by have := B1.out.size; simp; omega))).trans (below_of_only hg3 (by have := B1.out.size; omega) (by have := B1.out.size; have := hg2.size; simp at this; omega)))
  clear hs2 hk2 hg2 hs3 hk3 hg3
  have v1 := conv_n (ky_rdK KC.out K2.out) exCKey_len 16
  have v2 := conv_n (ky_rdI KC.out K2.out) exCIv_len 12
  have v3 := conv_n (ky_rdH KC.out K2.out) exCHp_len 16
  have v4 := conv_n (ky_rdK KS.out K3.out) exSKey_len 16
  have v5 := conv_n (ky_rdI KS.out K3.out) exSIv_len 12
  have v6 := conv_n (ky_rdH KS.out K3.out) exSHp_len 16
  rw [exCKey_str] at v1
  rw [exCIv_str] at v2
  rw [exCHp_str] at v3
  rw [exSKey_str] at v4
  rw [exSIv_str] at v5
  rw [exSHp_str] at v6
  go_wp2_with (first
    | ((with_reducible (show wpList _ _ _ (⟨none, .store 27 _ _, _, _, _, _⟩ :: _) _ _)); refine wpList_storeV (o := ⟨none, .store 27 _ _, _, _, _, _⟩) rfl _ _ rfl rfl rfl S2.out ?_)
    | ((with_reducible (show wpList _ _ _ (⟨none, .store 27 _ _, _, _, _, _⟩ :: _) _ _)); refine wpList_storeV (o := ⟨none, .store 27 _ _, _, _, _, _⟩) rfl _ _ rfl rfl rfl S3.out ?_))
  go_ret
  exact ⟨rfl, B3.out⟩
end Go.Proofs.Ythpacdondnenmaa
