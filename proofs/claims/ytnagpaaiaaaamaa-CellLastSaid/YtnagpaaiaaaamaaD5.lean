/- Layer 26, the reference's: contract of Put. Conditions: as each theorem states them. -/
import Derived.Test.YtnagpaaiaaaamaaD4
import Derived.Test.YtnagpaaiaaaamaaS12
namespace Go.Proofs.Ytnagpaaiaaaamaa
open Go.RowKit
theorem rsum_n (A : Option Addr) (n c : Nat) (L : List Int) (w : World) (hn : n = L.length) (hr : Rd w.heap.size .u8 w A L) (hb : Byt L) (hl : L.length ≤ 1000000000000) :
    Calls Try.prog 27 #[.slice A n c] w (ShaPost L w) := by subst hn; exact rsum_any A c L w hr hb hl
theorem own_ne {B : Nat} {e t : TypeId} {k : IntKind} {w : World} {A : Option Addr} {n c g : Nat} {xs : List Int} {cs : Array Value} (h : Own B e k w A n c xs) (hg : Blk w g t cs) (hne : e ≠ t) : some g ≠ ablk A := by
  have := own_blk_ne h.1 hg hne
  rw [ownBlock_slice] at this
  exact fun q => this q.symm
attribute [local irreducible] CL.size CL.body
set_option maxRecDepth 100000 in
set_option maxHeartbeats 8000000 in
theorem rput_any (ep ow nx sn : Int) (A : Option Addr) (n cap : Nat) (ts : List Tx) (k : Int) (w : World) (hc : CIn w.heap.size w A n cap ts) (hf : (cl_ ep ow nx sn ts).Fit) (hl : rowsN (bsT ts) ≤ 16000000) (k0 : 0 ≤ k) (k1 : k < 18446744073709551616) :
    Calls Try.prog 11 #[.agg #[.int .u64 ep, .int .u8 ow, .int .u64 nx, .int .u64 sn, .slice A n cap], .int .u64 k] w (RetOwn 5 .u8 ((cl_ ep ow nx sn ts).rcd k) w) := by
  have HR : Hid ((cl_ ep ow nx sn ts).hed k = beL k 8 ++ beL ((cl_ ep ow nx sn ts).size : Nat) 4 ++ (cl_ ep ow nx sn ts).body) := Lib.hid rfl
  have HRC : Hid ((cl_ ep ow nx sn ts).rcd k = (cl_ ep ow nx sn ts).hed k ++ (shaL ((cl_ ep ow nx sn ts).hed k)).take 8) := Lib.hid rfl
  have HHL0 := CL.hed_len (cl_ ep ow nx sn ts) k
  have HSE : (cl_ ep ow nx sn ts).size = 29 + rowsN (bsT ts) := by unfold CL.size; rfl
  have HHL : Hid (((cl_ ep ow nx sn ts).hed k).length ≤ 16000041) := Lib.hid (by omega)
  have HHB := Lib.hid (CL.hed_byt hf k)
  have HBL := Lib.hid (CL.body_len (cl_ ep ow nx sn ts))
  have HBD := Lib.hid (fun (w1 : World) (b : CIn w1.heap.size w1 A n cap ts) => rbody_any ep ow nx sn A n cap ts w1 b hf (by omega))
  rw [HRC.out]
  obtain ⟨z, hz⟩ : ∃ z, (cl_ ep ow nx sn ts).size = z := ⟨_, rfl⟩
  have hzb : z ≤ 16000029 := by omega
  rw [hz] at HR HBL
  generalize (cl_ ep ow nx sn ts).hed k = D at *
  generalize (cl_ ep ow nx sn ts).body = Y at *
  have B0 := Lib.hid ((Below.refl w.heap.size w).alloc (Nat.le_refl _) (.cells #[.int .u64 ep, .int .u8 ow, .int .u64 nx, .int .u64 sn, .slice A n cap] 25))
  have C0 := Lib.hid ((hc.below B0.out (Nat.le_refl _)).mono B0.out.size)
  clear hc hf hl hz HRC HHL0 HSE
  go_enter Try.func11, Try.ntmps11
  go_wp2_with fail
  refine Calls.mono (HBD.out _ C0.out) ?_
  rintro e w2 ⟨A2, n2, c2, rfl, o2, b2⟩
  have B2 := Lib.hid (B0.out.trans (b2.mono B0.out.size))
  have hz2 := B2.out.size
  have O2 := Lib.hid (o2.mono B0.out.size)
  obtain rfl : n2 = z := by rw [o2.len, HBL.out]
  have R2 := Lib.hid o2.rd
  clear o2 b2 B0 C0 HBD O2
  go_wp2_with fail
  refine Calls.mono (rn_any k 8 _ k0 k1 (by omega) (by omega)) ?_
  rintro e w3 ⟨A3, n3, c3, rfl, o3, b3⟩
  have O3 := Lib.hid o3
  have B3 := Lib.hid b3
  have hz3 := B3.out.size
  clear o3 b3
  go_wp2_with fail
  refine Calls.mono (rn_any (n2 : Int) 4 _ (by omega) (by omega) (by omega) (by omega)) ?_
  rintro e w4 ⟨A4, n4, c4, rfl, o4, b4⟩
  have O34 := Lib.hid (O3.out.below b4)
  have R4 := Lib.hid o4.rd
  have L4 := Lib.hid o4.len
  have B4 := Lib.hid (B3.out.trans (b4.mono hz3))
  have hz4 := B4.out.size
  clear o4 b4 O3 B3
  have HBL2 : Y.length = n2 := HBL.out
  go_wp2_with (first
    | ((with_reducible (show wpList _ _ _ (⟨some 17, _, _, _, _, _⟩ :: _) _ _)); go_loud (refine wpList_app (o := ⟨some 17, _, _, _, _, _⟩) elC rfl _ _ rfl rfl rfl O34.out R4.out L4.out ?_ ?_ ?_); (simp [beL_len]); (first | omega | (simp <;> omega)); intro A5 n5 c5 w5 q5; have O5 := Lib.hid q5.1; have B5 := Lib.hid ((B4.out).trans q5.2.2.1); clear q5; have R5 := Lib.hid (R2.out.below B5.out (Nat.le_refl _)); have hz5 := B5.out.size)
    | ((with_reducible (show wpList _ _ _ (⟨some 20, _, _, _, _, _⟩ :: _) _ _)); go_loud (refine wpList_app (o := ⟨some 20, _, _, _, _, _⟩) elC rfl _ _ rfl rfl rfl O5.out R5.out HBL.out.symm ?_ ?_ ?_); (rw [HBL.out]; simp [beL_len]; omega); (first | omega | (simp <;> omega)); intro A6 n6 c6 w6 q6; have O6 := Lib.hid q6.1; have B6 := Lib.hid ((B5.out).trans q6.2.2.1); clear q6))
  have hz6 := B6.out.size
  have HO6 : Hid (Own w2.heap.size 5 .u8 w6 A6 n6 c6 D) := Lib.hid (O6.out.cast HR.out.symm)
  clear O6 O5 R5 B5 B4 O34 R4 L4 R2 HBL2 HR
  go_wp2_with fail
  refine Calls.mono (rsum_n A6 n6 c6 D _ HO6.out.len HO6.out.rd HHB.out (by have := HHL.out; omega)) ?_
  rintro e w7 ⟨rfl, b7⟩
  have O7 := Lib.hid (HO6.out.below b7)
  have B7 := Lib.hid (B6.out.trans (b7.mono hz6))
  have hz7 := B7.out.size
  clear b7 HO6 B6
  have hX : Hid ((shaL D).length = 32) := Lib.hid (shaL_len D)
  generalize shaL D = Y32 at *
  go_wp2_with ((with_reducible (show wpList _ _ _ (⟨none, .store 56 _ _, _, _, _, _⟩ :: _) _ _)); go_loud (refine wpList_storeArr (o := ⟨none, .store 56 _ _, _, _, _, _⟩) (g := w7.heap.size) (t := 56) (k := .u8) (xs := Y32) (n := 32) rfl _ _ rfl rfl rfl (Blk.new _ _ _) size32c hX.out.symm rfl ?_); intro w8 ha8 hg8; have HA8 := Lib.hid ha8; have HB8 := Lib.hid (((Below.refl w7.heap.size w7).alloc (Nat.le_refl _) _).trans (below_of_only hg8 (Nat.le_refl _) (by simp))); clear ha8 hg8)
  have O8 := Lib.hid (O7.out.below HB8.out)
  have B8 := Lib.hid (B7.out.trans (HB8.out.mono hz7))
  obtain ⟨gy, hgy⟩ : ∃ g, w7.heap.size = g := ⟨_, rfl⟩
  rw [hgy] at HA8 ⊢
  clear O7 B7 HB8 hgy
  go_loopw [6, 8] (fun b i wr => ∃ (q m c : Nat) (AA : Option Addr), q ≤ 8 ∧ i = .int .i64 q ∧ b = .slice AA m c ∧ Hid (Own w2.heap.size 5 .u8 wr AA m c (D ++ Y32.take q)) ∧ Hid (Arr wr gy 56 .u8 Y32) ∧ Hid (Below w2.heap.size w2 wr)) (fun _ i _ => 8 - (intOf i).toNat)
  case atStart => exact ⟨0, n6, c6, A6, by omega, rfl, rfl, Lib.hid (by rw [List.take_zero, List.append_nil]; exact O8.out), HA8, B8⟩
  case round =>
    clear O8 HA8 B8
    obtain ⟨q, m, c, AA, hq, rfl, rfl, HO, HA, HB⟩ := hrel
    have hzr := HB.out.size
    by_cases hlt : q < 8
    · have e1 := HA.out.cell (i := q) (by rw [hX.out]; omega)
      have HTS := Lib.hid (take_snoc_getD (xs := Y32) (t := q) (by rw [hX.out]; omega))
      generalize Y32.getD q 0 = x at *
      go_wp2_with ((with_reducible (show wpList _ _ _ (⟨some 32, _, _, _, _, _⟩ :: _) _ _)); go_loud (refine wpList_app (o := ⟨some 32, _, _, _, _, _⟩) elC rfl _ _ rfl rfl rfl (HO.out.alloc _) (Rd.newAt (xs := [x]) rfl rfl) rfl ?_ ?_ ?_); (have h1 := HHL.out; rw [List.length_append, List.length_take]; simp; omega); (simp <;> omega); intro A9 n9 c9 w9 q9; have O9 := Lib.hid q9.1; have HA9 := Lib.hid ((HA.out.alloc _).grown q9.2.1 (own_ne HO.out HA.out (by decide))); have B9 := Lib.hid ((HB.out.alloc hzr _).trans q9.2.2.1); clear q9)
      have O9' : Hid (Own w2.heap.size 5 .u8 w9 A9 n9 c9 (D ++ Y32.take (q + 1))) := Lib.hid (O9.out.cast (by rw [HTS.out]; simp only [List.append_assoc]))
      clear O9 HO HA HB HTS e1
      go_roundw
      case rel => exact ⟨q + 1, n9, c9, A9, by omega, by go_num, rfl, O9', HA9, B9⟩
      case measure => simp [intOf]; omega
    · obtain rfl : q = 8 := by omega
      have FIN : Hid (RetOwn 5 .u8 (D ++ Y32.take 8) w (.returned (.slice AA m c)) wr) := Lib.hid ⟨AA, m, c, rfl, HO.out.mono hz2, B2.out.trans (HB.out.mono hz2)⟩
      clear HO HA HB
      go_wp2_with fail
      go_ret
      exact FIN.out
end Go.Proofs.Ytnagpaaiaaaamaa
