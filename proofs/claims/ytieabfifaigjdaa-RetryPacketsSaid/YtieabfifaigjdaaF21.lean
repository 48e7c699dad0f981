/- Layer 33, the reference's: contract of Packet. Conditions: as each theorem states them. -/
import Derived.Test.YtieabfifaigjdaaF18
namespace Go.Proofs.Ytieabfifaigjdaa
open Go.RowKit
attribute [local irreducible] tagP gsealL
set_option maxRecDepth 100000 in
set_option maxHeartbeats 4000000 in
theorem rpacket_any (first : Int) (E1 E2 E3 E4 : Option Addr) (c1 c2 c3 c4 : Nat) (dst src tok orig : List Int) (w : World) (f0 : 0 ≤ first) (f1 : first < 256) (r1 : Rd w.heap.size .u8 w E1 dst) (r2 : Rd w.heap.size .u8 w E2 src) (r3 : Rd w.heap.size .u8 w E3 tok) (r4 : Rd w.heap.size .u8 w E4 orig)
    (b1 : Byt dst) (b2 : Byt src) (b3 : Byt tok) (b4 : Byt orig) (l1 : dst.length ≤ 20) (l2 : src.length ≤ 20) (l3 : tok.length ≤ 1000) (l4 : orig.length ≤ 20) :
    Calls Try.prog 10 #[.int .u8 first, .slice E1 dst.length c1, .slice E2 src.length c2, .slice E3 tok.length c3, .slice E4 orig.length c4] w (RetOwn 5 .u8 (pktL first dst src tok orig) w) := by
  have R1 := Lib.hid r1
  have R2 := Lib.hid r2
  have R3 := Lib.hid r3
  have R4 := Lib.hid r4
  have HPB := Lib.hid (pkB_byt f0 f1 b1 b2 b3 (by omega) (by omega))
  have HB4 := Lib.hid b4
  have HPL := Lib.hid (pkB_len first dst src tok)
  have HPK : Hid (pktL first dst src tok orig = pkB first dst src tok ++ tagP (pkB first dst src tok) orig) := Lib.hid rfl
  have HTP : Hid (tagP (pkB first dst src tok) orig = gsealL K16r N12r ([(orig.length : Int)] ++ orig ++ pkB first dst src tok) []) := Lib.hid (by unfold tagP; rfl)
  have HTL := Lib.hid (tagP_len (pkB first dst src tok) orig)
  have HPE : Hid ([first, 0, 0, 0, 1, (dst.length : Int)] ++ dst ++ [(src.length : Int)] ++ src ++ tok = pkB first dst src tok) := Lib.hid rfl
  clear r1 r2 r3 r4 b1 b2 b3 b4
  go_enter Try.func10, Try.ntmps10
  go_wp2_with (first
    | (at_builtin; refine wpList_app (o := ⟨some 21, _, _, _, _, _⟩) elC rfl _ _ rfl rfl rfl (Own.litAt (xs := [first, 0, 0, 0, 1, (dst.length : Int)]) rfl rfl rfl (Nat.le_refl _) (by simp [maxLen])) (R1.out.alloc (Nat.le_refl _) _) (by first | rfl | simp) ?_ ?_ ?_; (simp <;> omega); exact Below.size ((Below.refl w.heap.size w).alloc (Nat.le_refl _) _); intro A1 n1 c1 w1 h1; have H1 := Lib.hid h1; have B1 := Lib.hid (Below.trans ((Below.refl w.heap.size w).alloc (Nat.le_refl _) _) h1.2.2.1); clear h1)
    | (at_builtin; refine wpList_app (o := ⟨some 27, _, _, _, _, _⟩) elC rfl _ _ rfl rfl rfl (H1.out.1.alloc _) (Rd.newAt (xs := [(src.length : Int)]) rfl rfl) (by first | rfl | simp) ?_ ?_ ?_; (simp <;> omega); exact Below.size (B1.out.alloc B1.out.size _); intro A2 n2 c2 w2 h2; have H2 := Lib.hid h2; have B2 := Lib.hid (Below.trans (B1.out.alloc B1.out.size _) h2.2.2.1); clear h2)
    | (at_builtin; refine wpList_app (o := ⟨some 29, _, _, _, _, _⟩) elC rfl _ _ rfl rfl rfl (H2.out.1) (R2.out.below B2.out (Nat.le_refl _)) (by first | rfl | simp) ?_ ?_ ?_; (simp <;> omega); exact Below.size (B2.out); intro A3 n3 c3 w3 h3; have H3 := Lib.hid h3; have B3 := Lib.hid (Below.trans (B2.out) h3.2.2.1); clear h3)
    | (at_builtin; refine wpList_app (o := ⟨some 32, _, _, _, _, _⟩) elC rfl _ _ rfl rfl rfl (H3.out.1) (R3.out.below B3.out (Nat.le_refl _)) (by first | rfl | simp) ?_ ?_ ?_; (simp <;> omega); exact Below.size (B3.out); intro A4 n4 c4 w4 h4; have H4 := Lib.hid h4; have B4 := Lib.hid (Below.trans (B3.out) h4.2.2.1); clear h4)
    | (at_builtin; (have _g := H5; clear _g); go_loud (refine wpList_app (o := ⟨some 42, _, _, _, _, _⟩) elC rfl _ _ rfl rfl rfl H5.out.1 ((H4.out.1.below D5.out).rd) H4.out.1.len ?_ (by have := Z5.out; omega) ?_); (simp; omega); intro A6 n6 c6 w6 h6; have H6 := Lib.hid h6; have D6 := Lib.hid (D5.out.trans (h6.2.2.1.mono (by omega))); clear h6)
    | (at_builtin; (have _g := H4; clear _g); go_loud (refine wpList_app (o := ⟨some 40, _, _, _, _, _⟩) (B := w4.heap.size + 2) elC rfl _ _ rfl rfl rfl (Own.litAt (xs := [(orig.length : Int)]) (by simp) rfl rfl (by omega) (by simp [maxLen])) ((((R4.out.below B4.out (Nat.le_refl _)).alloc B4.out.size _).alloc (Nat.le_trans B4.out.size (by simp)) _).alloc (Nat.le_trans B4.out.size (by simp; omega)) _) rfl ?_ ?_ ?_); (simp; omega); (simp); intro A5 n5 c5 w5 h5; have H5 := Lib.hid h5; clear h5; have Z5 : Hid (w4.heap.size + 3 ≤ w5.heap.size) := Lib.hid (by have h := H5.out.2.2.1.size; simp only [World.size_alloc] at h; omega); have D5 : Hid (Below w4.heap.size w4 w5) := Lib.hid (((((Below.refl w4.heap.size w4).alloc (Nat.le_refl _) _).alloc (by simp) _).alloc (by simp; omega) _).trans (H5.out.2.2.1.mono (by omega))); have K5 : Hid (Rd (w4.heap.size + 2) .u8 w5 (some ⟨w4.heap.size, 0, none⟩) K16r) := Lib.hid ((((((Rd.newAt (w := w4) (g := w4.heap.size) (e := 5) (k := .u8) (xs := K16r) rfl rfl).alloc (by simp) (.cells #[.int .u8 70, .int .u8 21, .int .u8 153, .int .u8 211, .int .u8 93, .int .u8 99, .int .u8 43, .int .u8 242, .int .u8 35, .int .u8 152, .int .u8 37, .int .u8 187] 5)).mono (show w4.heap.size + 1 ≤ w4.heap.size + 2 by omega)).alloc (by simp) _).below H5.out.2.2.1 (Nat.le_refl _))); have N5 : Hid (Rd (w4.heap.size + 2) .u8 w5 (some ⟨w4.heap.size + 1, 0, none⟩) N12r) := Lib.hid ((((Rd.newAt (w := w4.alloc (.cells #[.int .u8 190, .int .u8 12, .int .u8 105, .int .u8 11, .int .u8 159, .int .u8 102, .int .u8 87, .int .u8 90, .int .u8 29, .int .u8 118, .int .u8 107, .int .u8 84, .int .u8 227, .int .u8 104, .int .u8 200, .int .u8 78] 5)) (g := w4.heap.size + 1) (e := 5) (k := .u8) (xs := N12r) (by simp) rfl).alloc (by simp) _).below H5.out.2.2.1 (Nat.le_refl _)))))
  have O4 := Lib.hid (Own.cast H4.out.1 HPE.out)
  have N4 := Lib.hid O4.out.len
  have O6 : Hid (Own (w4.heap.size + 2) 5 .u8 w6 A6 n6 c6 ([(orig.length : Int)] ++ orig ++ pkB first dst src tok)) := Lib.hid (Own.cast H6.out.1 (by rw [HPE.out]))
  have hl6 : n6 ≤ 1068 := by rw [O6.out.len, List.length_append, List.length_append, HPL.out]; simp; omega
  have BAD := Lib.hid ((Byt.cons (x := (orig.length : Int)) ⟨by omega, by omega⟩ Byt.nil).append HB4.out |>.append HPB.out)
  have hz4 := B4.out.size
  have hz6 := H6.out.2.2.1.size
  have Z6 : Hid (w4.heap.size + 3 ≤ w6.heap.size) := Lib.hid (by have := Z5.out; omega)
  have K6 := Lib.hid ((K5.out.below H6.out.2.2.1 (Nat.le_refl _)).mono (show w4.heap.size + 2 ≤ w6.heap.size by have := Z6.out; omega))
  have NN6 := Lib.hid ((N5.out.below H6.out.2.2.1 (Nat.le_refl _)).mono (show w4.heap.size + 2 ≤ w6.heap.size by have := Z6.out; omega))
  have O46 := Lib.hid (O4.out.below D6.out)
  have B6 := Lib.hid (B4.out.trans (D6.out.mono hz4))
  have HN6 := Lib.hid (show ([(orig.length : Int)] ++ orig ++ pkB first dst src tok).length = n6 from O6.out.len.symm)
  clear H1 H2 H3 H4 H5 H6 B1 B2 B3 B4 D5 D6 K5 N5 O4 R1 R2 R3 R4 HPE
  generalize pkB first dst src tok = L at *
  refine Calls.mono (rnew_any (some ⟨w4.heap.size, 0, none⟩) 16 K16r w6 K16r_blk K6.out) ?_
  rintro e w7 ⟨A70, c70, A71, c71, rfl, x70, x71, b7⟩
  have X70 := Lib.hid x70
  have X71 := Lib.hid x71
  have NN7 := Lib.hid ((NN6.out.below b7 (Nat.le_refl _)).mono b7.size)
  have O7 := Lib.hid (O6.out.below b7)
  have O47 := Lib.hid (O46.out.below b7)
  have B7 := Lib.hid (B6.out.trans (b7.mono B6.out.size))
  clear x70 x71 b7 K6 NN6 O6 O46 B6
  go_wp2_with fail
  have hz7 := B7.out.size
  refine Calls.mono (rgseal_any A70 A71 (some ⟨w4.heap.size + 1, 0, none⟩) A6 none c70 c71 12 n6 c6 0 0 K16r N12r _ [] w7 K16r_blk N12r_len N12r_byt HN6.out BAD.out rfl Byt.nil (by omega) (by decide) X70.out X71.out NN7.out O7.out.rd Rd.nil) ?_
  rw [← HTP.out]
  rintro e w8 ⟨A8, n8, c8, rfl, o8, b8⟩
  have O8 := Lib.hid o8
  have O48 := Lib.hid (O47.out.below b8)
  have B8 := Lib.hid (B7.out.trans (b8.mono hz7))
  have N8 := Lib.hid o8.len
  clear o8 b8 X70 X71 NN7 O7 O47 B7
  go_wp2_with (at_builtin; go_loud (refine wpList_app (o := ⟨some 49, _, _, _, _, _⟩) elC rfl _ _ rfl rfl rfl O48.out O8.out.rd N8.out ?_ B8.out.size ?_); (rw [HPL.out, HTL.out]; omega); intro A9 n9 c9 w9 h9; have H9 := Lib.hid h9; clear h9)
  go_ret
  exact ⟨A9, n9, c9, rfl, Own.cast H9.out.1 HPK.out.symm, B8.out.trans H9.out.2.2.1⟩
end Go.Proofs.Ytieabfifaigjdaa
