/- Layer 33: contract of Put. Conditions: as each theorem states them. -/
import Derived.Test.YtieabfifaigjdaaF3
namespace Go.Proofs.Ytieabfifaigjdaa
open Go.RowKit
/-- a packet's bytes ahead of its tag -/
def pkB (first : Int) (dst src tok : List Int) : List Int := [first, 0, 0, 0, 1, (dst.length : Int)] ++ dst ++ [(src.length : Int)] ++ src ++ tok
def pktL (first : Int) (dst src tok orig : List Int) : List Int := pkB first dst src tok ++ tagP (pkB first dst src tok) orig
theorem pkB_len (first : Int) (dst src tok : List Int) : (pkB first dst src tok).length = 7 + dst.length + src.length + tok.length := by
  unfold pkB; simp only [List.length_append, List.length_cons, List.length_nil]; omega
theorem pkB_byt {first : Int} {dst src tok : List Int} (h0 : 0 ≤ first) (h1 : first < 256) (hd : Byt dst) (hs : Byt src) (ht : Byt tok) (ld : dst.length < 256) (ls : src.length < 256) : Byt (pkB first dst src tok) := by
  unfold pkB
  refine ((((Byt.append ?_ hd).append (Byt.cons ⟨by omega, by omega⟩ Byt.nil)).append hs).append ht)
  intro x hx
  simp only [List.mem_cons, List.not_mem_nil, or_false] at hx
  omega
theorem pktL_len (first : Int) (dst src tok orig : List Int) : (pktL first dst src tok orig).length = 23 + dst.length + src.length + tok.length := by
  unfold pktL; rw [List.length_append, pkB_len, tagP_len]; omega
theorem pktL_byt {first : Int} {dst src tok orig : List Int} (h0 : 0 ≤ first) (h1 : first < 256) (hd : Byt dst) (hs : Byt src) (ht : Byt tok) (ld : dst.length < 256) (ls : src.length < 256) : Byt (pktL first dst src tok orig) :=
  (pkB_byt h0 h1 hd hs ht ld ls).append (tagP_byt _ _)
theorem pk_facts {w : World} {g : Nat} {v0 v1 v2 : Value} (h : Blk w g 24 #[v0, v1, v2]) : w.cell? ⟨g, 0, none⟩ = some v0 ∧ w.cell? ⟨g, 1, none⟩ = some v1 ∧ w.cell? ⟨g, 2, none⟩ = some v2 := ⟨Blk.cell h 0, Blk.cell h 1, Blk.cell h 2⟩
attribute [local irreducible] gsealL tagP
set_option maxRecDepth 100000 in
set_option maxHeartbeats 8000000 in
theorem put_yes (A1 A2 A3 A4 : Option Addr) (n1 n2 n3 n4 c1 c2 c3 c4 : Nat) (dst src tok orig : List Int) (w : World) (h1 : dst.length = n1) (h2 : src.length = n2) (h3 : tok.length = n3) (h4 : orig.length = n4) (r1 : Rd w.heap.size .u8 w A1 dst) (r2 : Rd w.heap.size .u8 w A2 src) (r3 : Rd w.heap.size .u8 w A3 tok) (r4 : Rd w.heap.size .u8 w A4 orig)
    (b1 : Byt dst) (b2 : Byt src) (b3 : Byt tok) (b4 : Byt orig) (l1 : n1 ≤ 20) (l2 : n2 ≤ 20) (l4 : n4 ≤ 20) (l30 : 0 < n3) (l3 : n3 ≤ 900) (k1 : n1 ≤ c1) (k2 : n2 ≤ c2) (k3 : n3 ≤ c3) (k4 : n4 ≤ c4) :
    Calls Try.prog 9 #[.agg #[.slice A1 n1 c1, .slice A2 n2 c2, .slice A3 n3 c3], .slice A4 n4 c4] w (RetOwn2 5 .u8 (pktL 255 dst src tok orig) (.int .i64 0) w) := by
  have H1 := Lib.hid h1
  have H2 := Lib.hid h2
  have H3 := Lib.hid h3
  have H4 := Lib.hid h4
  have R1 := Lib.hid r1
  have R2 := Lib.hid r2
  have R3 := Lib.hid r3
  have R4 := Lib.hid r4
  have HB1 := Lib.hid b1
  have HB2 := Lib.hid b2
  have HB3 := Lib.hid b3
  have HB4 := Lib.hid b4
  clear h1 h2 h3 h4 r1 r2 r3 r4 b1 b2 b3 b4
  have Z0 : Hid (Blk (w.alloc (.cells #[.slice A1 n1 c1, .slice A2 n2 c2, .slice A3 n3 c3] 24)) w.heap.size 24 #[.slice A1 n1 c1, .slice A2 n2 c2, .slice A3 n3 c3]) := Lib.hid (Blk.new _ _ _)
  have B0 := Lib.hid ((Below.refl w.heap.size w).alloc (Nat.le_refl _) (.cells #[.slice A1 n1 c1, .slice A2 n2 c2, .slice A3 n3 c3] 24))
  have BW : Hid (Below w.heap.size w ((((w.alloc (.cells #[.slice A1 n1 c1, .slice A2 n2 c2, .slice A3 n3 c3] 24)).alloc (.cells #[.int .u8 255, .int .u8 0, .int .u8 0, .int .u8 0, .int .u8 1, .int .u8 n1] 5)).alloc (.cells #[.int .u8 n2] 5)).alloc (.cells #[.slice (some ⟨w.heap.size + 1, 0, none⟩) 6 6, .slice A1 n1 c1, .slice (some ⟨w.heap.size + 1 + 1, 0, none⟩) 1 1, .slice A2 n2 c2, .slice A3 n3 c3] 22))) := Lib.hid (((((Below.refl w.heap.size w).alloc (Nat.le_refl _) _).alloc (by simp) _).alloc (by simp; omega) _).alloc (by simp; omega) _)
  have BWS : Hid (w.heap.size ≤ ((((w.alloc (.cells #[.slice A1 n1 c1, .slice A2 n2 c2, .slice A3 n3 c3] 24)).alloc (.cells #[.int .u8 255, .int .u8 0, .int .u8 0, .int .u8 0, .int .u8 1, .int .u8 n1] 5)).alloc (.cells #[.int .u8 n2] 5)).alloc (.cells #[.slice (some ⟨w.heap.size + 1, 0, none⟩) 6 6, .slice A1 n1 c1, .slice (some ⟨w.heap.size + 1 + 1, 0, none⟩) 1 1, .slice A2 n2 c2, .slice A3 n3 c3] 22)).heap.size) := Lib.hid BW.out.size
  have CN : Hid (Calls Try.prog 19 #[.slice (some ⟨w.heap.size + 1 + 1 + 1, 0, none⟩) 5 5] ((((w.alloc (.cells #[.slice A1 n1 c1, .slice A2 n2 c2, .slice A3 n3 c3] 24)).alloc (.cells #[.int .u8 255, .int .u8 0, .int .u8 0, .int .u8 0, .int .u8 1, .int .u8 n1] 5)).alloc (.cells #[.int .u8 n2] 5)).alloc (.cells #[.slice (some ⟨w.heap.size + 1, 0, none⟩) 6 6, .slice A1 n1 c1, .slice (some ⟨w.heap.size + 1 + 1, 0, none⟩) 1 1, .slice A2 n2 c2, .slice A3 n3 c3] 22)) (RetOwn 5 .u8 (pkB 255 dst src tok) ((((w.alloc (.cells #[.slice A1 n1 c1, .slice A2 n2 c2, .slice A3 n3 c3] 24)).alloc (.cells #[.int .u8 255, .int .u8 0, .int .u8 0, .int .u8 0, .int .u8 1, .int .u8 n1] 5)).alloc (.cells #[.int .u8 n2] 5)).alloc (.cells #[.slice (some ⟨w.heap.size + 1, 0, none⟩) 6 6, .slice A1 n1 c1, .slice (some ⟨w.heap.size + 1 + 1, 0, none⟩) 1 1, .slice A2 n2 c2, .slice A3 n3 c3] 22)))) := Lib.hid (by
    have hj : joinT [(⟨some ⟨w.heap.size + 1, 0, none⟩, 6, [255, 0, 0, 0, 1, (n1 : Int)]⟩ : Tx), ⟨A1, c1, dst⟩, ⟨some ⟨w.heap.size + 1 + 1, 0, none⟩, 1, [(n2 : Int)]⟩, ⟨A2, c2, src⟩, ⟨A3, c3, tok⟩] = pkB 255 dst src tok := by
      unfold pkB; rw [H1.out, H2.out]; simp [joinT]
    have hk : Blk ((((w.alloc (.cells #[.slice A1 n1 c1, .slice A2 n2 c2, .slice A3 n3 c3] 24)).alloc (.cells #[.int .u8 255, .int .u8 0, .int .u8 0, .int .u8 0, .int .u8 1, .int .u8 n1] 5)).alloc (.cells #[.int .u8 n2] 5)).alloc (.cells #[.slice (some ⟨w.heap.size + 1, 0, none⟩) 6 6, .slice A1 n1 c1, .slice (some ⟨w.heap.size + 1 + 1, 0, none⟩) 1 1, .slice A2 n2 c2, .slice A3 n3 c3] 22)) (w.heap.size + 1 + 1 + 1) 22 #[.slice (some ⟨w.heap.size + 1, 0, none⟩) 6 6, .slice A1 n1 c1, .slice (some ⟨w.heap.size + 1 + 1, 0, none⟩) 1 1, .slice A2 n2 c2, .slice A3 n3 c3] := by
      have h := Blk.new (((w.alloc (.cells #[.slice A1 n1 c1, .slice A2 n2 c2, .slice A3 n3 c3] 24)).alloc (.cells #[.int .u8 255, .int .u8 0, .int .u8 0, .int .u8 0, .int .u8 1, .int .u8 n1] 5)).alloc (.cells #[.int .u8 n2] 5)) 22 #[.slice (some ⟨w.heap.size + 1, 0, none⟩) 6 6, .slice A1 n1 c1, .slice (some ⟨w.heap.size + 1 + 1, 0, none⟩) 1 1, .slice A2 n2 c2, .slice A3 n3 c3]
      simpa using h
    have h := concat_any (some ⟨w.heap.size + 1 + 1 + 1, 0, none⟩) 5 5 [⟨some ⟨w.heap.size + 1, 0, none⟩, 6, [255, 0, 0, 0, 1, (n1 : Int)]⟩, ⟨A1, c1, dst⟩, ⟨some ⟨w.heap.size + 1 + 1, 0, none⟩, 1, [(n2 : Int)]⟩, ⟨A2, c2, src⟩, ⟨A3, c3, tok⟩] ((((w.alloc (.cells #[.slice A1 n1 c1, .slice A2 n2 c2, .slice A3 n3 c3] 24)).alloc (.cells #[.int .u8 255, .int .u8 0, .int .u8 0, .int .u8 0, .int .u8 1, .int .u8 n1] 5)).alloc (.cells #[.int .u8 n2] 5)).alloc (.cells #[.slice (some ⟨w.heap.size + 1, 0, none⟩) 6 6, .slice A1 n1 c1, .slice (some ⟨w.heap.size + 1 + 1, 0, none⟩) 1 1, .slice A2 n2 c2, .slice A3 n3 c3] 22)) rfl (txs_lit _ hk (by simp [H1.out, H2.out, H3.out]) hk.lt (by
      intro t ht
      simp only [List.mem_cons, List.not_mem_nil, or_false] at ht
      have hz := BW.out.size
      rcases ht with rfl | rfl | rfl | rfl | rfl
      · refine ⟨?_, Nat.le_refl _⟩
        have q := Rd.newAt (w := w.alloc (.cells #[.slice A1 n1 c1, .slice A2 n2 c2, .slice A3 n3 c3] 24)) (g := w.heap.size + 1) (e := 5) (k := .u8) (xs := [255, 0, 0, 0, 1, (n1 : Int)]) (by simp) rfl
        have q1 := q.alloc (by simp) (.cells #[.int .u8 n2] 5)
        exact ((q1.alloc (by simp) (.cells #[.slice (some ⟨w.heap.size + 1, 0, none⟩) 6 6, .slice A1 n1 c1, .slice (some ⟨w.heap.size + 1 + 1, 0, none⟩) 1 1, .slice A2 n2 c2, .slice A3 n3 c3] 22)).mono (by simp))
      · exact ⟨(R1.out.below BW.out (Nat.le_refl _)).mono hz, by rw [H1.out]; exact k1⟩
      · refine ⟨?_, Nat.le_refl _⟩
        have q := Rd.newAt (w := ((w.alloc (.cells #[.slice A1 n1 c1, .slice A2 n2 c2, .slice A3 n3 c3] 24)).alloc (.cells #[.int .u8 255, .int .u8 0, .int .u8 0, .int .u8 0, .int .u8 1, .int .u8 n1] 5))) (g := w.heap.size + 1 + 1) (e := 5) (k := .u8) (xs := [(n2 : Int)]) (by simp) rfl
        exact ((q.alloc (by simp) (.cells #[.slice (some ⟨w.heap.size + 1, 0, none⟩) 6 6, .slice A1 n1 c1, .slice (some ⟨w.heap.size + 1 + 1, 0, none⟩) 1 1, .slice A2 n2 c2, .slice A3 n3 c3] 22)).mono (by simp))
      · exact ⟨(R2.out.below BW.out (Nat.le_refl _)).mono hz, by rw [H2.out]; exact k2⟩
      · exact ⟨(R3.out.below BW.out (Nat.le_refl _)).mono hz, by rw [H3.out]; exact k3⟩)) (by rw [hj, pkB_len, H1.out, H2.out, H3.out]; omega) (by decide)
    rw [hj] at h
    exact h)
  have HPL : Hid ((pkB 255 dst src tok).length = 7 + n1 + n2 + n3) := Lib.hid (by rw [pkB_len, H1.out, H2.out, H3.out])
  have HPB : Hid (Byt (pkB 255 dst src tok)) := Lib.hid (pkB_byt (by decide) (by decide) HB1.out HB2.out HB3.out (by rw [H1.out]; omega) (by rw [H2.out]; omega))
  have HPK : Hid (pktL 255 dst src tok orig = pkB 255 dst src tok ++ tagP (pkB 255 dst src tok) orig) := Lib.hid rfl
  have HTL := Lib.hid (tagP_len (pkB 255 dst src tok) orig)
  have d1 : decide ((20 : Int) < (n1 : Int)) = false := decide_eq_false (by omega)
  have d2 : decide ((20 : Int) < (n2 : Int)) = false := decide_eq_false (by omega)
  have d4 : decide ((20 : Int) < (n4 : Int)) = false := decide_eq_false (by omega)
  have d3 : ((n3 : Int) == 0) = false := by simp; omega
  obtain ⟨p0, p1, p2⟩ := pk_facts Z0.out
  rw [HPK.out]
  generalize pkB 255 dst src tok = L at *
  clear HPK H1 H2 H3 HB1 HB2 HB3
  go_enter Try.func9, Try.ntmps9
  go_wp2_with fail
  all_goals
    refine Calls.mono CN.out ?_
    rintro e w5 ⟨A5, n5, c5, rfl, o5, b5⟩
    have O5 := Lib.hid o5
    have N5 := Lib.hid o5.len
    have B5 := Lib.hid (BW.out.trans (b5.mono BW.out.size))
    have hn5 : n5 ≤ 1000 := by rw [o5.len, HPL.out]; omega
    clear o5 b5 CN BW d1 d2 d3 d4 p0 p1 p2 Z0 B0
    go_wp2_with fail
    refine Calls.mono (tag_any A5 A4 n5 n4 c5 c4 L orig w5 N5.out.symm H4.out O5.out.rd ((R4.out.below B5.out (Nat.le_refl _)).mono B5.out.size) HPB.out HB4.out hn5 l4 O5.out.cap.1 k4) ?_
    rintro e w6 ⟨A6, n6, c6, rfl, o6, b6⟩
    have O6 := Lib.hid o6
    have N6 := Lib.hid o6.len
    have O5' := Lib.hid ((O5.out.below b6).mono (show w.heap.size ≤ _ from BWS.out))
    have B6 := Lib.hid (B5.out.trans (b6.mono B5.out.size))
    have hn6 : n6 ≤ 16 := by rw [o6.len, HTL.out]; omega
    clear o6 b6 O5
    go_wp2_with (at_builtin; go_loud (refine wpList_app (o := ⟨some 45, _, _, _, _, _⟩) elC rfl _ _ rfl rfl rfl O5'.out O6.out.rd N6.out ?_ B6.out.size ?_); (rw [← N5.out, ← N6.out]; omega); intro A7 n7 c7 w7 h7; have H7 := Lib.hid h7; clear h7)
    go_ret2
    exact ⟨_, _, _, rfl, H7.out.1, B6.out.trans H7.out.2.2.1⟩
set_option maxRecDepth 100000 in
set_option maxHeartbeats 4000000 in
theorem put_no (A1 A2 A3 A4 : Option Addr) (n1 n2 n3 n4 c1 c2 c3 c4 : Nat) (w : World) (hm : ¬ (n1 ≤ 20 ∧ n2 ≤ 20 ∧ n4 ≤ 20 ∧ 0 < n3)) :
    Calls Try.prog 9 #[.agg #[.slice A1 n1 c1, .slice A2 n2 c2, .slice A3 n3 c3], .slice A4 n4 c4] w fun e w' => e = .returned (.tuple #[.slice none 0 0, .int .i64 2]) ∧ Below w.heap.size w w' := by
  have Z0 : Hid (Blk (w.alloc (.cells #[.slice A1 n1 c1, .slice A2 n2 c2, .slice A3 n3 c3] 24)) w.heap.size 24 #[.slice A1 n1 c1, .slice A2 n2 c2, .slice A3 n3 c3]) := Lib.hid (Blk.new _ _ _)
  have B0 := Lib.hid ((Below.refl w.heap.size w).alloc (Nat.le_refl _) (.cells #[.slice A1 n1 c1, .slice A2 n2 c2, .slice A3 n3 c3] 24))
  obtain ⟨p0, p1, p2⟩ := pk_facts Z0.out
  clear Z0
  rcases (show 20 < n1 ∨ 20 < n2 ∨ 20 < n4 ∨ n3 = 0 by omega) with h | h | h | h
  · clear hm
    have h' : (20 : Int) < (n1 : Int) := by omega
    go_enter Try.func9, Try.ntmps9
    go_wp2_with fail
    all_goals first
      | (go_ret2; exact ⟨rfl, B0.out⟩)
      | (exfalso; omega)
  · clear hm
    have h' : (20 : Int) < (n2 : Int) := by omega
    go_enter Try.func9, Try.ntmps9
    go_wp2_with fail
    all_goals first
      | (go_ret2; exact ⟨rfl, B0.out⟩)
      | (exfalso; omega)
  · clear hm
    have h' : (20 : Int) < (n4 : Int) := by omega
    go_enter Try.func9, Try.ntmps9
    go_wp2_with fail
    all_goals first
      | (go_ret2; exact ⟨rfl, B0.out⟩)
      | (exfalso; omega)
  · clear hm
    have h' : ((n3 : Int) == 0) = true := by simp; omega
    clear h
    go_enter Try.func9, Try.ntmps9
    go_wp2_with fail
    all_goals first
      | (go_ret2; exact ⟨rfl, B0.out⟩)
      | (exfalso; omega)
end Go.Proofs.Ytieabfifaigjdaa
