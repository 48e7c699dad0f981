/- What is expanded, as a plain function; contract of kdf.Expand. Conditions: as each theorem states them. -/
import Derived.Test.YthpacdondnenmaaK3
namespace Go.Proofs.Ythpacdondnenmaa
open Go.RowKit

def expT (S I : List Int) : Nat → List Int
  | 0 => []
  | i + 1 => macL S (expT S I i ++ (I ++ [((i + 1 : Nat) : Int) % 256]))
def expO (S I : List Int) : Nat → List Int
  | 0 => []
  | i + 1 => expO S I i ++ expT S I (i + 1)
theorem expT_zero (S I : List Int) : expT S I 0 = [] := rfl
theorem expT_succ (S I : List Int) (i : Nat) : expT S I (i + 1) = macL S (expT S I i ++ (I ++ [((i + 1 : Nat) : Int) % 256])) := rfl
theorem expO_zero (S I : List Int) : expO S I 0 = [] := rfl
theorem expO_succ (S I : List Int) (i : Nat) : expO S I (i + 1) = expO S I i ++ expT S I (i + 1) := rfl
theorem expT_len (S I : List Int) (i : Nat) : (expT S I (i + 1)).length = 32 := macL_len _ _
theorem expT_le (S I : List Int) (i : Nat) : (expT S I i).length ≤ 32 := by
  cases i with
  | zero => simp [expT]
  | succ i => rw [expT_len]; omega
theorem expT_byt (S I : List Int) (i : Nat) : Byt (expT S I i) := by
  cases i with
  | zero => exact Byt.nil
  | succ i => exact macL_byt _ _
theorem expO_len (S I : List Int) (i : Nat) : (expO S I i).length = 32 * i := by
  induction i with
  | zero => rfl
  | succ i ih => rw [expO_succ, List.length_append, ih, expT_len]; omega
theorem expO_byt (S I : List Int) (i : Nat) : Byt (expO S I i) := by
  induction i with
  | zero => exact Byt.nil
  | succ i ih => rw [expO_succ]; exact ih.append (expT_byt _ _ _)
theorem expO_pre (S I : List Int) (i j : Nat) : ∃ Z, expO S I (i + j) = expO S I i ++ Z := by
  induction j with
  | zero => exact ⟨[], by simp⟩
  | succ j ih =>
    obtain ⟨Z, h⟩ := ih
    exact ⟨Z ++ expT S I (i + j + 1), by rw [show i + (j + 1) = i + j + 1 by omega, expO_succ, h, List.append_assoc]⟩
def expL (S I : List Int) (n : Int) : List Int := if n < 1 ∨ 8160 < n then [] else (expO S I ((n.toNat + 31) / 32)).take n.toNat
theorem expL_out (S I : List Int) {n : Int} (h : n < 1 ∨ 8160 < n) : expL S I n = [] := by unfold expL; rw [if_pos h]
theorem expL_in (S I : List Int) {N : Nat} (h1 : 1 ≤ N) (h2 : N ≤ 8160) : expL S I (N : Int) = (expO S I ((N + 31) / 32)).take N := by
  unfold expL; rw [if_neg (by omega), Int.toNat_natCast]
theorem expL_len (S I : List Int) {N : Nat} (h1 : 1 ≤ N) (h2 : N ≤ 8160) : (expL S I (N : Int)).length = N := by
  rw [expL_in S I h1 h2, List.length_take, expO_len]; omega
theorem expL_byt (S I : List Int) (n : Int) : Byt (expL S I n) := by
  unfold expL
  split
  · exact Byt.nil
  · exact (expO_byt _ _ _).take _
theorem expL_first (S I : List Int) {N M : Nat} (h1 : 1 ≤ N) (h2 : N ≤ M) (h3 : M ≤ 8160) : (expL S I (M : Int)).take N = expL S I (N : Int) := by
  rw [expL_in S I h1 (by omega), expL_in S I (by omega) h3, List.take_take, Nat.min_eq_left h2]
  obtain ⟨Z, hZ⟩ := expO_pre S I ((N + 31) / 32) ((M + 31) / 32 - (N + 31) / 32)
  rw [show (N + 31) / 32 + ((M + 31) / 32 - (N + 31) / 32) = (M + 31) / 32 by omega] at hZ
  rw [hZ, List.take_append_of_le_length (by rw [expO_len]; omega)]
attribute [irreducible] expT expO expL

theorem join_three (a b d : Option Addr) (p q r : Nat) (x y z : List Int) : joinT [⟨a, p, x⟩, ⟨b, q, y⟩, ⟨d, r, z⟩] = x ++ (y ++ z) := by unfold joinT; simp
theorem mac_at {n m : Nat} (A : Option Addr) (c : Nat) (K : List Int) (A2 : Option Addr) (c2 : Nat) (ts : List Tx) (w : World) (hn : K.length = n) (hm : ts.length = m) (hr : Rd w.heap.size .u8 w A K) (hb : Byt K) (hcap : K.length ≤ c) (hl : K.length ≤ 1000000000) (hr2 : Txs w.heap.size w A2 ts) (hb2 : BytT ts) (hl2 : (joinT ts).length ≤ 1000000000) (hn2 : ts.length ≤ 1000000000) :
    Calls Try.prog 51 #[.slice A n c, .slice A2 m c2] w (ArrPost (macL K (joinT ts)) w) := by
  subst hn; subst hm; exact mac_any A c K A2 c2 ts w hr hb hcap hl hr2 hb2 hl2 hn2
theorem slice_hn {P : Program} {t e : TypeId} {k : IntKind} {bytes : Nat} {B : Nat} {w : World} {A : Option Addr} {xs : List Int} {c n : Nat} (E : ElT P t e k bytes) (hr : Rd B k w A xs) (hn : xs.length = n) (hc : n ≤ c) (m : Nat) (h2 : m ≤ n) :
    ∃ A' c', m ≤ c' ∧ c' ≤ c ∧ Rd B k w A' (xs.take m) ∧ (xs.take m).length = m ∧
      ∀ (w : World) (kh : IntKind), (Instr.sliceAt t (.slice A n c) none (some (.int kh (m : Int))) none).run P w = .ok (.slice A' m c') w := by
  subst hn; exact slice_h E hr hc (m : Int) m (by omega) rfl

set_option maxRecDepth 100000 in
set_option maxHeartbeats 4000000 in
theorem expand_in (S : List Int) (A : Option Addr) (c : Nat) (I : List Int) (N : Nat) (w : World) (hS : S.length = 32) (hSb : Byt S) (hr : Rd w.heap.size .u8 w A I) (hb : Byt I) (hcap : I.length ≤ c) (hl : I.length ≤ 1000000) (h1 : 1 ≤ N) (h2 : N ≤ 8160) :
    Calls Try.prog 69 #[.agg (cellsL .u8 S), .slice A I.length c, .int .i64 N] w (SliPost (expL S I (N : Int)) w) := by
  have HR := Lib.hid hr
  have HBY := Lib.hid hb
  have HS := Lib.hid hS
  have HSB := Lib.hid hSb
  have HEI := Lib.hid (expL_in S I h1 h2)
  have HEL := Lib.hid (expL_len S I h1 h2)
  clear hr hb hS hSb
  go_enter Try.func69, Try.ntmps69
  go_wp2_with fail
  have SA : Hid (Arr (w.alloc (.cells (cellsL .u8 S) 22)) w.heap.size 22 .u8 S) := Lib.hid (Arr.newAt rfl rfl)
  go_loopw [7, 8, 9] (fun o l i wr => ∃ (r : Nat) (A1 : Option Addr) (n1 c1 : Nat) (A2 : Option Addr) (n2 c2 : Nat) (x : Int), o = .slice A1 n1 c1 ∧ l = .slice A2 n2 c2 ∧ i = .int .u8 x ∧ 0 ≤ x ∧ x < 256 ∧ Hid (x = ((r + 1 : Nat) : Int) % 256) ∧ Hid (n1 = 32 * r) ∧ 32 * r < N + 32 ∧ Hid (Own (w.heap.size + 1) 5 .u8 wr A1 n1 c1 (expO S I r)) ∧ Hid (Rd wr.heap.size .u8 wr A2 (expT S I r)) ∧ Hid (n2 = (expT S I r).length) ∧ n2 ≤ c2 ∧ Hid (Arr wr w.heap.size 22 .u8 S) ∧ Hid (Below w.heap.size w wr)) (fun o _ _ _ => N - (match o with | .slice _ n _ => n | _ => 0))
  case atStart => exact ⟨0, none, 0, 0, none, 0, 0, 1, rfl, rfl, rfl, by omega, by omega, Lib.hid rfl, Lib.hid rfl, by omega, Lib.hid (by rw [expO_zero]; exact Own.nil _ _ _ _), Lib.hid (by rw [expT_zero]; exact Rd.nil), Lib.hid (by rw [expT_zero]; rfl), Nat.le_refl _, SA, Lib.hid ((Below.refl _ _).alloc (Nat.le_refl _) _)⟩
  case round =>
    clear SA
    obtain ⟨r, A1, n1, c1, A2, n2, c2, x, rfl, rfl, rfl, hx0, hx1, HX, HN1, hr32, HO, HT, HN2, hc2, SA, HB⟩ := hrel
    have hOc := HO.out.cap
    by_cases hlt : n1 < N
    · have z0 : w.heap.size < wr.heap.size := SA.out.lt
      have R1 := Lib.hid (HR.out.below HB.out (Nat.le_refl _))
      have HTL := Lib.hid (expT_le S I r)
      have HTB := Lib.hid (expT_byt S I r)
      have HTS := Lib.hid (expT_succ S I r)
      have HOS := Lib.hid (expO_succ S I r)
      have HTL1 := Lib.hid (expT_len S I r)
      have HOL := Lib.hid (expO_len S I r)
      rw [HTS.out] at HOS HTL1
      rw [← HX.out] at HOS HTL1 HTS
      generalize expT S I r = T at *
      go_wp2_with fail
      refine Calls.mono (mac_at _ _ S _ _ [⟨A2, c2, T⟩, ⟨A, c, I⟩, ⟨some ⟨wr.heap.size, 0, none⟩, 1, [x]⟩] _ HS.out rfl ?_ HSB.out ?_ ?_ ?_ ?_ ?_ ?_) ?_
      · exact (((SA.out.rd.alloc (Nat.le_refl _) _).mono (by simp)).alloc (Nat.le_refl _) _).mono (by simp <;> omega)
      · rw [HS.out]; exact Nat.le_refl _
      · rw [HS.out]; omega
      · refine Txs.newAt (by simp) (by simp only [List.map_cons, List.map_nil, txV, ← HN2.out, List.length_cons, List.length_nil]) ?_
        intro t ht
        simp only [List.mem_cons, List.not_mem_nil, or_false] at ht
        rcases ht with rfl | rfl | rfl
        · exact ⟨(HT.out.alloc (Nat.le_refl _) _).mono (by simp), by rw [← HN2.out]; exact hc2⟩
        · exact ⟨(R1.out.alloc (Nat.le_of_lt z0) _).mono (by omega), hcap⟩
        · exact ⟨(Rd.newAt rfl rfl).mono (by simp), Nat.le_refl _⟩
      · intro t ht
        simp only [List.mem_cons, List.not_mem_nil, or_false] at ht
        rcases ht with rfl | rfl | rfl
        · exact HTB.out
        · exact HBY.out
        · exact Byt.cons ⟨hx0, hx1⟩ Byt.nil
      · rw [join_three, List.length_append, List.length_append]
        have := HTL.out
        simp only [List.length_cons, List.length_nil]
        omega
      · simp
      rintro e w2 ⟨rfl, hb2⟩
      rw [join_three]
      have B2 := Lib.hid (((Below.refl wr.heap.size wr).alloc (Nat.le_refl _) (.cells #[.int .u8 x] 5)).alloc (by simp) (.cells #[.slice A2 n2 c2, .slice A I.length c, .slice (some ⟨wr.heap.size, 0, none⟩) 1 1] 28) |>.trans (hb2.mono (by simp <;> omega)))
      clear hb2
      have O2 := Lib.hid (HO.out.below B2.out)
      have SA2 := Lib.hid (SA.out.belowAll B2.out)
      have BB2 := Lib.hid (HB.out.trans (B2.out.mono HB.out.size))
      have z2 : wr.heap.size ≤ w2.heap.size := B2.out.size
      have hA1 : Hid (∀ ad, A1 = some ad → ad.block < w2.heap.size) := Lib.hid (fun ad hA => (O2.out.block ad hA).2)
      generalize macL S (T ++ (I ++ [x])) = M at *
      have L2 : Hid ((expO S I r).length + M.length ≤ 17592186044416) := Lib.hid (by rw [HOL.out, HTL1.out]; omega)
      go_wp2_with (first
        | (with_reducible (show wpList _ _ _ (⟨none, .store 22 _ _, _, _, _, _⟩ :: _) _ _); refine wpList_storeArr (o := ⟨none, .store 22 _ _, _, _, _, _⟩) (g := w2.heap.size) (t := 22) (k := .u8) (xs := M) (n := 32) rfl _ _ rfl rfl rfl (Blk.new _ _ _) size32 HTL1.out.symm rfl ?_; intro w3 ha3 hg3; have A3 := Lib.hid ha3; have B3 := Lib.hid (((Below.refl w2.heap.size w2).alloc (Nat.le_refl _) _).trans (below_of_only hg3 (Nat.le_refl _) (by simp))); have O3 := Lib.hid (O2.out.below B3.out); clear ha3 hg3)
        | (at_builtin; refine wpList_app (o := ⟨some 33, _, _, _, _, _⟩) elU8 rfl _ _ rfl rfl rfl O3.out A3.out.rd HTL1.out.symm L2.out ?_ ?_; (have := B3.out.size; omega); intro A9 n9 c9 w9 q9; have H9 := Lib.hid q9.1; have G9 := Lib.hid (A3.out.grown q9.2.1 (by cases hA : A1 with | none => simp [ablk] | some ad => (have := hA1.out ad hA; simp [ablk]; omega))); have S9 := Lib.hid ((SA2.out.belowAll B3.out).below q9.2.2.1 (by omega)); have B9 := Lib.hid ((BB2.out.trans (B3.out.mono BB2.out.size)).trans (q9.2.2.1.mono (by omega))); clear q9))
      go_roundw
      case rel => exact ⟨r + 1, A9, n9, c9, some ⟨w2.heap.size, 0, none⟩, 32, 32, _, rfl, rfl, rfl, by omega, by omega, Lib.hid (by have := HX.out; omega), Lib.hid (by have := H9.out.len; rw [List.length_append, HOL.out, HTL1.out] at this; omega), by have := HN1.out; omega, Lib.hid (by rw [HOS.out]; exact H9.out), Lib.hid (by rw [HTS.out]; exact G9.out.rd), Lib.hid (by rw [HTS.out, HTL1.out]), Nat.le_refl _, S9, B9⟩
      case measure =>
        have h9 := H9.out.len
        rw [List.length_append, HOL.out, HTL1.out] at h9
        have := HN1.out
        simp only
        omega
    · have hr : (N + 31) / 32 = r := by have := HN1.out; omega
      have HOE : Hid (expL S I (N : Int) = (expO S I r).take N) := Lib.hid (by rw [HEI.out, hr])
      obtain ⟨A5, c5, p1, p2, p3, p4, p5⟩ := slice_hn elU8 HO.out.rd HO.out.len.symm hOc.1 N (by omega)
      have P3 := Lib.hid p3
      have P4 := Lib.hid p4
      clear p3 p4 hr
      go_wp2_with fail
      go_ret
      exact ⟨A5, N, c5, rfl, by rw [HEL.out], p1, by rw [HOE.out]; exact P3.out, HB.out⟩
end Go.Proofs.Ythpacdondnenmaa
