/- Contract of the reference's Expand. Conditions: as each theorem states them. -/
import Derived.Test.YthpacdondnenmaaK7
namespace Go.Proofs.Ythpacdondnenmaa
open Go.RowKit
/-- as SliPost; besides, the slice lies in memory of the call's own -/
def SliF (L : List Int) (w : World) (e : Ending) (w' : World) : Prop := ∃ A n c, e = .returned (.slice A n c) ∧ n = L.length ∧ n ≤ c ∧ Rd w'.heap.size .u8 w' A L ∧ Below w.heap.size w w' ∧ ∀ ad, A = some ad → w.heap.size ≤ ad.block
theorem SliF.sli {L : List Int} {w : World} {e : Ending} {w' : World} (h : SliF L w e w') : SliPost L w e w' := by
  obtain ⟨A, n, c, h1, h2, h3, h4, h5, _⟩ := h
  exact ⟨A, n, c, h1, h2, h3, h4, h5⟩
theorem slice_hnB {P : Program} {t e : TypeId} {k : IntKind} {bytes : Nat} {B : Nat} {w : World} {A : Option Addr} {xs : List Int} {c n : Nat} (E : ElT P t e k bytes) (hr : Rd B k w A xs) (hn : xs.length = n) (hc : n ≤ c) (m : Nat) (h2 : m ≤ n) :
    ∃ A' c', m ≤ c' ∧ c' ≤ c ∧ Rd B k w A' (xs.take m) ∧ (xs.take m).length = m ∧ (∀ ad', A' = some ad' → ∃ ad, A = some ad ∧ ad'.block = ad.block) ∧
      ∀ (w : World) (kh : IntKind), (Instr.sliceAt t (.slice A n c) none (some (.int kh (m : Int))) none).run P w = .ok (.slice A' m c') w := by
  subst hn
  have hcut := hr.cut 0 m c (by omega) hc
  rw [List.drop_zero] at hcut
  refine ⟨_, c, by omega, Nat.le_refl _, hcut, by simp; omega, fun ad' h => ?_, fun w kh => ?_⟩
  · split at h
    · exact ⟨ad', h, rfl⟩
    · rcases A with _ | ad
      · cases h
      · simp only [Option.map_some, Option.some.injEq] at h
        exact ⟨ad, rfl, by rw [← h, block_of_add]⟩
  · rw [run_sliceAt_slice _ _ _ _ _ _ (by rw [E.elem]; exact E.ht), run_slice_h _ _ _ _ _ (by rw [E.elem]; exact E.ht) kh (m : Int) (by omega) (by omega), E.elem, E.size]
    simp [Result.andThen, sliced]

set_option maxRecDepth 100000 in
set_option maxHeartbeats 8000000 in
theorem rexpand_inF (S : List Int) (A : Option Addr) (c : Nat) (I : List Int) (N : Nat) (w : World) (hS : S.length = 32) (hSb : Byt S) (hr : Rd w.heap.size .u8 w A I) (hb : Byt I) (hl : I.length ≤ 1000000) (h1 : 1 ≤ N) (h2 : N ≤ 8160) :
    Calls Try.prog 70 #[.agg (cellsL .u8 S), .slice A I.length c, .int .i64 N] w (SliF (expL S I (N : Int)) w) := by
  have HR := Lib.hid hr
  have HBY := Lib.hid hb
  have HS := Lib.hid hS
  have HSB := Lib.hid hSb
  have HEI := Lib.hid (expL_in S I h1 h2)
  have HEL := Lib.hid (expL_len S I h1 h2)
  clear hr hb hS hSb
  go_enter Try.func70, Try.ntmps70
  go_wp2_with fail
  have SA : Hid (Arr (w.alloc (.cells (cellsL .u8 S) 22)) w.heap.size 22 .u8 S) := Lib.hid (Arr.newAt rfl rfl)
  have BA : Hid (Below w.heap.size w (w.alloc (.cells (cellsL .u8 S) 22))) := Lib.hid ((Below.refl _ _).alloc (Nat.le_refl _) _)
  have z0 : w.heap.size < (w.alloc (.cells (cellsL .u8 S) 22)).heap.size := by simp
  generalize w.alloc (.cells (cellsL .u8 S) 22) = w1 at *
  go_loopw [7, 8] (fun v i wr => ∃ (k : Nat) (A5 : Option Addr) (n5 c5 : Nat), k ≤ 32 ∧ i = .int .i64 k ∧ v = .slice A5 n5 c5 ∧ Hid (Own w1.heap.size 5 .u8 wr A5 n5 c5 (S.take k)) ∧ Hid (Below w1.heap.size w1 wr)) (fun _ i _ => 32 - (intOf i).toNat)
  case atStart => exact ⟨0, none, 0, 0, by omega, rfl, rfl, Lib.hid (by rw [List.take_zero]; exact Own.nil _ _ _ _), Lib.hid (Below.refl _ _)⟩
  case round =>
    obtain ⟨k, A5, n5, c5, hk, rfl, rfl, HO, HB⟩ := hrel
    by_cases hlt : k < 32
    · have c0 := (SA.out.below HB.out z0).cell (i := k) (by rw [HS.out]; omega)
      have HTK := Lib.hid (take_snoc_getD (xs := S) (t := k) (by rw [HS.out]; omega))
      generalize S.getD k 0 = z at *
      go_wp2_with (at_builtin; refine wpList_app (o := ⟨some 30, _, _, _, _, _⟩) elU8 rfl _ _ rfl rfl rfl (HO.out.alloc _) (Rd.newAt (xs := [_]) rfl rfl) rfl ?_ ?_ ?_; (simp only [List.length_take, List.length_cons, List.length_nil]; omega); (have := HB.out.size; simp <;> omega); intro A9 n9 c9 w9 q9; have H9 := Lib.hid q9.1; have B9 := Lib.hid ((HB.out.alloc HB.out.size _).trans q9.2.2.1); clear q9)
      go_roundw
      case rel => exact ⟨k + 1, A9, n9, c9, by omega, by go_num, rfl, Lib.hid (by rw [HTK.out]; exact H9.out), B9⟩
      case measure => simp [intOf]; omega
    · have HO2 : Hid (Own w1.heap.size 5 .u8 wr A5 n5 c5 S) := Lib.hid (by have h := HO.out; rw [List.take_of_length_le (by rw [HS.out]; omega)] at h; exact h)
      have hn5 : n5 = 32 := by have := HO2.out.len; rw [HS.out] at this; exact this
      subst hn5
      have B2 := Lib.hid (BA.out.trans (HB.out.mono BA.out.size))
      have hk32 : ¬ k < 32 := hlt
      clear HO BA hlt SA HB
      obtain ⟨k1, rfl⟩ : ∃ k1 : Nat, k1 = k := ⟨_, rfl⟩
      obtain ⟨w2, rfl⟩ : ∃ w2 : World, w2 = wr := ⟨_, rfl⟩
      have HKl : Hid (∀ ad, A5 = some ad → ad.block < w2.heap.size) := Lib.hid (fun ad hA => (HO2.out.block ad hA).2)
      go_wp2_with fail
      go_loopw [9, 10, 11] (fun o l i wr => ∃ (r : Nat) (A1 : Option Addr) (n1 c1 : Nat) (A2 : Option Addr) (n2 c2 : Nat), o = .slice A1 n1 c1 ∧ l = .slice A2 n2 c2 ∧ i = .int .i64 ((r : Int) + 1) ∧ Hid (n1 = 32 * r) ∧ 32 * r < N + 32 ∧ Hid (Own w2.heap.size 5 .u8 wr A1 n1 c1 (expO S I r)) ∧ Hid (Rd wr.heap.size .u8 wr A2 (expT S I r)) ∧ Hid (n2 = (expT S I r).length) ∧ Hid (Own w1.heap.size 5 .u8 wr A5 32 c5 S) ∧ Hid (Below w2.heap.size w2 wr)) (fun o _ _ _ => N - (match o with | .slice _ n _ => n | _ => 0))
      case atStart => exact ⟨0, none, 0, 0, none, 0, 0, rfl, rfl, rfl, Lib.hid rfl, by omega, Lib.hid (by rw [expO_zero]; exact Own.nil _ _ _ _), Lib.hid (by rw [expT_zero]; exact Rd.nil), Lib.hid (by rw [expT_zero]; rfl), HO2, Lib.hid (Below.refl _ _)⟩
      case round =>
        clear HO2
        obtain ⟨r, A1, n1, c1, A2, n2, c2, rfl, rfl, rfl, HN1, hr32, HO, HT, HN2, HK, HB⟩ := hrel
        have hOc := HO.out.cap
        have zB := HB.out.size
        by_cases hlt : n1 < N
        · have HTL := Lib.hid (expT_le S I r)
          have HTB := Lib.hid (expT_byt S I r)
          have HTS := Lib.hid (expT_succ S I r)
          have HOS := Lib.hid (expO_succ S I r)
          have HTL1 := Lib.hid (expT_len S I r)
          have HOL := Lib.hid (expO_len S I r)
          rw [HTS.out] at HOS HTL1
          generalize expT S I r = T at *
          have RI := Lib.hid (((HR.out.below B2.out (Nat.le_refl _)).below HB.out B2.out.size).mono (Nat.le_trans B2.out.size zB))
          have hx : Hid (IntKind.u8.wrap ((r : Int) + 1) = ((r + 1 : Nat) : Int) % 256) := Lib.hid (by rw [wrapu8]; omega)
          have O0 : Hid (Own wr.heap.size 5 .u8 (wr.alloc (.cells #[] 5)) (some ⟨wr.heap.size, 0, none⟩) 0 0 []) := Lib.hid (Own.litAt rfl rfl rfl (Nat.le_refl _) (Nat.zero_le _))
          have RT0 := Lib.hid (HT.out.alloc (Nat.le_refl _) (.cells #[] 5))
          obtain rfl := HN2.out
          have htl := HTL.out
          have hr255 : r < 255 := by have := HN1.out; omega
          obtain ⟨x, hxx⟩ : ∃ x : Int, x = (r : Int) + 1 := ⟨_, rfl⟩
          have hx0 : 0 ≤ x ∧ x < 256 := by omega
          have hX : Hid (((r + 1 : Nat) : Int) % 256 = x) := Lib.hid (by omega)
          rw [hX.out] at HOS HTL1 HTS
          rw [← hxx]
          have HXX := Lib.hid hxx
          clear hxx hx
          obtain ⟨hx0, hx1⟩ := hx0
          go_wp2_with (first
            | (at_builtin; refine wpList_app (o := ⟨some 39, _, _, _, _, _⟩) elU8 rfl _ _ rfl rfl rfl O0.out RT0.out rfl ?_ ?_ ?_; (simp only [List.length_nil]; omega); (simp); intro A6 n6 c6 w6 q6; have H6 : Hid (Own wr.heap.size 5 .u8 w6 A6 n6 c6 T) := Lib.hid q6.1; have B6 := Lib.hid (((Below.refl wr.heap.size wr).alloc (Nat.le_refl _) _).trans q6.2.2.1); have RI6 := Lib.hid (RI.out.below B6.out (Nat.le_refl _)); clear q6)
            | (at_builtin; refine wpList_app (o := ⟨some 41, _, _, _, _, _⟩) elU8 rfl _ _ rfl rfl rfl H6.out RI6.out rfl ?_ ?_ ?_; omega; (exact B6.out.size); intro A7 n7 c7 w7 q7; have H7 := Lib.hid q7.1; have B7 := Lib.hid (B6.out.trans q7.2.2.1); clear q7)
            | (at_builtin; refine wpList_app (o := ⟨some 45, _, _, _, _, _⟩) elU8 rfl _ _ rfl rfl rfl (H7.out.alloc _) (Rd.newAt (xs := [x]) rfl rfl) rfl ?_ ?_ ?_; (simp only [List.length_append, List.length_cons, List.length_nil]; omega); (exact (B7.out.alloc B7.out.size _).size); intro A8 n8 c8 w8 q8; have H8 := Lib.hid q8.1; have B8 := Lib.hid ((B7.out.alloc B7.out.size _).trans q8.2.2.1); clear q8))
          have K8 := Lib.hid (HK.out.below B8.out)
          have O8 := Lib.hid (HO.out.below B8.out)
          have HTX : Hid (T ++ (I ++ [x]) = T ++ I ++ [x]) := Lib.hid (by rw [List.append_assoc])
          have HTXB : Hid (Byt (T ++ I ++ [x])) := Lib.hid ((HTB.out.append HBY.out).append (Byt.cons ⟨hx0, hx1⟩ Byt.nil))
          have HTXL : Hid ((T ++ I ++ [x]).length ≤ 1000100) := Lib.hid (by simp only [List.length_append, List.length_cons, List.length_nil]; omega)
          rw [HTX.out] at HOS HTL1 HTS
          clear HTX H6 H7 B6 B7 RI6 O0 RT0 HT
          obtain ⟨U, hU⟩ : ∃ U, T ++ I ++ [x] = U := ⟨_, rfl⟩
          rw [hU] at H8 HTXB HTXL HOS HTL1 HTS
          clear hU
          have HN8 := Lib.hid H8.out.len
          refine Calls.mono (rmac_at A5 c5 S A8 c8 U _ HS.out HN8.out.symm K8.out.rd HSB.out (by rw [HS.out]; decide) H8.out.rd HTXB.out (by have := HTXL.out; omega)) ?_
          rintro e w9 ⟨rfl, hb9⟩
          have B9 := Lib.hid (B8.out.trans (hb9.mono B8.out.size))
          have K9 := Lib.hid (K8.out.below hb9)
          have O9 := Lib.hid (O8.out.below hb9)
          clear hb9 B8 K8 O8 H8
          have HMB := Lib.hid (macL_byt S U)
          generalize macL S U = M at *
          go_wp2_with (with_reducible (show wpList _ _ _ (⟨none, .store 22 _ _, _, _, _, _⟩ :: _) _ _); refine wpList_storeArr (o := ⟨none, .store 22 _ _, _, _, _, _⟩) (g := w9.heap.size) (t := 22) (k := .u8) (xs := M) (n := 32) rfl _ _ rfl rfl rfl (Blk.new _ _ _) size32 HTL1.out.symm rfl ?_; intro w10 ha10 hg10; have A10 := Lib.hid ha10; have B910 := Lib.hid (((Below.refl w9.heap.size w9).alloc (Nat.le_refl _) _).trans (below_of_only hg10 (Nat.le_refl _) (by simp))); clear ha10 hg10)
          have hgl : w9.heap.size < w10.heap.size := A10.out.lt
          have B10 := Lib.hid (B9.out.trans (B910.out.mono B9.out.size))
          have K10 := Lib.hid (K9.out.below B910.out)
          have O10 := Lib.hid (O9.out.below B910.out)
          clear B9 K9 O9 B910
          generalize w9.heap.size = g at *
          obtain ⟨r1, rfl⟩ : ∃ r1 : Nat, r1 = r := ⟨_, rfl⟩
          obtain ⟨w3, rfl⟩ : ∃ w3 : World, w3 = wr := ⟨_, rfl⟩
          go_loopw [10, 14] (fun v i wr => ∃ (k : Nat) (A6 : Option Addr) (n6 c6 : Nat), k ≤ 32 ∧ i = .int .i64 k ∧ v = .slice A6 n6 c6 ∧ Hid (Own w10.heap.size 5 .u8 wr A6 n6 c6 (M.take k)) ∧ Hid (Below w10.heap.size w10 wr)) (fun _ i _ => 32 - (intOf i).toNat)
          case atStart => exact ⟨0, none, 0, 0, by omega, rfl, rfl, Lib.hid (by rw [List.take_zero]; exact Own.nil _ _ _ _), Lib.hid (Below.refl _ _)⟩
          case round =>
            obtain ⟨k, A6, n6, c6, hk6, rfl, rfl, HO6, HB6⟩ := hrel
            by_cases hlt6 : k < 32
            · have c0 := (A10.out.below HB6.out hgl).cell (i := k) (by rw [HTL1.out]; omega)
              have HTK := Lib.hid (take_snoc_getD (xs := M) (t := k) (by rw [HTL1.out]; omega))
              generalize M.getD k 0 = z at *
              go_wp2_with (at_builtin; refine wpList_app (o := ⟨some 58, _, _, _, _, _⟩) elU8 rfl _ _ rfl rfl rfl (HO6.out.alloc _) (Rd.newAt (xs := [_]) rfl rfl) rfl ?_ ?_ ?_; (simp only [List.length_take, List.length_cons, List.length_nil]; omega); (have := HB6.out.size; simp <;> omega); intro A9 n9 c9 w9 q9; have H9 := Lib.hid q9.1; have B9 := Lib.hid ((HB6.out.alloc HB6.out.size _).trans q9.2.2.1); clear q9)
              go_roundw
              case rel => exact ⟨k + 1, A9, n9, c9, by omega, by go_num, rfl, Lib.hid (by rw [HTK.out]; exact H9.out), B9⟩
              case measure => simp [intOf]; omega
            · have HO7 : Hid (Own w10.heap.size 5 .u8 wr A6 n6 c6 M) := Lib.hid (by have h := HO6.out; rw [List.take_of_length_le (by rw [HTL1.out]; omega)] at h; exact h)
              have hn6 : n6 = 32 := by have := HO7.out.len; rw [HTL1.out] at this; exact this
              subst hn6
              have K11 := Lib.hid (K10.out.below HB6.out)
              have O11 := Lib.hid (O10.out.below HB6.out)
              have B11 := Lib.hid (B10.out.trans (HB6.out.mono B10.out.size))
              have hA1 : Hid (∀ ad, A1 = some ad → ad.block < w10.heap.size) := Lib.hid (fun ad hA => (O10.out.block ad hA).2)
              have L2 : Hid ((expO S I r1).length + M.length ≤ 17592186044416) := Lib.hid (by rw [HOL.out, HTL1.out]; omega)
              have zz : w2.heap.size ≤ wr.heap.size := Nat.le_trans zB B11.out.size
              go_wp2_with (at_builtin; refine wpList_app (o := ⟨some 61, _, _, _, _, _⟩) elU8 rfl _ _ rfl rfl rfl O11.out HO7.out.rd HTL1.out.symm L2.out zz ?_; intro A9 n9 c9 w9 q9; have H9 := Lib.hid q9.1; have G9 := Lib.hid ((HO7.out.kept q9.2.1 (fun ad hA he => by have h1 := (HO7.out.block ad hA).1; cases hA1' : A1 with | none => (rw [hA1'] at he; cases he) | some a1 => (rw [hA1'] at he; have he' : ad.block = a1.block := Option.some.inj he; have h2 := hA1.out a1 hA1'; omega))).rd); have K9 := Lib.hid (K11.out.kept q9.2.1 (fun ad hA he => by have h1 := (K11.out.block ad hA); cases hA1' : A1 with | none => (rw [hA1'] at he; cases he) | some a1 => (rw [hA1'] at he; have he' : ad.block = a1.block := Option.some.inj he; have h2 := (O11.out.block a1 hA1').1; have h3 := (HKl.out ad hA); omega))); have B9 := Lib.hid ((HB.out.trans (B11.out.mono zB)).trans q9.2.2.1); clear q9)
              go_roundw
              case rel => exact ⟨r1 + 1, A9, n9, c9, A6, 32, c6, rfl, rfl, by have := HXX.out; go_num, Lib.hid (by have := H9.out.len; rw [List.length_append, HOL.out, HTL1.out] at this; omega), by have := HN1.out; omega, Lib.hid (by rw [HOS.out]; exact H9.out), Lib.hid (by rw [HTS.out]; exact G9.out), Lib.hid (by rw [HTS.out, HTL1.out]), K9, B9⟩
              case measure =>
                have h9 := H9.out.len
                rw [List.length_append, HOL.out, HTL1.out] at h9
                have := HN1.out
                simp only
                omega
        · have hr : (N + 31) / 32 = r := by have := HN1.out; omega
          have HOE : Hid (expL S I (N : Int) = (expO S I r).take N) := Lib.hid (by rw [HEI.out, hr])
          obtain ⟨A6, c6, p1, p2, p3, p4, p6, p5⟩ := slice_hnB elU8 HO.out.rd HO.out.len.symm hOc.1 N (by omega)
          have P3 := Lib.hid p3
          have P4 := Lib.hid p4
          have P6 : Hid (∀ ad, A6 = some ad → w.heap.size ≤ ad.block) := Lib.hid (fun ad h => by
            obtain ⟨ad0, h0, h1⟩ := p6 ad h
            have h2 := (HO.out.block ad0 h0).1
            have h3 := B2.out.size
            omega)
          clear p3 p4 p6 hr
          go_wp2_with fail
          go_ret
          exact ⟨A6, N, c6, rfl, by rw [HEL.out], p1, by rw [HOE.out]; exact P3.out, B2.out.trans (HB.out.mono B2.out.size), P6.out⟩
theorem rexpand_outF (S : List Int) (A : Option Addr) (m c : Nat) (I : List Int) (n : Int) (w : World) (h : n < 1 ∨ 8160 < n) :
    Calls Try.prog 70 #[.agg (cellsL .u8 S), .slice A m c, .int .i64 n] w (SliF (expL S I n) w) := by
  have HE := Lib.hid (expL_out S I h)
  rcases h with h | h
  · go_enter Try.func70, Try.ntmps70
    go_wp2_with fail
    go_ret
    exact ⟨none, 0, 0, rfl, by rw [HE.out]; rfl, Nat.le_refl _, by rw [HE.out]; exact Rd.nil, (Below.refl _ _).alloc (Nat.le_refl _) _, fun _ h => by cases h⟩
  · have h' : ¬ n < 1 := by omega
    go_enter Try.func70, Try.ntmps70
    go_wp2_with fail
    go_ret
    exact ⟨none, 0, 0, rfl, by rw [HE.out]; rfl, Nat.le_refl _, by rw [HE.out]; exact Rd.nil, (Below.refl _ _).alloc (Nat.le_refl _) _, fun _ h => by cases h⟩
theorem rexpand_anyF {m : Nat} (S : List Int) (A : Option Addr) (c : Nat) (I : List Int) (n : Int) (w : World) (hm : I.length = m) (hS : S.length = 32) (hSb : Byt S) (hr : Rd w.heap.size .u8 w A I) (hb : Byt I) (hl : I.length ≤ 1000000) :
    Calls Try.prog 70 #[.agg (cellsL .u8 S), .slice A m c, .int .i64 n] w (SliF (expL S I n) w) := by
  by_cases h : n < 1 ∨ 8160 < n
  · exact rexpand_outF S A m c I n w h
  · subst hm
    obtain ⟨N, rfl⟩ : ∃ N : Nat, n = (N : Int) := ⟨n.toNat, by omega⟩
    exact rexpand_inF S A c I N w hS hSb hr hb hl (by omega) (by omega)
theorem rexpand_any {m : Nat} (S : List Int) (A : Option Addr) (c : Nat) (I : List Int) (n : Int) (w : World) (hm : I.length = m) (hS : S.length = 32) (hSb : Byt S) (hr : Rd w.heap.size .u8 w A I) (hb : Byt I) (hl : I.length ≤ 1000000) :
    Calls Try.prog 70 #[.agg (cellsL .u8 S), .slice A m c, .int .i64 n] w (SliPost (expL S I n) w) := (rexpand_anyF S A c I n w hm hS hSb hr hb hl).mono fun _ _ h => h.sli
end Go.Proofs.Ythpacdondnenmaa
