/- Contracts: the reference's Of, Next, Initial. Conditions: as each theorem states them. -/
import Derived.Test.YthpacdondnenmaaY5
namespace Go.Proofs.Ythpacdondnenmaa
open Go.RowKit
theorem wpList_buildV {P : Program} {ops : Array Oper} {rest : List Oper} {o : Oper} {a : Act} {w : World} {Q : Exit → Act → World → Prop} {t : TypeId} {cs : Array Value} (hgd : o.guard = none) (parts : Array (Nat × Operand)) (ho : o.op = .build t parts)
    (hb : P.built t (parts.toList.map fun p => (p.1, a.eval p.2)) = some cs) (h : wpList P ops Q rest (a.put o.dst (.agg cs)) w) : wpList P ops Q (o :: rest) a w := by
  refine wpList_plain hgd fun K hK => ?_
  have hb' : P.built t (parts.map fun (i, x) => (i, a.eval x)).toList = some cs := by rw [← hb, Array.toList_map]
  unfold Oper.wp execOp
  simp only [ho, Sem.run_bind, run_build (P := P) w t (parts.map fun (i, x) => (i, a.eval x)) cs hb', Result.andThen_ok, Sem.run_pure]
  exact hK _ _ h
/-- the frame of the reference's Of: the secret, the result, the keys -/
def RO (w0 : World) (b : Nat) (S K I H : List Int) (w : World) : Prop := Arr w b 22 .u8 S ∧ Blk w (b + 1) 27 Try.zeroCells27 ∧ KyB w (b + 1 + 1) S K I H 0 ∧ Below b w0 w
theorem RO.below {w0 w w' : World} {b : Nat} {S K I H : List Int} (h : RO w0 b S K I H w) (hb : Below w.heap.size w w') : RO w0 b S K I H w' :=
  ⟨h.1.belowAll hb, h.2.1.below hb h.2.1.lt, Blk.below h.2.2.1 hb (Blk.lt h.2.2.1), h.2.2.2.trans (hb.mono (Nat.le_of_lt h.1.lt))⟩
theorem RO.put {w0 w w' : World} {b : Nat} {S K I H K' I' H' : List Int} (h : RO w0 b S K I H w) (hk : KyB w' (b + 1 + 1) S K' I' H' 0) (hg : w.grownBy w' (some (b + 1 + 1))) : RO w0 b S K' I' H' w' :=
  ⟨h.1.grown hg (by simp; omega), h.2.1.grown hg (by simp), hk, h.2.2.2.trans (below_of_only hg (by omega) (Nat.le_of_lt h.1.lt))⟩
theorem ro_okK {S H : List Int} (h : S.length = 32) (hb : Byt S) (hH : H.length = 16) (hHb : Byt H) : KyOk S (kKey S) (zer 12) H := ⟨h, kKey_len S, zer_len _, hH, hb, kKey_byt S, zer_byt _, hHb⟩
/-- the vector, filled up to k -/
theorem fil_byt {xs : List Int} (h : Byt xs) (k : Nat) : Byt (fil xs k) := by
  intro x hx
  obtain ⟨i, hi, rfl⟩ := List.mem_iff_getElem.1 hx
  rw [fil_len] at hi
  have e : (fil xs k)[i] = (fil xs k).getD i 0 := by simp [List.getD_eq_getElem?_getD, fil_len, hi]
  rw [e]
  rcases Nat.lt_or_ge k (xs.length + 1) with hk | hk
  · rcases Nat.lt_or_ge i k with g | g
    · rw [fil_get g (by omega)]; exact h.getD i
    · have : (fil xs k).getD i 0 = 0 := by
        unfold fil
        rw [List.getD_eq_getElem?_getD, List.getElem?_append_right (by simp; omega), List.getElem?_replicate]
        split <;> rfl
      rw [this]; exact ⟨by decide, by decide⟩
  · have : fil xs k = xs := by unfold fil; rw [List.take_of_length_le (by omega), show xs.length - k = 0 by omega]; simp
    rw [this]; exact h.getD i
theorem ky_cellI {S K I H : List Int} {p : Int} {w : World} {g i : Nat} (h : KyOk S K I H) (b : KyB w g S K I H p) (hi : i < 12) : w.cell? ⟨g, 48 + i, none⟩ = some (.int .u8 (I.getD i 0)) := by
  rw [Blk.cell b, kyL_2]
  have hl : (iv .u8 S ++ iv .u8 K).length = 48 := by simp [iv_len, h.s, h.k]
  rw [List.getElem?_toArray, List.getElem?_append_right (by rw [hl]; omega), hl, Nat.add_sub_cancel_left, List.getElem?_append_left (by rw [iv_len, h.i]; exact hi)]
  simp [iv, List.getElem?_map, List.getD_eq_getElem?_getD, List.getElem?_eq_getElem (show i < I.length by rw [h.i]; exact hi)]
theorem ro_okI {S I : List Int} (h : S.length = 32) (hb : Byt S) (hI : I.length = 12) (hIb : Byt I) : KyOk S (kKey S) I (kHp S) := ⟨h, kKey_len S, hI, kHp_len S, hb, kKey_byt S, hIb, kHp_byt S⟩
set_option maxRecDepth 100000 in
set_option maxHeartbeats 8000000 in
theorem rof_any (S : List Int) (w : World) (hS : S.length = 32) (hSb : Byt S) : Calls Try.prog 19 #[.agg (cellsL .u8 S)] w (RetV (ofV S) w) := by
  have HS := Lib.hid hS
  have HSB := Lib.hid hSb
  clear hS hSb
  have HB1 : Hid (Try.prog.built 27 [(0, .agg (cellsL .u8 S))] = some (kyL S (zer 16) (zer 12) (zer 16) 0).toArray) := Lib.hid (built_one HS.out)
  have HO0 : Hid (KyOk S (zer 16) (zer 12) (zer 16)) := Lib.hid ⟨HS.out, zer_len _, zer_len _, zer_len _, HSB.out, zer_byt _, zer_byt _, zer_byt _⟩
  have SA : Hid (Arr (((w.alloc (.cells (cellsL .u8 S) 22)).alloc (.cells Try.zeroCells27 27)).alloc (.cells Try.zeroCells27 27)) w.heap.size 22 .u8 S) := Lib.hid (((Arr.newAt rfl rfl).alloc _).alloc _)
  have ZA : Hid (Blk (((w.alloc (.cells (cellsL .u8 S) 22)).alloc (.cells Try.zeroCells27 27)).alloc (.cells Try.zeroCells27 27)) (w.heap.size + 1) 27 Try.zeroCells27) := Lib.hid ((blk_new_at (by simp)).alloc _)
  have ZB : Hid (Blk (((w.alloc (.cells (cellsL .u8 S) 22)).alloc (.cells Try.zeroCells27 27)).alloc (.cells Try.zeroCells27 27)) (w.heap.size + 1 + 1) 27 Try.zeroCells27) := Lib.hid (blk_new_at (by simp))
  obtain ⟨w3, hs3, hk3, hg3⟩ := ky_store (p := 0) HO0.out ZB.out zeroKeys
  have S3 := Lib.hid hs3
  have R3 : Hid (RO w w.heap.size S (zer 16) (zer 12) (zer 16) w3) := Lib.hid ⟨SA.out.grown hg3 (by simp; omega), ZA.out.grown hg3 (by simp), hk3, (((((Below.refl _ _).alloc (Nat.le_refl _) _).alloc (by simp) _).alloc (by simp <;> omega) _)).trans (below_of_only hg3 (by omega) (by simp <;> omega))⟩
  clear hs3 hk3 hg3
  go_enter Try.func19, Try.ntmps19
  go_wp2_with (first
    | ((with_reducible (show wpList _ _ _ (⟨some 6, .load _ _, _, _, _, _⟩ :: _) _ _)); refine wpList_loadV (o := ⟨some 6, .load _ _, _, _, _, _⟩) rfl _ rfl rfl (arr_load ((Arr.newAt rfl rfl).alloc _) Try.underlying22 size32 HS.out.symm) ?_)
    | ((with_reducible (show wpList _ _ _ (⟨some 7, _, _, _, _, _⟩ :: _) _ _)); refine wpList_buildV (o := ⟨some 7, _, _, _, _, _⟩) rfl _ rfl HB1.out ?_)
    | ((with_reducible (show wpList _ _ _ (⟨none, .store 27 _ _, _, _, _, _⟩ :: _) _ _)); refine wpList_storeV (o := ⟨none, .store 27 _ _, _, _, _, _⟩) rfl _ _ rfl rfl rfl (S3.out) ?_)
    | ((with_reducible (show wpList _ _ _ (⟨some 8, .load _ _, _, _, _, _⟩ :: _) _ _)); refine wpList_loadV (o := ⟨some 8, .load _ _, _, _, _, _⟩) rfl _ rfl rfl (arr_load R3.out.1 Try.underlying22 size32 HS.out.symm) ?_))
  refine Calls.mono (rlabel_key S _ HS.out HSB.out) ?_
  rintro e w4 ⟨A4, n4, c4, rfl, hn4, hc4, hr4, hb4⟩
  have R4 := Lib.hid (R3.out.below hb4)
  have L4 := Lib.hid hr4
  have HK := Lib.hid (kKey_len S)
  obtain rfl : n4 = 16 := by rw [hn4, kKey_len]
  clear hn4 hc4 hr4 hb4 S3 SA ZA ZB
  go_wp2_with fail
  refine Calls.mono (kfirst_any A4 c4 (kKey S) _ HK.out L4.out) ?_
  rintro e w5 ⟨rfl, hb5⟩
  have R5 := Lib.hid (R4.out.below hb5)
  obtain ⟨w6, hs6, hk6, hg6⟩ := ky_storeK HO0.out HK.out R5.out.2.2.1
  have S6 := Lib.hid hs6
  have R6 := Lib.hid (R5.out.put hk6 hg6)
  clear hb5 hs6 hk6 hg6
  go_wp2_with (first
    | ((with_reducible (show wpList _ _ _ (⟨none, .store 23 _ _, _, _, _, _⟩ :: _) _ _)); refine wpList_storeV (o := ⟨none, .store 23 _ _, _, _, _, _⟩) rfl _ _ rfl rfl rfl (S6.out) ?_)
    | ((with_reducible (show wpList _ _ _ (⟨some 12, .load _ _, _, _, _, _⟩ :: _) _ _)); refine wpList_loadV (o := ⟨some 12, .load _ _, _, _, _, _⟩) rfl _ rfl rfl (arr_load R6.out.1 Try.underlying22 size32 HS.out.symm) ?_))
  refine Calls.mono (rlabel_hp S _ HS.out HSB.out) ?_
  rintro e w7 ⟨A7, n7, c7, rfl, hn7, hc7, hr7, hb7⟩
  have R7 := Lib.hid (R6.out.below hb7)
  have L7 := Lib.hid hr7
  have HH := Lib.hid (kHp_len S)
  obtain rfl : n7 = 16 := by rw [hn7, kHp_len]
  clear hn7 hc7 hr7 hb7 S6
  go_wp2_with fail
  refine Calls.mono (kfirst_any A7 c7 (kHp S) _ HH.out L7.out) ?_
  rintro e w8 ⟨rfl, hb8⟩
  have R8 := Lib.hid (R7.out.below hb8)
  obtain ⟨w9, hs9, hk9, hg9⟩ := ky_storeH (ro_okK HS.out HSB.out (zer_len 16) (zer_byt 16)) HH.out R8.out.2.2.1
  have S9 := Lib.hid hs9
  have R9 := Lib.hid (R8.out.put hk9 hg9)
  clear hb8 hs9 hk9 hg9
  go_wp2_with (first
    | ((with_reducible (show wpList _ _ _ (⟨none, .store 23 _ _, _, _, _, _⟩ :: _) _ _)); refine wpList_storeV (o := ⟨none, .store 23 _ _, _, _, _, _⟩) rfl _ _ rfl rfl rfl (S9.out) ?_)
    | ((with_reducible (show wpList _ _ _ (⟨some 16, .load _ _, _, _, _, _⟩ :: _) _ _)); refine wpList_loadV (o := ⟨some 16, .load _ _, _, _, _, _⟩) rfl _ rfl rfl (arr_load R9.out.1 Try.underlying22 size32 HS.out.symm) ?_))
  refine Calls.mono (rlabel_iv S _ HS.out HSB.out) ?_
  rintro e wa ⟨Aa, na, ca, rfl, hna, hca, hra, hba, hfa⟩
  have Ra := Lib.hid (R9.out.below hba)
  have La := Lib.hid hra
  have HI := Lib.hid (kIv_len S)
  have HIB := Lib.hid (kIv_byt S)
  have HV : Hid (ofV S = kyV S (kKey S) (kIv S) (kHp S) 0) := Lib.hid rfl
  have HZ := Lib.hid zeroKeys
  obtain rfl : na = 12 := by rw [hna, kIv_len]
  obtain ⟨ad, rfl, hadb⟩ := La.out.isSome (by rw [HI.out]; decide)
  have hne : w.heap.size + 1 + 1 < ad.block := Nat.lt_of_lt_of_le (Blk.lt R9.out.2.2.1) (hfa ad rfl)
  clear hna hca hra hba S9 hfa
  generalize kIv S = I at *
  go_wp2_with fail
  go_loopw [5] (fun i wr => ∃ k : Nat, k ≤ 12 ∧ i = .int .i64 k ∧ Hid (RO w w.heap.size S (kKey S) (fil I k) (kHp S) wr) ∧ Hid (Rd wa.heap.size .u8 wr (some ad) I) ∧ Hid (wa.heap.size ≤ wr.heap.size)) (fun i _ => 12 - (intOf i).toNat)
  case atStart => exact ⟨0, by omega, rfl, Lib.hid (by rw [fil_zero, HI.out]; exact Ra.out), La, Lib.hid (Nat.le_refl _)⟩
  case round =>
    obtain ⟨k, hk, rfl, HR, HL, HG⟩ := hrel
    have hfl : Hid ((fil I k).length = 12) := Lib.hid (by rw [fil_len, HI.out])
    have HOK := Lib.hid (ro_okI HS.out HSB.out hfl.out (fil_byt HIB.out k))
    by_cases hlt : k < 12
    · have c1 := HL.out.at_ (i := k) (by rw [HI.out]; exact hlt)
      have c0 := ky_cellI HOK.out HR.out.2.2.1 hlt
      have f0 := ky_frozen HR.out.2.2.1 (48 + k)
      have HMS := Lib.hid (fil_set (xs := I) (k := k) (by rw [HI.out]; exact hlt))
      generalize I.getD k 0 = x at *
      have RN : Hid (RO w w.heap.size S (kKey S) ((fil I k).set k x) (kHp S) (wr.setCell ⟨w.heap.size + 1 + 1, 48 + k, none⟩ (.int .u8 x))) := Lib.hid (HR.out.put (ky_seti HOK.out HR.out.2.2.1 hlt x) (only_setCell (World.grownBy.refl _ _) (.inl rfl) _))
      have LN : Hid (Rd wa.heap.size .u8 (wr.setCell ⟨w.heap.size + 1 + 1, 48 + k, none⟩ (.int .u8 x)) (some ad) I) := Lib.hid (HL.out.far (only_setCell (World.grownBy.refl _ _) (.inl rfl) _) HG.out (fun ad' h => by cases h; simp; omega))
      rw [HMS.out] at RN
      generalize (fil I k).getD k 0 = old at *
      go_wp2_with fail
      go_roundw
      case rel => exact ⟨k + 1, by omega, by go_num, RN, LN, Lib.hid (by simpa using HG.out)⟩
      case measure => simp [intOf]; omega
    · have hkn : k = 12 := by omega
      have HE : Hid (fil I k = I) := Lib.hid (by rw [hkn]; have := fil_full I; rw [HI.out] at this; exact this)
      rw [HE.out] at HR HOK
      have L1 := Lib.hid (ky_load HOK.out HR.out.2.2.1)
      obtain ⟨wb, hsb, hkb, hgb⟩ := ky_store (p := 0) HOK.out HR.out.2.1 HZ.out
      have Sb := Lib.hid hsb
      have Kb := Lib.hid hkb
      have Bb := Lib.hid (HR.out.2.2.2.trans (below_of_only hgb (by omega) (Nat.le_of_lt HR.out.1.lt)))
      rw [← HV.out] at L1 Sb
      clear hkn HE hsb hkb hgb hfl
      generalize ofV S = V at *
      go_wp2_with (first
        | ((with_reducible (show wpList _ _ _ (⟨some 29, .load _ _, _, _, _, _⟩ :: _) _ _)); refine wpList_loadV (o := ⟨some 29, .load _ _, _, _, _, _⟩) rfl _ rfl rfl (L1.out) ?_)
        | ((with_reducible (show wpList _ _ _ (⟨none, .store 27 _ _, _, _, _, _⟩ :: _) _ _)); refine wpList_storeV (o := ⟨none, .store 27 _ _, _, _, _, _⟩) rfl _ _ rfl rfl rfl (Sb.out) ?_))
      refine ret_row rfl rfl Kb.out keys_fine rfl (by rw [List.size_toArray, kyL_len HOK.out]; exact sizeKeys) rfl ⟨by rw [HV.out]; rfl, Bb.out⟩
end Go.Proofs.Ythpacdondnenmaa
