/- Slices of texts that the call itself made; contracts of kdf.Mac and kdf.Extract. Conditions: as each theorem states them. -/
import Derived.Test.YthpacdondnenmaaK2
namespace Go.Proofs.Ythpacdondnenmaa
open Go.RowKit

theorem infoTx : (Try.prog.info? 28).map (fun i => (i.zero, i.size, i.bytes)) = some (some (.slice none 0 0), 1, 24) := by kernel_rfl
theorem txs_reads {B : Nat} {w : World} {A : Option Addr} {ts : List Tx} (h : Txs B w A ts) : Reads w B 1 A ts.length (ts.map txV) := by
  refine ⟨by simp, fun hn => ?_⟩
  obtain ⟨ad, hA, hb, _⟩ := h 0 hn
  refine ⟨ad, hA, hb, fun j u hu => ?_⟩
  simp only [List.getElem?_map, Option.map_eq_some_iff] at hu
  obtain ⟨t, ht, rfl⟩ := hu
  have hj : j < ts.length := by
    rcases Nat.lt_or_ge j ts.length with g | g
    · exact g
    · rw [List.getElem?_eq_none g] at ht; cases ht
  obtain ⟨ad', e, _, hc, _⟩ := h j hj
  rw [hA] at e
  injection e with e
  subst e
  rw [hc, List.getD_eq_getElem?_getD, ht]
  rfl
/-- texts in a slice of the call's own -/
def OwnT (B : Nat) (w : World) (A : Option Addr) (n c : Nat) (ts : List Tx) : Prop := w.ownsRow B 28 1 (.slice A n c) n (ts.map txV) ∧ n = ts.length
theorem OwnT.litAt {B : Nat} {w : World} {g n : Nat} {cs : Array Value} {ts : List Tx} (hg : w.heap.size = g) (hc : cs = (ts.map txV).toArray) (hn : n = ts.length) (hB : B ≤ g) (hm : ts.length ≤ maxLen) :
    OwnT B (w.alloc (.cells cs 28)) (some ⟨g, 0, none⟩) n n ts := by
  subst hg; subst hc; subst hn
  refine ⟨?_, rfl⟩
  have := World.ownsRow_lit (e := 28) (size := 1) (base := B) w (ts.map txV).toArray ts.length hB hm (by simp)
  simpa using this
theorem txs_of_own {B : Nat} {w : World} {A : Option Addr} {n c : Nat} {ts : List Tx} (h : OwnT B w A n c ts) (hr : ∀ t ∈ ts, Rd w.heap.size .u8 w t.A t.xs ∧ t.xs.length ≤ t.c) : Txs w.heap.size w A ts := fun i hi => by
  have hR := Reads.of_own h.1
  have hn := h.2
  subst hn
  obtain ⟨ad, hA, hb, hc⟩ := hR.2 (by omega)
  obtain ⟨h1, h2⟩ := hr _ (getD_mem (z := Tx.none) hi)
  refine ⟨ad, hA, hb, hc i _ ?_, h1, h2⟩
  simp [List.getElem?_map, List.getElem?_eq_getElem hi, List.getD_eq_getElem?_getD, txV]
theorem txV_one (t : Tx) : (txV t).oneCell' = true := rfl
theorem wpList_appTx {w : World} {ops : Array Oper} {rest : List Oper} {o : Oper} {a : Act} {Q : Exit → Act → World → Prop} {B B2 n c m c2 : Nat} {A A2 : Option Addr} {ts us : List Tx} (hgd : o.guard = none) (s x : Operand)
    (ho : o.op = .call { callee := .builtin .append, args := #[s, x], argTypes := #[108, 108] }) (hs : a.eval s = .slice A n c) (hx : a.eval x = .slice A2 m c2) (hO : OwnT B w A n c ts) (hr : Txs B2 w A2 us) (hm : m = us.length)
    (hl : ts.length + us.length ≤ 1000000000000) (hB : B ≤ w.heap.size) (h : ∀ A' n' c' w', OwnT B w' A' n' c' (ts ++ us) → Below B w w' → wpList Try.prog ops Q rest (a.put o.dst (.slice A' n' c')) w') : wpList Try.prog ops Q (o :: rest) a w := by
  subst hm
  have hn := hO.2
  subst hn
  obtain ⟨i, hi, hz, hsz, hby⟩ := info_parts infoTx
  refine wpList_append_any w hgd s x _ ho B 28 i _ 1 24 Try.underlying108 hi hz hsz hby rfl (by decide) _ _ _ hs hO.1 B2 A2 us.length c2 _ hx (txs_reads hr) (fun u hu => ?_) (by unfold maxLen; omega) (by omega) hB ?_
  · obtain ⟨t, _, rfl⟩ := List.mem_map.1 hu
    exact txV_one t
  · intro v' w' h1 h2 _
    have hbel : Below B w w' := ⟨h2.os, h2.tape, h2.output, h2.size, fun i hi' => h2.block i (by omega) (fun e' => by
      have := hO.1.lt i e'.symm
      omega)⟩
    rw [← List.map_append] at h1
    rcases h1.2 with ⟨rfl, h0⟩ | ⟨g, cap, cur, rfl, _⟩
    · rw [h0] at h1
      exact h none 0 0 w' ⟨h1, by rw [List.length_append]; omega⟩ hbel
    · exact h (some ⟨g, 0, none⟩) (ts.length + us.length) cap w' ⟨h1, by rw [List.length_append]⟩ hbel

theorem join_cons (t : Tx) (ts : List Tx) : joinT (t :: ts) = t.xs ++ joinT ts := by unfold joinT; rfl
theorem join_two (a b : Option Addr) (p q : Nat) (x y : List Int) : joinT [⟨a, p, x⟩, ⟨b, q, y⟩] = x ++ y := by unfold joinT; simp
theorem BytT.cons {t : Tx} {ts : List Tx} (h : Byt t.xs) (k : BytT ts) : BytT (t :: ts) := fun u hu => by
  rcases List.mem_cons.1 hu with rfl | hu
  · exact h
  · exact k u hu
theorem Txs.each {B : Nat} {w : World} {A : Option Addr} {ts : List Tx} (h : Txs B w A ts) : ∀ t ∈ ts, Rd B .u8 w t.A t.xs ∧ t.xs.length ≤ t.c := fun t ht => by
  obtain ⟨i, hi, rfl⟩ := List.mem_iff_getElem.1 ht
  obtain ⟨_, _, _, _, h1, h2⟩ := h i hi
  rw [List.getD_eq_getElem?_getD, List.getElem?_eq_getElem hi] at h1 h2
  exact ⟨h1, h2⟩

set_option maxRecDepth 100000 in
set_option maxHeartbeats 4000000 in
theorem mac_any (A : Option Addr) (c : Nat) (K : List Int) (A2 : Option Addr) (c2 : Nat) (ts : List Tx) (w : World) (hr : Rd w.heap.size .u8 w A K) (hb : Byt K) (hcap : K.length ≤ c) (hl : K.length ≤ 1000000000) (hr2 : Txs w.heap.size w A2 ts) (hb2 : BytT ts) (hl2 : (joinT ts).length ≤ 1000000000) (hn2 : ts.length ≤ 1000000000) :
    Calls Try.prog 51 #[.slice A K.length c, .slice A2 ts.length c2] w (ArrPost (macL K (joinT ts)) w) := by
  have HR := Lib.hid hr
  have HBY := Lib.hid hb
  have HR2 := Lib.hid hr2
  have HBY2 := Lib.hid hb2
  have HM := Lib.hid (macL_eq K (joinT ts))
  have HP1 := Lib.hid (blkL_len K 54)
  have HP2 := Lib.hid (blkL_len K 92)
  have HQ1 := Lib.hid (blkL_byt K 54)
  have HQ2 := Lib.hid (blkL_byt K 92)
  clear hr hb hr2 hb2
  go_enter Try.func51, Try.ntmps51
  go_wp2_with fail
  refine Calls.mono (block_any A c K 54 _ ((HR.out.alloc (Nat.le_refl _) _).mono (by simp)) HBY.out hcap (by omega)) ?_
  rintro e w1 ⟨A3, n3, c3, rfl, hn3, hc3, ho3, hb3⟩
  rw [HP1.out] at hn3
  subst hn3
  have RB1 := Lib.hid (Blk.below (Blk.new w 22 _) hb3 (by simp))
  have B1 := Lib.hid (((Below.refl w.heap.size w).alloc (Nat.le_refl _) _).trans (hb3.mono (by simp)))
  have O1 := Lib.hid ho3
  have T1 := Lib.hid ((HR2.out.below B1.out (Nat.le_refl _)).mono B1.out.size)
  have z0 : w.heap.size < w1.heap.size := Blk.lt RB1.out
  clear hb3 ho3
  generalize blkL K 54 = P at *
  have L1 : Hid (OwnT w1.heap.size (w1.alloc (.cells #[.slice A3 64 c3] 28)) (some ⟨w1.heap.size, 0, none⟩) 1 1 [⟨A3, c3, P⟩]) := Lib.hid (OwnT.litAt rfl (by simp [txV, HP1.out]) rfl (Nat.le_refl _) (by simp [maxLen]))
  have T1' : Hid (Txs w1.heap.size (w1.alloc (.cells #[.slice A3 64 c3] 28)) A2 ts) := Lib.hid (T1.out.below ((Below.refl w1.heap.size w1).alloc (Nat.le_refl _) _) (Nat.le_refl _))
  go_wp2_with (at_builtin; refine wpList_appTx (o := ⟨some 10, _, _, _, _, _⟩) rfl _ _ rfl rfl rfl L1.out T1'.out rfl ?_ ?_ ?_; (simp only [List.length_cons, List.length_nil]; omega); (simp); intro A4 n4 c4 w2 q1 q2; have O2 := Lib.hid q1; have B12 := Lib.hid (((Below.refl w1.heap.size w1).alloc (Nat.le_refl _) _).trans q2); clear q1 q2)
  have B2 := Lib.hid (B1.out.trans (B12.out.mono B1.out.size))
  have RB2 := Lib.hid (Blk.below RB1.out B12.out (by omega))
  have O2' : Hid (OwnT w1.heap.size w2 A4 n4 c4 (⟨A3, c3, P⟩ :: ts)) := O2
  obtain rfl := O2'.out.2
  refine Calls.mono (sum_any A4 c4 (⟨A3, c3, P⟩ :: ts) _ (txs_of_own O2'.out ?_) (BytT.cons HQ1.out HBY2.out) (by rw [join_cons, List.length_append, HP1.out]; omega) (by rw [List.length_cons]; omega)) ?_
  · intro t ht
    rcases List.mem_cons.1 ht with rfl | ht
    · exact ⟨(O1.out.below B12.out (Nat.le_refl _)).mono B12.out.size, by rw [HP1.out]; exact hc3⟩
    · obtain ⟨h1, h2⟩ := T1.out.each t ht
      exact ⟨(h1.below B12.out (Nat.le_refl _)).mono B12.out.size, h2⟩
  rintro e w3 ⟨rfl, hb3⟩
  rw [join_cons]
  have B3 := Lib.hid (B2.out.trans (hb3.mono B2.out.size))
  have RB3 := Lib.hid (Blk.below RB2.out hb3 (Blk.lt RB2.out))
  have hX : Hid ((shaL (P ++ joinT ts)).length = 32) := Lib.hid (shaL_len _)
  have HXB := Lib.hid (shaL_byt (P ++ joinT ts))
  clear hb3 B1 RB1 O1 T1 O2 O2' B2 RB2 B12 L1 T1'
  simp only
  generalize shaL (P ++ joinT ts) = X at *
  go_wp2_with (with_reducible (show wpList _ _ _ (⟨none, .store 22 _ _, _, _, _, _⟩ :: _) _ _); refine wpList_storeArr (o := ⟨none, .store 22 _ _, _, _, _, _⟩) (g := w3.heap.size) (t := 22) (k := .u8) (xs := X) (n := 32) rfl _ _ rfl rfl rfl (Blk.new _ _ _) size32 hX.out.symm rfl ?_; intro w4 ha4 hg4; have A4' := Lib.hid ha4; have B4 := Lib.hid ((B3.out.alloc B3.out.size _).trans (below_of_only hg4 B3.out.size (by have := B3.out.size; simp; omega))); have RB4 := Lib.hid (Blk.grown (Blk.alloc RB3.out _) hg4 (by have := Blk.lt RB3.out; simp; omega)); clear ha4 hg4)
  refine wp_region_mix_below w.heap.size [([0, 2], 1), ([], 3), ([], 4), ([], 5)] [] (by kernel_rfl) (by kernel_rfl) (by kernel_rfl) (by kernel_rfl) ?_
  simp only [put_none, pickL, List.map_cons, List.map_nil, List.filterMap_cons, List.filterMap_nil, List.getElem?_cons_succ, List.getElem?_cons_zero]
  refine mixS_cons ?_
  repeat (show wpQuiet _ _ _ _ (_ :: _) _; go_big_quiet_step (fail))
  refine wpQuiet_nil ?_
  show wpList _ _ _ [_] _ _
  go_wp2_with fail
  have hgl : w3.heap.size < w4.heap.size := A4'.out.lt
  have z04 : w.heap.size < w4.heap.size := Blk.lt RB4.out
  refine Calls.mono (block_any A c K 92 _ ((HR.out.below B4.out (Nat.le_refl _)).drew.mono B4.out.size) HBY.out hcap (by omega)) ?_
  rintro e w5 ⟨A5, n5, c5, rfl, hn5, hc5, ho5, hb5⟩
  rw [HP2.out] at hn5
  subst hn5
  have B45 := Lib.hid ((Below.refl w4.heap.size w4).drew.trans hb5)
  have O5 := Lib.hid ho5
  clear hb5 ho5
  have A5' := Lib.hid (A4'.out.belowAll B45.out)
  have RB5 := Lib.hid (Blk.below RB4.out B45.out z04)
  have z45 := B45.out.size
  generalize blkL K 92 = P2 at *
  go_wp2_with fail
  refine MixQ.below (B45.out.mono (by omega)) ?_
  refine mixS_cons ?_
  refine wpQuiet_nil ?_
  show wpList _ _ _ [_] _ _
  go_wp2_with fail
  refine MixQ.below ((B45.out.mono (by omega)).alloc (by omega) _) ?_
  refine mixS_cons ?_
  refine wpQuiet_nil ?_
  show wpList _ _ _ [_] _ _
  go_wp2_with fail
  refine Calls.mono (sum_any _ _ [⟨A5, c5, P2⟩, ⟨some ⟨w3.heap.size, 0, none⟩, 32, X⟩] _ ?_ ?_ ?_ ?_) ?_
  · refine Txs.newAt (by simp) (by simp [txV, HP2.out, hX.out]) ?_
    intro t ht
    simp only [List.mem_cons, List.not_mem_nil, or_false] at ht
    rcases ht with rfl | rfl
    · exact ⟨O5.out, by rw [HP2.out]; exact hc5⟩
    · exact ⟨A5'.out.rd, by rw [hX.out]; exact Nat.le_refl _⟩
  · intro t ht
    simp only [List.mem_cons, List.not_mem_nil, or_false] at ht
    rcases ht with rfl | rfl
    · exact HQ2.out
    · exact HXB.out
  · rw [join_two, List.length_append, HP2.out, hX.out]; omega
  · simp
  rintro e w6 ⟨rfl, hb6⟩
  rw [join_two]
  have B56 := Lib.hid ((((Below.refl w5.heap.size w5).alloc (Nat.le_refl _) (.cells #[.slice A5 64 c5, .slice (some ⟨w3.heap.size, 0, none⟩) 32 32] 28))).trans (hb6.mono (by simp)))
  have B46 := Lib.hid (B45.out.trans (B56.out.mono z45))
  have RB6 := Lib.hid (Blk.below RB5.out B56.out (by omega))
  have hY : Hid ((shaL (P2 ++ X)).length = 32) := Lib.hid (shaL_len _)
  have B6 := Lib.hid (B4.out.trans (B46.out.mono B4.out.size))
  clear hb6
  generalize shaL (P2 ++ X) = Y at *
  go_wp2_with fail
  refine MixQ.below (B46.out.mono (by omega)) ?_
  refine mixS_cons ?_
  refine wpQuiet_nil ?_
  show wpList _ _ _ [_] _ _
  go_wp2_with (with_reducible (show wpList _ _ _ (⟨none, .store 22 _ _, _, _, _, _⟩ :: _) _ _); refine wpList_storeArr (o := ⟨none, .store 22 _ _, _, _, _, _⟩) (g := w.heap.size) (t := 22) (k := .u8) (xs := Y) (n := 32) rfl _ _ rfl rfl rfl RB6.out size32 hY.out.symm rfl ?_; intro w7 ha7 hg7)
  refine MixQ.below ((B46.out.mono (Nat.le_of_lt z04)).trans (below_of_only hg7 (Nat.le_refl _) B6.out.size)) ?_
  refine mixS_nil ?_
  refine wpQuiet_nil ?_
  refine NoPanic.normal ?_
  go_wp2_with fail
  exact ret_arr (g := w.heap.size) (t := 22) (k := .u8) (xs := Y) rfl rfl ha7 Try.underlying22 size32 hY.out.symm rfl ⟨by rw [HM.out], B6.out.trans (below_of_only hg7 (Nat.le_refl _) B6.out.size)⟩

set_option maxRecDepth 100000 in
set_option maxHeartbeats 1000000 in
theorem extract_any (A : Option Addr) (c : Nat) (K : List Int) (A2 : Option Addr) (c2 : Nat) (T : List Int) (w : World) (hr : Rd w.heap.size .u8 w A K) (hb : Byt K) (hcap : K.length ≤ c) (hl : K.length ≤ 1000000000) (hr2 : Rd w.heap.size .u8 w A2 T) (hb2 : Byt T) (hcap2 : T.length ≤ c2) (hl2 : T.length ≤ 1000000000) :
    Calls Try.prog 45 #[.slice A K.length c, .slice A2 T.length c2] w (ArrPost (macL K T) w) := by
  have HR := Lib.hid hr
  have HBY := Lib.hid hb
  have HR2 := Lib.hid hr2
  have HBY2 := Lib.hid hb2
  clear hr hb hr2 hb2
  go_enter Try.func45, Try.ntmps45
  go_wp2_with fail
  refine Calls.mono (mac_any A c K _ _ [⟨A2, c2, T⟩] _ ?_ HBY.out hcap hl ?_ ?_ ?_ ?_) ?_
  · exact ((HR.out.alloc (Nat.le_refl _) _).alloc (by simp) _).mono (by simp <;> omega)
  · refine Txs.newAt (by simp) rfl ?_
    intro t ht
    rw [List.mem_singleton] at ht
    subst ht
    exact ⟨(HR2.out.alloc (Nat.le_refl _) _).mono (by simp), hcap2⟩
  · intro t ht
    rw [List.mem_singleton] at ht
    subst ht
    exact HBY2.out
  · rw [join_one]; omega
  · simp
  rintro e w1 ⟨rfl, hb1⟩
  rw [join_one]
  have hY : Hid ((macL K T).length = 32) := Lib.hid (macL_len K T)
  have RB1 := Lib.hid (Blk.below (Blk.alloc (Blk.new w 22 _) _) hb1 (by simp <;> omega))
  have B1 := Lib.hid ((((Below.refl w.heap.size w).alloc (Nat.le_refl _) _).alloc (by simp) _).trans (hb1.mono (by simp <;> omega)))
  clear hb1
  generalize macL K T = Y at *
  go_wp2_with (with_reducible (show wpList _ _ _ (⟨none, .store 22 _ _, _, _, _, _⟩ :: _) _ _); refine wpList_storeArr (o := ⟨none, .store 22 _ _, _, _, _, _⟩) (g := w.heap.size) (t := 22) (k := .u8) (xs := Y) (n := 32) rfl _ _ rfl rfl rfl RB1.out size32 hY.out.symm rfl ?_; intro w7 ha7 hg7)
  exact ret_arr (g := w.heap.size) (t := 22) (k := .u8) (xs := Y) rfl rfl ha7 Try.underlying22 size32 hY.out.symm rfl ⟨rfl, B1.out.trans (below_of_only hg7 (Nat.le_refl _) B1.out.size)⟩
end Go.Proofs.Ythpacdondnenmaa
