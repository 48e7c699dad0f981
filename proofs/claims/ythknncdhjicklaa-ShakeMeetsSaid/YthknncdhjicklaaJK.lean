/- Layer 7 and its reference: contracts. Conditions: as each theorem states them. -/
import Derived.Test.YthknncdhjicklaaJS
import Derived.Laws.CopyOwn
import Derived.Test.YthknncdhjicklaaQM
import Derived.Test.YthknncdhjicklaaBS
import Derived.Deep.Cut
/- The MAC of layer 7 as a plain function; contracts of kdf.block and the reference's padded. Conditions: as each theorem states them. -/
namespace Go.Proofs.Ythknncdhjicklaa
open Go.RowKit

def keyL (K : List Int) : List Int := if 64 < K.length then shaL K else K
def padK (K : List Int) : List Int := K ++ List.replicate (64 - K.length) 0
def xorL (x : Int) (L : List Int) : List Int := L.map fun b => bits .xor .u8 b x
def blkL (K : List Int) (x : Int) : List Int := xorL x (padK (keyL K))
def macL (K T : List Int) : List Int := shaL (blkL K 92 ++ shaL (blkL K 54 ++ T))
theorem keyL_len (K : List Int) : (keyL K).length ≤ 64 := by
  unfold keyL
  split
  · rw [shaL_len]; omega
  · omega
theorem keyL_byt {K : List Int} (h : Byt K) : Byt (keyL K) := by
  unfold keyL
  split
  · exact shaL_byt K
  · exact h
theorem padK_len {K : List Int} (h : K.length ≤ 64) : (padK K).length = 64 := by unfold padK; rw [List.length_append, List.length_replicate]; omega
theorem padK_byt {K : List Int} (h : Byt K) : Byt (padK K) := by
  refine Byt.append h (fun x hx => ?_)
  have := (List.mem_replicate.1 hx).2
  omega
theorem padK_lo {K : List Int} {i : Nat} (h : i < K.length) : (padK K).getD i 0 = K.getD i 0 := getD_append_lt h
theorem padK_hi {K : List Int} {i : Nat} (h : K.length ≤ i) : (padK K).getD i 0 = 0 := by
  unfold padK
  rw [List.getD_eq_getElem?_getD, List.getElem?_append_right h, List.getElem?_replicate]
  split <;> rfl
theorem xorL_len (x : Int) (L : List Int) : (xorL x L).length = L.length := by simp [xorL]
theorem xorL_get (x : Int) {L : List Int} {i : Nat} (h : i < L.length) : (xorL x L).getD i 0 = bits .xor .u8 (L.getD i 0) x := by
  simp [xorL, List.getD_eq_getElem?_getD, List.getElem?_map, List.getElem?_eq_getElem h]
theorem xorL_byt (x : Int) (L : List Int) : Byt (xorL x L) := fun y hy => by
  obtain ⟨b, _, rfl⟩ := List.mem_map.1 hy
  have h1 := bits_lo_u8 .xor b x
  have h2 := bits_hi_u8 .xor b x
  omega
theorem blkL_len (K : List Int) (x : Int) : (blkL K x).length = 64 := by unfold blkL; rw [xorL_len, padK_len (keyL_len K)]
theorem blkL_byt (K : List Int) (x : Int) : Byt (blkL K x) := xorL_byt _ _
theorem blkL_get (K : List Int) (x : Int) {i : Nat} (h : i < 64) : (blkL K x).getD i 0 = bits .xor .u8 ((padK (keyL K)).getD i 0) x := xorL_get x (by rw [padK_len (keyL_len K)]; exact h)
theorem macL_len (K T : List Int) : (macL K T).length = 32 := shaL_len _
theorem macL_byt (K T : List Int) : Byt (macL K T) := shaL_byt _
theorem Own.len_snoc {B : Nat} {e : TypeId} {k : IntKind} {w : World} {A : Option Addr} {n c m : Nat} {Q : List Int} {z : Int} (h : Own B e k w A n c (Q ++ [z])) (hp : Q.length = m) : n = m + 1 := by have := h.len; rw [List.length_append, hp] at this; exact this
/-- a call that hands back a slice of bytes -/
def SliPost (L : List Int) (w : World) (e : Ending) (w' : World) : Prop := ∃ A n c, e = .returned (.slice A n c) ∧ n = L.length ∧ n ≤ c ∧ Rd w'.heap.size .u8 w' A L ∧ Below w.heap.size w w'
theorem blkL_eq (K : List Int) (x : Int) : blkL K x = xorL x (padK (keyL K)) := rfl
theorem keyL_hi {K : List Int} (h : 64 < K.length) : keyL K = shaL K := by unfold keyL; rw [if_pos h]
theorem keyL_lo {K : List Int} (h : ¬ 64 < K.length) : keyL K = K := by unfold keyL; rw [if_neg h]
theorem macL_eq (K T : List Int) : macL K T = shaL (blkL K 92 ++ shaL (blkL K 54 ++ T)) := rfl
attribute [irreducible] keyL padK xorL blkL macL

theorem size5 : (Try.prog.info? 5).map (·.size) = some 1 := by kernel_rfl
def zerL (n : Nat) : List Int := List.replicate n 0
theorem zerL_len (n : Nat) : (zerL n).length = n := by simp [zerL]
theorem zerL_eq (n : Nat) : zerL n = List.replicate n 0 := rfl
theorem make64 (W : World) : (Instr.makeSlice 23 (.int .i64 64) (.int .i64 64)).run Try.prog W = .ok (.slice (some ⟨W.heap.size, 0, none⟩) 64 64) (W.alloc (.cells (cellsL .u8 (zerL 64)) 5)) := by kernel_rfl
attribute [irreducible] zerL
theorem Rd.cells {B : Nat} {k : IntKind} {w : World} {A : Option Addr} {xs : List Int} (h : Rd B k w A xs) (hn : 0 < (xs.map (Value.int k)).length) : ∃ ad, A = some ad ∧ ∀ j v, (xs.map (Value.int k))[j]? = some v → w.cell? (ad.add j) = some v := by
  obtain ⟨ad, hA, _, hc⟩ := (Rd.reads h).2 (by simpa using hn)
  exact ⟨ad, hA, hc⟩

theorem splice_arr (Z X : List Int) : (splice (Z.map (Value.int .u8)) 0 (X.map (Value.int .u8))).toArray = ((X ++ Z.drop X.length).map (Value.int .u8)).toArray := by
  unfold splice
  simp
/-- copy into an array of the call's own, from its head -/
theorem wpList_copyArr {w w0 : World} {ops : Array Oper} {rest : List Oper} {o : Oper} {a : Act} {Q : Exit → Act → World → Prop} {g N m cd cs B B0 : Nat} {sp : Option Addr} {Z X : List Int} (hgd : o.guard = none) (d s : Operand)
    (ho : o.op = .call { callee := .builtin .copy, args := #[d, s], argTypes := #[23, 23] }) (hd : a.eval d = .slice (some ⟨g, 0, none⟩) N cd) (hs : a.eval s = .slice sp m cs)
    (hA : Arr w g 5 .u8 Z) (hZ : Z.length = N) (hr : Rd B .u8 w sp X) (hX : X.length = m) (hm : m ≤ N) (hb : Below B0 w0 w) (hBg : B0 ≤ g)
    (h : ∀ w', Arr w' g 5 .u8 (X ++ Z.drop X.length) → Below B0 w0 w' → wpList Try.prog ops Q rest (a.put o.dst (goInt X.length)) w') : wpList Try.prog ops Q (o :: rest) a w := by
  refine wpList_copy_splice hgd d s _ _ ho 5 Try.underlying23 size5 _ _ _ _ _ _ hd hs g 0 (Z.map (Value.int .u8)) 5 hA (X.map (Value.int .u8)) ?_ (fun hp => ⟨rfl, hr.cells hp⟩) ?_ (ints_oneCell .u8 X) B0 w0 hb hBg ?_
  · rw [List.length_map, hX]; exact (Nat.min_eq_left hm).symm
  · rw [List.length_map, List.length_map]; omega
  · intro w' h1 h2
    rw [List.length_map]
    refine h w' ?_ h2
    have := h1.out
    rw [splice_arr] at this
    exact this
theorem pad_zer {K : List Int} : K ++ (zerL 64).drop K.length = padK K := by
  unfold padK
  rw [zerL_eq, List.drop_replicate]

set_option maxRecDepth 100000 in
set_option maxHeartbeats 4000000 in
theorem block_any (A : Option Addr) (c : Nat) (K : List Int) (x : Int) (w : World) (hr : Rd w.heap.size .u8 w A K) (hb : Byt K) (hcap : K.length ≤ c) (hl : K.length ≤ 1000000000000) :
    Calls Try.prog 34 #[.slice A K.length c, .int .u8 x] w (SliPost (blkL K x) w) := by
  have HR := Lib.hid hr
  have HBY := Lib.hid hb
  have HK := Lib.hid (blkL_eq K x)
  have HKL := Lib.hid (keyL_len K)
  have HMK := Lib.hid make64
  clear hr hb
  go_enter Try.func34, Try.ntmps34
  by_cases h : 64 < K.length
  · have HKH := Lib.hid (keyL_hi h)
    go_wp2_with fail
    refine Calls.mono (sum_any _ _ [⟨A, c, K⟩] _ ?_ ?_ ?_ ?_) ?_
    · refine Txs.newAt (by simp) rfl ?_
      intro t ht
      rw [List.mem_singleton] at ht
      subst ht
      exact ⟨HR.out, hcap⟩
    · intro t ht
      rw [List.mem_singleton] at ht
      subst ht
      exact HBY.out
    · rw [join_one]; exact hl
    · simp
    rintro e w1 ⟨rfl, hb1⟩
    rw [join_one]
    have B1 := Lib.hid (((Below.refl w.heap.size w).alloc (Nat.le_refl _) _).trans (hb1.mono (by simp)))
    clear hb1
    have hX : Hid ((shaL K).length = 32) := Lib.hid (shaL_len K)
    rw [HKH.out] at HK HKL
    clear HKH
    generalize shaL K = K1 at *
    have hmk := HMK.out
    go_wp2_with (first
      | (with_reducible (show wpList _ _ _ (⟨none, .store 22 _ _, _, _, _, _⟩ :: _) _ _); refine wpList_storeArr (o := ⟨none, .store 22 _ _, _, _, _, _⟩) (g := w1.heap.size) (t := 22) (k := .u8) (xs := K1) (n := 32) rfl _ _ rfl rfl rfl (Blk.new _ _ _) size32 hX.out.symm rfl ?_; intro w2 ha2 hg2; have A2 := Lib.hid ha2; have B2 := Lib.hid ((B1.out.alloc B1.out.size _).trans (below_of_only hg2 B1.out.size (by have := B1.out.size; simp; omega))); clear ha2 hg2)
      | (with_reducible (show wpList _ _ _ (⟨some 18, _, _, _, _, _⟩ :: _) _ _); refine wpList_copyArr (o := ⟨some 18, _, _, _, _, _⟩) (B0 := w.heap.size) (w0 := w) (X := K1) (Z := zerL 64) rfl _ _ rfl rfl rfl (Arr.newAt rfl rfl) (zerL_len 64) (A2.out.rd.alloc (Nat.le_refl _) _) hX.out (by decide) (B2.out.alloc B2.out.size _) B2.out.size ?_; intro w3 ha3 hb3; rw [pad_zer] at ha3; have A3 := Lib.hid ha3; have B3 := Lib.hid hb3; clear ha3 hb3))
    have hg := B2.out.size
    generalize w2.heap.size = g at *
    clear A2 B2 B1 hmk HMK HR HBY hcap
    have HPL := Lib.hid (padK_len HKL.out)
    generalize padK K1 = P at *
    go_loopw [21] (fun i wr => ∃ k : Nat, k ≤ 64 ∧ i = .int .i64 k ∧ Hid (Arr wr g 5 .u8 (mixL P (xorL x P) k)) ∧ Hid (Below w.heap.size w wr)) (fun i _ => 64 - (intOf i).toNat)
    case atStart => exact ⟨0, by omega, rfl, Lib.hid (by rw [mix_zero]; exact A3.out), B3⟩
    case round =>
      clear A3 B3
      obtain ⟨k, hk, rfl, HA, HB⟩ := hrel
      have hxl : Hid (P.length = (xorL x P).length) := Lib.hid (xorL_len x P).symm
      by_cases hlt : k < 64
      · have hml : Hid ((mixL P (xorL x P) k).length = 64) := Lib.hid (by rw [mix_len hxl.out (by rw [HPL.out]; omega), HPL.out])
        have c0 := HA.out.cell (i := k) (by rw [hml.out]; omega)
        have c0' := HA.out.cellAdd (i := k) (by rw [hml.out]; omega)
        rw [mix_get hxl.out (Nat.le_refl _)] at c0 c0'
        have f0 := HA.out.frozen k
        have f0' := HA.out.frozenAdd k
        have HXG := Lib.hid (xorL_get x (L := P) (i := k) (by rw [HPL.out]; omega))
        have HMS := Lib.hid (mix_set hxl.out (k := k) (by rw [HPL.out]; omega))
        generalize P.getD k 0 = z at *
        go_wp2_with fail
        go_roundw
        case rel => exact ⟨k + 1, by omega, by go_num, Lib.hid (Arr.cast (HA.out.set k _) (by rw [← HMS.out, HXG.out])), Lib.hid (HB.out.setCell hg _)⟩
        case measure => simp [intOf]; omega
      · have hk64 : k = 64 := by omega
        have HA8 : Hid (Arr wr g 5 .u8 (xorL x P)) := Lib.hid (Arr.cast HA.out (by rw [hk64]; have := mix_full hxl.out; rw [← hxl.out, HPL.out] at this; exact this))
        clear HA hk64
        go_wp2_with fail
        go_ret
        exact ⟨_, _, _, rfl, by rw [HK.out, ← hxl.out, HPL.out], Nat.le_refl _, by rw [HK.out]; exact HA8.out.rd, HB.out⟩
  · have hK1 : K.length ≤ 64 := by omega
    rw [keyL_lo h] at HK HKL
    have hmk := HMK.out
    go_wp2_with (with_reducible (show wpList _ _ _ (⟨some 18, _, _, _, _, _⟩ :: _) _ _); refine wpList_copyArr (o := ⟨some 18, _, _, _, _, _⟩) (B0 := w.heap.size) (w0 := w) (X := K) (Z := zerL 64) rfl _ _ rfl rfl rfl (Arr.newAt rfl rfl) (zerL_len 64) (HR.out.alloc (Nat.le_refl _) _) rfl hK1 ((Below.refl _ _).alloc (Nat.le_refl _) _) (Nat.le_refl _) ?_; intro w3 ha3 hb3; rw [pad_zer] at ha3; have A3 := Lib.hid ha3; have B3 := Lib.hid hb3; clear ha3 hb3)
    have hg : w.heap.size ≤ w.heap.size := Nat.le_refl _
    have HPL := Lib.hid (padK_len HKL.out)
    generalize padK K = P at *
    go_loopw [21] (fun i wr => ∃ k : Nat, k ≤ 64 ∧ i = .int .i64 k ∧ Hid (Arr wr w.heap.size 5 .u8 (mixL P (xorL x P) k)) ∧ Hid (Below w.heap.size w wr)) (fun i _ => 64 - (intOf i).toNat)
    case atStart => exact ⟨0, by omega, rfl, Lib.hid (by rw [mix_zero]; exact A3.out), B3⟩
    case round =>
      clear A3 B3
      obtain ⟨k, hk, rfl, HA, HB⟩ := hrel
      have hxl : Hid (P.length = (xorL x P).length) := Lib.hid (xorL_len x P).symm
      by_cases hlt : k < 64
      · have hml : Hid ((mixL P (xorL x P) k).length = 64) := Lib.hid (by rw [mix_len hxl.out (by rw [HPL.out]; omega), HPL.out])
        have c0 := HA.out.cell (i := k) (by rw [hml.out]; omega)
        have c0' := HA.out.cellAdd (i := k) (by rw [hml.out]; omega)
        rw [mix_get hxl.out (Nat.le_refl _)] at c0 c0'
        have f0 := HA.out.frozen k
        have f0' := HA.out.frozenAdd k
        have HXG := Lib.hid (xorL_get x (L := P) (i := k) (by rw [HPL.out]; omega))
        have HMS := Lib.hid (mix_set hxl.out (k := k) (by rw [HPL.out]; omega))
        generalize P.getD k 0 = z at *
        go_wp2_with fail
        go_roundw
        case rel => exact ⟨k + 1, by omega, by go_num, Lib.hid (Arr.cast (HA.out.set k _) (by rw [← HMS.out, HXG.out])), Lib.hid (HB.out.setCell hg _)⟩
        case measure => simp [intOf]; omega
      · have hk64 : k = 64 := by omega
        have HA8 : Hid (Arr wr w.heap.size 5 .u8 (xorL x P)) := Lib.hid (Arr.cast HA.out (by rw [hk64]; have := mix_full hxl.out; rw [← hxl.out, HPL.out] at this; exact this))
        clear HA hk64
        go_wp2_with fail
        go_ret
        exact ⟨_, _, _, rfl, by rw [HK.out, ← hxl.out, HPL.out], Nat.le_refl _, by rw [HK.out]; exact HA8.out.rd, HB.out⟩

end Go.Proofs.Ythknncdhjicklaa
/- Contracts of the reference's Mac, of kdf.Mac and kdf.Extract. Conditions: as each theorem states them. -/
namespace Go.Proofs.Ythknncdhjicklaa
open Go.RowKit

/-- a call that hands back an array of bytes -/
def ArrPost (X : List Int) (w : World) (e : Ending) (w' : World) : Prop := e = .returned (.agg (cellsL .u8 X)) ∧ Below w.heap.size w w'

end Go.Proofs.Ythknncdhjicklaa
/- Slices of texts that the call itself made; contracts of kdf.Mac and kdf.Extract. Conditions: as each theorem states them. -/
namespace Go.Proofs.Ythknncdhjicklaa
open Go.RowKit

theorem infoTx : (Try.prog.info? 23).map (fun i => (i.zero, i.size, i.bytes)) = some (some (.slice none 0 0), 1, 24) := by kernel_rfl
theorem txs_reads {B : Nat} {w : World} {A : Option Addr} {ts : List Tx} (h : Txs B w A ts) : Reads w B 1 A ts.length (ts.map txV) := by
  refine ⟨by simp, fun hn => ?_⟩
  obtain ⟨ad, hA, hb, _⟩ := h 0 hn
  refine ⟨ad, hA, hb, fun j u hu => ?_⟩
  simp only [List.getElem?_map, Option.map_eq_some_iff] at hu
  obtain ⟨t, ht, rfl⟩ := hu
  have hj : j < ts.length := by
    rcases Nat.lt_or_ge j ts.length with g | g
    · exact g
    · rw [List.getElem?_eq_none g] at ht; cases ht
  obtain ⟨ad', e, _, hc, _⟩ := h j hj
  rw [hA] at e
  injection e with e
  subst e
  rw [hc, List.getD_eq_getElem?_getD, ht]
  rfl
/-- texts in a slice of the call's own -/
def OwnT (B : Nat) (w : World) (A : Option Addr) (n c : Nat) (ts : List Tx) : Prop := w.ownsRow B 23 1 (.slice A n c) n (ts.map txV) ∧ n = ts.length
theorem OwnT.litAt {B : Nat} {w : World} {g n : Nat} {cs : Array Value} {ts : List Tx} (hg : w.heap.size = g) (hc : cs = (ts.map txV).toArray) (hn : n = ts.length) (hB : B ≤ g) (hm : ts.length ≤ maxLen) :
    OwnT B (w.alloc (.cells cs 23)) (some ⟨g, 0, none⟩) n n ts := by
  subst hg; subst hc; subst hn
  refine ⟨?_, rfl⟩
  have := World.ownsRow_lit (e := 23) (size := 1) (base := B) w (ts.map txV).toArray ts.length hB hm (by simp)
  simpa using this
theorem txs_of_own {B : Nat} {w : World} {A : Option Addr} {n c : Nat} {ts : List Tx} (h : OwnT B w A n c ts) (hr : ∀ t ∈ ts, Rd w.heap.size .u8 w t.A t.xs ∧ t.xs.length ≤ t.c) : Txs w.heap.size w A ts := fun i hi => by
  have hR := Reads.of_own h.1
  have hn := h.2
  subst hn
  obtain ⟨ad, hA, hb, hc⟩ := hR.2 (by omega)
  obtain ⟨h1, h2⟩ := hr _ (getD_mem (z := Tx.none) hi)
  refine ⟨ad, hA, hb, hc i _ ?_, h1, h2⟩
  simp [List.getElem?_map, List.getElem?_eq_getElem hi, List.getD_eq_getElem?_getD, txV]
theorem txV_one (t : Tx) : (txV t).oneCell' = true := rfl
theorem wpList_appTx {w : World} {ops : Array Oper} {rest : List Oper} {o : Oper} {a : Act} {Q : Exit → Act → World → Prop} {B B2 n c m c2 : Nat} {A A2 : Option Addr} {ts us : List Tx} (hgd : o.guard = none) (s x : Operand)
    (ho : o.op = .call { callee := .builtin .append, args := #[s, x], argTypes := #[57, 57] }) (hs : a.eval s = .slice A n c) (hx : a.eval x = .slice A2 m c2) (hO : OwnT B w A n c ts) (hr : Txs B2 w A2 us) (hm : m = us.length)
    (hl : ts.length + us.length ≤ 1000000000000) (hB : B ≤ w.heap.size) (h : ∀ A' n' c' w', OwnT B w' A' n' c' (ts ++ us) → Below B w w' → wpList Try.prog ops Q rest (a.put o.dst (.slice A' n' c')) w') : wpList Try.prog ops Q (o :: rest) a w := by
  subst hm
  have hn := hO.2
  subst hn
  obtain ⟨i, hi, hz, hsz, hby⟩ := info_parts infoTx
  refine wpList_append_any w hgd s x _ ho B 23 i _ 1 24 Try.underlying57 hi hz hsz hby rfl (by decide) _ _ _ hs hO.1 B2 A2 us.length c2 _ hx (txs_reads hr) (fun u hu => ?_) (by unfold maxLen; omega) (by omega) hB ?_
  · obtain ⟨t, _, rfl⟩ := List.mem_map.1 hu
    exact txV_one t
  · intro v' w' h1 h2 _
    have hbel : Below B w w' := ⟨h2.os, h2.tape, h2.output, h2.size, fun i hi' => h2.block i (by omega) (fun e' => by
      have := hO.1.lt i e'.symm
      omega)⟩
    rw [← List.map_append] at h1
    rcases h1.2 with ⟨rfl, h0⟩ | ⟨g, cap, cur, rfl, _⟩
    · rw [h0] at h1
      exact h none 0 0 w' ⟨h1, by rw [List.length_append]; omega⟩ hbel
    · exact h (some ⟨g, 0, none⟩) (ts.length + us.length) cap w' ⟨h1, by rw [List.length_append]⟩ hbel

theorem join_cons (t : Tx) (ts : List Tx) : joinT (t :: ts) = t.xs ++ joinT ts := by unfold joinT; rfl
theorem join_two (a b : Option Addr) (p q : Nat) (x y : List Int) : joinT [⟨a, p, x⟩, ⟨b, q, y⟩] = x ++ y := by unfold joinT; simp
theorem BytT.cons {t : Tx} {ts : List Tx} (h : Byt t.xs) (k : BytT ts) : BytT (t :: ts) := fun u hu => by
  rcases List.mem_cons.1 hu with rfl | hu
  · exact h
  · exact k u hu
theorem Txs.each {B : Nat} {w : World} {A : Option Addr} {ts : List Tx} (h : Txs B w A ts) : ∀ t ∈ ts, Rd B .u8 w t.A t.xs ∧ t.xs.length ≤ t.c := fun t ht => by
  obtain ⟨i, hi, rfl⟩ := List.mem_iff_getElem.1 ht
  obtain ⟨_, _, _, _, h1, h2⟩ := h i hi
  rw [List.getD_eq_getElem?_getD, List.getElem?_eq_getElem hi] at h1 h2
  exact ⟨h1, h2⟩

set_option maxRecDepth 100000 in
set_option maxHeartbeats 4000000 in
theorem mac_any (A : Option Addr) (c : Nat) (K : List Int) (A2 : Option Addr) (c2 : Nat) (ts : List Tx) (w : World) (hr : Rd w.heap.size .u8 w A K) (hb : Byt K) (hcap : K.length ≤ c) (hl : K.length ≤ 1000000000) (hr2 : Txs w.heap.size w A2 ts) (hb2 : BytT ts) (hl2 : (joinT ts).length ≤ 1000000000) (hn2 : ts.length ≤ 1000000000) :
    Calls Try.prog 30 #[.slice A K.length c, .slice A2 ts.length c2] w (ArrPost (macL K (joinT ts)) w) := by
  have HR := Lib.hid hr
  have HBY := Lib.hid hb
  have HR2 := Lib.hid hr2
  have HBY2 := Lib.hid hb2
  have HM := Lib.hid (macL_eq K (joinT ts))
  have HP1 := Lib.hid (blkL_len K 54)
  have HP2 := Lib.hid (blkL_len K 92)
  have HQ1 := Lib.hid (blkL_byt K 54)
  have HQ2 := Lib.hid (blkL_byt K 92)
  clear hr hb hr2 hb2
  go_enter Try.func30, Try.ntmps30
  go_wp2_with fail
  refine Calls.mono (block_any A c K 54 _ ((HR.out.alloc (Nat.le_refl _) _).mono (by simp)) HBY.out hcap (by omega)) ?_
  rintro e w1 ⟨A3, n3, c3, rfl, hn3, hc3, ho3, hb3⟩
  rw [HP1.out] at hn3
  subst hn3
  have RB1 := Lib.hid (Blk.below (Blk.new w 22 _) hb3 (by simp))
  have B1 := Lib.hid (((Below.refl w.heap.size w).alloc (Nat.le_refl _) _).trans (hb3.mono (by simp)))
  have O1 := Lib.hid ho3
  have T1 := Lib.hid ((HR2.out.below B1.out (Nat.le_refl _)).mono B1.out.size)
  have z0 : w.heap.size < w1.heap.size := Blk.lt RB1.out
  clear hb3 ho3
  generalize blkL K 54 = P at *
  have L1 : Hid (OwnT w1.heap.size (w1.alloc (.cells #[.slice A3 64 c3] 23)) (some ⟨w1.heap.size, 0, none⟩) 1 1 [⟨A3, c3, P⟩]) := Lib.hid (OwnT.litAt rfl (by simp [txV, HP1.out]) rfl (Nat.le_refl _) (by simp [maxLen]))
  have T1' : Hid (Txs w1.heap.size (w1.alloc (.cells #[.slice A3 64 c3] 23)) A2 ts) := Lib.hid (T1.out.below ((Below.refl w1.heap.size w1).alloc (Nat.le_refl _) _) (Nat.le_refl _))
  go_wp2_with (at_builtin; refine wpList_appTx (o := ⟨some 10, _, _, _, _, _⟩) rfl _ _ rfl rfl rfl L1.out T1'.out rfl ?_ ?_ ?_; (simp only [List.length_cons, List.length_nil]; omega); (simp); intro A4 n4 c4 w2 q1 q2; have O2 := Lib.hid q1; have B12 := Lib.hid (((Below.refl w1.heap.size w1).alloc (Nat.le_refl _) _).trans q2); clear q1 q2)
  have B2 := Lib.hid (B1.out.trans (B12.out.mono B1.out.size))
  have RB2 := Lib.hid (Blk.below RB1.out B12.out (by omega))
  have O2' : Hid (OwnT w1.heap.size w2 A4 n4 c4 (⟨A3, c3, P⟩ :: ts)) := O2
  obtain rfl := O2'.out.2
  refine Calls.mono (sum_any A4 c4 (⟨A3, c3, P⟩ :: ts) _ (txs_of_own O2'.out ?_) (BytT.cons HQ1.out HBY2.out) (by rw [join_cons, List.length_append, HP1.out]; omega) (by rw [List.length_cons]; omega)) ?_
  · intro t ht
    rcases List.mem_cons.1 ht with rfl | ht
    · exact ⟨(O1.out.below B12.out (Nat.le_refl _)).mono B12.out.size, by rw [HP1.out]; exact hc3⟩
    · obtain ⟨h1, h2⟩ := T1.out.each t ht
      exact ⟨(h1.below B12.out (Nat.le_refl _)).mono B12.out.size, h2⟩
  rintro e w3 ⟨rfl, hb3⟩
  rw [join_cons]
  have B3 := Lib.hid (B2.out.trans (hb3.mono B2.out.size))
  have RB3 := Lib.hid (Blk.below RB2.out hb3 (Blk.lt RB2.out))
  have hX : Hid ((shaL (P ++ joinT ts)).length = 32) := Lib.hid (shaL_len _)
  have HXB := Lib.hid (shaL_byt (P ++ joinT ts))
  clear hb3 B1 RB1 O1 T1 O2 O2' B2 RB2 B12 L1 T1'
  simp only
  generalize shaL (P ++ joinT ts) = X at *
  go_wp2_with (with_reducible (show wpList _ _ _ (⟨none, .store 22 _ _, _, _, _, _⟩ :: _) _ _); refine wpList_storeArr (o := ⟨none, .store 22 _ _, _, _, _, _⟩) (g := w3.heap.size) (t := 22) (k := .u8) (xs := X) (n := 32) rfl _ _ rfl rfl rfl (Blk.new _ _ _) size32 hX.out.symm rfl ?_; intro w4 ha4 hg4; have A4' := Lib.hid ha4; have B4 := Lib.hid ((B3.out.alloc B3.out.size _).trans (below_of_only hg4 B3.out.size (by have := B3.out.size; simp; omega))); have RB4 := Lib.hid (Blk.grown (Blk.alloc RB3.out _) hg4 (by have := Blk.lt RB3.out; simp; omega)); clear ha4 hg4)
  refine wp_region_mix_below w.heap.size [([0, 2], 1), ([], 3), ([], 4), ([], 5)] [] (by kernel_rfl) (by kernel_rfl) (by kernel_rfl) (by kernel_rfl) ?_
  simp only [put_none, pickL, List.map_cons, List.map_nil, List.filterMap_cons, List.filterMap_nil, List.getElem?_cons_succ, List.getElem?_cons_zero]
  refine mixS_cons ?_
  repeat (show wpQuiet _ _ _ _ (_ :: _) _; go_big_quiet_step (fail))
  refine wpQuiet_nil ?_
  show wpList _ _ _ [_] _ _
  go_wp2_with fail
  have hgl : w3.heap.size < w4.heap.size := A4'.out.lt
  have z04 : w.heap.size < w4.heap.size := Blk.lt RB4.out
  refine Calls.mono (block_any A c K 92 _ ((HR.out.below B4.out (Nat.le_refl _)).drew.mono B4.out.size) HBY.out hcap (by omega)) ?_
  rintro e w5 ⟨A5, n5, c5, rfl, hn5, hc5, ho5, hb5⟩
  rw [HP2.out] at hn5
  subst hn5
  have B45 := Lib.hid ((Below.refl w4.heap.size w4).drew.trans hb5)
  have O5 := Lib.hid ho5
  clear hb5 ho5
  have A5' := Lib.hid (A4'.out.belowAll B45.out)
  have RB5 := Lib.hid (Blk.below RB4.out B45.out z04)
  have z45 := B45.out.size
  generalize blkL K 92 = P2 at *
  go_wp2_with fail
  refine MixQ.below (B45.out.mono (by omega)) ?_
  refine mixS_cons ?_
  refine wpQuiet_nil ?_
  show wpList _ _ _ [_] _ _
  go_wp2_with fail
  refine MixQ.below ((B45.out.mono (by omega)).alloc (by omega) _) ?_
  refine mixS_cons ?_
  refine wpQuiet_nil ?_
  show wpList _ _ _ [_] _ _
  go_wp2_with fail
  refine Calls.mono (sum_any _ _ [⟨A5, c5, P2⟩, ⟨some ⟨w3.heap.size, 0, none⟩, 32, X⟩] _ ?_ ?_ ?_ ?_) ?_
  · refine Txs.newAt (by simp) (by simp [txV, HP2.out, hX.out]) ?_
    intro t ht
    simp only [List.mem_cons, List.not_mem_nil, or_false] at ht
    rcases ht with rfl | rfl
    · exact ⟨O5.out, by rw [HP2.out]; exact hc5⟩
    · exact ⟨A5'.out.rd, by rw [hX.out]; exact Nat.le_refl _⟩
  · intro t ht
    simp only [List.mem_cons, List.not_mem_nil, or_false] at ht
    rcases ht with rfl | rfl
    · exact HQ2.out
    · exact HXB.out
  · rw [join_two, List.length_append, HP2.out, hX.out]; omega
  · simp
  rintro e w6 ⟨rfl, hb6⟩
  rw [join_two]
  have B56 := Lib.hid ((((Below.refl w5.heap.size w5).alloc (Nat.le_refl _) (.cells #[.slice A5 64 c5, .slice (some ⟨w3.heap.size, 0, none⟩) 32 32] 23))).trans (hb6.mono (by simp)))
  have B46 := Lib.hid (B45.out.trans (B56.out.mono z45))
  have RB6 := Lib.hid (Blk.below RB5.out B56.out (by omega))
  have hY : Hid ((shaL (P2 ++ X)).length = 32) := Lib.hid (shaL_len _)
  have B6 := Lib.hid (B4.out.trans (B46.out.mono B4.out.size))
  clear hb6
  generalize shaL (P2 ++ X) = Y at *
  go_wp2_with fail
  refine MixQ.below (B46.out.mono (by omega)) ?_
  refine mixS_cons ?_
  refine wpQuiet_nil ?_
  show wpList _ _ _ [_] _ _
  go_wp2_with (with_reducible (show wpList _ _ _ (⟨none, .store 22 _ _, _, _, _, _⟩ :: _) _ _); refine wpList_storeArr (o := ⟨none, .store 22 _ _, _, _, _, _⟩) (g := w.heap.size) (t := 22) (k := .u8) (xs := Y) (n := 32) rfl _ _ rfl rfl rfl RB6.out size32 hY.out.symm rfl ?_; intro w7 ha7 hg7)
  refine MixQ.below ((B46.out.mono (Nat.le_of_lt z04)).trans (below_of_only hg7 (Nat.le_refl _) B6.out.size)) ?_
  refine mixS_nil ?_
  refine wpQuiet_nil ?_
  refine NoPanic.normal ?_
  go_wp2_with fail
  exact ret_arr (g := w.heap.size) (t := 22) (k := .u8) (xs := Y) rfl rfl ha7 Try.underlying22 size32 hY.out.symm rfl ⟨by rw [HM.out], B6.out.trans (below_of_only hg7 (Nat.le_refl _) B6.out.size)⟩

set_option maxRecDepth 100000 in
set_option maxHeartbeats 1000000 in
theorem extract_any (A : Option Addr) (c : Nat) (K : List Int) (A2 : Option Addr) (c2 : Nat) (T : List Int) (w : World) (hr : Rd w.heap.size .u8 w A K) (hb : Byt K) (hcap : K.length ≤ c) (hl : K.length ≤ 1000000000) (hr2 : Rd w.heap.size .u8 w A2 T) (hb2 : Byt T) (hcap2 : T.length ≤ c2) (hl2 : T.length ≤ 1000000000) :
    Calls Try.prog 31 #[.slice A K.length c, .slice A2 T.length c2] w (ArrPost (macL K T) w) := by
  have HR := Lib.hid hr
  have HBY := Lib.hid hb
  have HR2 := Lib.hid hr2
  have HBY2 := Lib.hid hb2
  clear hr hb hr2 hb2
  go_enter Try.func31, Try.ntmps31
  go_wp2_with fail
  refine Calls.mono (mac_any A c K _ _ [⟨A2, c2, T⟩] _ ?_ HBY.out hcap hl ?_ ?_ ?_ ?_) ?_
  · exact ((HR.out.alloc (Nat.le_refl _) _).alloc (by simp) _).mono (by simp <;> omega)
  · refine Txs.newAt (by simp) rfl ?_
    intro t ht
    rw [List.mem_singleton] at ht
    subst ht
    exact ⟨(HR2.out.alloc (Nat.le_refl _) _).mono (by simp), hcap2⟩
  · intro t ht
    rw [List.mem_singleton] at ht
    subst ht
    exact HBY2.out
  · rw [join_one]; omega
  · simp
  rintro e w1 ⟨rfl, hb1⟩
  rw [join_one]
  have hY : Hid ((macL K T).length = 32) := Lib.hid (macL_len K T)
  have RB1 := Lib.hid (Blk.below (Blk.alloc (Blk.new w 22 _) _) hb1 (by simp <;> omega))
  have B1 := Lib.hid ((((Below.refl w.heap.size w).alloc (Nat.le_refl _) _).alloc (by simp) _).trans (hb1.mono (by simp <;> omega)))
  clear hb1
  generalize macL K T = Y at *
  go_wp2_with (with_reducible (show wpList _ _ _ (⟨none, .store 22 _ _, _, _, _, _⟩ :: _) _ _); refine wpList_storeArr (o := ⟨none, .store 22 _ _, _, _, _, _⟩) (g := w.heap.size) (t := 22) (k := .u8) (xs := Y) (n := 32) rfl _ _ rfl rfl rfl RB1.out size32 hY.out.symm rfl ?_; intro w7 ha7 hg7)
  exact ret_arr (g := w.heap.size) (t := 22) (k := .u8) (xs := Y) rfl rfl ha7 Try.underlying22 size32 hY.out.symm rfl ⟨rfl, B1.out.trans (below_of_only hg7 (Nat.le_refl _) B1.out.size)⟩
end Go.Proofs.Ythknncdhjicklaa
/- What is expanded, as a plain function; contract of kdf.Expand. Conditions: as each theorem states them. -/
namespace Go.Proofs.Ythknncdhjicklaa
open Go.RowKit

def expT (S I : List Int) : Nat → List Int
  | 0 => []
  | i + 1 => macL S (expT S I i ++ (I ++ [((i + 1 : Nat) : Int) % 256]))
def expO (S I : List Int) : Nat → List Int
  | 0 => []
  | i + 1 => expO S I i ++ expT S I (i + 1)
theorem expT_zero (S I : List Int) : expT S I 0 = [] := rfl
theorem expT_succ (S I : List Int) (i : Nat) : expT S I (i + 1) = macL S (expT S I i ++ (I ++ [((i + 1 : Nat) : Int) % 256])) := rfl
theorem expO_zero (S I : List Int) : expO S I 0 = [] := rfl
theorem expO_succ (S I : List Int) (i : Nat) : expO S I (i + 1) = expO S I i ++ expT S I (i + 1) := rfl
theorem expT_len (S I : List Int) (i : Nat) : (expT S I (i + 1)).length = 32 := macL_len _ _
theorem expT_le (S I : List Int) (i : Nat) : (expT S I i).length ≤ 32 := by
  cases i with
  | zero => simp [expT]
  | succ i => rw [expT_len]; omega
theorem expT_byt (S I : List Int) (i : Nat) : Byt (expT S I i) := by
  cases i with
  | zero => exact Byt.nil
  | succ i => exact macL_byt _ _
theorem expO_len (S I : List Int) (i : Nat) : (expO S I i).length = 32 * i := by
  induction i with
  | zero => rfl
  | succ i ih => rw [expO_succ, List.length_append, ih, expT_len]; omega
theorem expO_byt (S I : List Int) (i : Nat) : Byt (expO S I i) := by
  induction i with
  | zero => exact Byt.nil
  | succ i ih => rw [expO_succ]; exact ih.append (expT_byt _ _ _)
theorem expO_pre (S I : List Int) (i j : Nat) : ∃ Z, expO S I (i + j) = expO S I i ++ Z := by
  induction j with
  | zero => exact ⟨[], by simp⟩
  | succ j ih =>
    obtain ⟨Z, h⟩ := ih
    exact ⟨Z ++ expT S I (i + j + 1), by rw [show i + (j + 1) = i + j + 1 by omega, expO_succ, h, List.append_assoc]⟩
def expL (S I : List Int) (n : Int) : List Int := if n < 1 ∨ 8160 < n then [] else (expO S I ((n.toNat + 31) / 32)).take n.toNat
theorem expL_out (S I : List Int) {n : Int} (h : n < 1 ∨ 8160 < n) : expL S I n = [] := by unfold expL; rw [if_pos h]
theorem expL_in (S I : List Int) {N : Nat} (h1 : 1 ≤ N) (h2 : N ≤ 8160) : expL S I (N : Int) = (expO S I ((N + 31) / 32)).take N := by
  unfold expL; rw [if_neg (by omega), Int.toNat_natCast]
theorem expL_len (S I : List Int) {N : Nat} (h1 : 1 ≤ N) (h2 : N ≤ 8160) : (expL S I (N : Int)).length = N := by
  rw [expL_in S I h1 h2, List.length_take, expO_len]; omega
theorem expL_byt (S I : List Int) (n : Int) : Byt (expL S I n) := by
  unfold expL
  split
  · exact Byt.nil
  · exact (expO_byt _ _ _).take _
theorem expL_first (S I : List Int) {N M : Nat} (h1 : 1 ≤ N) (h2 : N ≤ M) (h3 : M ≤ 8160) : (expL S I (M : Int)).take N = expL S I (N : Int) := by
  rw [expL_in S I h1 (by omega), expL_in S I (by omega) h3, List.take_take, Nat.min_eq_left h2]
  obtain ⟨Z, hZ⟩ := expO_pre S I ((N + 31) / 32) ((M + 31) / 32 - (N + 31) / 32)
  rw [show (N + 31) / 32 + ((M + 31) / 32 - (N + 31) / 32) = (M + 31) / 32 by omega] at hZ
  rw [hZ, List.take_append_of_le_length (by rw [expO_len]; omega)]
attribute [irreducible] expT expO expL

theorem join_three (a b d : Option Addr) (p q r : Nat) (x y z : List Int) : joinT [⟨a, p, x⟩, ⟨b, q, y⟩, ⟨d, r, z⟩] = x ++ (y ++ z) := by unfold joinT; simp
theorem mac_at {n m : Nat} (A : Option Addr) (c : Nat) (K : List Int) (A2 : Option Addr) (c2 : Nat) (ts : List Tx) (w : World) (hn : K.length = n) (hm : ts.length = m) (hr : Rd w.heap.size .u8 w A K) (hb : Byt K) (hcap : K.length ≤ c) (hl : K.length ≤ 1000000000) (hr2 : Txs w.heap.size w A2 ts) (hb2 : BytT ts) (hl2 : (joinT ts).length ≤ 1000000000) (hn2 : ts.length ≤ 1000000000) :
    Calls Try.prog 30 #[.slice A n c, .slice A2 m c2] w (ArrPost (macL K (joinT ts)) w) := by
  subst hn; subst hm; exact mac_any A c K A2 c2 ts w hr hb hcap hl hr2 hb2 hl2 hn2
theorem slice_hn {P : Program} {t e : TypeId} {k : IntKind} {bytes : Nat} {B : Nat} {w : World} {A : Option Addr} {xs : List Int} {c n : Nat} (E : ElT P t e k bytes) (hr : Rd B k w A xs) (hn : xs.length = n) (hc : n ≤ c) (m : Nat) (h2 : m ≤ n) :
    ∃ A' c', m ≤ c' ∧ c' ≤ c ∧ Rd B k w A' (xs.take m) ∧ (xs.take m).length = m ∧
      ∀ (w : World) (kh : IntKind), (Instr.sliceAt t (.slice A n c) none (some (.int kh (m : Int))) none).run P w = .ok (.slice A' m c') w := by
  subst hn; exact slice_h E hr hc (m : Int) m (by omega) rfl

set_option maxRecDepth 100000 in
set_option maxHeartbeats 4000000 in
theorem expand_in (S : List Int) (A : Option Addr) (c : Nat) (I : List Int) (N : Nat) (w : World) (hS : S.length = 32) (hSb : Byt S) (hr : Rd w.heap.size .u8 w A I) (hb : Byt I) (hcap : I.length ≤ c) (hl : I.length ≤ 1000000) (h1 : 1 ≤ N) (h2 : N ≤ 8160) :
    Calls Try.prog 35 #[.agg (cellsL .u8 S), .slice A I.length c, .int .i64 N] w (SliPost (expL S I (N : Int)) w) := by
  have HR := Lib.hid hr
  have HBY := Lib.hid hb
  have HS := Lib.hid hS
  have HSB := Lib.hid hSb
  have HEI := Lib.hid (expL_in S I h1 h2)
  have HEL := Lib.hid (expL_len S I h1 h2)
  clear hr hb hS hSb
  go_enter Try.func35, Try.ntmps35
  go_wp2_with fail
  have SA : Hid (Arr (w.alloc (.cells (cellsL .u8 S) 22)) w.heap.size 22 .u8 S) := Lib.hid (Arr.newAt rfl rfl)
  go_loopw [7, 8, 9] (fun o l i wr => ∃ (r : Nat) (A1 : Option Addr) (n1 c1 : Nat) (A2 : Option Addr) (n2 c2 : Nat) (x : Int), o = .slice A1 n1 c1 ∧ l = .slice A2 n2 c2 ∧ i = .int .u8 x ∧ 0 ≤ x ∧ x < 256 ∧ Hid (x = ((r + 1 : Nat) : Int) % 256) ∧ Hid (n1 = 32 * r) ∧ 32 * r < N + 32 ∧ Hid (Own (w.heap.size + 1) 5 .u8 wr A1 n1 c1 (expO S I r)) ∧ Hid (Rd wr.heap.size .u8 wr A2 (expT S I r)) ∧ Hid (n2 = (expT S I r).length) ∧ n2 ≤ c2 ∧ Hid (Arr wr w.heap.size 22 .u8 S) ∧ Hid (Below w.heap.size w wr)) (fun o _ _ _ => N - (match o with | .slice _ n _ => n | _ => 0))
  case atStart => exact ⟨0, none, 0, 0, none, 0, 0, 1, rfl, rfl, rfl, by omega, by omega, Lib.hid rfl, Lib.hid rfl, by omega, Lib.hid (by rw [expO_zero]; exact Own.nil _ _ _ _), Lib.hid (by rw [expT_zero]; exact Rd.nil), Lib.hid (by rw [expT_zero]; rfl), Nat.le_refl _, SA, Lib.hid ((Below.refl _ _).alloc (Nat.le_refl _) _)⟩
  case round =>
    clear SA
    obtain ⟨r, A1, n1, c1, A2, n2, c2, x, rfl, rfl, rfl, hx0, hx1, HX, HN1, hr32, HO, HT, HN2, hc2, SA, HB⟩ := hrel
    have hOc := HO.out.cap
    by_cases hlt : n1 < N
    · have z0 : w.heap.size < wr.heap.size := SA.out.lt
      have R1 := Lib.hid (HR.out.below HB.out (Nat.le_refl _))
      have HTL := Lib.hid (expT_le S I r)
      have HTB := Lib.hid (expT_byt S I r)
      have HTS := Lib.hid (expT_succ S I r)
      have HOS := Lib.hid (expO_succ S I r)
      have HTL1 := Lib.hid (expT_len S I r)
      have HOL := Lib.hid (expO_len S I r)
      rw [HTS.out] at HOS HTL1
      rw [← HX.out] at HOS HTL1 HTS
      generalize expT S I r = T at *
      go_wp2_with fail
      refine Calls.mono (mac_at _ _ S _ _ [⟨A2, c2, T⟩, ⟨A, c, I⟩, ⟨some ⟨wr.heap.size, 0, none⟩, 1, [x]⟩] _ HS.out rfl ?_ HSB.out ?_ ?_ ?_ ?_ ?_ ?_) ?_
      · exact (((SA.out.rd.alloc (Nat.le_refl _) _).mono (by simp)).alloc (Nat.le_refl _) _).mono (by simp <;> omega)
      · rw [HS.out]; exact Nat.le_refl _
      · rw [HS.out]; omega
      · refine Txs.newAt (by simp) (by simp only [List.map_cons, List.map_nil, txV, ← HN2.out, List.length_cons, List.length_nil]) ?_
        intro t ht
        simp only [List.mem_cons, List.not_mem_nil, or_false] at ht
        rcases ht with rfl | rfl | rfl
        · exact ⟨(HT.out.alloc (Nat.le_refl _) _).mono (by simp), by rw [← HN2.out]; exact hc2⟩
        · exact ⟨(R1.out.alloc (Nat.le_of_lt z0) _).mono (by omega), hcap⟩
        · exact ⟨(Rd.newAt rfl rfl).mono (by simp), Nat.le_refl _⟩
      · intro t ht
        simp only [List.mem_cons, List.not_mem_nil, or_false] at ht
        rcases ht with rfl | rfl | rfl
        · exact HTB.out
        · exact HBY.out
        · exact Byt.cons ⟨hx0, hx1⟩ Byt.nil
      · rw [join_three, List.length_append, List.length_append]
        have := HTL.out
        simp only [List.length_cons, List.length_nil]
        omega
      · simp
      rintro e w2 ⟨rfl, hb2⟩
      rw [join_three]
      have B2 := Lib.hid (((Below.refl wr.heap.size wr).alloc (Nat.le_refl _) (.cells #[.int .u8 x] 5)).alloc (by simp) (.cells #[.slice A2 n2 c2, .slice A I.length c, .slice (some ⟨wr.heap.size, 0, none⟩) 1 1] 23) |>.trans (hb2.mono (by simp <;> omega)))
      clear hb2
      have O2 := Lib.hid (HO.out.below B2.out)
      have SA2 := Lib.hid (SA.out.belowAll B2.out)
      have BB2 := Lib.hid (HB.out.trans (B2.out.mono HB.out.size))
      have z2 : wr.heap.size ≤ w2.heap.size := B2.out.size
      have hA1 : Hid (∀ ad, A1 = some ad → ad.block < w2.heap.size) := Lib.hid (fun ad hA => (O2.out.block ad hA).2)
      generalize macL S (T ++ (I ++ [x])) = M at *
      have L2 : Hid ((expO S I r).length + M.length ≤ 17592186044416) := Lib.hid (by rw [HOL.out, HTL1.out]; omega)
      go_wp2_with (first
        | (with_reducible (show wpList _ _ _ (⟨none, .store 22 _ _, _, _, _, _⟩ :: _) _ _); refine wpList_storeArr (o := ⟨none, .store 22 _ _, _, _, _, _⟩) (g := w2.heap.size) (t := 22) (k := .u8) (xs := M) (n := 32) rfl _ _ rfl rfl rfl (Blk.new _ _ _) size32 HTL1.out.symm rfl ?_; intro w3 ha3 hg3; have A3 := Lib.hid ha3; have B3 := Lib.hid (((Below.refl w2.heap.size w2).alloc (Nat.le_refl _) _).trans (below_of_only hg3 (Nat.le_refl _) (by simp))); have O3 := Lib.hid (O2.out.below B3.out); clear ha3 hg3)
        | (at_builtin; refine wpList_app (o := ⟨some 33, _, _, _, _, _⟩) elU8 rfl _ _ rfl rfl rfl O3.out A3.out.rd HTL1.out.symm L2.out ?_ ?_; (have := B3.out.size; omega); intro A9 n9 c9 w9 q9; have H9 := Lib.hid q9.1; have G9 := Lib.hid (A3.out.grown q9.2.1 (by cases hA : A1 with | none => simp [ablk] | some ad => (have := hA1.out ad hA; simp [ablk]; omega))); have S9 := Lib.hid ((SA2.out.belowAll B3.out).below q9.2.2.1 (by omega)); have B9 := Lib.hid ((BB2.out.trans (B3.out.mono BB2.out.size)).trans (q9.2.2.1.mono (by omega))); clear q9))
      go_roundw
      case rel => exact ⟨r + 1, A9, n9, c9, some ⟨w2.heap.size, 0, none⟩, 32, 32, _, rfl, rfl, rfl, by omega, by omega, Lib.hid (by have := HX.out; omega), Lib.hid (by have := H9.out.len; rw [List.length_append, HOL.out, HTL1.out] at this; omega), by have := HN1.out; omega, Lib.hid (by rw [HOS.out]; exact H9.out), Lib.hid (by rw [HTS.out]; exact G9.out.rd), Lib.hid (by rw [HTS.out, HTL1.out]), Nat.le_refl _, S9, B9⟩
      case measure =>
        have h9 := H9.out.len
        rw [List.length_append, HOL.out, HTL1.out] at h9
        have := HN1.out
        simp only
        omega
    · have hr : (N + 31) / 32 = r := by have := HN1.out; omega
      have HOE : Hid (expL S I (N : Int) = (expO S I r).take N) := Lib.hid (by rw [HEI.out, hr])
      obtain ⟨A5, c5, p1, p2, p3, p4, p5⟩ := slice_hn elU8 HO.out.rd HO.out.len.symm hOc.1 N (by omega)
      have P3 := Lib.hid p3
      have P4 := Lib.hid p4
      clear p3 p4 hr
      go_wp2_with fail
      go_ret
      exact ⟨A5, N, c5, rfl, by rw [HEL.out], p1, by rw [HOE.out]; exact P3.out, HB.out⟩
end Go.Proofs.Ythknncdhjicklaa
/- What is expanded for any number; the law's own rise, same and known; plain known values. Conditions: as each theorem states them. -/
namespace Go.Proofs.Ythknncdhjicklaa
open Go.RowKit

set_option maxRecDepth 100000 in
theorem expand_out (S : List Int) (A : Option Addr) (m c : Nat) (I : List Int) (n : Int) (w : World) (h : n < 1 ∨ 8160 < n) :
    Calls Try.prog 35 #[.agg (cellsL .u8 S), .slice A m c, .int .i64 n] w (SliPost (expL S I n) w) := by
  have HE := Lib.hid (expL_out S I h)
  rcases h with h | h
  · go_enter Try.func35, Try.ntmps35
    go_wp2_with fail
    go_ret
    exact ⟨none, 0, 0, rfl, by rw [HE.out]; rfl, Nat.le_refl _, by rw [HE.out]; exact Rd.nil, (Below.refl _ _).alloc (Nat.le_refl _) _⟩
  · have h' : ¬ n < 1 := by omega
    go_enter Try.func35, Try.ntmps35
    go_wp2_with fail
    go_ret
    exact ⟨none, 0, 0, rfl, by rw [HE.out]; rfl, Nat.le_refl _, by rw [HE.out]; exact Rd.nil, (Below.refl _ _).alloc (Nat.le_refl _) _⟩
theorem expand_any {m : Nat} (S : List Int) (A : Option Addr) (c : Nat) (I : List Int) (n : Int) (w : World) (hm : I.length = m) (hS : S.length = 32) (hSb : Byt S) (hr : Rd w.heap.size .u8 w A I) (hb : Byt I) (hcap : I.length ≤ c) (hl : I.length ≤ 1000000) :
    Calls Try.prog 35 #[.agg (cellsL .u8 S), .slice A m c, .int .i64 n] w (SliPost (expL S I n) w) := by
  by_cases h : n < 1 ∨ 8160 < n
  · exact expand_out S A m c I n w h
  · subst hm
    obtain ⟨N, rfl⟩ : ∃ N : Nat, n = (N : Int) := ⟨n.toNat, by omega⟩
    exact expand_in S A c I N w hS hSb hr hb hcap hl (by omega) (by omega)

end Go.Proofs.Ythknncdhjicklaa
/- Contract of the reference's Expand. Conditions: as each theorem states them. -/
namespace Go.Proofs.Ythknncdhjicklaa
open Go.RowKit
/-- as SliPost; besides, the slice lies in memory of the call's own -/
def SliF (L : List Int) (w : World) (e : Ending) (w' : World) : Prop := ∃ A n c, e = .returned (.slice A n c) ∧ n = L.length ∧ n ≤ c ∧ Rd w'.heap.size .u8 w' A L ∧ Below w.heap.size w w' ∧ ∀ ad, A = some ad → w.heap.size ≤ ad.block
theorem SliF.sli {L : List Int} {w : World} {e : Ending} {w' : World} (h : SliF L w e w') : SliPost L w e w' := by
  obtain ⟨A, n, c, h1, h2, h3, h4, h5, _⟩ := h
  exact ⟨A, n, c, h1, h2, h3, h4, h5⟩
theorem slice_hnB {P : Program} {t e : TypeId} {k : IntKind} {bytes : Nat} {B : Nat} {w : World} {A : Option Addr} {xs : List Int} {c n : Nat} (E : ElT P t e k bytes) (hr : Rd B k w A xs) (hn : xs.length = n) (hc : n ≤ c) (m : Nat) (h2 : m ≤ n) :
    ∃ A' c', m ≤ c' ∧ c' ≤ c ∧ Rd B k w A' (xs.take m) ∧ (xs.take m).length = m ∧ (∀ ad', A' = some ad' → ∃ ad, A = some ad ∧ ad'.block = ad.block) ∧
      ∀ (w : World) (kh : IntKind), (Instr.sliceAt t (.slice A n c) none (some (.int kh (m : Int))) none).run P w = .ok (.slice A' m c') w := by
  subst hn
  have hcut := hr.cut 0 m c (by omega) hc
  rw [List.drop_zero] at hcut
  refine ⟨_, c, by omega, Nat.le_refl _, hcut, by simp; omega, fun ad' h => ?_, fun w kh => ?_⟩
  · split at h
    · exact ⟨ad', h, rfl⟩
    · rcases A with _ | ad
      · cases h
      · simp only [Option.map_some, Option.some.injEq] at h
        exact ⟨ad, rfl, by rw [← h, block_of_add]⟩
  · rw [run_sliceAt_slice _ _ _ _ _ _ (by rw [E.elem]; exact E.ht), run_slice_h _ _ _ _ _ (by rw [E.elem]; exact E.ht) kh (m : Int) (by omega) (by omega), E.elem, E.size]
    simp [Result.andThen, sliced]

end Go.Proofs.Ythknncdhjicklaa
/- Contracts of kdf.Label and the reference's Label. Conditions: as each theorem states them. -/
namespace Go.Proofs.Ythknncdhjicklaa
open Go.RowKit
def infoL (n : Int) (s : ByteArray) (C : List Int) : List Int := [n / 256 % 256, n % 256, (6 + (s.size : Int)) % 256] ++ ([116, 108, 115, 49, 51, 32] ++ strL s) ++ [(C.length : Int) % 256] ++ C
def labelL (S : List Int) (s : ByteArray) (C : List Int) (n : Int) : List Int := if n < 1 ∨ 8160 < n ∨ 249 < s.size ∨ 255 < C.length then [] else expL S (infoL n s C) n
theorem infoL_eq (n : Int) (s : ByteArray) (C : List Int) : infoL n s C = [n / 256 % 256, n % 256, (6 + (s.size : Int)) % 256] ++ ([116, 108, 115, 49, 51, 32] ++ strL s) ++ [(C.length : Int) % 256] ++ C := rfl
theorem infoL_len (n : Int) (s : ByteArray) (C : List Int) : (infoL n s C).length = 10 + s.size + C.length := by
  unfold infoL; simp only [List.length_append, List.length_cons, List.length_nil, strL_len]; omega
theorem infoL_byt (n : Int) (s : ByteArray) {C : List Int} (h : Byt C) : Byt (infoL n s C) := by
  unfold infoL
  refine Byt.append (Byt.append (Byt.append ?_ (Byt.append ?_ (strL_byt s))) ?_) h
  · exact Byt.cons (by omega) (Byt.cons (by omega) (Byt.cons (by omega) Byt.nil))
  · intro x hx; simp at hx; omega
  · exact Byt.cons (by omega) Byt.nil
theorem labelL_in (S : List Int) (s : ByteArray) (C : List Int) (n : Int) (h : ¬ (n < 1 ∨ 8160 < n ∨ 249 < s.size ∨ 255 < C.length)) : labelL S s C n = expL S (infoL n s C) n := by unfold labelL; rw [if_neg h]
theorem labelL_out (S : List Int) (s : ByteArray) (C : List Int) (n : Int) (h : n < 1 ∨ 8160 < n ∨ 249 < s.size ∨ 255 < C.length) : labelL S s C n = [] := by unfold labelL; rw [if_pos h]
attribute [irreducible] infoL labelL

set_option maxRecDepth 100000 in
set_option maxHeartbeats 4000000 in
theorem label_in (S : List Int) (s : ByteArray) (A : Option Addr) (c : Nat) (C : List Int) (N : Nat) (w : World) (hS : S.length = 32) (hSb : Byt S) (hr : Rd w.heap.size .u8 w A C) (hb : Byt C) (hC : C.length ≤ 255) (hs : s.size ≤ 249) (h1 : 1 ≤ N) (h2 : N ≤ 8160) :
    Calls Try.prog 32 #[.agg (cellsL .u8 S), .string s, .slice A C.length c, .int .i64 N] w (SliPost (expL S (infoL N s C) (N : Int)) w) := by
  have HR := Lib.hid hr
  have HBY := Lib.hid hb
  have HS := Lib.hid hS
  have HSB := Lib.hid hSb
  clear hr hb hS hSb
  have SA : Hid (Arr (w.alloc (.cells (cellsL .u8 S) 22)) w.heap.size 22 .u8 S) := Lib.hid (Arr.newAt rfl rfl)
  have BA : Hid (Below w.heap.size w (w.alloc (.cells (cellsL .u8 S) 22))) := Lib.hid ((Below.refl _ _).alloc (Nat.le_refl _) _)
  have z0 : w.heap.size < (w.alloc (.cells (cellsL .u8 S) 22)).heap.size := by simp
  have HI := Lib.hid (infoL_eq (N : Int) s C)
  have HIB := Lib.hid (infoL_byt (N : Int) s HBY.out)
  have HIL := Lib.hid (infoL_len (N : Int) s C)
  have hcl : (C.length : Int) % 256 = C.length := by omega
  have HCL := Lib.hid hcl
  clear hcl
  obtain ⟨u, hu⟩ : ∃ u : ByteArray, (⟨#[116, 108, 115, 49, 51, 32]⟩ ++ s : ByteArray) = u := ⟨_, rfl⟩
  have HU : Hid (strL u = [116, 108, 115, 49, 51, 32] ++ strL s) := Lib.hid (by rw [← hu, strL_append]; rfl)
  have HSZ : Hid ((strL u).length = 6 + s.size) := Lib.hid (by rw [HU.out, List.length_append, strL_len]; rfl)
  have HSS : Hid (u.size = 6 + s.size) := Lib.hid (by rw [← strL_len]; exact HSZ.out)
  go_enter Try.func32, Try.ntmps32
  go_upto_region 3 with (fail)
  generalize w.alloc (.cells (cellsL .u8 S) 22) = w1 at *
  have R1 := Lib.hid ((HR.out.below BA.out (Nat.le_refl _)).mono BA.out.size)
  have L1 : Hid (∀ V1 V2 V3 : Int, Own w1.heap.size 5 .u8 (w1.alloc (.cells #[.int .u8 V1, .int .u8 V2, .int .u8 V3] 5)) (some ⟨w1.heap.size, 0, none⟩) 3 3 [V1, V2, V3]) := Lib.hid (fun V1 V2 V3 => Own.litAt rfl rfl rfl (Nat.le_refl _) (by simp [maxLen]))
  go_wp2_with (first
    | ((with_reducible (show wpList _ _ _ (⟨some 38, _, _, _, _, _⟩ :: _) _ _)); refine wpList_appStr (o := ⟨some 38, _, _, _, _, _⟩) elU8 Try.underlying9 rfl _ _ rfl rfl rfl (L1.out _ _ _) ?_ ?_ ?_; (rw [HSS.out]; simp only [List.length_cons, List.length_nil]; omega); (simp); intro A5 n5 c5 w5 q5 q6; have O5 := Lib.hid q5; have B5 := Lib.hid (((Below.refl w1.heap.size w1).alloc (Nat.le_refl _) _).trans q6); clear q5 q6)
    | ((with_reducible (show wpList _ _ _ (⟨some 44, _, _, _, _, _⟩ :: _) _ _)); refine wpList_app (o := ⟨some 44, _, _, _, _, _⟩) elU8 rfl _ _ rfl rfl rfl (O5.out.alloc _) (Rd.newAt (xs := [_]) rfl rfl) rfl ?_ ?_ ?_; (simp only [List.length_cons, List.length_append, HSZ.out, List.length_nil]; omega); (exact (B5.out.alloc B5.out.size _).size); intro A6 n6 c6 w6 q6; have O6 := Lib.hid q6.1; have B6 := Lib.hid ((B5.out.alloc B5.out.size _).trans q6.2.2.1); have R6 := Lib.hid (R1.out.below B6.out (Nat.le_refl _)); clear q6)
    | ((with_reducible (show wpList _ _ _ (⟨some 46, _, _, _, _, _⟩ :: _) _ _)); refine wpList_app (o := ⟨some 46, _, _, _, _, _⟩) elU8 rfl _ _ rfl rfl rfl O6.out R6.out rfl ?_ ?_ ?_; (simp only [List.length_cons, List.length_append, HSZ.out, List.length_nil]; omega); (exact B6.out.size); intro A7 n7 c7 w7 q7; have O7 := Lib.hid q7.1; have B7 := Lib.hid (B6.out.trans q7.2.2.1); have S7 := Lib.hid (SA.out.below B7.out z0); clear q7)
    | (with_reducible (show wpList _ _ _ (⟨some 47, _, _, _, _, _⟩ :: _) _ _); refine wpList_loadArr (o := ⟨some 47, _, _, _, _, _⟩) (g := w.heap.size) (t := 22) (k := .u8) (xs := S) (n := 32) rfl _ rfl rfl S7.out Try.underlying22 size32 HS.out.symm ?_))
  have O8 : Hid (Own w1.heap.size 5 .u8 w7 A7 n7 c7 (infoL N s C)) := Lib.hid (Own.cast O7.out (by
    rw [HI.out, HU.out]
    simp only [List.cons_append, List.nil_append, List.append_assoc]
    rw [HCL.out]
    congr 1
    · omega
    · congr 2
      omega))
  have HN7 := Lib.hid O8.out.len
  have hc7 := O8.out.cap
  refine Calls.mono (expand_any S A7 c7 (infoL N s C) (N : Int) _ HN7.out.symm HS.out HSB.out O8.out.rd HIB.out (by rw [← HN7.out]; exact hc7.1) (by rw [HIL.out]; omega)) ?_
  rintro e w8 ⟨A8, n8, c8, rfl, hn8, hc8, hr8, hb8⟩
  have R8 := Lib.hid hr8
  have N8 := Lib.hid hn8
  have B8 := Lib.hid ((BA.out.trans (B7.out.mono BA.out.size)).trans (hb8.mono (Nat.le_trans BA.out.size B7.out.size)))
  clear hr8 hn8 hb8
  go_wp2_with fail
  go_ret
  exact ⟨A8, n8, c8, rfl, N8.out, hc8, R8.out, B8.out⟩
set_option maxHeartbeats 1000000 in
theorem label_any (S : List Int) (s : ByteArray) (A : Option Addr) (c : Nat) (C : List Int) (n : Int) (w : World) (hS : S.length = 32) (hSb : Byt S) (hr : Rd w.heap.size .u8 w A C) (hb : Byt C) (hC : C.length ≤ 140737488351232) (hs : s.size ≤ 140737488351232) :
    Calls Try.prog 32 #[.agg (cellsL .u8 S), .string s, .slice A C.length c, .int .i64 n] w (SliPost (labelL S s C n) w) := by
  by_cases h : n < 1 ∨ 8160 < n ∨ 249 < s.size ∨ 255 < C.length
  · have HE := Lib.hid (labelL_out S s C n h)
    clear hr hb hS hSb
    have hx : SliPost (labelL S s C n) w (.returned (.slice none 0 0)) (w.alloc (.cells (cellsL .u8 S) 22)) := ⟨none, 0, 0, rfl, by rw [HE.out]; rfl, Nat.le_refl _, by rw [HE.out]; exact Rd.nil, (Below.refl _ _).alloc (Nat.le_refl _) _⟩
    have HX := Lib.hid hx
    clear hx
    by_cases h1 : n < 1
    · clear h
      go_enter Try.func32, Try.ntmps32
      go_wp2_with fail
      go_ret
      exact HX.out
    by_cases h2 : 8160 < n
    · clear h
      go_enter Try.func32, Try.ntmps32
      go_wp2_with fail
      go_ret
      exact HX.out
    by_cases h3 : 249 < s.size
    · clear h
      go_enter Try.func32, Try.ntmps32
      go_wp2_with fail
      go_ret
      exact HX.out
    have h4 : 255 < C.length := by omega
    clear h
    go_enter Try.func32, Try.ntmps32
    go_wp2_with fail
    go_ret
    exact HX.out
  · rw [labelL_in S s C n h]
    obtain ⟨N, rfl⟩ : ∃ N : Nat, n = (N : Int) := ⟨n.toNat, by omega⟩
    exact label_in S s A c C N w hS hSb hr hb (by omega) (by omega) (by omega) (by omega)
end Go.Proofs.Ythknncdhjicklaa
