/- Layer 7 and its reference: contracts. Conditions: as each theorem states them. -/
import Derived.Test.YtieabfifaigjdaaJS
import Derived.Laws.CopyOwn
import Derived.Test.YtieabfifaigjdaaQM
/- The MAC of layer 7 as a plain function; contracts of kdf.block and the reference's padded. Conditions: as each theorem states them. -/
namespace Go.Proofs.Ytieabfifaigjdaa
open Go.RowKit

def keyL (K : List Int) : List Int := if 64 < K.length then shaL K else K
def padK (K : List Int) : List Int := K ++ List.replicate (64 - K.length) 0
def xorL (x : Int) (L : List Int) : List Int := L.map fun b => bits .xor .u8 b x
def blkL (K : List Int) (x : Int) : List Int := xorL x (padK (keyL K))
def macL (K T : List Int) : List Int := shaL (blkL K 92 ++ shaL (blkL K 54 ++ T))
theorem keyL_len (K : List Int) : (keyL K).length ≤ 64 := by
  unfold keyL
  split
  · rw [shaL_len]; omega
  · omega
theorem keyL_byt {K : List Int} (h : Byt K) : Byt (keyL K) := by
  unfold keyL
  split
  · exact shaL_byt K
  · exact h
theorem padK_len {K : List Int} (h : K.length ≤ 64) : (padK K).length = 64 := by unfold padK; rw [List.length_append, List.length_replicate]; omega
theorem padK_byt {K : List Int} (h : Byt K) : Byt (padK K) := by
  refine Byt.append h (fun x hx => ?_)
  have := (List.mem_replicate.1 hx).2
  omega
theorem padK_lo {K : List Int} {i : Nat} (h : i < K.length) : (padK K).getD i 0 = K.getD i 0 := getD_append_lt h
theorem padK_hi {K : List Int} {i : Nat} (h : K.length ≤ i) : (padK K).getD i 0 = 0 := by
  unfold padK
  rw [List.getD_eq_getElem?_getD, List.getElem?_append_right h, List.getElem?_replicate]
  split <;> rfl
theorem xorL_len (x : Int) (L : List Int) : (xorL x L).length = L.length := by simp [xorL]
theorem xorL_get (x : Int) {L : List Int} {i : Nat} (h : i < L.length) : (xorL x L).getD i 0 = bits .xor .u8 (L.getD i 0) x := by
  simp [xorL, List.getD_eq_getElem?_getD, List.getElem?_map, List.getElem?_eq_getElem h]
theorem xorL_byt (x : Int) (L : List Int) : Byt (xorL x L) := fun y hy => by
  obtain ⟨b, _, rfl⟩ := List.mem_map.1 hy
  have h1 := bits_lo_u8 .xor b x
  have h2 := bits_hi_u8 .xor b x
  omega
theorem blkL_len (K : List Int) (x : Int) : (blkL K x).length = 64 := by unfold blkL; rw [xorL_len, padK_len (keyL_len K)]
theorem blkL_byt (K : List Int) (x : Int) : Byt (blkL K x) := xorL_byt _ _
theorem blkL_get (K : List Int) (x : Int) {i : Nat} (h : i < 64) : (blkL K x).getD i 0 = bits .xor .u8 ((padK (keyL K)).getD i 0) x := xorL_get x (by rw [padK_len (keyL_len K)]; exact h)
theorem macL_len (K T : List Int) : (macL K T).length = 32 := shaL_len _
theorem macL_byt (K T : List Int) : Byt (macL K T) := shaL_byt _
theorem Own.len_snoc {B : Nat} {e : TypeId} {k : IntKind} {w : World} {A : Option Addr} {n c m : Nat} {Q : List Int} {z : Int} (h : Own B e k w A n c (Q ++ [z])) (hp : Q.length = m) : n = m + 1 := by have := h.len; rw [List.length_append, hp] at this; exact this
/-- a call that hands back a slice of bytes -/
def SliPost (L : List Int) (w : World) (e : Ending) (w' : World) : Prop := ∃ A n c, e = .returned (.slice A n c) ∧ n = L.length ∧ n ≤ c ∧ Rd w'.heap.size .u8 w' A L ∧ Below w.heap.size w w'
theorem blkL_eq (K : List Int) (x : Int) : blkL K x = xorL x (padK (keyL K)) := rfl
theorem keyL_hi {K : List Int} (h : 64 < K.length) : keyL K = shaL K := by unfold keyL; rw [if_pos h]
theorem keyL_lo {K : List Int} (h : ¬ 64 < K.length) : keyL K = K := by unfold keyL; rw [if_neg h]
theorem macL_eq (K T : List Int) : macL K T = shaL (blkL K 92 ++ shaL (blkL K 54 ++ T)) := rfl
attribute [irreducible] keyL padK xorL blkL macL

theorem size5 : (Try.prog.info? 5).map (·.size) = some 1 := by kernel_rfl
def zerL (n : Nat) : List Int := List.replicate n 0
theorem zerL_len (n : Nat) : (zerL n).length = n := by simp [zerL]
theorem zerL_eq (n : Nat) : zerL n = List.replicate n 0 := rfl
theorem make64 (W : World) : (Instr.makeSlice 22 (.int .i64 64) (.int .i64 64)).run Try.prog W = .ok (.slice (some ⟨W.heap.size, 0, none⟩) 64 64) (W.alloc (.cells (cellsL .u8 (zerL 64)) 5)) := by kernel_rfl
attribute [irreducible] zerL
theorem Rd.cells {B : Nat} {k : IntKind} {w : World} {A : Option Addr} {xs : List Int} (h : Rd B k w A xs) (hn : 0 < (xs.map (Value.int k)).length) : ∃ ad, A = some ad ∧ ∀ j v, (xs.map (Value.int k))[j]? = some v → w.cell? (ad.add j) = some v := by
  obtain ⟨ad, hA, _, hc⟩ := (Rd.reads h).2 (by simpa using hn)
  exact ⟨ad, hA, hc⟩

theorem splice_arr (Z X : List Int) : (splice (Z.map (Value.int .u8)) 0 (X.map (Value.int .u8))).toArray = ((X ++ Z.drop X.length).map (Value.int .u8)).toArray := by
  unfold splice
  simp
/-- copy into an array of the call's own, from its head -/
theorem wpList_copyArr {w w0 : World} {ops : Array Oper} {rest : List Oper} {o : Oper} {a : Act} {Q : Exit → Act → World → Prop} {g N m cd cs B B0 : Nat} {sp : Option Addr} {Z X : List Int} (hgd : o.guard = none) (d s : Operand)
    (ho : o.op = .call { callee := .builtin .copy, args := #[d, s], argTypes := #[22, 22] }) (hd : a.eval d = .slice (some ⟨g, 0, none⟩) N cd) (hs : a.eval s = .slice sp m cs)
    (hA : Arr w g 5 .u8 Z) (hZ : Z.length = N) (hr : Rd B .u8 w sp X) (hX : X.length = m) (hm : m ≤ N) (hb : Below B0 w0 w) (hBg : B0 ≤ g)
    (h : ∀ w', Arr w' g 5 .u8 (X ++ Z.drop X.length) → Below B0 w0 w' → wpList Try.prog ops Q rest (a.put o.dst (goInt X.length)) w') : wpList Try.prog ops Q (o :: rest) a w := by
  refine wpList_copy_splice hgd d s _ _ ho 5 Try.underlying22 size5 _ _ _ _ _ _ hd hs g 0 (Z.map (Value.int .u8)) 5 hA (X.map (Value.int .u8)) ?_ (fun hp => ⟨rfl, hr.cells hp⟩) ?_ (ints_oneCell .u8 X) B0 w0 hb hBg ?_
  · rw [List.length_map, hX]; exact (Nat.min_eq_left hm).symm
  · rw [List.length_map, List.length_map]; omega
  · intro w' h1 h2
    rw [List.length_map]
    refine h w' ?_ h2
    have := h1.out
    rw [splice_arr] at this
    exact this
theorem pad_zer {K : List Int} : K ++ (zerL 64).drop K.length = padK K := by
  unfold padK
  rw [zerL_eq, List.drop_replicate]

set_option maxRecDepth 100000 in
set_option maxHeartbeats 4000000 in
theorem block_any (A : Option Addr) (c : Nat) (K : List Int) (x : Int) (w : World) (hr : Rd w.heap.size .u8 w A K) (hb : Byt K) (hcap : K.length ≤ c) (hl : K.length ≤ 1000000000000) :
    Calls Try.prog 51 #[.slice A K.length c, .int .u8 x] w (SliPost (blkL K x) w) := by
  have HR := Lib.hid hr
  have HBY := Lib.hid hb
  have HK := Lib.hid (blkL_eq K x)
  have HKL := Lib.hid (keyL_len K)
  have HMK := Lib.hid make64
  clear hr hb
  go_enter Try.func51, Try.ntmps51
  by_cases h : 64 < K.length
  · have HKH := Lib.hid (keyL_hi h)
    go_wp2_with fail
    refine Calls.mono (sum_any _ _ [⟨A, c, K⟩] _ ?_ ?_ ?_ ?_) ?_
    · refine Txs.newAt (by simp) rfl ?_
      intro t ht
      rw [List.mem_singleton] at ht
      subst ht
      exact ⟨HR.out, hcap⟩
    · intro t ht
      rw [List.mem_singleton] at ht
      subst ht
      exact HBY.out
    · rw [join_one]; exact hl
    · simp
    rintro e w1 ⟨rfl, hb1⟩
    rw [join_one]
    have B1 := Lib.hid (((Below.refl w.heap.size w).alloc (Nat.le_refl _) _).trans (hb1.mono (by simp)))
    clear hb1
    have hX : Hid ((shaL K).length = 32) := Lib.hid (shaL_len K)
    rw [HKH.out] at HK HKL
    clear HKH
    generalize shaL K = K1 at *
    have hmk := HMK.out
    go_wp2_with (first
      | (with_reducible (show wpList _ _ _ (⟨none, .store 35 _ _, _, _, _, _⟩ :: _) _ _); refine wpList_storeArr (o := ⟨none, .store 35 _ _, _, _, _, _⟩) (g := w1.heap.size) (t := 35) (k := .u8) (xs := K1) (n := 32) rfl _ _ rfl rfl rfl (Blk.new _ _ _) size32 hX.out.symm rfl ?_; intro w2 ha2 hg2; have A2 := Lib.hid ha2; have B2 := Lib.hid ((B1.out.alloc B1.out.size _).trans (below_of_only hg2 B1.out.size (by have := B1.out.size; simp; omega))); clear ha2 hg2)
      | (with_reducible (show wpList _ _ _ (⟨some 18, _, _, _, _, _⟩ :: _) _ _); refine wpList_copyArr (o := ⟨some 18, _, _, _, _, _⟩) (B0 := w.heap.size) (w0 := w) (X := K1) (Z := zerL 64) rfl _ _ rfl rfl rfl (Arr.newAt rfl rfl) (zerL_len 64) (A2.out.rd.alloc (Nat.le_refl _) _) hX.out (by decide) (B2.out.alloc B2.out.size _) B2.out.size ?_; intro w3 ha3 hb3; rw [pad_zer] at ha3; have A3 := Lib.hid ha3; have B3 := Lib.hid hb3; clear ha3 hb3))
    have hg := B2.out.size
    generalize w2.heap.size = g at *
    clear A2 B2 B1 hmk HMK HR HBY hcap
    have HPL := Lib.hid (padK_len HKL.out)
    generalize padK K1 = P at *
    go_loopw [21] (fun i wr => ∃ k : Nat, k ≤ 64 ∧ i = .int .i64 k ∧ Hid (Arr wr g 5 .u8 (mixL P (xorL x P) k)) ∧ Hid (Below w.heap.size w wr)) (fun i _ => 64 - (intOf i).toNat)
    case atStart => exact ⟨0, by omega, rfl, Lib.hid (by rw [mix_zero]; exact A3.out), B3⟩
    case round =>
      clear A3 B3
      obtain ⟨k, hk, rfl, HA, HB⟩ := hrel
      have hxl : Hid (P.length = (xorL x P).length) := Lib.hid (xorL_len x P).symm
      by_cases hlt : k < 64
      · have hml : Hid ((mixL P (xorL x P) k).length = 64) := Lib.hid (by rw [mix_len hxl.out (by rw [HPL.out]; omega), HPL.out])
        have c0 := HA.out.cell (i := k) (by rw [hml.out]; omega)
        have c0' := HA.out.cellAdd (i := k) (by rw [hml.out]; omega)
        rw [mix_get hxl.out (Nat.le_refl _)] at c0 c0'
        have f0 := HA.out.frozen k
        have f0' := HA.out.frozenAdd k
        have HXG := Lib.hid (xorL_get x (L := P) (i := k) (by rw [HPL.out]; omega))
        have HMS := Lib.hid (mix_set hxl.out (k := k) (by rw [HPL.out]; omega))
        generalize P.getD k 0 = z at *
        go_wp2_with fail
        go_roundw
        case rel => exact ⟨k + 1, by omega, by go_num, Lib.hid (Arr.cast (HA.out.set k _) (by rw [← HMS.out, HXG.out])), Lib.hid (HB.out.setCell hg _)⟩
        case measure => simp [intOf]; omega
      · have hk64 : k = 64 := by omega
        have HA8 : Hid (Arr wr g 5 .u8 (xorL x P)) := Lib.hid (Arr.cast HA.out (by rw [hk64]; have := mix_full hxl.out; rw [← hxl.out, HPL.out] at this; exact this))
        clear HA hk64
        go_wp2_with fail
        go_ret
        exact ⟨_, _, _, rfl, by rw [HK.out, ← hxl.out, HPL.out], Nat.le_refl _, by rw [HK.out]; exact HA8.out.rd, HB.out⟩
  · have hK1 : K.length ≤ 64 := by omega
    rw [keyL_lo h] at HK HKL
    have hmk := HMK.out
    go_wp2_with (with_reducible (show wpList _ _ _ (⟨some 18, _, _, _, _, _⟩ :: _) _ _); refine wpList_copyArr (o := ⟨some 18, _, _, _, _, _⟩) (B0 := w.heap.size) (w0 := w) (X := K) (Z := zerL 64) rfl _ _ rfl rfl rfl (Arr.newAt rfl rfl) (zerL_len 64) (HR.out.alloc (Nat.le_refl _) _) rfl hK1 ((Below.refl _ _).alloc (Nat.le_refl _) _) (Nat.le_refl _) ?_; intro w3 ha3 hb3; rw [pad_zer] at ha3; have A3 := Lib.hid ha3; have B3 := Lib.hid hb3; clear ha3 hb3)
    have hg : w.heap.size ≤ w.heap.size := Nat.le_refl _
    have HPL := Lib.hid (padK_len HKL.out)
    generalize padK K = P at *
    go_loopw [21] (fun i wr => ∃ k : Nat, k ≤ 64 ∧ i = .int .i64 k ∧ Hid (Arr wr w.heap.size 5 .u8 (mixL P (xorL x P) k)) ∧ Hid (Below w.heap.size w wr)) (fun i _ => 64 - (intOf i).toNat)
    case atStart => exact ⟨0, by omega, rfl, Lib.hid (by rw [mix_zero]; exact A3.out), B3⟩
    case round =>
      clear A3 B3
      obtain ⟨k, hk, rfl, HA, HB⟩ := hrel
      have hxl : Hid (P.length = (xorL x P).length) := Lib.hid (xorL_len x P).symm
      by_cases hlt : k < 64
      · have hml : Hid ((mixL P (xorL x P) k).length = 64) := Lib.hid (by rw [mix_len hxl.out (by rw [HPL.out]; omega), HPL.out])
        have c0 := HA.out.cell (i := k) (by rw [hml.out]; omega)
        have c0' := HA.out.cellAdd (i := k) (by rw [hml.out]; omega)
        rw [mix_get hxl.out (Nat.le_refl _)] at c0 c0'
        have f0 := HA.out.frozen k
        have f0' := HA.out.frozenAdd k
        have HXG := Lib.hid (xorL_get x (L := P) (i := k) (by rw [HPL.out]; omega))
        have HMS := Lib.hid (mix_set hxl.out (k := k) (by rw [HPL.out]; omega))
        generalize P.getD k 0 = z at *
        go_wp2_with fail
        go_roundw
        case rel => exact ⟨k + 1, by omega, by go_num, Lib.hid (Arr.cast (HA.out.set k _) (by rw [← HMS.out, HXG.out])), Lib.hid (HB.out.setCell hg _)⟩
        case measure => simp [intOf]; omega
      · have hk64 : k = 64 := by omega
        have HA8 : Hid (Arr wr w.heap.size 5 .u8 (xorL x P)) := Lib.hid (Arr.cast HA.out (by rw [hk64]; have := mix_full hxl.out; rw [← hxl.out, HPL.out] at this; exact this))
        clear HA hk64
        go_wp2_with fail
        go_ret
        exact ⟨_, _, _, rfl, by rw [HK.out, ← hxl.out, HPL.out], Nat.le_refl _, by rw [HK.out]; exact HA8.out.rd, HB.out⟩

set_option maxRecDepth 100000 in
set_option maxHeartbeats 4000000 in
theorem padded_any (A : Option Addr) (c : Nat) (K : List Int) (x : Int) (w : World) (hr : Rd w.heap.size .u8 w A K) (hb : Byt K) (hl : K.length ≤ 1000000000000) :
    Calls Try.prog 39 #[.slice A K.length c, .int .u8 x] w (RetOwn 5 .u8 (blkL K x) w) := by
  have HR := Lib.hid hr
  have HBY := Lib.hid hb
  have HBL := Lib.hid (blkL_len K x)
  have HBG : Hid (∀ i, i < 64 → (blkL K x).getD i 0 = bits .xor .u8 ((padK (keyL K)).getD i 0) x) := Lib.hid (fun i hi => blkL_get K x hi)
  have HKL := Lib.hid (keyL_len K)
  have HKB := Lib.hid (keyL_byt hb)
  clear hr hb
  have O0 : Hid (Own w.heap.size 5 .u8 (w.alloc (.cells #[] 5)) (some ⟨w.heap.size, 0, none⟩) 0 0 []) := Lib.hid (Own.litAt rfl rfl rfl (Nat.le_refl _) (Nat.zero_le _))
  have HR0 := Lib.hid (HR.out.alloc (Nat.le_refl _) (.cells #[] 5))
  go_enter Try.func39, Try.ntmps39
  by_cases h : 64 < K.length
  · have HKH := Lib.hid (keyL_hi h)
    go_wp2_with (at_builtin; refine wpList_app (o := ⟨some 13, _, _, _, _, _⟩) elU8 rfl _ _ rfl rfl rfl O0.out HR0.out rfl ?_ ?_ ?_; (simp only [List.length_nil]; omega); (simp); intro A1 n1 c1 w1 q1; have H1 : Hid (Own w.heap.size 5 .u8 w1 A1 n1 c1 K) := Lib.hid q1.1; have B1 := Lib.hid (((Below.refl w.heap.size w).alloc (Nat.le_refl _) _).trans q1.2.2.1); have hn1 : n1 = K.length := q1.1.len; subst hn1; clear q1)
    refine Calls.mono (rsum_any A1 c1 K _ H1.out.rd HBY.out hl) ?_
    rintro e w2 ⟨rfl, hb2⟩
    have B2 := Lib.hid (B1.out.trans (hb2.mono B1.out.size))
    have hX : Hid ((shaL K).length = 32) := Lib.hid (shaL_len K)
    rw [HKH.out] at HKL HKB HBG
    clear HKH hb2
    generalize shaL K = X at *
    go_wp2_with (with_reducible (show wpList _ _ _ (⟨none, .store 35 _ _, _, _, _, _⟩ :: _) _ _); refine wpList_storeArr (o := ⟨none, .store 35 _ _, _, _, _, _⟩) (g := w2.heap.size) (t := 35) (k := .u8) (xs := X) (n := 32) rfl _ _ rfl rfl rfl (Blk.new _ _ _) size32 hX.out.symm rfl ?_; intro w3 ha3 hg3; have A3 := Lib.hid ha3; have B3 := Lib.hid ((B2.out.alloc B2.out.size _).trans (below_of_only hg3 B2.out.size (by have := B2.out.size; simp; omega))); clear ha3 hg3)
    have hgl : w2.heap.size < w3.heap.size := A3.out.lt
    have hgw : w.heap.size ≤ w2.heap.size := B2.out.size
    generalize w2.heap.size = g at *
    clear B1 H1 B2 O0 HR0
    go_loopw [5, 7] (fun v i wr => ∃ (k : Nat) (A5 : Option Addr) (c5 : Nat), k ≤ 32 ∧ i = .int .i64 k ∧ v = .slice A5 k c5 ∧ Hid (Own w3.heap.size 5 .u8 wr A5 k c5 (X.take k)) ∧ Hid (Below w3.heap.size w3 wr)) (fun _ i _ => 32 - (intOf i).toNat)
    case atStart => exact ⟨0, none, 0, by omega, rfl, rfl, Lib.hid (by rw [List.take_zero]; exact Own.nil _ _ _ _), Lib.hid (Below.refl _ _)⟩
    case round =>
      obtain ⟨k, A5, c5, hk, rfl, rfl, HO, HB⟩ := hrel
      by_cases hlt : k < 32
      · have c0 := (A3.out.below HB.out hgl).cell (i := k) (by rw [hX.out]; omega)
        have c0' := (A3.out.below HB.out hgl).cellAdd (i := k) (by rw [hX.out]; omega)
        have HTK := Lib.hid (take_snoc_getD (xs := X) (t := k) (by rw [hX.out]; omega))
        have HTL : Hid ((X.take k).length = k) := Lib.hid (by rw [List.length_take, hX.out]; omega)
        generalize X.getD k 0 = z at *
        go_wp2_with (at_builtin; refine wpList_app (o := ⟨some 28, _, _, _, _, _⟩) elU8 rfl _ _ rfl rfl rfl (HO.out.alloc _) (Rd.newAt (xs := [_]) rfl rfl) rfl ?_ ?_ ?_; (simp only [List.length_take, List.length_cons, List.length_nil]; omega); (have := HB.out.size; simp <;> omega); intro A9 n9 c9 w9 q9; have H9 := Lib.hid q9.1; have B9 := Lib.hid ((HB.out.alloc HB.out.size _).trans q9.2.2.1); have hn9 := Own.len_snoc q9.1 HTL.out; subst hn9; clear q9)
        go_roundw
        case rel => exact ⟨k + 1, A9, c9, by omega, by go_num, rfl, Lib.hid (by rw [HTK.out]; exact H9.out), B9⟩
        case measure => simp [intOf]; omega
      · have hk32 : k = 32 := by omega
        have HO2 : Hid (Own w3.heap.size 5 .u8 wr A5 k c5 X) := Lib.hid (by have h := HO.out; rw [List.take_of_length_le (by rw [hX.out]; omega)] at h; exact h)
        have HB2 := Lib.hid (B3.out.trans (HB.out.mono B3.out.size))
        obtain rfl := HO2.out.len
        have R2 := Lib.hid HO2.out.rd
        have hcc := HO2.out.cap
        obtain ⟨w4, rfl⟩ : ∃ w4 : World, w4 = wr := ⟨_, rfl⟩
        clear HO HB hk32 A3 B3
        have hX32 : ¬ X.length < 32 := hlt
        have hXl := HKL.out
        go_wp2_with fail
        go_loopw [8, 9] (fun v i wr => ∃ (k : Nat) (A6 : Option Addr) (c6 : Nat), k ≤ 64 ∧ i = .int .i64 k ∧ v = .slice A6 k c6 ∧ Hid (Own w4.heap.size 5 .u8 wr A6 k c6 ((blkL K x).take k)) ∧ Hid (Below w4.heap.size w4 wr)) (fun _ i _ => 64 - (intOf i).toNat)
        case atStart => exact ⟨0, none, 0, by omega, rfl, rfl, Lib.hid (by rw [List.take_zero]; exact Own.nil _ _ _ _), Lib.hid (Below.refl _ _)⟩
        case round =>
          obtain ⟨k, A6, c6, hk, rfl, rfl, HO, HB⟩ := hrel
          by_cases hlt : k < 64
          · have HTK := Lib.hid (take_snoc_getD (xs := blkL K x) (t := k) (by rw [HBL.out]; omega))
            have HTL : Hid (((blkL K x).take k).length = k) := Lib.hid (by rw [List.length_take, HBL.out]; omega)
            have HG := Lib.hid (HBG.out k hlt)
            by_cases hi : k < X.length
            · obtain ⟨pa, z, hA, _, c0, hz⟩ := (R2.out.below HB.out (Nat.le_refl _)).hx hi
              subst hA
              rw [padK_lo hi, hz.out] at HG
              go_wp2_with (at_builtin; refine wpList_app (o := ⟨some 46, _, _, _, _, _⟩) elU8 rfl _ _ rfl rfl rfl (HO.out.alloc _) (Rd.newAt (xs := [_]) rfl rfl) rfl ?_ ?_ ?_; (simp only [List.length_take, List.length_cons, List.length_nil]; omega); (have := HB.out.size; simp <;> omega); intro A9 n9 c9 w9 q9; have H9 := Lib.hid q9.1; have B9 := Lib.hid ((HB.out.alloc HB.out.size _).trans q9.2.2.1); have hn9 := Own.len_snoc q9.1 HTL.out; subst hn9; clear q9)
              go_roundw
              case rel => exact ⟨k + 1, A9, c9, by omega, by go_num, rfl, Lib.hid (by rw [HTK.out, HG.out]; exact H9.out), B9⟩
              case measure => simp [intOf]; omega
            · rw [padK_hi (by omega)] at HG
              go_wp2_with (at_builtin; refine wpList_app (o := ⟨some 46, _, _, _, _, _⟩) elU8 rfl _ _ rfl rfl rfl (HO.out.alloc _) (Rd.newAt (xs := [_]) rfl rfl) rfl ?_ ?_ ?_; (simp only [List.length_take, List.length_cons, List.length_nil]; omega); (have := HB.out.size; simp <;> omega); intro A9 n9 c9 w9 q9; have H9 := Lib.hid q9.1; have B9 := Lib.hid ((HB.out.alloc HB.out.size _).trans q9.2.2.1); have hn9 := Own.len_snoc q9.1 HTL.out; subst hn9; clear q9)
              go_roundw
              case rel => exact ⟨k + 1, A9, c9, by omega, by go_num, rfl, Lib.hid (by rw [HTK.out, HG.out]; exact H9.out), B9⟩
              case measure => simp [intOf]; omega
          · have HO2 : Hid (Own w4.heap.size 5 .u8 wr A6 k c6 (blkL K x)) := Lib.hid (by have h := HO.out; rw [List.take_of_length_le (by rw [HBL.out]; omega)] at h; exact h)
            go_wp2_with fail
            go_ret
            exact ⟨_, _, _, rfl, HO2.out.mono HB2.out.size, HB2.out.trans (HB.out.mono HB2.out.size)⟩
  · rw [keyL_lo h] at HKL HKB HBG
    go_wp2_with (at_builtin; refine wpList_app (o := ⟨some 13, _, _, _, _, _⟩) elU8 rfl _ _ rfl rfl rfl O0.out HR0.out rfl ?_ ?_ ?_; (simp only [List.length_nil]; omega); (simp); intro A5 n1 c5 w1 q1; have H1 : Hid (Own w.heap.size 5 .u8 w1 A5 n1 c5 K) := Lib.hid q1.1; have B1 := Lib.hid (((Below.refl w.heap.size w).alloc (Nat.le_refl _) _).trans q1.2.2.1); have hn1 : n1 = K.length := q1.1.len; subst hn1; clear q1)
    have R2 := Lib.hid H1.out.rd
    have hcc := H1.out.cap
    have HB2 := B1
    obtain ⟨w4, rfl⟩ : ∃ w4 : World, w4 = w1 := ⟨_, rfl⟩
    obtain ⟨X, rfl⟩ : ∃ X : List Int, X = K := ⟨_, rfl⟩
    clear O0 HR0 B1 H1
    have hXl := HKL.out
    go_loopw [8, 9] (fun v i wr => ∃ (k : Nat) (A6 : Option Addr) (c6 : Nat), k ≤ 64 ∧ i = .int .i64 k ∧ v = .slice A6 k c6 ∧ Hid (Own w4.heap.size 5 .u8 wr A6 k c6 ((blkL X x).take k)) ∧ Hid (Below w4.heap.size w4 wr)) (fun _ i _ => 64 - (intOf i).toNat)
    case atStart => exact ⟨0, none, 0, by omega, rfl, rfl, Lib.hid (by rw [List.take_zero]; exact Own.nil _ _ _ _), Lib.hid (Below.refl _ _)⟩
    case round =>
      obtain ⟨k, A6, c6, hk, rfl, rfl, HO, HB⟩ := hrel
      by_cases hlt : k < 64
      · have HTK := Lib.hid (take_snoc_getD (xs := blkL X x) (t := k) (by rw [HBL.out]; omega))
        have HTL : Hid (((blkL X x).take k).length = k) := Lib.hid (by rw [List.length_take, HBL.out]; omega)
        have HG := Lib.hid (HBG.out k hlt)
        by_cases hi : k < X.length
        · obtain ⟨pa, z, hA, _, c0, hz⟩ := (R2.out.below HB.out (Nat.le_refl _)).hx hi
          subst hA
          rw [padK_lo hi, hz.out] at HG
          go_wp2_with (at_builtin; refine wpList_app (o := ⟨some 46, _, _, _, _, _⟩) elU8 rfl _ _ rfl rfl rfl (HO.out.alloc _) (Rd.newAt (xs := [_]) rfl rfl) rfl ?_ ?_ ?_; (simp only [List.length_take, List.length_cons, List.length_nil]; omega); (have := HB.out.size; simp <;> omega); intro A9 n9 c9 w9 q9; have H9 := Lib.hid q9.1; have B9 := Lib.hid ((HB.out.alloc HB.out.size _).trans q9.2.2.1); have hn9 := Own.len_snoc q9.1 HTL.out; subst hn9; clear q9)
          go_roundw
          case rel => exact ⟨k + 1, A9, c9, by omega, by go_num, rfl, Lib.hid (by rw [HTK.out, HG.out]; exact H9.out), B9⟩
          case measure => simp [intOf]; omega
        · rw [padK_hi (by omega)] at HG
          go_wp2_with (at_builtin; refine wpList_app (o := ⟨some 46, _, _, _, _, _⟩) elU8 rfl _ _ rfl rfl rfl (HO.out.alloc _) (Rd.newAt (xs := [_]) rfl rfl) rfl ?_ ?_ ?_; (simp only [List.length_take, List.length_cons, List.length_nil]; omega); (have := HB.out.size; simp <;> omega); intro A9 n9 c9 w9 q9; have H9 := Lib.hid q9.1; have B9 := Lib.hid ((HB.out.alloc HB.out.size _).trans q9.2.2.1); have hn9 := Own.len_snoc q9.1 HTL.out; subst hn9; clear q9)
          go_roundw
          case rel => exact ⟨k + 1, A9, c9, by omega, by go_num, rfl, Lib.hid (by rw [HTK.out, HG.out]; exact H9.out), B9⟩
          case measure => simp [intOf]; omega
      · have HO2 : Hid (Own w4.heap.size 5 .u8 wr A6 k c6 (blkL X x)) := Lib.hid (by have h := HO.out; rw [List.take_of_length_le (by rw [HBL.out]; omega)] at h; exact h)
        go_wp2_with fail
        go_ret
        exact ⟨_, _, _, rfl, HO2.out.mono HB2.out.size, HB2.out.trans (HB.out.mono HB2.out.size)⟩
end Go.Proofs.Ytieabfifaigjdaa
/- Contracts of the reference's Mac, of kdf.Mac and kdf.Extract. Conditions: as each theorem states them. -/
namespace Go.Proofs.Ytieabfifaigjdaa
open Go.RowKit

/-- a call that hands back an array of bytes -/
def ArrPost (X : List Int) (w : World) (e : Ending) (w' : World) : Prop := e = .returned (.agg (cellsL .u8 X)) ∧ Below w.heap.size w w'

set_option maxRecDepth 100000 in
set_option maxHeartbeats 4000000 in
theorem rmac_any (A : Option Addr) (c : Nat) (K : List Int) (A2 : Option Addr) (c2 : Nat) (T : List Int) (w : World) (hr : Rd w.heap.size .u8 w A K) (hb : Byt K) (hl : K.length ≤ 1000000000) (hr2 : Rd w.heap.size .u8 w A2 T) (hb2 : Byt T) (hl2 : T.length ≤ 1000000000) :
    Calls Try.prog 30 #[.slice A K.length c, .slice A2 T.length c2] w (ArrPost (macL K T) w) := by
  have HR := Lib.hid hr
  have HBY := Lib.hid hb
  have HR2 := Lib.hid hr2
  have HBY2 := Lib.hid hb2
  have HM := Lib.hid (macL_eq K T)
  have HP1 := Lib.hid (blkL_len K 54)
  have HP2 := Lib.hid (blkL_len K 92)
  have HQ1 := Lib.hid (blkL_byt K 54)
  have HQ2 := Lib.hid (blkL_byt K 92)
  clear hr hb hr2 hb2
  go_enter Try.func30, Try.ntmps30
  go_wp2_with fail
  refine Calls.mono (padded_any A c K 54 _ ((HR.out.alloc (Nat.le_refl _) _).mono (by simp)) HBY.out (by omega)) ?_
  rintro e w1 ⟨A3, n3, c3, rfl, ho3, hb3⟩
  have RB1 := Lib.hid (Blk.below (Blk.new w 35 _) hb3 (by simp))
  have B1 := Lib.hid (((Below.refl w.heap.size w).alloc (Nat.le_refl _) _).trans (hb3.mono (by simp)))
  have O1 := Lib.hid ho3
  have R1 := Lib.hid (HR2.out.below B1.out (Nat.le_refl _))
  have hn3 : n3 = 64 := by have := ho3.len; rw [HP1.out] at this; exact this
  subst hn3
  have z1 := B1.out.size
  have z0 : w.heap.size < w1.heap.size := Blk.lt RB1.out
  clear hb3 ho3
  generalize blkL K 54 = P at *
  go_wp2_with (at_builtin; refine wpList_app (o := ⟨some 11, _, _, _, _, _⟩) (B := w.heap.size + 1) elU8 rfl _ _ rfl rfl rfl (O1.out.mono (by simp)) R1.out rfl ?_ ?_ ?_; (rw [HP1.out]; omega); exact z0; intro A4 n4 c4 w2 q2; have O2 := Lib.hid q2.1; have B2 := Lib.hid (B1.out.trans (q2.2.2.1.mono (by omega))); have RB2 := Lib.hid (Blk.below RB1.out q2.2.2.1 (by omega)); clear q2)
  obtain rfl := O2.out.len
  refine Calls.mono (rsum_any A4 c4 (P ++ T) _ O2.out.rd (HQ1.out.append HBY2.out) (by rw [List.length_append, HP1.out]; omega)) ?_
  rintro e w3 ⟨rfl, hb3⟩
  have B3 := Lib.hid (B2.out.trans (hb3.mono B2.out.size))
  have RB3 := Lib.hid (Blk.below RB2.out hb3 (Blk.lt RB2.out))
  have hX : Hid ((shaL (P ++ T)).length = 32) := Lib.hid (shaL_len _)
  have HXB := Lib.hid (shaL_byt (P ++ T))
  clear hb3 B1 RB1 O1 R1 O2 B2 RB2
  generalize shaL (P ++ T) = X at *
  have R3 := Lib.hid (HR.out.below B3.out (Nat.le_refl _))
  go_wp2_with (with_reducible (show wpList _ _ _ (⟨none, .store 35 _ _, _, _, _, _⟩ :: _) _ _); refine wpList_storeArr (o := ⟨none, .store 35 _ _, _, _, _, _⟩) (g := w3.heap.size) (t := 35) (k := .u8) (xs := X) (n := 32) rfl _ _ rfl rfl rfl (Blk.new _ _ _) size32 hX.out.symm rfl ?_; intro w4 ha4 hg4; have A4' := Lib.hid ha4; have B4 := Lib.hid ((B3.out.alloc B3.out.size _).trans (below_of_only hg4 B3.out.size (by have := B3.out.size; simp; omega))); have RB4 := Lib.hid (Blk.grown (Blk.alloc RB3.out _) hg4 (by have := Blk.lt RB3.out; simp; omega)); clear ha4 hg4)
  refine Calls.mono (padded_any A c K 92 _ ((HR.out.below B4.out (Nat.le_refl _)).mono B4.out.size) HBY.out (by omega)) ?_
  rintro e w5 ⟨A5, n5, c5, rfl, ho5, hb5⟩
  have hgl : w3.heap.size < w4.heap.size := A4'.out.lt
  have A5' := Lib.hid (A4'.out.belowAll hb5)
  have B5 := Lib.hid (B4.out.trans (hb5.mono B4.out.size))
  have RB5 := Lib.hid (Blk.below RB4.out hb5 (Blk.lt RB4.out))
  have hgl5 : w3.heap.size < w5.heap.size := A5'.out.lt
  have O5 := Lib.hid ho5
  have hn5 : n5 = 64 := by have := ho5.len; rw [HP2.out] at this; exact this
  subst hn5
  have z45 := hb5.size
  have z04 : w.heap.size < w4.heap.size := Blk.lt RB4.out
  clear ho5 hb5 A4' B4 RB4 R3 B3 RB3
  generalize blkL K 92 = P2 at *
  generalize w3.heap.size = g at *
  go_wp2_with fail
  go_loopw [6, 7] (fun v i wr => ∃ (k : Nat) (A6 : Option Addr) (n6 c6 : Nat), k ≤ 32 ∧ i = .int .i64 k ∧ v = .slice A6 n6 c6 ∧ Hid (Own w4.heap.size 5 .u8 wr A6 n6 c6 (P2 ++ X.take k)) ∧ Hid (Below w4.heap.size w5 wr)) (fun _ i _ => 32 - (intOf i).toNat)
  case atStart => exact ⟨0, A5, 64, c5, by omega, rfl, rfl, Lib.hid (by rw [List.take_zero, List.append_nil]; exact O5.out), Lib.hid (Below.refl _ _)⟩
  case round =>
    obtain ⟨k, A6, n6, c6, hk, rfl, rfl, HO, HB⟩ := hrel
    by_cases hlt : k < 32
    · have c0 := (A5'.out.below HB.out hgl).cell (i := k) (by rw [hX.out]; omega)
      have HTK := Lib.hid (take_snoc_getD (xs := X) (t := k) (by rw [hX.out]; omega))
      have HTL : Hid ((P2 ++ X.take k).length = 64 + k) := Lib.hid (by rw [List.length_append, List.length_take, hX.out, HP2.out]; omega)
      generalize X.getD k 0 = z at *
      have hsz : w4.heap.size ≤ wr.heap.size := Nat.le_trans z45 HB.out.size
      go_wp2_with (at_builtin; refine wpList_app (o := ⟨some 24, _, _, _, _, _⟩) elU8 rfl _ _ rfl rfl rfl (HO.out.alloc _) (Rd.newAt (xs := [_]) rfl rfl) rfl ?_ ?_ ?_; (rw [HTL.out]; simp only [List.length_cons, List.length_nil]; omega); (simp <;> omega); intro A9 n9 c9 w9 q9; have H9 := Lib.hid q9.1; have B9 := Lib.hid ((HB.out.alloc hsz _).trans q9.2.2.1); clear q9)
      go_roundw
      case rel => exact ⟨k + 1, A9, n9, c9, by omega, by go_num, rfl, Lib.hid (by rw [HTK.out, ← List.append_assoc]; exact H9.out), B9⟩
      case measure => simp [intOf]; omega
    · have hk32 : k = 32 := by omega
      have HO2 : Hid (Own w4.heap.size 5 .u8 wr A6 n6 c6 (P2 ++ X)) := Lib.hid (by have h := HO.out; rw [List.take_of_length_le (by rw [hX.out]; omega)] at h; exact h)
      have HL2 : Hid ((P2 ++ X).length = 96) := Lib.hid (by rw [List.length_append, HP2.out, hX.out])
      have HZB := Lib.hid (HQ2.out.append HXB.out)
      generalize P2 ++ X = Z at *
      obtain rfl := HO2.out.len
      have RB6 := Lib.hid (Blk.below RB5.out HB.out (by omega))
      have B6 := Lib.hid (B5.out.trans (HB.out.mono (by omega)))
      clear HO hk32
      go_wp2_with fail
      refine Calls.mono (rsum_any A6 c6 Z _ HO2.out.rd HZB.out (by rw [HL2.out]; omega)) ?_
      rintro e w7 ⟨rfl, hb7⟩
      have RB7 := Lib.hid (Blk.below RB6.out hb7 (Blk.lt RB6.out))
      have B7 := Lib.hid (B6.out.trans (hb7.mono B6.out.size))
      have hY : Hid ((shaL Z).length = 32) := Lib.hid (shaL_len _)
      clear hb7
      generalize shaL Z = Y at *
      go_wp2_with (with_reducible (show wpList _ _ _ (⟨none, .store 35 _ _, _, _, _, _⟩ :: _) _ _); refine wpList_storeArr (o := ⟨none, .store 35 _ _, _, _, _, _⟩) (g := w.heap.size) (t := 35) (k := .u8) (xs := Y) (n := 32) rfl _ _ rfl rfl rfl RB7.out size32 hY.out.symm rfl ?_; intro w8 ha8 hg8)
      exact ret_arr (g := w.heap.size) (t := 35) (k := .u8) (xs := Y) rfl rfl ha8 Try.underlying35 size32 hY.out.symm rfl ⟨by rw [HM.out], B7.out.trans (below_of_only hg8 (Nat.le_refl _) B7.out.size)⟩
end Go.Proofs.Ytieabfifaigjdaa
/- Slices of texts that the call itself made; contracts of kdf.Mac and kdf.Extract. Conditions: as each theorem states them. -/
namespace Go.Proofs.Ytieabfifaigjdaa
open Go.RowKit

theorem infoTx : (Try.prog.info? 22).map (fun i => (i.zero, i.size, i.bytes)) = some (some (.slice none 0 0), 1, 24) := by kernel_rfl
theorem txs_reads {B : Nat} {w : World} {A : Option Addr} {ts : List Tx} (h : Txs B w A ts) : Reads w B 1 A ts.length (ts.map txV) := by
  refine ⟨by simp, fun hn => ?_⟩
  obtain ⟨ad, hA, hb, _⟩ := h 0 hn
  refine ⟨ad, hA, hb, fun j u hu => ?_⟩
  simp only [List.getElem?_map, Option.map_eq_some_iff] at hu
  obtain ⟨t, ht, rfl⟩ := hu
  have hj : j < ts.length := by
    rcases Nat.lt_or_ge j ts.length with g | g
    · exact g
    · rw [List.getElem?_eq_none g] at ht; cases ht
  obtain ⟨ad', e, _, hc, _⟩ := h j hj
  rw [hA] at e
  injection e with e
  subst e
  rw [hc, List.getD_eq_getElem?_getD, ht]
  rfl
/-- texts in a slice of the call's own -/
def OwnT (B : Nat) (w : World) (A : Option Addr) (n c : Nat) (ts : List Tx) : Prop := w.ownsRow B 22 1 (.slice A n c) n (ts.map txV) ∧ n = ts.length
theorem OwnT.litAt {B : Nat} {w : World} {g n : Nat} {cs : Array Value} {ts : List Tx} (hg : w.heap.size = g) (hc : cs = (ts.map txV).toArray) (hn : n = ts.length) (hB : B ≤ g) (hm : ts.length ≤ maxLen) :
    OwnT B (w.alloc (.cells cs 22)) (some ⟨g, 0, none⟩) n n ts := by
  subst hg; subst hc; subst hn
  refine ⟨?_, rfl⟩
  have := World.ownsRow_lit (e := 22) (size := 1) (base := B) w (ts.map txV).toArray ts.length hB hm (by simp)
  simpa using this
theorem txs_of_own {B : Nat} {w : World} {A : Option Addr} {n c : Nat} {ts : List Tx} (h : OwnT B w A n c ts) (hr : ∀ t ∈ ts, Rd w.heap.size .u8 w t.A t.xs ∧ t.xs.length ≤ t.c) : Txs w.heap.size w A ts := fun i hi => by
  have hR := Reads.of_own h.1
  have hn := h.2
  subst hn
  obtain ⟨ad, hA, hb, hc⟩ := hR.2 (by omega)
  obtain ⟨h1, h2⟩ := hr _ (getD_mem (z := Tx.none) hi)
  refine ⟨ad, hA, hb, hc i _ ?_, h1, h2⟩
  simp [List.getElem?_map, List.getElem?_eq_getElem hi, List.getD_eq_getElem?_getD, txV]
theorem txV_one (t : Tx) : (txV t).oneCell' = true := rfl
theorem wpList_appTx {w : World} {ops : Array Oper} {rest : List Oper} {o : Oper} {a : Act} {Q : Exit → Act → World → Prop} {B B2 n c m c2 : Nat} {A A2 : Option Addr} {ts us : List Tx} (hgd : o.guard = none) (s x : Operand)
    (ho : o.op = .call { callee := .builtin .append, args := #[s, x], argTypes := #[64, 64] }) (hs : a.eval s = .slice A n c) (hx : a.eval x = .slice A2 m c2) (hO : OwnT B w A n c ts) (hr : Txs B2 w A2 us) (hm : m = us.length)
    (hl : ts.length + us.length ≤ 1000000000000) (hB : B ≤ w.heap.size) (h : ∀ A' n' c' w', OwnT B w' A' n' c' (ts ++ us) → Below B w w' → wpList Try.prog ops Q rest (a.put o.dst (.slice A' n' c')) w') : wpList Try.prog ops Q (o :: rest) a w := by
  subst hm
  have hn := hO.2
  subst hn
  obtain ⟨i, hi, hz, hsz, hby⟩ := info_parts infoTx
  refine wpList_append_any w hgd s x _ ho B 22 i _ 1 24 Try.underlying64 hi hz hsz hby rfl (by decide) _ _ _ hs hO.1 B2 A2 us.length c2 _ hx (txs_reads hr) (fun u hu => ?_) (by unfold maxLen; omega) (by omega) hB ?_
  · obtain ⟨t, _, rfl⟩ := List.mem_map.1 hu
    exact txV_one t
  · intro v' w' h1 h2 _
    have hbel : Below B w w' := ⟨h2.os, h2.tape, h2.output, h2.size, fun i hi' => h2.block i (by omega) (fun e' => by
      have := hO.1.lt i e'.symm
      omega)⟩
    rw [← List.map_append] at h1
    rcases h1.2 with ⟨rfl, h0⟩ | ⟨g, cap, cur, rfl, _⟩
    · rw [h0] at h1
      exact h none 0 0 w' ⟨h1, by rw [List.length_append]; omega⟩ hbel
    · exact h (some ⟨g, 0, none⟩) (ts.length + us.length) cap w' ⟨h1, by rw [List.length_append]⟩ hbel

theorem join_cons (t : Tx) (ts : List Tx) : joinT (t :: ts) = t.xs ++ joinT ts := by unfold joinT; rfl
theorem join_two (a b : Option Addr) (p q : Nat) (x y : List Int) : joinT [⟨a, p, x⟩, ⟨b, q, y⟩] = x ++ y := by unfold joinT; simp
theorem BytT.cons {t : Tx} {ts : List Tx} (h : Byt t.xs) (k : BytT ts) : BytT (t :: ts) := fun u hu => by
  rcases List.mem_cons.1 hu with rfl | hu
  · exact h
  · exact k u hu
theorem Txs.each {B : Nat} {w : World} {A : Option Addr} {ts : List Tx} (h : Txs B w A ts) : ∀ t ∈ ts, Rd B .u8 w t.A t.xs ∧ t.xs.length ≤ t.c := fun t ht => by
  obtain ⟨i, hi, rfl⟩ := List.mem_iff_getElem.1 ht
  obtain ⟨_, _, _, _, h1, h2⟩ := h i hi
  rw [List.getD_eq_getElem?_getD, List.getElem?_eq_getElem hi] at h1 h2
  exact ⟨h1, h2⟩

set_option maxRecDepth 100000 in
set_option maxHeartbeats 4000000 in
theorem mac_any (A : Option Addr) (c : Nat) (K : List Int) (A2 : Option Addr) (c2 : Nat) (ts : List Tx) (w : World) (hr : Rd w.heap.size .u8 w A K) (hb : Byt K) (hcap : K.length ≤ c) (hl : K.length ≤ 1000000000) (hr2 : Txs w.heap.size w A2 ts) (hb2 : BytT ts) (hl2 : (joinT ts).length ≤ 1000000000) (hn2 : ts.length ≤ 1000000000) :
    Calls Try.prog 37 #[.slice A K.length c, .slice A2 ts.length c2] w (ArrPost (macL K (joinT ts)) w) := by
  have HR := Lib.hid hr
  have HBY := Lib.hid hb
  have HR2 := Lib.hid hr2
  have HBY2 := Lib.hid hb2
  have HM := Lib.hid (macL_eq K (joinT ts))
  have HP1 := Lib.hid (blkL_len K 54)
  have HP2 := Lib.hid (blkL_len K 92)
  have HQ1 := Lib.hid (blkL_byt K 54)
  have HQ2 := Lib.hid (blkL_byt K 92)
  clear hr hb hr2 hb2
  go_enter Try.func37, Try.ntmps37
  go_wp2_with fail
  refine Calls.mono (block_any A c K 54 _ ((HR.out.alloc (Nat.le_refl _) _).mono (by simp)) HBY.out hcap (by omega)) ?_
  rintro e w1 ⟨A3, n3, c3, rfl, hn3, hc3, ho3, hb3⟩
  rw [HP1.out] at hn3
  subst hn3
  have RB1 := Lib.hid (Blk.below (Blk.new w 35 _) hb3 (by simp))
  have B1 := Lib.hid (((Below.refl w.heap.size w).alloc (Nat.le_refl _) _).trans (hb3.mono (by simp)))
  have O1 := Lib.hid ho3
  have T1 := Lib.hid ((HR2.out.below B1.out (Nat.le_refl _)).mono B1.out.size)
  have z0 : w.heap.size < w1.heap.size := Blk.lt RB1.out
  clear hb3 ho3
  generalize blkL K 54 = P at *
  have L1 : Hid (OwnT w1.heap.size (w1.alloc (.cells #[.slice A3 64 c3] 22)) (some ⟨w1.heap.size, 0, none⟩) 1 1 [⟨A3, c3, P⟩]) := Lib.hid (OwnT.litAt rfl (by simp [txV, HP1.out]) rfl (Nat.le_refl _) (by simp [maxLen]))
  have T1' : Hid (Txs w1.heap.size (w1.alloc (.cells #[.slice A3 64 c3] 22)) A2 ts) := Lib.hid (T1.out.below ((Below.refl w1.heap.size w1).alloc (Nat.le_refl _) _) (Nat.le_refl _))
  go_wp2_with (at_builtin; refine wpList_appTx (o := ⟨some 10, _, _, _, _, _⟩) rfl _ _ rfl rfl rfl L1.out T1'.out rfl ?_ ?_ ?_; (simp only [List.length_cons, List.length_nil]; omega); (simp); intro A4 n4 c4 w2 q1 q2; have O2 := Lib.hid q1; have B12 := Lib.hid (((Below.refl w1.heap.size w1).alloc (Nat.le_refl _) _).trans q2); clear q1 q2)
  have B2 := Lib.hid (B1.out.trans (B12.out.mono B1.out.size))
  have RB2 := Lib.hid (Blk.below RB1.out B12.out (by omega))
  have O2' : Hid (OwnT w1.heap.size w2 A4 n4 c4 (⟨A3, c3, P⟩ :: ts)) := O2
  obtain rfl := O2'.out.2
  refine Calls.mono (sum_any A4 c4 (⟨A3, c3, P⟩ :: ts) _ (txs_of_own O2'.out ?_) (BytT.cons HQ1.out HBY2.out) (by rw [join_cons, List.length_append, HP1.out]; omega) (by rw [List.length_cons]; omega)) ?_
  · intro t ht
    rcases List.mem_cons.1 ht with rfl | ht
    · exact ⟨(O1.out.below B12.out (Nat.le_refl _)).mono B12.out.size, by rw [HP1.out]; exact hc3⟩
    · obtain ⟨h1, h2⟩ := T1.out.each t ht
      exact ⟨(h1.below B12.out (Nat.le_refl _)).mono B12.out.size, h2⟩
  rintro e w3 ⟨rfl, hb3⟩
  rw [join_cons]
  have B3 := Lib.hid (B2.out.trans (hb3.mono B2.out.size))
  have RB3 := Lib.hid (Blk.below RB2.out hb3 (Blk.lt RB2.out))
  have hX : Hid ((shaL (P ++ joinT ts)).length = 32) := Lib.hid (shaL_len _)
  have HXB := Lib.hid (shaL_byt (P ++ joinT ts))
  clear hb3 B1 RB1 O1 T1 O2 O2' B2 RB2 B12 L1 T1'
  simp only
  generalize shaL (P ++ joinT ts) = X at *
  go_wp2_with (with_reducible (show wpList _ _ _ (⟨none, .store 35 _ _, _, _, _, _⟩ :: _) _ _); refine wpList_storeArr (o := ⟨none, .store 35 _ _, _, _, _, _⟩) (g := w3.heap.size) (t := 35) (k := .u8) (xs := X) (n := 32) rfl _ _ rfl rfl rfl (Blk.new _ _ _) size32 hX.out.symm rfl ?_; intro w4 ha4 hg4; have A4' := Lib.hid ha4; have B4 := Lib.hid ((B3.out.alloc B3.out.size _).trans (below_of_only hg4 B3.out.size (by have := B3.out.size; simp; omega))); have RB4 := Lib.hid (Blk.grown (Blk.alloc RB3.out _) hg4 (by have := Blk.lt RB3.out; simp; omega)); clear ha4 hg4)
  refine wp_region_mix_below w.heap.size [([0, 2], 1), ([], 3), ([], 4), ([], 5)] [] (by kernel_rfl) (by kernel_rfl) (by kernel_rfl) (by kernel_rfl) ?_
  simp only [put_none, pickL, List.map_cons, List.map_nil, List.filterMap_cons, List.filterMap_nil, List.getElem?_cons_succ, List.getElem?_cons_zero]
  refine mixS_cons ?_
  repeat (show wpQuiet _ _ _ _ (_ :: _) _; go_big_quiet_step (fail))
  refine wpQuiet_nil ?_
  show wpList _ _ _ [_] _ _
  go_wp2_with fail
  have hgl : w3.heap.size < w4.heap.size := A4'.out.lt
  have z04 : w.heap.size < w4.heap.size := Blk.lt RB4.out
  refine Calls.mono (block_any A c K 92 _ ((HR.out.below B4.out (Nat.le_refl _)).drew.mono B4.out.size) HBY.out hcap (by omega)) ?_
  rintro e w5 ⟨A5, n5, c5, rfl, hn5, hc5, ho5, hb5⟩
  rw [HP2.out] at hn5
  subst hn5
  have B45 := Lib.hid ((Below.refl w4.heap.size w4).drew.trans hb5)
  have O5 := Lib.hid ho5
  clear hb5 ho5
  have A5' := Lib.hid (A4'.out.belowAll B45.out)
  have RB5 := Lib.hid (Blk.below RB4.out B45.out z04)
  have z45 := B45.out.size
  generalize blkL K 92 = P2 at *
  go_wp2_with fail
  refine MixQ.below (B45.out.mono (by omega)) ?_
  refine mixS_cons ?_
  refine wpQuiet_nil ?_
  show wpList _ _ _ [_] _ _
  go_wp2_with fail
  refine MixQ.below ((B45.out.mono (by omega)).alloc (by omega) _) ?_
  refine mixS_cons ?_
  refine wpQuiet_nil ?_
  show wpList _ _ _ [_] _ _
  go_wp2_with fail
  refine Calls.mono (sum_any _ _ [⟨A5, c5, P2⟩, ⟨some ⟨w3.heap.size, 0, none⟩, 32, X⟩] _ ?_ ?_ ?_ ?_) ?_
  · refine Txs.newAt (by simp) (by simp [txV, HP2.out, hX.out]) ?_
    intro t ht
    simp only [List.mem_cons, List.not_mem_nil, or_false] at ht
    rcases ht with rfl | rfl
    · exact ⟨O5.out, by rw [HP2.out]; exact hc5⟩
    · exact ⟨A5'.out.rd, by rw [hX.out]; exact Nat.le_refl _⟩
  · intro t ht
    simp only [List.mem_cons, List.not_mem_nil, or_false] at ht
    rcases ht with rfl | rfl
    · exact HQ2.out
    · exact HXB.out
  · rw [join_two, List.length_append, HP2.out, hX.out]; omega
  · simp
  rintro e w6 ⟨rfl, hb6⟩
  rw [join_two]
  have B56 := Lib.hid ((((Below.refl w5.heap.size w5).alloc (Nat.le_refl _) (.cells #[.slice A5 64 c5, .slice (some ⟨w3.heap.size, 0, none⟩) 32 32] 22))).trans (hb6.mono (by simp)))
  have B46 := Lib.hid (B45.out.trans (B56.out.mono z45))
  have RB6 := Lib.hid (Blk.below RB5.out B56.out (by omega))
  have hY : Hid ((shaL (P2 ++ X)).length = 32) := Lib.hid (shaL_len _)
  have B6 := Lib.hid (B4.out.trans (B46.out.mono B4.out.size))
  clear hb6
  generalize shaL (P2 ++ X) = Y at *
  go_wp2_with fail
  refine MixQ.below (B46.out.mono (by omega)) ?_
  refine mixS_cons ?_
  refine wpQuiet_nil ?_
  show wpList _ _ _ [_] _ _
  go_wp2_with (with_reducible (show wpList _ _ _ (⟨none, .store 35 _ _, _, _, _, _⟩ :: _) _ _); refine wpList_storeArr (o := ⟨none, .store 35 _ _, _, _, _, _⟩) (g := w.heap.size) (t := 35) (k := .u8) (xs := Y) (n := 32) rfl _ _ rfl rfl rfl RB6.out size32 hY.out.symm rfl ?_; intro w7 ha7 hg7)
  refine MixQ.below ((B46.out.mono (Nat.le_of_lt z04)).trans (below_of_only hg7 (Nat.le_refl _) B6.out.size)) ?_
  refine mixS_nil ?_
  refine wpQuiet_nil ?_
  refine NoPanic.normal ?_
  go_wp2_with fail
  exact ret_arr (g := w.heap.size) (t := 35) (k := .u8) (xs := Y) rfl rfl ha7 Try.underlying35 size32 hY.out.symm rfl ⟨by rw [HM.out], B6.out.trans (below_of_only hg7 (Nat.le_refl _) B6.out.size)⟩

end Go.Proofs.Ytieabfifaigjdaa
