
/- Layer 26: cells in memory; contracts of be, size, May. Conditions: as each theorem states them. -/
import Derived.Test.YtibjafkclojimaaD1
import Derived.Test.YtibjafkclojimaaS6
namespace Go.Proofs.Ytibjafkclojimaa
open Go.RowKit
theorem elC : ElT Try.prog 50 5 .u8 1 := ⟨Try.underlying50, Try.underlying5, by kernel_rfl, by decide⟩
/-- a cell's rows in memory -/
structure CIn (B : Nat) (w : World) (A : Option Addr) (n cap : Nat) (ts : List Tx) : Prop where
  len : ts.length = n
  cap : n ≤ cap
  txs : Txs B w A ts
  byt : BytT ts
theorem CIn.below {B N : Nat} {w w' : World} {A : Option Addr} {n cap : Nat} {ts : List Tx} (h : CIn B w A n cap ts) (hb : Below N w w') (hB : B ≤ N) : CIn B w' A n cap ts := ⟨h.len, h.cap, h.txs.below hb hB, h.byt⟩
theorem CIn.mono {B B' : Nat} {w : World} {A : Option Addr} {n cap : Nat} {ts : List Tx} (h : CIn B w A n cap ts) (hB : B ≤ B') : CIn B' w A n cap ts := ⟨h.len, h.cap, h.txs.mono hB, h.byt⟩
def bsT (ts : List Tx) : List (List Int) := ts.map (·.xs)
theorem bsT_len (ts : List Tx) : (bsT ts).length = ts.length := by simp [bsT]
theorem bsT_byt {ts : List Tx} (h : BytT ts) : ∀ x ∈ bsT ts, Byt x := fun x hx => by
  obtain ⟨t, ht, rfl⟩ := List.mem_map.1 hx
  exact h t ht
theorem bsT_take {ts : List Tx} {k : Nat} (h : k < ts.length) : bsT (ts.take (k + 1)) = bsT (ts.take k) ++ [(ts.getD k Tx.none).xs] := by
  unfold bsT
  rw [List.take_succ_eq_append_getElem h, List.map_append, List.getD_eq_getElem?_getD, List.getElem?_eq_getElem h]
  rfl
theorem rowsN_take (l : List (List Int)) (k : Nat) : rowsN (l.take k) ≤ rowsN l := by
  have : rowsL l = rowsL (l.take k) ++ rowsL (l.drop k) := by rw [← rowsL_append, List.take_append_drop]
  unfold rowsN
  rw [this, List.length_append]; omega
theorem bsT_takeN (ts : List Tx) (k : Nat) : rowsN (bsT (ts.take k)) ≤ rowsN (bsT ts) := by
  have : bsT (ts.take k) = (bsT ts).take k := by unfold bsT; rw [List.map_take]
  rw [this]; exact rowsN_take _ _
def cl_ (ep ow nx sn : Int) (ts : List Tx) : CL := ⟨ep, ow, nx, sn, bsT ts⟩
/-- a slice of the call's own, longer than it was -/
def BePost (B : Nat) (A0 : Option Addr) (L : List Int) (w : World) (e : Ending) (w' : World) : Prop := ∃ A n c, e = .returned (.slice A n c) ∧ Apd B 5 .u8 w A0 L A n c w'
theorem apd_refl {B : Nat} {e : TypeId} {k : IntKind} {w : World} {A : Option Addr} {n c : Nat} {xs : List Int} (h : Own B e k w A n c xs) : Apd B e k w A xs A n c w := ⟨h, World.grownBy.refl _ _, Below.refl _ _, .inl rfl⟩
theorem apd_trans {B : Nat} {e : TypeId} {k : IntKind} {w w1 w2 : World} {A0 A1 A2 : Option Addr} {n1 c1 n2 c2 : Nat} {xs zs : List Int} (h : Apd B e k w A0 xs A1 n1 c1 w1) (g : Apd B e k w1 A1 zs A2 n2 c2 w2) : Apd B e k w A0 zs A2 n2 c2 w2 := by
  obtain ⟨_, h2, h3, h4⟩ := h
  obtain ⟨g1, g2, g3, g4⟩ := g
  have hs := h2.size
  refine ⟨g1, ⟨g2.os.trans h2.os, g2.tape.trans h2.tape, g2.output.trans h2.output, Nat.le_trans h2.size g2.size, fun i hi hne => ?_⟩, h3.trans g3, ?_⟩
  · rw [g2.block i (by omega) ?_, h2.block i hi hne]
    rcases h4 with rfl | ⟨b, rfl, hb⟩
    · exact hne
    · intro q; simp [ablk] at q; omega
  · rcases g4 with rfl | ⟨b, rfl, hb⟩
    · exact h4
    · exact .inr ⟨b, rfl, by omega⟩
theorem apd_pre {B : Nat} {e : TypeId} {k : IntKind} {w w1 w2 : World} {A1 A2 : Option Addr} {n2 c2 : Nat} {zs : List Int} (h : Below w.heap.size w w1) (hB : B ≤ w.heap.size) (g : Apd B e k w1 A1 zs A2 n2 c2 w2) : Apd B e k w A1 zs A2 n2 c2 w2 := by
  obtain ⟨g1, g2, g3, g4⟩ := g
  have hs := h.size
  refine ⟨g1, ⟨g2.os.trans h.os, g2.tape.trans h.tape, g2.output.trans h.output, Nat.le_trans h.size g2.size, fun i hi hne => ?_⟩, (h.mono hB).trans g3, ?_⟩
  · rw [g2.block i (by omega) hne, h.block i hi]
  · rcases g4 with rfl | ⟨b, rfl, hb⟩
    · exact .inl rfl
    · exact .inr ⟨b, rfl, by omega⟩
theorem bsT_nil : bsT [] = [] := rfl
attribute [irreducible] bsT
set_option maxRecDepth 100000 in
set_option maxHeartbeats 2000000 in
theorem be_any (B : Nat) (A0 : Option Addr) (n0 c0 : Nat) (xs : List Int) (n : Int) (k : Nat) (w : World) (ho : Own B 5 .u8 w A0 n0 c0 xs) (hB : B ≤ w.heap.size) (hl : xs.length ≤ 1000000000000) (h0 : 0 ≤ n) (h1 : n < 18446744073709551616) (hk : k ≤ 8) :
    Calls Try.prog 20 #[.slice A0 n0 c0, .int .u64 n, .int .i64 k] w (BePost B A0 (xs ++ beL n k) w) := by
  have HO0 := Lib.hid ho
  have HL0 := Lib.hid hl
  clear ho hl
  go_enter Try.func20, Try.ntmps20
  go_wp2_with fail
  go_loopw [0, 7] (fun b i wr => ∃ (r : Nat) (A : Option Addr) (m c : Nat) (acc : List Int), r ≤ k ∧ i = .int .i64 ((r : Int) - 1) ∧ b = .slice A m c ∧ acc.length ≤ 1000000000008 ∧ Hid (Apd B 5 .u8 w A0 acc A m c wr) ∧ Hid (acc.length + r = xs.length + k) ∧ Hid (acc ++ beL n r = xs ++ beL n k)) (fun _ i _ => (intOf i + 1).toNat)
  case atStart => exact ⟨k, A0, n0, c0, xs, by omega, rfl, rfl, by have := HL0.out; omega, Lib.hid (apd_refl HO0.out), Lib.hid rfl, Lib.hid rfl⟩
  case round =>
    obtain ⟨r, A, m, c, acc, hr, rfl, rfl, hacc, HO, HL, HE⟩ := hrel
    cases r with
    | zero =>
      have FIN : Hid (BePost B A0 (xs ++ beL n k) w (.returned (.slice A m c)) wr) := Lib.hid ⟨A, m, c, rfl, by
        have := HE.out
        simp only [beL, List.append_nil] at this
        rw [← this]
        exact HO.out⟩
      clear HO HE
      go_wp2_with fail
      go_ret
      exact FIN.out
    | succ r =>
      obtain ⟨x, hx⟩ : ∃ x, x = n / 256 ^ r % 256 := ⟨_, rfl⟩
      have HX := Lib.hid hx
      have HE2 : Hid ((acc ++ [x]) ++ beL n r = xs ++ beL n k) := Lib.hid (by rw [hx, ← HE.out]; simp [beL])
      have HL2 : Hid ((acc ++ [x]).length + r = xs.length + k) := Lib.hid (by have := HL.out; simp; omega)
      have hl2 : Hid (acc.length + 1 ≤ 1000000000008) := Lib.hid (by have := HL.out; have := HL0.out; omega)
      have hxb : 0 ≤ x ∧ x < 256 := by omega
      obtain ⟨hx0, hx1⟩ := hxb
      clear hx
      have hsz := HO.out.2.2.1.size
      have hBw : B ≤ wr.heap.size := by omega
      rcases (show r = 0 ∨ r = 1 ∨ r = 2 ∨ r = 3 ∨ r = 4 ∨ r = 5 ∨ r = 6 ∨ r = 7 by omega) with rfl | rfl | rfl | rfl | rfl | rfl | rfl | rfl
      · have hxx : n % 256 = x := by have := HX.out; omega
        go_wp2_with (at_builtin; refine wpList_app (o := ⟨some 21, _, _, _, _, _⟩) elC rfl _ _ rfl rfl rfl (HO.out.1.alloc _) (Rd.newAt (xs := [x]) rfl rfl) rfl ?_ ?_ ?_; (have := hl2.out; simp; omega); (simp <;> omega); intro A5 n5 c5 w5 h5; have H5 := Lib.hid (apd_trans HO.out (apd_pre ((Below.refl wr.heap.size wr).alloc (Nat.le_refl _) _) hBw h5)); clear h5)
        go_roundw
        case rel => exact ⟨_, A5, n5, c5, acc ++ [x], by omega, by go_num, rfl, by have := hl2.out; simp; omega, H5, HL2, HE2⟩
        case measure => simp [intOf]
      · have hxx : n / 256 % 256 = x := by have := HX.out; omega
        go_wp2_with (at_builtin; refine wpList_app (o := ⟨some 21, _, _, _, _, _⟩) elC rfl _ _ rfl rfl rfl (HO.out.1.alloc _) (Rd.newAt (xs := [x]) rfl rfl) rfl ?_ ?_ ?_; (have := hl2.out; simp; omega); (simp <;> omega); intro A5 n5 c5 w5 h5; have H5 := Lib.hid (apd_trans HO.out (apd_pre ((Below.refl wr.heap.size wr).alloc (Nat.le_refl _) _) hBw h5)); clear h5)
        go_roundw
        case rel => exact ⟨_, A5, n5, c5, acc ++ [x], by omega, by go_num, rfl, by have := hl2.out; simp; omega, H5, HL2, HE2⟩
        case measure => simp [intOf]
      · have hxx : n / 65536 % 256 = x := by have := HX.out; omega
        go_wp2_with (at_builtin; refine wpList_app (o := ⟨some 21, _, _, _, _, _⟩) elC rfl _ _ rfl rfl rfl (HO.out.1.alloc _) (Rd.newAt (xs := [x]) rfl rfl) rfl ?_ ?_ ?_; (have := hl2.out; simp; omega); (simp <;> omega); intro A5 n5 c5 w5 h5; have H5 := Lib.hid (apd_trans HO.out (apd_pre ((Below.refl wr.heap.size wr).alloc (Nat.le_refl _) _) hBw h5)); clear h5)
        go_roundw
        case rel => exact ⟨_, A5, n5, c5, acc ++ [x], by omega, by go_num, rfl, by have := hl2.out; simp; omega, H5, HL2, HE2⟩
        case measure => simp [intOf]
      · have hxx : n / 16777216 % 256 = x := by have := HX.out; omega
        go_wp2_with (at_builtin; refine wpList_app (o := ⟨some 21, _, _, _, _, _⟩) elC rfl _ _ rfl rfl rfl (HO.out.1.alloc _) (Rd.newAt (xs := [x]) rfl rfl) rfl ?_ ?_ ?_; (have := hl2.out; simp; omega); (simp <;> omega); intro A5 n5 c5 w5 h5; have H5 := Lib.hid (apd_trans HO.out (apd_pre ((Below.refl wr.heap.size wr).alloc (Nat.le_refl _) _) hBw h5)); clear h5)
        go_roundw
        case rel => exact ⟨_, A5, n5, c5, acc ++ [x], by omega, by go_num, rfl, by have := hl2.out; simp; omega, H5, HL2, HE2⟩
        case measure => simp [intOf]
      · have hxx : n / 4294967296 % 256 = x := by have := HX.out; omega
        go_wp2_with (at_builtin; refine wpList_app (o := ⟨some 21, _, _, _, _, _⟩) elC rfl _ _ rfl rfl rfl (HO.out.1.alloc _) (Rd.newAt (xs := [x]) rfl rfl) rfl ?_ ?_ ?_; (have := hl2.out; simp; omega); (simp <;> omega); intro A5 n5 c5 w5 h5; have H5 := Lib.hid (apd_trans HO.out (apd_pre ((Below.refl wr.heap.size wr).alloc (Nat.le_refl _) _) hBw h5)); clear h5)
        go_roundw
        case rel => exact ⟨_, A5, n5, c5, acc ++ [x], by omega, by go_num, rfl, by have := hl2.out; simp; omega, H5, HL2, HE2⟩
        case measure => simp [intOf]
      · have hxx : n / 1099511627776 % 256 = x := by have := HX.out; omega
        go_wp2_with (at_builtin; refine wpList_app (o := ⟨some 21, _, _, _, _, _⟩) elC rfl _ _ rfl rfl rfl (HO.out.1.alloc _) (Rd.newAt (xs := [x]) rfl rfl) rfl ?_ ?_ ?_; (have := hl2.out; simp; omega); (simp <;> omega); intro A5 n5 c5 w5 h5; have H5 := Lib.hid (apd_trans HO.out (apd_pre ((Below.refl wr.heap.size wr).alloc (Nat.le_refl _) _) hBw h5)); clear h5)
        go_roundw
        case rel => exact ⟨_, A5, n5, c5, acc ++ [x], by omega, by go_num, rfl, by have := hl2.out; simp; omega, H5, HL2, HE2⟩
        case measure => simp [intOf]
      · have hxx : n / 281474976710656 % 256 = x := by have := HX.out; omega
        go_wp2_with (at_builtin; refine wpList_app (o := ⟨some 21, _, _, _, _, _⟩) elC rfl _ _ rfl rfl rfl (HO.out.1.alloc _) (Rd.newAt (xs := [x]) rfl rfl) rfl ?_ ?_ ?_; (have := hl2.out; simp; omega); (simp <;> omega); intro A5 n5 c5 w5 h5; have H5 := Lib.hid (apd_trans HO.out (apd_pre ((Below.refl wr.heap.size wr).alloc (Nat.le_refl _) _) hBw h5)); clear h5)
        go_roundw
        case rel => exact ⟨_, A5, n5, c5, acc ++ [x], by omega, by go_num, rfl, by have := hl2.out; simp; omega, H5, HL2, HE2⟩
        case measure => simp [intOf]
      · have hxx : n / 72057594037927936 = x := by have := HX.out; omega
        go_wp2_with (at_builtin; refine wpList_app (o := ⟨some 21, _, _, _, _, _⟩) elC rfl _ _ rfl rfl rfl (HO.out.1.alloc _) (Rd.newAt (xs := [x]) rfl rfl) rfl ?_ ?_ ?_; (have := hl2.out; simp; omega); (simp <;> omega); intro A5 n5 c5 w5 h5; have H5 := Lib.hid (apd_trans HO.out (apd_pre ((Below.refl wr.heap.size wr).alloc (Nat.le_refl _) _) hBw h5)); clear h5)
        go_roundw
        case rel => exact ⟨_, A5, n5, c5, acc ++ [x], by omega, by go_num, rfl, by have := hl2.out; simp; omega, H5, HL2, HE2⟩
        case measure => simp [intOf]
set_option maxRecDepth 100000 in
set_option maxHeartbeats 2000000 in
theorem size_any (ep ow nx sn : Int) (A : Option Addr) (n cap : Nat) (ts : List Tx) (w : World) (hc : CIn w.heap.size w A n cap ts) (hl : rowsN (bsT ts) ≤ 1000000000000) :
    Calls Try.prog 21 #[.agg #[.int .u64 ep, .int .u8 ow, .int .u64 nx, .int .u64 sn, .slice A n cap]] w fun e w' => e = .returned (.int .i64 ((cl_ ep ow nx sn ts).size : Nat)) ∧ Below w.heap.size w w' := by
  have HC := Lib.hid hc
  have HN := Lib.hid hc.len
  have HL := Lib.hid hl
  have hn2 : n ≤ 250000000000 := by have := rowsN_len (bsT ts); rw [bsT_len, hc.len] at this; omega
  have B0 := Lib.hid ((Below.refl w.heap.size w).alloc (Nat.le_refl _) (.cells #[.int .u64 ep, .int .u8 ow, .int .u64 nx, .int .u64 sn, .slice A n cap] 31))
  have C0 := Lib.hid ((hc.txs.below B0.out (Nat.le_refl _)))
  clear hc hl
  go_enter Try.func21, Try.ntmps21
  go_wp2_with fail
  generalize w.alloc (.cells #[.int .u64 ep, .int .u8 ow, .int .u64 nx, .int .u64 sn, .slice A n cap] 31) = w1 at *
  go_loop [3, 9] (fun s i => ∃ k N : Nat, k ≤ n ∧ i = .int .i64 k ∧ s = .int .i64 N ∧ N ≤ 1000000000029 ∧ Hid (N = 29 + rowsN (bsT (ts.take k)))) (fun _ i => n - (intOf i).toNat)
  case atStart => exact ⟨0, 29, by omega, rfl, rfl, by omega, Lib.hid (by rw [List.take_zero, bsT_nil, rowsN_nil])⟩
  case round =>
    obtain ⟨k, N, hk, rfl, rfl, hN, HS⟩ := hrel
    by_cases hlt : k < n
    · obtain ⟨pa, hA, p1, p2, p3, p4⟩ := C0.out k (by rw [HN.out]; exact hlt)
      have HT : Hid (rowsN (bsT (ts.take (k + 1))) = rowsN (bsT (ts.take k)) + (4 + (ts.getD k Tx.none).xs.length)) := Lib.hid (by rw [bsT_take (by rw [HN.out]; exact hlt), rowsN_snoc])
      have HT2 := bsT_takeN ts (k + 1)
      rw [HT.out] at HT2
      generalize ts.getD k Tx.none = t at *
      obtain ⟨tA, tc, tx⟩ := t
      simp only at p2 p3 p4 HT HT2
      subst hA
      have hb : N + (4 + tx.length) ≤ 1000000000029 := by have := HS.out; have := HL.out; omega
      have HS2 : Hid (N + (4 + tx.length) = 29 + rowsN (bsT (ts.take (k + 1)))) := Lib.hid (by rw [HT.out, HS.out]; omega)
      obtain ⟨m, hm⟩ : ∃ m, tx.length = m := ⟨_, rfl⟩
      rw [hm] at p2 HS2 hb
      clear HS HT HT2 p3 p4 hm
      go_wp2_with fail
      go_round
      case rel => exact ⟨k + 1, N + (4 + m), by omega, by go_num, by go_num, hb, HS2⟩
      case measure => simp [intOf]; omega
    · have HF : Hid ((N : Int) = ((cl_ ep ow nx sn ts).size : Nat)) := Lib.hid (by
        have := HS.out
        rw [List.take_of_length_le (by rw [HN.out]; omega)] at this
        rw [this]; rfl)
      clear HS
      go_wp2_with fail
      go_ret
      exact ⟨ret_int HF.out, B0.out⟩
instance (c : CL) : Decidable c.May := by unfold CL.May; infer_instance
theorem cmay_eq (c : CL) : decide c.May = (decide (c.ow ≤ 2) && (decide (c.nx ≤ 4611686018427387904) && (decide (c.sn ≤ c.ep) && decide (c.size ≤ 16777216)))) := by
  rw [Bool.eq_iff_iff]
  simp only [decide_eq_true_eq, Bool.and_eq_true]
  rfl
set_option maxRecDepth 100000 in
set_option maxHeartbeats 2000000 in
theorem cmay_any (ep ow nx sn : Int) (A : Option Addr) (n cap : Nat) (ts : List Tx) (w : World) (hc : CIn w.heap.size w A n cap ts) (hl : rowsN (bsT ts) ≤ 1000000000000) :
    Calls Try.prog 19 #[.agg #[.int .u64 ep, .int .u8 ow, .int .u64 nx, .int .u64 sn, .slice A n cap]] w fun e w' => e = .returned (.bool (decide (cl_ ep ow nx sn ts).May)) ∧ Below w.heap.size w w' := by
  have HE := Lib.hid (cmay_eq (cl_ ep ow nx sn ts))
  have B0 := Lib.hid ((Below.refl w.heap.size w).alloc (Nat.le_refl _) (.cells #[.int .u64 ep, .int .u8 ow, .int .u64 nx, .int .u64 sn, .slice A n cap] 31))
  have HS := Lib.hid (fun (w1 : World) (b : CIn w1.heap.size w1 A n cap ts) => size_any ep ow nx sn A n cap ts w1 b hl)
  have C0 := Lib.hid ((hc.below B0.out (Nat.le_refl _)).mono B0.out.size)
  have H1 : Hid ((cl_ ep ow nx sn ts).ow = ow ∧ (cl_ ep ow nx sn ts).nx = nx ∧ (cl_ ep ow nx sn ts).sn = sn ∧ (cl_ ep ow nx sn ts).ep = ep) := Lib.hid ⟨rfl, rfl, rfl, rfl⟩
  generalize cl_ ep ow nx sn ts = c at *
  obtain ⟨d1, d2, d3, d4⟩ := H1.out
  rw [d1, d2, d3, d4] at HE
  clear hc d1 d2 d3 d4 H1
  by_cases h1 : ow ≤ 2
  · by_cases h2 : nx ≤ 4611686018427387904
    · by_cases h3 : sn ≤ ep
      · go_enter Try.func19, Try.ntmps19
        go_wp2_with fail
        refine Calls.mono (HS.out _ C0.out) ?_
        rintro e w2 ⟨rfl, hb⟩
        have B2 := Lib.hid (B0.out.trans (hb.mono B0.out.size))
        have HE2 : Hid (decide c.May = decide ((c.size : Int) ≤ 16777216)) := Lib.hid (by rw [HE.out, decide_eq_true h1, decide_eq_true h2, decide_eq_true h3]; simp only [Bool.true_and]; congr 1; rw [eq_iff_iff]; omega)
        clear hb HE
        go_wp2_with fail
        go_ret
        exact ⟨ret_bool (by rw [HE2.out]), B2.out⟩
      · have HE2 : Hid (decide c.May = false) := Lib.hid (by rw [HE.out, decide_eq_false h3]; simp)
        have h3' : decide (sn ≤ ep) = false := decide_eq_false h3
        clear HE
        go_enter Try.func19, Try.ntmps19
        go_wp2_with fail
        go_ret
        exact ⟨ret_bool HE2.out.symm, B0.out⟩
    · have HE2 : Hid (decide c.May = false) := Lib.hid (by rw [HE.out, decide_eq_false h2]; simp)
      have h2' : decide (nx ≤ 4611686018427387904) = false := decide_eq_false h2
      clear HE
      go_enter Try.func19, Try.ntmps19
      go_wp2_with fail
      go_ret
      exact ⟨ret_bool HE2.out.symm, B0.out⟩
  · have HE2 : Hid (decide c.May = false) := Lib.hid (by rw [HE.out, decide_eq_false h1]; simp)
    have h1' : decide (ow ≤ 2) = false := decide_eq_false h1
    clear HE
    go_enter Try.func19, Try.ntmps19
    go_wp2_with fail
    go_ret
    exact ⟨ret_bool HE2.out.symm, B0.out⟩
end Go.Proofs.Ytibjafkclojimaa
