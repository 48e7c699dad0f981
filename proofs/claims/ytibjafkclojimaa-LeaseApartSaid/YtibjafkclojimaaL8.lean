/- Layer 27: contract of takes, over a list of numbers. Conditions: as each theorem states them. -/
import Derived.Test.YtibjafkclojimaaL7
import Derived.LoopN
namespace Go.Proofs.Ytibjafkclojimaa
open Go.RowKit
/-- two blocks, and new ones, may be turned -/
structure Two (g gl : Nat) (w w' : World) : Prop where
  os : w'.os = w.os
  tape : w'.tape = w.tape
  output : w'.output = w.output
  size : w.heap.size ≤ w'.heap.size
  block : ∀ i, i < w.heap.size → i ≠ g → i ≠ gl → w'.heap[i]? = w.heap[i]?
section
variable {g gl : Nat} {w w' w'' : World}
theorem Two.of {w1 : World} (h : w.grownBy w1 (some g)) (h' : w1.grownBy w' (some gl)) : Two g gl w w' :=
  ⟨h'.os.trans h.os, h'.tape.trans h.tape, h'.output.trans h.output, Nat.le_trans h.size h'.size, fun i hi h1 h2 => (h'.block i (Nat.lt_of_lt_of_le hi h.size) (fun q => by injection q with q; exact h2 q)).trans (h.block i hi (fun q => by injection q with q; exact h1 q))⟩
theorem Two.refl (g gl : Nat) (w : World) : Two g gl w w := ⟨rfl, rfl, rfl, Nat.le_refl _, fun _ _ _ _ => rfl⟩
theorem Two.trans (h : Two g gl w w') (h' : Two g gl w' w'') : Two g gl w w'' :=
  ⟨h'.os.trans h.os, h'.tape.trans h.tape, h'.output.trans h.output, Nat.le_trans h.size h'.size, fun i hi h1 h2 => (h'.block i (Nat.lt_of_lt_of_le hi h.size) h1 h2).trans (h.block i hi h1 h2)⟩
theorem Two.blk {i : Nat} {t : TypeId} {cs : Array Value} (h : Two g gl w w') (hb : Blk w i t cs) (h1 : i ≠ g) (h2 : i ≠ gl) : Blk w' i t cs := (h.block i hb.lt h1 h2).trans hb
theorem Two.below {N : Nat} (h : Two g gl w w') (h1 : N ≤ g) (h2 : N ≤ gl) (hN : N ≤ w.heap.size) : Below N w w' :=
  ⟨h.os, h.tape, h.output, h.size, fun i hi => h.block i (by omega) (by omega) (by omega)⟩
end
/-- the lease hands out just these -/
def runP : List Int → LS → SS → Option (LS × SS)
  | [], l, s => some (l, s)
  | n :: r, l, s => if (takP l s).1 = n ∧ (takP l s).2.1 = 0 then runP r (takP l s).2.2.1 (takP l s).2.2.2 else none
theorem runP_cons {n : Int} {r : List Int} {l : LS} {s : SS} {x : LS × SS} (h : runP (n :: r) l s = some x) : (takP l s).1 = n ∧ (takP l s).2.1 = 0 ∧ runP r (takP l s).2.2.1 (takP l s).2.2.2 = some x := by
  unfold runP at h
  split at h
  · rename_i q; exact ⟨q.1, q.2, h⟩
  · cases h
theorem runP_nil {l : LS} {s : SS} {x : LS × SS} (h : runP [] l s = some x) : x = (l, s) := by unfold runP at h; injection h with h; exact h.symm
theorem drop_getD (ws : List Int) (k : Nat) (h : k < ws.length) : ws.drop k = ws.getD k 0 :: ws.drop (k + 1) := by
  rw [List.drop_eq_getElem_cons h, List.getD_eq_getElem?_getD, List.getElem?_eq_getElem h]; rfl
def TksPost (gl g : Nat) (l2 : LS) (s2 : SS) (w : World) (r : Ending) (w' : World) : Prop := r = .returned (.bool true) ∧ LsH gl w' (.pointer (some ⟨g, 0, none⟩)) l2 ∧ StH g w' s2 ∧ Two g gl w w'
attribute [local irreducible] CL.rcd CL.size takeL newN wrS LastI CL.May lc StH renP wrP takP runP
set_option maxRecDepth 100000 in
set_option maxHeartbeats 8000000 in
theorem takes_run (gl g gw : Nat) (base : Int) (l l1 l2 : LS) (s s1 s2 : SS) (e : Int) (ws acc : List Int) (n : Nat) (w : World) (h : LsH gl w (.pointer (some ⟨g, 0, none⟩)) l) (hs : StH g w s) (hI : Inv base [l] s acc) (hN : s.N < 900) (hn : ws.length = n) (hn2 : n < 90)
    (hW : Blk w gw 22 (ws.map (Value.int .u64)).toArray) (hR : runP ws l s = some (l1, s1)) (hE : (e = 0 ∧ l2 = l1 ∧ s2 = s1) ∨ (e ≠ 0 ∧ takP l1 s1 = (0, e, l2, s2))) :
    Calls Try.prog 11 #[.pointer (some ⟨gl, 0, none⟩), .int .i64 e, .slice (some ⟨gw, 0, none⟩) n n] w (TksPost gl g l2 s2 w) := by
  have H0 := Lib.hid h
  have S0 := Lib.hid hs
  have I0 := Lib.hid hI
  have W0 := Lib.hid hW
  have R0 := Lib.hid hR
  have E0 := Lib.hid hE
  have HL := Lib.hid hn
  clear h hs hI hW hR hE hn
  go_enter Try.func11, Try.ntmps11
  go_wp2_with fail
  go_loopw [15] (fun i wr => ∃ (k : Nat) (lk : LS) (sk : SS) (ac : List Int), k ≤ n ∧ i = .int .i64 k ∧ Hid (runP (ws.drop k) lk sk = some (l1, s1)) ∧ Hid (Inv base [lk] sk ac) ∧ Hid (sk.N ≤ s.N + k) ∧ Hid (LsH gl wr (.pointer (some ⟨g, 0, none⟩)) lk) ∧ Hid (StH g wr sk) ∧ Hid (Blk wr gw 22 (ws.map (Value.int .u64)).toArray) ∧ Hid (Two g gl w wr)) (fun i _ => n - (intOf i).toNat)
  case atStart => exact ⟨0, l, s, acc, by omega, rfl, R0, I0, Lib.hid (by omega), H0, S0, W0, Lib.hid (Two.refl _ _ _)⟩
  case round =>
    clear H0 S0 I0 W0 R0
    obtain ⟨k, lk, sk, ac, hk, rfl, HR, HI, HK, HH, HS, HW, HT⟩ := hrel
    have HNE : Hid (gl ≠ g ∧ gw ≠ g ∧ gw ≠ gl) := Lib.hid (by
      obtain ⟨cs, hk⟩ := HS.out.blk
      exact ⟨Blk.ne_ HH.out hk (by decide), Blk.ne_ HW.out hk (by decide), Blk.ne_ HW.out HH.out (by decide)⟩)
    have HOK := Lib.hid (HI.out.l 0 (by simp))
    simp only [List.getD_cons_zero] at HOK
    have hlen := HL.out
    by_cases hlt : k < n
    · have hd := HR.out
      rw [drop_getD ws k (by omega)] at hd
      obtain ⟨t1, t2, t3⟩ := runP_cons hd
      have hc : wr.cell? ⟨gw, k, none⟩ = some (.int .u64 (ws.getD k 0)) := by
        rw [Blk.cell HW.out k]
        simp [List.getD_eq_getElem?_getD, List.getElem?_eq_getElem (show k < ws.length by omega)]
      clear hd
      have RD := ltake_any gl g lk sk wr HH.out HS.out HI.out.c (by have := HK.out; omega) HOK.out.b0 HOK.out.b1 HOK.out.n0 (by have := HOK.out.n1; have := HOK.out.n2; have := HI.out.c.n1; omega)
      have hit := inv_take (i := 0) HI.out (by simp) (by rw [List.getD_cons_zero]; exact t2)
      simp only [List.getD_cons_zero, List.set_cons_zero] at hit
      unfold TakPost at RD
      rw [t1, t2] at RD
      rw [t1] at hit
      have HI2 := Lib.hid hit.2.2.2.2.1
      have HN2 := Lib.hid hit.2.2.2.2.2
      have HR2 := Lib.hid t3
      clear hit t1 t2 t3
      generalize ws.getD k 0 = x at *
      clear hlen
      have HRD := Lib.hid RD
      clear RD
      go_wp2_with fail
      refine Calls.mono HRD.out ?_
      clear HRD hc
      rintro e1 w1 ⟨rfl, h1, s1_, w2, g2, g1⟩
      have H1 := Lib.hid h1
      have S1 := Lib.hid s1_
      have T1 := Lib.hid (Two.of g2 g1)
      clear h1 s1_ g2 g1
      have W1 := Lib.hid (T1.out.blk HW.out HNE.out.2.1 HNE.out.2.2)
      go_wp2_with fail
      refine ⟨⟨k + 1, _, _, _, by omega, by go_num, HR2, HI2, Lib.hid (by have := HN2.out; have := HK.out; omega), H1, S1, W1, Lib.hid (HT.out.trans T1.out)⟩, ?_⟩
      simp [intOf]
      omega
    · have hkn : k = n := by omega
      have hd := HR.out
      rw [hkn, List.drop_eq_nil_of_le (by omega)] at hd
      have hx := runP_nil hd
      injection hx with hx1 hx2
      have X1 := Lib.hid hx1
      have X2 := Lib.hid hx2
      clear hd hx1 hx2 hkn
      rcases E0.out with ⟨e0, e1, e2⟩ | ⟨e0, e1⟩
      · have hz : (e == 0) = true := by simp [e0]
        have E1 := Lib.hid e1
        have E2 := Lib.hid e2
        clear e0 e1 e2 hlen
        go_wp2_with fail
        go_ret
        exact ⟨rfl, by rw [E1.out, X1.out]; exact HH.out, by rw [E2.out, X2.out]; exact HS.out, HT.out⟩
      · have hz : (e == 0) = false := by simp [e0]
        have RD := ltake_any gl g lk sk wr HH.out HS.out HI.out.c (by have := HK.out; omega) HOK.out.b0 HOK.out.b1 HOK.out.n0 (by have := HOK.out.n1; have := HOK.out.n2; have := HI.out.c.n1; omega)
        unfold TakPost at RD
        rw [← X1.out, ← X2.out, e1] at RD
        have HRD := Lib.hid RD
        clear RD e0 e1 hlen
        go_wp2_with fail
        refine Calls.mono HRD.out ?_
        clear HRD
        rintro e1 w1 ⟨rfl, h1, s1_, w2, g2, g1⟩
        have H1 := Lib.hid h1
        have S1 := Lib.hid s1_
        have T1 := Lib.hid (Two.of g2 g1)
        clear h1 s1_ g2 g1
        go_wp2_with fail
        go_ret
        exact ⟨rfl, H1.out, S1.out, HT.out.trans T1.out⟩
end Go.Proofs.Ytibjafkclojimaa
