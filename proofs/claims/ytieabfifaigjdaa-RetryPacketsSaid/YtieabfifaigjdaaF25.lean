/- Layer 33: what a packet's bytes are, in plain words: the reference's reading against Take's. Conditions: as each theorem states them. -/
import Derived.Test.YtieabfifaigjdaaF18
namespace Go.Proofs.Ytieabfifaigjdaa
open Go.RowKit
/-- bytes that the reference takes: an id of the client's of at most 20 bytes, and the reading -/
structure RkOk (b : List Int) (d s : Nat) : Prop where
  len : 23 ≤ b.length
  h0 : 240 ≤ b.getD 0 0
  hd : b.getD 5 0 = (d : Int)
  d20 : d ≤ 20
  dl : 6 + d < b.length - 16
  hs : b.getD (6 + d) 0 = (s : Int)
  s20 : s ≤ 20
  sl : 7 + d + s < b.length - 16
def pkDst (b : List Int) (d : Nat) : List Int := (b.drop 6).take d
def pkSrc (b : List Int) (d s : Nat) : List Int := (b.drop (7 + d)).take s
def pkTok (b : List Int) (d s : Nat) : List Int := (b.drop (7 + d + s)).take (b.length - 16 - (7 + d + s))
theorem cut_take (b : List Int) (d k n : Nat) (h : d + k ≤ n) : ((b.take n).drop d).take k = (b.drop d).take k := by
  rw [List.drop_take, List.take_take, Nat.min_eq_left (by omega)]
theorem split_at (b : List Int) (k : Nat) (h : k < b.length) : b = b.take k ++ b.getD k 0 :: b.drop (k + 1) := by
  rw [List.getD_eq_getElem?_getD, List.getElem?_eq_getElem h, Option.getD_some, ← List.drop_eq_getElem_cons h, List.take_append_drop]
theorem ofF4_one {a b c d : Int} (ha : 0 ≤ a) (hb : 0 ≤ b) (hc : 0 ≤ c) (hd : 0 ≤ d) (hd2 : d < 256) : ofF 0 [a, b, c, d] = 1 ↔ a = 0 ∧ b = 0 ∧ c = 0 ∧ d = 1 := by
  rw [ofF_cons, ofF_cons, ofF_cons, ofF_cons]
  show 256 * (256 * (256 * (256 * 0 + a) + b) + c) + d = 1 ↔ _
  omega
theorem list6 (b : List Int) (h : 6 ≤ b.length) : b = [b.getD 0 0, b.getD 1 0, b.getD 2 0, b.getD 3 0, b.getD 4 0, b.getD 5 0] ++ b.drop 6 := by
  rcases b with _ | ⟨a0, _ | ⟨a1, _ | ⟨a2, _ | ⟨a3, _ | ⟨a4, _ | ⟨a5, t⟩⟩⟩⟩⟩⟩ <;> simp at h ⊢
theorem take4 (b : List Int) (h : 6 ≤ b.length) : (b.drop 1).take 4 = [b.getD 1 0, b.getD 2 0, b.getD 3 0, b.getD 4 0] := by
  rcases b with _ | ⟨a0, _ | ⟨a1, _ | ⟨a2, _ | ⟨a3, _ | ⟨a4, _ | ⟨a5, t⟩⟩⟩⟩⟩⟩ <;> simp at h ⊢
/-- what stands ahead of the tag, spelled -/
theorem body_eq {b : List Int} {d s : Nat} (h : RkOk b d s) : b.take (b.length - 16) = [b.getD 0 0, b.getD 1 0, b.getD 2 0, b.getD 3 0, b.getD 4 0, (d : Int)] ++ pkDst b d ++ [(s : Int)] ++ pkSrc b d s ++ pkTok b d s := by
  obtain ⟨l, h0, hd, d20, dl, hs, s20, sl⟩ := h
  have e1 : b.drop 6 = pkDst b d ++ b.drop (6 + d) := by
    unfold pkDst
    rw [← List.drop_drop, List.take_append_drop]
  have e2 : b.drop (6 + d) = (s : Int) :: b.drop (7 + d) := by
    have h := split_at (b.drop (6 + d)) 0 (by rw [List.length_drop]; omega)
    rw [List.take_zero, List.nil_append, List.drop_drop, show 6 + d + (0 + 1) = 7 + d by omega, ← getD_drop0, hs] at h
    exact h
  have e3 : b.drop (7 + d) = pkSrc b d s ++ b.drop (7 + d + s) := by
    unfold pkSrc
    have h := List.take_append_drop s (b.drop (7 + d))
    rw [List.drop_drop] at h
    exact h.symm
  have e4 : b = [b.getD 0 0, b.getD 1 0, b.getD 2 0, b.getD 3 0, b.getD 4 0, (d : Int)] ++ pkDst b d ++ [(s : Int)] ++ pkSrc b d s ++ b.drop (7 + d + s) := by
    have h := list6 b (by omega)
    rw [e1, e2, e3, hd] at h
    rw [List.append_assoc, List.append_assoc, List.append_assoc]
    exact h
  have l1 : (pkDst b d).length = d := by unfold pkDst; rw [List.length_take, List.length_drop]; omega
  have l2 : (pkSrc b d s).length = s := by unfold pkSrc; rw [List.length_take, List.length_drop]; omega
  have e5 := congrArg (List.take (b.length - 16)) e4
  rw [e5]
  rw [List.take_append, List.take_of_length_le (by simp only [List.length_append, List.length_cons, List.length_nil, l1, l2]; omega)]
  unfold pkTok
  congr 2
  simp only [List.length_append, List.length_cons, List.length_nil, l1, l2]; omega
theorem pk_lens {b : List Int} {d s : Nat} (h : RkOk b d s) : (pkDst b d).length = d ∧ (pkSrc b d s).length = s ∧ (pkTok b d s).length = b.length - 16 - (7 + d + s) := by
  obtain ⟨l, h0, hd, d20, dl, hs, s20, sl⟩ := h
  refine ⟨?_, ?_, ?_⟩
  · unfold pkDst; rw [List.length_take, List.length_drop]; omega
  · unfold pkSrc; rw [List.length_take, List.length_drop]; omega
  · unfold pkTok; rw [List.length_take, List.length_drop]; omega
/-- the reference's packet is the bytes, iff they are a packet of Take's -/
theorem rk_iff {b orig : List Int} {d s : Nat} (hb : Byt b) (h : RkOk b d s) : pktL (b.getD 0 0) (pkDst b d) (pkSrc b d s) (pkTok b d s) orig = b ↔ PkOk b orig d s := by
  obtain ⟨l1, l2, l3⟩ := pk_lens h
  have hB := body_eq h
  obtain ⟨l, h0, hd, d20, dl, hs, s20, sl⟩ := h
  have g := fun k => hb.getD k
  have hv : ofF 0 ((b.drop 1).take 4) = 1 ↔ b.getD 1 0 = 0 ∧ b.getD 2 0 = 0 ∧ b.getD 3 0 = 0 ∧ b.getD 4 0 = 1 := by
    rw [take4 b (by omega)]; exact ofF4_one (g 1).1 (g 2).1 (g 3).1 (g 4).1 (g 4).2
  have hpb : pkB (b.getD 0 0) (pkDst b d) (pkSrc b d s) (pkTok b d s) = [b.getD 0 0, 0, 0, 0, 1, (d : Int)] ++ pkDst b d ++ [(s : Int)] ++ pkSrc b d s ++ pkTok b d s := by
    unfold pkB; rw [l1, l2]
  have hpl : (pkB (b.getD 0 0) (pkDst b d) (pkSrc b d s) (pkTok b d s)).length = b.length - 16 := by rw [pkB_len, l1, l2, l3]; omega
  have hsp := List.take_append_drop (b.length - 16) b
  constructor
  · intro q
    have q1 : (pktL (b.getD 0 0) (pkDst b d) (pkSrc b d s) (pkTok b d s) orig).take (b.length - 16) = pkB (b.getD 0 0) (pkDst b d) (pkSrc b d s) (pkTok b d s) := by
      unfold pktL; rw [← hpl]; exact List.take_left' rfl
    have q2 : (pktL (b.getD 0 0) (pkDst b d) (pkSrc b d s) (pkTok b d s) orig).drop (b.length - 16) = tagP (pkB (b.getD 0 0) (pkDst b d) (pkSrc b d s) (pkTok b d s)) orig := by
      unfold pktL; rw [← hpl]; exact List.drop_left' rfl
    rw [q] at q1 q2
    have q3 := q1
    rw [hB, hpb] at q3
    simp only [List.cons_append, List.nil_append, List.cons.injEq, true_and] at q3
    exact ⟨by have := (g 0).2; omega, hv.2 ⟨q3.1, q3.2.1, q3.2.2.1, q3.2.2.2.1⟩, hd, d20, dl, hs, s20, sl, by rw [q2, q1]⟩
  · intro q
    obtain ⟨v1, v2, v3, v4⟩ := hv.1 q.h1
    have e : pkB (b.getD 0 0) (pkDst b d) (pkSrc b d s) (pkTok b d s) = b.take (b.length - 16) := by rw [hpb, hB, v1, v2, v3, v4]
    unfold pktL
    rw [e, q.tg, hsp]
theorem pkOk_rk {b orig : List Int} {d s : Nat} (hb : Byt b) (h : PkOk b orig d s) : RkOk b d s := by
  obtain ⟨h0, h1, hd, d20, dl, hs, s20, sl, tg⟩ := h
  have g0 := hb.getD 0
  exact ⟨by omega, by omega, hd, d20, dl, hs, s20, sl⟩
theorem rk_same {b : List Int} {d s d2 s2 : Nat} (h : RkOk b d s) (k : RkOk b d2 s2) : d = d2 ∧ s = s2 := by
  have e1 : d = d2 := by have h1 := h.hd; rw [k.hd] at h1; omega
  subst e1
  have e2 := h.hs
  rw [k.hs] at e2
  exact ⟨rfl, by omega⟩
end Go.Proofs.Ytieabfifaigjdaa
