/- The law HeadBack (layer 3): plain. Conditions: as each theorem states them. -/
import Derived.Test.YtlefnddhmpgijaaH20
namespace Go.Proofs.Ytlefnddhmpgijaa
open Go.RowKit
theorem mask_short : ([64, 65, 66, 67, 68, 69, 70, 71].all fun f => allB.all fun m => bits .xor .u8 f (bits .and .u8 m 31) / 32 == f / 32 && (0 ≤ bits .xor .u8 f (bits .and .u8 m 31) && bits .xor .u8 f (bits .and .u8 m 31) < 256) && bits .andNot .u8 (bits .xor .u8 f (bits .xor .u8 f (bits .and .u8 m 31))) 31 == 0 && bits .and .u8 f 24 == 0) = true := by decide +kernel
theorem mask_long : ([192, 193, 194, 195, 224, 225, 226, 227].all fun f => allB.all fun m => bits .xor .u8 f (bits .and .u8 m 15) / 16 == f / 16 && (0 ≤ bits .xor .u8 f (bits .and .u8 m 15) && bits .xor .u8 f (bits .and .u8 m 15) < 256) && bits .andNot .u8 (bits .xor .u8 f (bits .xor .u8 f (bits .and .u8 m 15))) 15 == 0 && bits .and .u8 f 12 == 0) = true := by decide +kernel
theorem mask_s {f m : Int} (hf : f ∈ [64, 65, 66, 67, 68, 69, 70, 71]) (h0 : 0 ≤ m) (h1 : m < 256) : bits .xor .u8 f (bits .and .u8 m 31) / 32 = f / 32 ∧ 0 ≤ bits .xor .u8 f (bits .and .u8 m 31) ∧ bits .xor .u8 f (bits .and .u8 m 31) < 256 ∧ bits .andNot .u8 (bits .xor .u8 f (bits .xor .u8 f (bits .and .u8 m 31))) 31 = 0 ∧ bits .and .u8 f 24 = 0 := by
  have h := List.all_eq_true.1 (List.all_eq_true.1 mask_short f hf) m (all_mem h0 h1)
  simp only [Bool.and_eq_true, beq_iff_eq, decide_eq_true_eq] at h
  exact ⟨h.1.1.1, h.1.1.2.1, h.1.1.2.2, h.1.2, h.2⟩
theorem mask_l {f m : Int} (hf : f ∈ [192, 193, 194, 195, 224, 225, 226, 227]) (h0 : 0 ≤ m) (h1 : m < 256) : bits .xor .u8 f (bits .and .u8 m 15) / 16 = f / 16 ∧ 0 ≤ bits .xor .u8 f (bits .and .u8 m 15) ∧ bits .xor .u8 f (bits .and .u8 m 15) < 256 ∧ bits .andNot .u8 (bits .xor .u8 f (bits .xor .u8 f (bits .and .u8 m 15))) 15 = 0 ∧ bits .and .u8 f 12 = 0 := by
  have h := List.all_eq_true.1 (List.all_eq_true.1 mask_long f hf) m (all_mem h0 h1)
  simp only [Bool.and_eq_true, beq_iff_eq, decide_eq_true_eq] at h
  exact ⟨h.1.1.1, h.1.1.2.1, h.1.1.2.2, h.1.2, h.2⟩
theorem first_s {h : HD} (hm : h.May) (hs : h.space = 2) : h.first ∈ [(64 : Int), 65, 66, 67, 68, 69, 70, 71] := by
  obtain ⟨m1, m2, m3, m4, m5, m6, m7, m8, m9⟩ := hm
  unfold HD.first
  rw [if_pos hs]
  simp only [List.mem_cons, List.not_mem_nil, or_false]
  split <;> omega
theorem first_l {h : HD} (hm : h.May) (hs : h.space ≠ 2) : h.first ∈ [(192 : Int), 193, 194, 195, 224, 225, 226, 227] := by
  obtain ⟨m1, m2, m3, m4, m5, m6, m7, m8, m9⟩ := hm
  unfold HD.first
  rw [if_neg hs]
  simp only [List.mem_cons, List.not_mem_nil, or_false]
  split <;> omega
theorem first_rng {h : HD} (hm : h.May) : 0 ≤ h.first ∧ h.first < 256 ∧ h.first % 4 + 1 = h.pb ∧ (decide (h.space = 2) && decide (h.first / 4 % 2 = 1)) = h.phase := by
  obtain ⟨m1, m2, m3, m4, m5, m6, m7, m8, m9⟩ := hm
  unfold HD.first
  by_cases hs : h.space = 2
  · rw [if_pos hs]
    refine ⟨?_, ?_, ?_, ?_⟩
    · split <;> omega
    · split <;> omega
    · split <;> omega
    · rw [decide_eq_true hs, Bool.true_and]
      cases h.phase
      · simp; omega
      · simp; omega
  · rw [if_neg hs, m9 hs, decide_eq_false hs, Bool.false_and]
    refine ⟨?_, ?_, ?_, rfl⟩
    · split <;> omega
    · split <;> omega
    · split <;> omega
/-- the first byte as the mask leaves it -/
def HD.masked (h : HD) (m : Int) : Int := bits .xor .u8 h.first (bits .and .u8 m (bitsV h.space))
theorem masked_rng {h : HD} (hm : h.May) {m : Int} (h0 : 0 ≤ m) (h1 : m < 256) : 0 ≤ h.masked m ∧ h.masked m < 256 ∧ bits .andNot .u8 (bits .xor .u8 h.first (h.masked m)) (bitsV h.space) = 0 ∧ bits .and .u8 h.first (if h.space = 2 then 24 else 12) = 0 := by
  unfold HD.masked bitsV
  by_cases hs : h.space = 2
  · rw [if_pos hs, if_pos hs]
    obtain ⟨a, b, c, d, e⟩ := mask_s (first_s hm hs) h0 h1
    exact ⟨b, c, d, e⟩
  · rw [if_neg hs, if_neg hs]
    obtain ⟨a, b, c, d, e⟩ := mask_l (first_l hm hs) h0 h1
    exact ⟨b, c, d, e⟩
theorem rest_end (h : HD) (n : Int) : ∃ q, h.rest n = q ++ beL h.pn h.pb.toNat := by
  unfold HD.rest
  split <;> exact ⟨_, rfl⟩
/-- the bytes of its number -/
theorem put_number {h : HD} (hm : h.May) (n : Int) (at_ : Nat) (hat : (at_ : Int) = (h.put n).length - h.pb) : (h.put n).drop at_ = beL h.pn h.pb.toNat ∧ h.pb ≤ (h.put n).length := by
  obtain ⟨m1, m2, m3, m4, m5, m6, m7, m8, m9⟩ := hm
  obtain ⟨q, hq⟩ := rest_end h n
  have e : h.put n = (h.first :: q) ++ beL h.pn h.pb.toNat := by unfold HD.put; rw [hq]; rfl
  rw [e, List.length_append, beL_len] at hat
  rw [e, List.length_append, beL_len, List.drop_left' (by omega)]
  exact ⟨rfl, by omega⟩
/-- what was put, with its payload and whatever stands behind it, is split as it was -/
theorem put_back {h : HD} (hf : h.Fit) (hm : h.May) {m : Int} (h0 : 0 ≤ m) (h1 : m < 256) (load behind : List Int) (h20 : 20 ≤ h.pb + load.length) (hlen : load.length ≤ 65536) (htok : h.tok.length ≤ 4611686018427387903) (at_ : Nat) (hat : (at_ : Int) = (h.put load.length).length - h.pb) :
    splitL (((h.put load.length ++ load) ++ (if h.space = 2 then [] else behind)).set 0 (h.masked m)) h.dst.length = some ⟨h.space, h.dst, h.src, h.tok, at_, (h.put load.length).length + load.length⟩ := by
  have hm' := hm
  obtain ⟨m1, m2, m3, m4, m5, m6, m7, m8, m9⟩ := hm
  have hl : (h.put load.length).length = 1 + (h.rest load.length).length := by unfold HD.put; simp; omega
  have he : ∀ y : List Int, ((h.put load.length ++ load) ++ y).set 0 (h.masked m) = h.masked m :: (h.rest load.length ++ (load ++ y)) := fun y => by
    unfold HD.put; simp
  rw [he, hl]
  have hpb := (put_number hm' load.length at_ hat).2
  by_cases hs : h.space = 2
  · rw [if_pos hs, List.append_nil, put_short hm' hs (h.masked m) load (by unfold HD.masked bitsV; rw [if_pos hs]; exact (mask_s (first_s hm' hs) h0 h1).1) h20]
    have e1 : h.src = [] := List.eq_nil_of_length_eq_zero (m8 hs)
    have e2 : h.tok = [] := List.eq_nil_of_length_eq_zero (m7 (by omega))
    rw [e1, e2, hs]
    congr 2
    omega
  · rw [if_neg hs, put_long hf hm' hs (h.masked m) load behind (by unfold HD.masked bitsV; rw [if_neg hs]; exact (mask_l (first_l hm' hs) h0 h1).1) h20 hlen htok]
    congr 2
    omega
/-- the head as it is read bare: its number cut to its bytes -/
def HD.cut (h : HD) : HD := { h with pn := h.pn % 256 ^ h.pb.toNat }
theorem bare_cut {h : HD} (hf : h.Fit) (hm : h.May) : bareH h.space h.dst h.src h.tok (beL h.pn h.pb.toNat) h.first = h.cut := by
  obtain ⟨f0, f1, f2, f3⟩ := first_rng hm
  obtain ⟨g1, g2, g3, g4, g5, g6, g7⟩ := hf
  unfold bareH HD.cut
  rw [f2, f3, List.take_of_length_le (by rw [beL_len]; omega), ofF_beL _ _ g6]
  simp
theorem shl8 {pb : Int} (h1 : 1 ≤ pb) (h4 : pb ≤ 4) : (256 : Int) ^ pb.toNat = 1 * 2 ^ (8 * pb).toNat := by
  rcases (by omega : pb = 1 ∨ pb = 2 ∨ pb = 3 ∨ pb = 4) with rfl | rfl | rfl | rfl <;> rfl
end Go.Proofs.Ytlefnddhmpgijaa
