/- Layer 3: plain functions, contracts. Conditions: as each theorem states them. -/
import Derived.Test.YthpacdondnenmaaB
import Derived.Test.YthpacdondnenmaaN
import Derived.Test.YthpacdondnenmaaRows
import Derived.Test.YthpacdondnenmaaB2
import Derived.Test.YthpacdondnenmaaQN
import Derived.Laws.Bits64b
import Derived.Test.YthpacdondnenmaaQO
/- Numbers as bytes, numbers of variable length, packets' heads (layers 1 and 3) as plain functions on lists of bytes. Conditions: as each theorem states them. -/
namespace Go.Proofs.Ythpacdondnenmaa
open Go.RowKit

/-- the low bytes of a number, the highest first -/
def beL (n : Int) : Nat → List Int
  | 0 => []
  | k + 1 => n / 256 ^ k % 256 :: beL n k
theorem beL_len (n : Int) (k : Nat) : (beL n k).length = k := by induction k with
  | zero => rfl
  | succ k ih => simp [beL, ih]
theorem beL_byt (n : Int) (k : Nat) : Byt (beL n k) := by induction k with
  | zero => exact Byt.nil
  | succ k ih => exact Byt.cons (by omega) ih
def ofF (a : Int) (b : List Int) : Int := b.foldl (fun a c => 256 * a + c) a
theorem ofF_cons (a x : Int) (b : List Int) : ofF a (x :: b) = ofF (256 * a + x) b := rfl
theorem ofF_snoc (a : Int) (b : List Int) (x : Int) : ofF a (b ++ [x]) = 256 * ofF a b + x := by simp [ofF]
theorem pow_pos256 (k : Nat) : (0 : Int) < 256 ^ k := Int.pow_pos (by decide)
theorem mod_split (n : Int) (h : 0 ≤ n) (k : Nat) : n % 256 ^ (k + 1) = n / 256 ^ k % 256 * 256 ^ k + n % 256 ^ k := by
  obtain ⟨m, rfl⟩ := Int.eq_ofNat_of_zero_le h
  have e := Nat.mod_mul (a := 256 ^ k) (b := 256) (x := m)
  rw [← Nat.pow_succ] at e
  have e2 : ((m % 256 ^ (k + 1) : Nat) : Int) = ((m % 256 ^ k + 256 ^ k * (m / 256 ^ k % 256) : Nat) : Int) := by rw [e]
  simp only [Int.natCast_emod, Int.natCast_add, Int.natCast_mul, Int.natCast_pow, Int.natCast_ediv] at e2
  rw [show ((256 : Nat) : Int) = 256 from rfl] at e2
  rw [e2, Int.mul_comm (m / 256 ^ k % 256 : Int), Int.add_comm]
theorem ofF_beL (a n : Int) (h : 0 ≤ n) (k : Nat) : ofF a (beL n k) = a * 256 ^ k + n % 256 ^ k := by
  induction k generalizing a with
  | zero => simp [beL, ofF, Int.emod_one]
  | succ k ih =>
    have e : ofF a (beL n (k + 1)) = ofF (256 * a + n / 256 ^ k % 256) (beL n k) := rfl
    rw [e, ih, mod_split n h k, Int.add_mul, Int.pow_succ, Int.mul_comm 256 a, Int.mul_assoc, Int.mul_comm 256, ← Int.add_assoc]
theorem ofF_range (a : Int) (b : List Int) (hb : Byt b) (ha : 0 ≤ a) : 0 ≤ ofF a b ∧ ofF a b < (a + 1) * 256 ^ b.length := by
  induction b generalizing a with
  | nil => simp [ofF]; omega
  | cons x b ih =>
    have hx := hb x (by simp)
    have h := ih (256 * a + x) (fun y hy => hb y (by simp [hy])) (by omega)
    rw [ofF_cons]
    refine ⟨h.1, Int.lt_of_lt_of_le h.2 ?_⟩
    rw [List.length_cons, Int.pow_succ, Int.mul_comm (256 ^ b.length), ← Int.mul_assoc]
    exact Int.mul_le_mul_of_nonneg_right (by omega) (Int.le_of_lt (pow_pos256 _))

/-- which class a number is of; 4: it is too great -/
def vcls (n : Int) : Nat := if n ≤ 63 then 0 else if n ≤ 16383 then 1 else if n ≤ 1073741823 then 2 else if n ≤ 4611686018427387903 then 3 else 4
/-- a number's bytes, of class c -/
def vputC (n : Int) (c : Nat) : List Int := (n / 256 ^ (2 ^ c - 1) % 256 + 64 * c) :: beL n (2 ^ c - 1)
def vput (n : Int) : List Int := vputC n (vcls n)
theorem vputC_len (n : Int) (c : Nat) : (vputC n c).length = 2 ^ c := by
  have := Nat.two_pow_pos c
  simp [vputC, beL_len]; omega
theorem vput_len (n : Int) : (vput n).length = 2 ^ vcls n := vputC_len n _
/-- a number that is read, and of how many bytes -/
def vtake : List Int → Option (Int × Nat)
  | [] => none
  | x :: r => if (x :: r).length < 2 ^ (x / 64).toNat then none else some (ofF (x % 64) (r.take (2 ^ (x / 64).toNat - 1)), 2 ^ (x / 64).toNat)
theorem vtake_cons (x : Int) (r : List Int) : vtake (x :: r) = if (x :: r).length < 2 ^ (x / 64).toNat then none else some (ofF (x % 64) (r.take (2 ^ (x / 64).toNat - 1)), 2 ^ (x / 64).toNat) := rfl
theorem vtop {n : Int} (h0 : 0 ≤ n) (hc : vcls n < 4) : n / 256 ^ (2 ^ vcls n - 1) < 64 := by
  unfold vcls at *
  split
  · simp; omega
  · split
    · simp; omega
    · split
      · simp; omega
      · split
        · simp; omega
        · rename_i h1 h2 h3 h4
          rw [if_neg h1, if_neg h2, if_neg h3, if_neg h4] at hc
          omega
theorem vput_byt {n : Int} (h0 : 0 ≤ n) (hc : vcls n < 4) : Byt (vput n) := by
  have ht := vtop h0 hc
  have h1 : 0 ≤ n / 256 ^ (2 ^ vcls n - 1) := Int.ediv_nonneg h0 (Int.le_of_lt (pow_pos256 _))
  exact Byt.cons (by omega) (beL_byt _ _)
theorem vtake_vput {n : Int} (h0 : 0 ≤ n) (hc : vcls n < 4) (r : List Int) : vtake (vput n ++ r) = some (n, 2 ^ vcls n) := by
  have ht := vtop h0 hc
  have h1 : 0 ≤ n / 256 ^ (2 ^ vcls n - 1) := Int.ediv_nonneg h0 (Int.le_of_lt (pow_pos256 _))
  have hp := Nat.two_pow_pos (vcls n)
  unfold vput vputC
  rw [List.cons_append, vtake_cons]
  have e1 : ((n / 256 ^ (2 ^ vcls n - 1) % 256 + 64 * (vcls n : Int)) / 64).toNat = vcls n := by omega
  have e2 : (n / 256 ^ (2 ^ vcls n - 1) % 256 + 64 * (vcls n : Int)) % 64 = n / 256 ^ (2 ^ vcls n - 1) := by omega
  rw [e1, e2, if_neg (by simp [beL_len]; omega)]
  congr 2
  rw [List.take_append_of_le_length (by rw [beL_len]; omega), List.take_of_length_le (by rw [beL_len]; omega), ofF_beL _ _ h0]
  have := Int.mul_ediv_add_emod n (256 ^ (2 ^ vcls n - 1))
  rw [Int.mul_comm] at this
  exact this
theorem vtake_append {b : List Int} {x : Int × Nat} (h : vtake b = some x) (r : List Int) : vtake (b ++ r) = some x ∧ 1 ≤ x.2 ∧ x.2 ≤ b.length := by
  cases b with
  | nil => cases h
  | cons y b =>
    rw [vtake_cons] at h
    split at h
    · cases h
    · rename_i hl
      injection h with h
      have hp := Nat.two_pow_pos (y / 64).toNat
      subst h
      simp only [List.length_cons] at hl
      refine ⟨?_, hp, by simp only [List.length_cons]; omega⟩
      rw [List.cons_append, vtake_cons]
      rw [if_neg (by simp; omega), List.take_append_of_le_length (by omega)]
theorem vtake_nonneg {b : List Int} (hb : Byt b) {x : Int × Nat} (h : vtake b = some x) : 0 ≤ x.1 ∧ x.1 < 18446744073709551616 := by
  cases b with
  | nil => cases h
  | cons y b =>
    have hy := hb y (by simp)
    rw [vtake_cons] at h
    split at h
    · cases h
    · rename_i hl
      injection h with h
      subst h
      have h1 := ofF_range (y % 64) (b.take (2 ^ (y / 64).toNat - 1)) (fun z hz => hb z (by simp [List.mem_of_mem_take hz])) (by omega)
      refine ⟨h1.1, Int.lt_of_lt_of_le h1.2 ?_⟩
      simp only [List.length_cons] at hl
      have hlen : (b.take (2 ^ (y / 64).toNat - 1)).length = 2 ^ (y / 64).toNat - 1 := by rw [List.length_take]; omega
      rw [hlen]
      have h4 : (y / 64).toNat = 0 ∨ (y / 64).toNat = 1 ∨ (y / 64).toNat = 2 ∨ (y / 64).toNat = 3 := by omega
      rcases h4 with h4 | h4 | h4 | h4 <;> rw [h4] <;> simp <;> omega

/-- a packet's head -/
structure HD where
  space : Int
  dst : List Int
  src : List Int
  tok : List Int
  phase : Bool
  pn : Int
  pb : Int
/-- as its types say -/
def HD.Fit (h : HD) : Prop := 0 ≤ h.space ∧ h.space < 256 ∧ Byt h.dst ∧ Byt h.src ∧ Byt h.tok ∧ 0 ≤ h.pn ∧ h.pn < 18446744073709551616
def HD.May (h : HD) : Prop := h.space ≤ 2 ∧ h.dst.length ≤ 20 ∧ h.src.length ≤ 20 ∧ 1 ≤ h.pb ∧ h.pb ≤ 4 ∧ h.pn ≤ 4611686018427387903 ∧ (h.space ≠ 0 → h.tok.length = 0) ∧ (h.space = 2 → h.src.length = 0) ∧ (h.space ≠ 2 → h.phase = false)
def HD.first (h : HD) : Int := if h.space = 2 then (if h.phase then 68 else 64) + (h.pb - 1) else (if h.space = 1 then 224 else 192) + (h.pb - 1)
/-- the bytes behind the first one -/
def HD.rest (h : HD) (n : Int) : List Int :=
  if h.space = 2 then h.dst ++ beL h.pn h.pb.toNat
  else [0, 0, 0, 1, (h.dst.length : Int)] ++ h.dst ++ [(h.src.length : Int)] ++ h.src ++ (if h.space = 0 then vput h.tok.length ++ h.tok else []) ++ vput (h.pb + n) ++ beL h.pn h.pb.toNat
def HD.put (h : HD) (n : Int) : List Int := h.first :: h.rest n
/-- a packet as it comes -/
structure PartL where
  space : Int
  dst : List Int
  src : List Int
  tok : List Int
  at_ : Nat
  fin : Nat
def cidL : List Int → Option (List Int × List Int)
  | [] => none
  | n :: r => if 20 < n ∨ (r.length : Int) < n then none else some (r.take n.toNat, r.drop n.toNat)
def tokL (k : Int) (r : List Int) : Option (List Int × List Int) :=
  if k = 0 then (vtake r).bind fun v => if ((r.drop v.2).length : Int) < v.1 then none else some ((r.drop v.2).take v.1.toNat, (r.drop v.2).drop v.1.toNat)
  else some ([], r)
def endL (b : List Int) (k : Int) (d s t : List Int) (r : List Int) : Option PartL :=
  (vtake r).bind fun v => if v.1 < 20 ∨ ((r.drop v.2).length : Int) < v.1 then none else some ⟨k / 2, d, s, t, b.length - (r.drop v.2).length, b.length - (r.drop v.2).length + v.1.toNat⟩
def longL (b : List Int) : Option PartL :=
  if b.length < 5 ∨ (b.drop 1).take 4 ≠ [0, 0, 0, 1] ∨ (b.getD 0 0 / 16 % 4 ≠ 0 ∧ b.getD 0 0 / 16 % 4 ≠ 2) then none
  else (cidL (b.drop 5)).bind fun d => (cidL d.2).bind fun s => (tokL (b.getD 0 0 / 16 % 4) s.2).bind fun t => endL b (b.getD 0 0 / 16 % 4) d.1 s.1 t.1 t.2
def splitL (b : List Int) (own : Int) : Option PartL :=
  if b.length = 0 ∨ b.getD 0 0 / 64 % 2 = 0 then none
  else if 128 ≤ b.getD 0 0 then longL b
  else if own < 0 ∨ 20 < own ∨ (b.length : Int) - 1 - own < 20 then none
  else some ⟨2, (b.drop 1).take own.toNat, [], [], 1 + own.toNat, b.length⟩

theorem cidL_cons (n : Int) (r : List Int) : cidL (n :: r) = if 20 < n ∨ (r.length : Int) < n then none else some (r.take n.toNat, r.drop n.toNat) := rfl
theorem cidL_append {b : List Int} {x : List Int × List Int} (h : cidL b = some x) (hb : Byt b) (r : List Int) : cidL (b ++ r) = some (x.1, x.2 ++ r) ∧ x.1.length ≤ 20 ∧ Byt x.1 ∧ Byt x.2 ∧ b.length = 1 + x.1.length + x.2.length := by
  cases b with
  | nil => cases h
  | cons n b =>
    have hn := hb n (by simp)
    have hb' : Byt b := fun y hy => hb y (by simp [hy])
    rw [cidL_cons] at h
    split at h
    · cases h
    · rename_i hl
      injection h with h
      subst h
      rw [List.cons_append, cidL_cons]
      rw [if_neg (by simp; omega), List.take_append_of_le_length (by omega), List.drop_append_of_le_length (by omega)]
      refine ⟨rfl, by simp; omega, hb'.take _, hb'.drop _, ?_⟩
      simp only [List.length_cons, List.length_take, List.length_drop]
      omega
theorem tokL_append {k : Int} {b : List Int} {x : List Int × List Int} (h : tokL k b = some x) (hb : Byt b) (r : List Int) : tokL k (b ++ r) = some (x.1, x.2 ++ r) ∧ Byt x.1 ∧ Byt x.2 ∧ x.2.length ≤ b.length := by
  unfold tokL at *
  by_cases hk : k = 0
  · rw [if_pos hk] at h ⊢
    cases hv : vtake b with
    | none => rw [hv] at h; cases h
    | some v =>
      obtain ⟨v1, v2, v3⟩ := vtake_append hv r
      have v4 := vtake_nonneg hb hv
      rw [hv] at h
      simp only [Option.bind_some] at h
      rw [v1]
      simp only [Option.bind_some]
      split at h
      · cases h
      · rename_i hl
        injection h with h
        subst h
        rw [List.drop_append_of_le_length (by omega)]
        rw [if_neg (by rw [List.length_append]; omega), List.take_append_of_le_length (by omega), List.drop_append_of_le_length (by omega)]
        exact ⟨rfl, (hb.drop _).take _, (hb.drop _).drop _, by simp only [List.length_drop]; omega⟩
  · rw [if_neg hk] at h ⊢
    injection h with h
    subst h
    exact ⟨rfl, Byt.nil, hb, Nat.le_refl _⟩
theorem endL_append {c b : List Int} {k : Int} {d s t : List Int} {p : PartL} (h : endL b k d s t c = some p) (hb : Byt c) (hl : c.length ≤ b.length) (r : List Int) : endL (b ++ r) k d s t (c ++ r) = some p ∧ p.fin ≤ b.length := by
  unfold endL at *
  cases hv : vtake c with
  | none => rw [hv] at h; cases h
  | some v =>
    obtain ⟨v1, v2, v3⟩ := vtake_append hv r
    have v4 := vtake_nonneg hb hv
    rw [hv] at h
    simp only [Option.bind_some] at h
    rw [v1]
    simp only [Option.bind_some]
    split at h
    · cases h
    · rename_i hl
      injection h with h
      subst h
      rw [List.drop_append_of_le_length (by omega), if_neg (by rw [List.length_append]; omega)]
      simp only [List.length_append, List.length_drop] at *
      refine ⟨?_, by omega⟩
      congr 2 <;> omega
theorem longL_append {b : List Int} {p : PartL} (h : longL b = some p) (hb : Byt b) (r : List Int) : longL (b ++ r) = some p ∧ p.fin ≤ b.length := by
  unfold longL at *
  split at h
  · cases h
  · rename_i hc
    have h5 : 5 ≤ b.length := by omega
    have e0 : (b ++ r).getD 0 0 = b.getD 0 0 := by
      rw [List.getD_eq_getElem?_getD, List.getD_eq_getElem?_getD, List.getElem?_append_left (by omega)]
    have e1 : ((b ++ r).drop 1).take 4 = (b.drop 1).take 4 := by
      rw [List.drop_append_of_le_length (by omega), List.take_append_of_le_length (by simp; omega)]
    rw [e0, e1, if_neg (fun hh => hc (hh.imp (fun h => by rw [List.length_append] at h; omega) id)), List.drop_append_of_le_length h5]
    cases hd : cidL (b.drop 5) with
    | none => rw [hd] at h; cases h
    | some d =>
      obtain ⟨d1, _, _, d2, d3⟩ := cidL_append hd (hb.drop 5) r
      rw [hd] at h
      rw [d1]
      simp only [Option.bind_some] at h ⊢
      cases hs : cidL d.2 with
      | none => rw [hs] at h; cases h
      | some s =>
        obtain ⟨s1, _, _, s2, s3⟩ := cidL_append hs d2 r
        rw [hs] at h
        rw [s1]
        simp only [Option.bind_some] at h ⊢
        cases ht : tokL (b.getD 0 0 / 16 % 4) s.2 with
        | none => rw [ht] at h; cases h
        | some t =>
          obtain ⟨t1, _, t2, t3⟩ := tokL_append ht s2 r
          rw [ht] at h
          rw [t1]
          simp only [Option.bind_some] at h ⊢
          exact endL_append h t2 (by simp at d3; omega) r
/-- what was put, is split as it was -/
theorem put_long {h : HD} (hf : h.Fit) (hm : h.May) (hs : h.space ≠ 2) (x : Int) (load behind : List Int) (hx : x / 16 = h.first / 16) (h20 : 20 ≤ h.pb + load.length) (hlen : load.length ≤ 65536) (htok : h.tok.length ≤ 4611686018427387903) (own : Int) :
    splitL (x :: (h.rest load.length ++ (load ++ behind))) own = some ⟨h.space, h.dst, h.src, h.tok, 1 + (h.rest load.length).length - h.pb.toNat, 1 + (h.rest load.length).length + load.length⟩ := by
  obtain ⟨f1, f2, f3, f4, f5, f6, f7⟩ := hf
  obtain ⟨m1, m2, m3, m4, m5, m6, m7, m8, m9⟩ := hm
  have hsp : h.space = 0 ∨ h.space = 1 := by omega
  have hfirst : h.first / 16 = (if h.space = 1 then 14 else 12) := by
    unfold HD.first; rw [if_neg hs]; split <;> omega
  rw [hfirst] at hx
  have hx2 : x / 64 % 2 = 1 ∧ 128 ≤ x ∧ x / 16 % 4 = 2 * h.space := by
    rcases hsp with e | e <;> rw [e] at hx ⊢ <;> simp at hx ⊢ <;> omega
  obtain ⟨hx3, hx4, hx5⟩ := hx2
  have hc1 : vcls (h.pb + load.length) < 4 := by unfold vcls; split <;> (try split) <;> (try split) <;> (try split) <;> omega
  have hc2 : vcls (h.tok.length : Int) < 4 := by unfold vcls; split <;> (try split) <;> (try split) <;> (try split) <;> omega
  unfold splitL
  rw [List.getD_cons_zero, if_neg (by simp; omega), if_pos hx4]
  unfold longL
  have er : h.rest load.length = [0, 0, 0, 1, (h.dst.length : Int)] ++ h.dst ++ [(h.src.length : Int)] ++ h.src ++ (if h.space = 0 then vput h.tok.length ++ h.tok else []) ++ vput (h.pb + load.length) ++ beL h.pn h.pb.toNat := by
    unfold HD.rest; rw [if_neg hs]
  generalize hR : h.rest load.length = R at *
  rw [List.getD_cons_zero, hx5]
  have eb : x :: (R ++ (load ++ behind)) = [x, 0, 0, 0, 1] ++ ((h.dst.length : Int) :: (h.dst ++ ((h.src.length : Int) :: (h.src ++ ((if h.space = 0 then vput h.tok.length ++ h.tok else []) ++ (vput (h.pb + load.length) ++ (beL h.pn h.pb.toNat ++ (load ++ behind)))))))) := by
    rw [er]; simp only [List.append_assoc, List.cons_append, List.nil_append]
  have e5 : (x :: (R ++ (load ++ behind))).drop 5 = (h.dst.length : Int) :: (h.dst ++ ((h.src.length : Int) :: (h.src ++ ((if h.space = 0 then vput h.tok.length ++ h.tok else []) ++ (vput (h.pb + load.length) ++ (beL h.pn h.pb.toNat ++ (load ++ behind))))))) := by
    rw [eb]; rfl
  have e4 : ((x :: (R ++ (load ++ behind))).drop 1).take 4 = [0, 0, 0, 1] := by rw [eb]; rfl
  have el : (x :: (R ++ (load ++ behind))).length = 1 + R.length + load.length + behind.length := by simp; omega
  have e5l : 5 ≤ (x :: (R ++ (load ++ behind))).length := by rw [eb]; simp only [List.length_append, List.length_cons, List.length_nil]; omega
  have elR : R.length = 5 + h.dst.length + 1 + h.src.length + (if h.space = 0 then vput h.tok.length ++ h.tok else []).length + (vput (h.pb + load.length)).length + h.pb.toNat := by
    rw [er]; simp only [List.length_append, List.length_cons, List.length_nil, beL_len] <;> omega
  rw [e4, e5, if_neg (by rcases hsp with e | e <;> rw [e] <;> simp <;> omega)]
  generalize hB : x :: (R ++ (load ++ behind)) = B at *
  have cid_put : ∀ (d r : List Int), d.length ≤ 20 → cidL ((d.length : Int) :: (d ++ r)) = some (d, r) := by
    intro d r hd
    rw [cidL_cons, if_neg (by simp; omega), Int.toNat_natCast, List.take_left, List.drop_left]
  rw [cid_put _ _ m2]
  simp only [Option.bind_some]
  rw [cid_put _ _ m3]
  simp only [Option.bind_some]
  have htk : ∀ r, tokL (2 * h.space) ((if h.space = 0 then vput h.tok.length ++ h.tok else []) ++ r) = some (h.tok, r) := by
    intro r
    unfold tokL
    rcases hsp with e | e
    · rw [e]
      simp only [Int.mul_zero, if_true]
      rw [List.append_assoc, vtake_vput (by omega) hc2]
      simp only [Option.bind_some]
      have ed : ((vput h.tok.length ++ (h.tok ++ r)).drop (2 ^ vcls (h.tok.length : Int))) = h.tok ++ r := by
        rw [← vput_len, List.drop_left]
      rw [ed, if_neg (by simp; omega), Int.toNat_natCast, List.take_left, List.drop_left]
    · have : h.tok = [] := List.eq_nil_of_length_eq_zero (m7 (by omega))
      rw [e, this]
      simp
  rw [htk]
  simp only [Option.bind_some]
  unfold endL
  rw [vtake_vput (by omega) hc1]
  simp only [Option.bind_some]
  have ed : ((vput (h.pb + load.length) ++ (beL h.pn h.pb.toNat ++ (load ++ behind))).drop (2 ^ vcls (h.pb + load.length))) = beL h.pn h.pb.toNat ++ (load ++ behind) := by
    rw [← vput_len, List.drop_left]
  rw [ed, if_neg (by simp [beL_len]; omega)]
  have el2 : (beL h.pn h.pb.toNat ++ (load ++ behind)).length = h.pb.toNat + load.length + behind.length := by simp [beL_len]; omega
  rw [el2, el]
  congr 2
  · omega
  · omega
  · omega
theorem put_short {h : HD} (hm : h.May) (hs : h.space = 2) (x : Int) (load : List Int) (hx : x / 32 = h.first / 32) (h20 : 20 ≤ h.pb + load.length) :
    splitL (x :: (h.rest load.length ++ load)) h.dst.length = some ⟨2, h.dst, [], [], 1 + (h.rest load.length).length - h.pb.toNat, 1 + (h.rest load.length).length + load.length⟩ := by
  obtain ⟨m1, m2, m3, m4, m5, m6, m7, m8, m9⟩ := hm
  have hfirst : h.first / 32 = 2 := by
    unfold HD.first; rw [if_pos hs]; split <;> omega
  rw [hfirst] at hx
  have er : h.rest load.length = h.dst ++ beL h.pn h.pb.toNat := by unfold HD.rest; rw [if_pos hs]
  rw [er]
  unfold splitL
  rw [List.getD_cons_zero, if_neg (by simp; omega), if_neg (by omega), if_neg (by simp [beL_len]; omega), Int.toNat_natCast]
  simp only [List.drop_succ_cons, List.drop_zero, List.append_assoc, List.take_left, List.length_cons, List.length_append, beL_len]
  congr 2
  · omega
  · omega
/-- cut short, it is none -/
theorem cut_long {h : HD} (hf : h.Fit) (hm : h.May) (hs : h.space ≠ 2) (load : List Int) (hl : Byt load) (h20 : 20 ≤ h.pb + load.length) (hlen : load.length ≤ 65536) (htok : h.tok.length ≤ 4611686018427387903) (own : Int) (cut : Nat)
    (hc : cut < (h.put load.length ++ load).length) (hb : Byt (h.put load.length)) : splitL ((h.put load.length ++ load).take cut) own = none := by
  have hw := put_long hf hm hs h.first load [] rfl h20 hlen htok own
  have e0 : h.first :: (h.rest load.length ++ (load ++ [])) = h.put load.length ++ load := by unfold HD.put; simp
  rw [e0] at hw
  have elen : (h.put load.length ++ load).length = 1 + (h.rest load.length).length + load.length := by simp [HD.put]; omega
  have hbb : Byt (h.put load.length ++ load) := hb.append hl
  generalize h.put load.length ++ load = b at *
  cases hp : splitL (b.take cut) own with
  | none => rfl
  | some p =>
    exfalso
    unfold splitL at hp hw
    split at hp
    · cases hp
    · rename_i h1
      have hcut : 0 < cut := by
        rcases Nat.eq_zero_or_pos cut with g | g
        · subst g; simp at h1
        · exact g
      have e1 : (b.take cut).getD 0 0 = b.getD 0 0 := by
        rw [List.getD_eq_getElem?_getD, List.getD_eq_getElem?_getD, List.getElem?_take, if_pos hcut]
      rw [e1] at hp h1
      rw [if_neg (by omega)] at hw
      have hlong : 128 ≤ b.getD 0 0 := by
        by_cases g : 128 ≤ b.getD 0 0
        · exact g
        · rw [if_neg g] at hw
          split at hw
          · cases hw
          · injection hw with hw
            have := congrArg PartL.space hw
            simp only at this
            omega
      rw [if_pos hlong] at hp hw
      obtain ⟨q1, q2⟩ := longL_append hp (hbb.take cut) (b.drop cut)
      rw [List.take_append_drop, hw] at q1
      injection q1 with q1
      subst q1
      simp at q2
      omega
theorem rest_byt {h : HD} (hf : h.Fit) (hm : h.May) (n : Int) (hn : 0 ≤ n) (hn2 : n ≤ 65536) (htok : h.tok.length ≤ 4611686018427387903) : Byt (h.rest n) := by
  obtain ⟨f1, f2, f3, f4, f5, f6, f7⟩ := hf
  obtain ⟨m1, m2, m3, m4, m5, m6, m7, m8, m9⟩ := hm
  have hc1 : vcls (h.pb + n) < 4 := by unfold vcls; split <;> (try split) <;> (try split) <;> (try split) <;> omega
  have hc2 : vcls (h.tok.length : Int) < 4 := by unfold vcls; split <;> (try split) <;> (try split) <;> (try split) <;> omega
  unfold HD.rest
  split
  · exact f3.append (beL_byt _ _)
  · refine Byt.append (Byt.append (Byt.append (Byt.append (Byt.append (Byt.append ?_ f3) ?_) f4) ?_) (vput_byt (by omega) hc1)) (beL_byt _ _)
    · intro x hx; simp at hx; omega
    · intro x hx; simp at hx; omega
    · split
      · exact (vput_byt (by omega) hc2).append f5
      · exact Byt.nil
theorem put_byt {h : HD} (hf : h.Fit) (hm : h.May) (n : Int) (hn : 0 ≤ n) (hn2 : n ≤ 65536) (htok : h.tok.length ≤ 4611686018427387903) : Byt (h.put n) := by
  refine Byt.cons ?_ (rest_byt hf hm n hn hn2 htok)
  obtain ⟨m1, m2, m3, m4, m5, m6, m7, m8, m9⟩ := hm
  unfold HD.first
  split <;> split <;> omega
end Go.Proofs.Ythpacdondnenmaa
/- Contracts (layers 1 and 3): types, Bits, width, class, number. Conditions: as each theorem states them. -/
namespace Go.Proofs.Ythpacdondnenmaa
open Go.RowKit
theorem elUh : ElT Try.prog 28 5 .u8 1 := ⟨Try.underlying28, Try.underlying5, by kernel_rfl, by decide⟩
theorem types_any (x : Int) (w : World) : Calls Try.prog 53 #[.int .u8 x] w fun e w' => e = .returned (.int .u8 (if x = 1 then 2 else 0)) ∧ w = w' := by
  by_cases h : x = 1
  · subst h
    go_enter Try.func53, Try.ntmps53
    go_wp2_with fail
    go_ret
    exact ⟨rfl, rfl⟩
  · have h' : decide (x = 1) = false := by simp [h]
    go_enter Try.func53, Try.ntmps53
    go_wp2_with fail
    go_ret
    exact ⟨ret_int (by first | rfl | simp [h]), rfl⟩
def bitsV (x : Int) : Int := if x = 2 then 31 else 15
theorem bits_any (x : Int) (w : World) : Calls Try.prog 28 #[.int .u8 x] w fun e w' => e = .returned (.int .u8 (bitsV x)) ∧ w = w' := by
  unfold bitsV
  by_cases h : x = 2
  · subst h
    go_enter Try.func28, Try.ntmps28
    go_wp2_with fail
    go_ret
    exact ⟨rfl, rfl⟩
  · have h' : decide (x = 2) = false := by simp [h]
    go_enter Try.func28, Try.ntmps28
    go_wp2_with fail
    go_ret
    exact ⟨ret_int (by first | rfl | simp [h]), rfl⟩
theorem width_any (c : Nat) (hc : c ≤ 3) (w : World) : Calls Try.prog 76 #[.int .i64 c] w fun e w' => e = .returned (.int .i64 ((2 ^ c : Nat) : Int)) ∧ w = w' := by
  rcases (show c = 0 ∨ c = 1 ∨ c = 2 ∨ c = 3 by omega) with rfl | rfl | rfl | rfl
  all_goals
    go_enter Try.func76, Try.ntmps76
    go_wp2_with fail
    go_ret
    exact ⟨rfl, rfl⟩
theorem vcls_le (n : Int) : vcls n ≤ 4 := by unfold vcls; split <;> (try split) <;> (try split) <;> (try split) <;> omega
theorem vcls_gt (n : Int) : (0 < vcls n ↔ 63 < n) ∧ (1 < vcls n ↔ 16383 < n) ∧ (2 < vcls n ↔ 1073741823 < n) ∧ (3 < vcls n ↔ 4611686018427387903 < n) := by
  unfold vcls; split <;> (try split) <;> (try split) <;> (try split) <;> omega
set_option maxHeartbeats 1000000 in
theorem class_any (n : Int) (w : World) : Calls Try.prog 75 #[.int .u64 n] w fun e w' => e = .returned (.int .i64 (vcls n : Nat)) ∧ w = w' := by
  have h4 := vcls_le n
  have hg := vcls_gt n
  generalize hv : vcls n = v at *
  clear hv
  obtain ⟨g0, g1, g2, g3⟩ := hg
  have G0 := Lib.hid g0
  have G1 := Lib.hid g1
  have G2 := Lib.hid g2
  have G3 := Lib.hid g3
  clear g0 g1 g2 g3
  go_enter Try.func75, Try.ntmps75
  go_wp2_with fail
  go_loop [3] (fun s => ∃ c : Nat, s = .int .i64 c ∧ c ≤ v) (fun s => 4 - (intOf s).toNat)
  case atStart => exact ⟨0, rfl, by omega⟩
  case round =>
    obtain ⟨c, rfl, hc⟩ := hrel
    rcases (show c = 0 ∨ c = 1 ∨ c = 2 ∨ c = 3 ∨ c = 4 by omega) with rfl | rfl | rfl | rfl | rfl
    · by_cases h : 63 < n
      · have := G0.out.2 h
        go_wp2_with fail
        go_round
        case rel => exact ⟨1, rfl, by omega⟩
        case measure => simp [intOf]
      · have h' : decide (63 < n) = false := by simp; omega
        have h2 : ¬ (0 < v) := fun h2 => h (G0.out.1 h2)
        obtain rfl : v = 0 := by omega
        go_wp2_with fail
        go_ret
        exact ⟨rfl, rfl⟩
    · by_cases h : 16383 < n
      · have := G1.out.2 h
        go_wp2_with fail
        go_round
        case rel => exact ⟨2, rfl, by omega⟩
        case measure => simp [intOf]
      · have h' : decide (16383 < n) = false := by simp; omega
        have h2 : ¬ (1 < v) := fun h2 => h (G1.out.1 h2)
        obtain rfl : v = 1 := by omega
        go_wp2_with fail
        go_ret
        exact ⟨rfl, rfl⟩
    · by_cases h : 1073741823 < n
      · have := G2.out.2 h
        go_wp2_with fail
        go_round
        case rel => exact ⟨3, rfl, by omega⟩
        case measure => simp [intOf]
      · have h' : decide (1073741823 < n) = false := by simp; omega
        have h2 : ¬ (2 < v) := fun h2 => h (G2.out.1 h2)
        obtain rfl : v = 2 := by omega
        go_wp2_with fail
        go_ret
        exact ⟨rfl, rfl⟩
    · by_cases h : 4611686018427387903 < n
      · have := G3.out.2 h
        go_wp2_with fail
        go_round
        case rel => exact ⟨4, rfl, by omega⟩
        case measure => simp [intOf]
      · have h' : decide (4611686018427387903 < n) = false := by simp; omega
        have h2 : ¬ (3 < v) := fun h2 => h (G3.out.1 h2)
        obtain rfl : v = 3 := by omega
        go_wp2_with fail
        go_ret
        exact ⟨rfl, rfl⟩
    · obtain rfl : v = 4 := by omega
      go_wp2_with fail
      go_ret
      exact ⟨rfl, rfl⟩

set_option maxRecDepth 100000 in
set_option maxHeartbeats 2000000 in
theorem number_any (n : Int) (k : Nat) (w : World) (h0 : 0 ≤ n) (h1 : n < 18446744073709551616) (hk : k ≤ 8) : Calls Try.prog 52 #[.int .u64 n, .int .i64 k] w (RetOwn 5 .u8 (beL n k) w) := by
  go_enter Try.func52, Try.ntmps52
  go_wp2_with fail
  go_loopw [5, 6] (fun b i wr => ∃ (r : Nat) (A : Option Addr) (m c : Nat) (acc : List Int), r ≤ k ∧ i = .int .i64 ((r : Int) - 1) ∧ b = .slice A m c ∧ acc.length ≤ 8 ∧ Hid (Own w.heap.size 5 .u8 wr A m c acc) ∧ Hid (acc.length + r = k) ∧ Hid (acc ++ beL n r = beL n k) ∧ Hid (Below w.heap.size w wr)) (fun _ i _ => (intOf i + 1).toNat)
  case atStart => exact ⟨k, none, 0, 0, [], by omega, rfl, rfl, by simp, Lib.hid (Own.nil _ _ _ _), Lib.hid (by simp), Lib.hid rfl, Lib.hid (Below.refl _ _)⟩
  case round =>
    obtain ⟨r, A, m, c, acc, hr, rfl, rfl, hacc, HO, HL, HE, HB⟩ := hrel
    cases r with
    | zero =>
      go_wp2_with fail
      go_ret
      refine ⟨A, m, c, rfl, ?_, HB.out⟩
      have := HE.out
      simp only [beL, List.append_nil] at this
      rw [← this]
      exact HO.out
    | succ r =>
      obtain ⟨x, hx⟩ : ∃ x, x = n / 256 ^ r % 256 := ⟨_, rfl⟩
      have HX := Lib.hid hx
      have HE2 : Hid ((acc ++ [x]) ++ beL n r = beL n k) := Lib.hid (by rw [hx, ← HE.out]; simp [beL])
      have HL2 : Hid ((acc ++ [x]).length + r = k) := Lib.hid (by have := HL.out; simp; omega)
      have hl2 : Hid (acc.length + 1 ≤ 8) := Lib.hid (by have := HL.out; omega)
      have hxb : 0 ≤ x ∧ x < 256 := by omega
      obtain ⟨hx0, hx1⟩ := hxb
      clear hx
      have hsz := HB.out.size
      rcases (show r = 0 ∨ r = 1 ∨ r = 2 ∨ r = 3 ∨ r = 4 ∨ r = 5 ∨ r = 6 ∨ r = 7 by omega) with rfl | rfl | rfl | rfl | rfl | rfl | rfl | rfl
      · have hxx : n % 256 = x := by have := HX.out; omega
        go_wp2_with (at_builtin; refine wpList_app (o := ⟨some 20, _, _, _, _, _⟩) elUh rfl _ _ rfl rfl rfl (HO.out.alloc _) (Rd.newAt (xs := [x]) rfl rfl) rfl ?_ ?_ ?_; (have := hl2.out; simp; omega); (simp <;> omega); intro A5 n5 c5 w5 h5; have H5 := Lib.hid h5.1; have B5 := Lib.hid ((HB.out.alloc HB.out.size _).trans h5.2.2.1); clear h5)
        go_roundw
        case rel => exact ⟨_, A5, n5, c5, acc ++ [x], by omega, by go_num, rfl, by have := hl2.out; simp; omega, H5, HL2, HE2, B5⟩
        case measure => simp [intOf]
      · have hxx : n / 256 % 256 = x := by have := HX.out; omega
        go_wp2_with (at_builtin; refine wpList_app (o := ⟨some 20, _, _, _, _, _⟩) elUh rfl _ _ rfl rfl rfl (HO.out.alloc _) (Rd.newAt (xs := [x]) rfl rfl) rfl ?_ ?_ ?_; (have := hl2.out; simp; omega); (simp <;> omega); intro A5 n5 c5 w5 h5; have H5 := Lib.hid h5.1; have B5 := Lib.hid ((HB.out.alloc HB.out.size _).trans h5.2.2.1); clear h5)
        go_roundw
        case rel => exact ⟨_, A5, n5, c5, acc ++ [x], by omega, by go_num, rfl, by have := hl2.out; simp; omega, H5, HL2, HE2, B5⟩
        case measure => simp [intOf]
      · have hxx : n / 65536 % 256 = x := by have := HX.out; omega
        go_wp2_with (at_builtin; refine wpList_app (o := ⟨some 20, _, _, _, _, _⟩) elUh rfl _ _ rfl rfl rfl (HO.out.alloc _) (Rd.newAt (xs := [x]) rfl rfl) rfl ?_ ?_ ?_; (have := hl2.out; simp; omega); (simp <;> omega); intro A5 n5 c5 w5 h5; have H5 := Lib.hid h5.1; have B5 := Lib.hid ((HB.out.alloc HB.out.size _).trans h5.2.2.1); clear h5)
        go_roundw
        case rel => exact ⟨_, A5, n5, c5, acc ++ [x], by omega, by go_num, rfl, by have := hl2.out; simp; omega, H5, HL2, HE2, B5⟩
        case measure => simp [intOf]
      · have hxx : n / 16777216 % 256 = x := by have := HX.out; omega
        go_wp2_with (at_builtin; refine wpList_app (o := ⟨some 20, _, _, _, _, _⟩) elUh rfl _ _ rfl rfl rfl (HO.out.alloc _) (Rd.newAt (xs := [x]) rfl rfl) rfl ?_ ?_ ?_; (have := hl2.out; simp; omega); (simp <;> omega); intro A5 n5 c5 w5 h5; have H5 := Lib.hid h5.1; have B5 := Lib.hid ((HB.out.alloc HB.out.size _).trans h5.2.2.1); clear h5)
        go_roundw
        case rel => exact ⟨_, A5, n5, c5, acc ++ [x], by omega, by go_num, rfl, by have := hl2.out; simp; omega, H5, HL2, HE2, B5⟩
        case measure => simp [intOf]
      · have hxx : n / 4294967296 % 256 = x := by have := HX.out; omega
        go_wp2_with (at_builtin; refine wpList_app (o := ⟨some 20, _, _, _, _, _⟩) elUh rfl _ _ rfl rfl rfl (HO.out.alloc _) (Rd.newAt (xs := [x]) rfl rfl) rfl ?_ ?_ ?_; (have := hl2.out; simp; omega); (simp <;> omega); intro A5 n5 c5 w5 h5; have H5 := Lib.hid h5.1; have B5 := Lib.hid ((HB.out.alloc HB.out.size _).trans h5.2.2.1); clear h5)
        go_roundw
        case rel => exact ⟨_, A5, n5, c5, acc ++ [x], by omega, by go_num, rfl, by have := hl2.out; simp; omega, H5, HL2, HE2, B5⟩
        case measure => simp [intOf]
      · have hxx : n / 1099511627776 % 256 = x := by have := HX.out; omega
        go_wp2_with (at_builtin; refine wpList_app (o := ⟨some 20, _, _, _, _, _⟩) elUh rfl _ _ rfl rfl rfl (HO.out.alloc _) (Rd.newAt (xs := [x]) rfl rfl) rfl ?_ ?_ ?_; (have := hl2.out; simp; omega); (simp <;> omega); intro A5 n5 c5 w5 h5; have H5 := Lib.hid h5.1; have B5 := Lib.hid ((HB.out.alloc HB.out.size _).trans h5.2.2.1); clear h5)
        go_roundw
        case rel => exact ⟨_, A5, n5, c5, acc ++ [x], by omega, by go_num, rfl, by have := hl2.out; simp; omega, H5, HL2, HE2, B5⟩
        case measure => simp [intOf]
      · have hxx : n / 281474976710656 % 256 = x := by have := HX.out; omega
        go_wp2_with (at_builtin; refine wpList_app (o := ⟨some 20, _, _, _, _, _⟩) elUh rfl _ _ rfl rfl rfl (HO.out.alloc _) (Rd.newAt (xs := [x]) rfl rfl) rfl ?_ ?_ ?_; (have := hl2.out; simp; omega); (simp <;> omega); intro A5 n5 c5 w5 h5; have H5 := Lib.hid h5.1; have B5 := Lib.hid ((HB.out.alloc HB.out.size _).trans h5.2.2.1); clear h5)
        go_roundw
        case rel => exact ⟨_, A5, n5, c5, acc ++ [x], by omega, by go_num, rfl, by have := hl2.out; simp; omega, H5, HL2, HE2, B5⟩
        case measure => simp [intOf]
      · have hxx : n / 72057594037927936 = x := by have := HX.out; omega
        go_wp2_with (at_builtin; refine wpList_app (o := ⟨some 20, _, _, _, _, _⟩) elUh rfl _ _ rfl rfl rfl (HO.out.alloc _) (Rd.newAt (xs := [x]) rfl rfl) rfl ?_ ?_ ?_; (have := hl2.out; simp; omega); (simp <;> omega); intro A5 n5 c5 w5 h5; have H5 := Lib.hid h5.1; have B5 := Lib.hid ((HB.out.alloc HB.out.size _).trans h5.2.2.1); clear h5)
        go_roundw
        case rel => exact ⟨_, A5, n5, c5, acc ++ [x], by omega, by go_num, rfl, by have := hl2.out; simp; omega, H5, HL2, HE2, B5⟩
        case measure => simp [intOf]
end Go.Proofs.Ythpacdondnenmaa
/- Contracts (layer 1): varint.Take, varint.Append of one number. Conditions: as each theorem states them. -/
namespace Go.Proofs.Ythpacdondnenmaa
open Go.RowKit
theorem or64 {z y : Int} (h0 : 0 ≤ z) (h1 : z < 72057594037927936) (y0 : 0 ≤ y) (y1 : y < 256) : bits .or .u64 (z * 256) y = z * 256 + y := by
  rw [bits_or_u64' _ _ (by omega) (by omega) y0 (by omega)]
  obtain ⟨a, rfl⟩ := Int.eq_ofNat_of_zero_le h0
  obtain ⟨b, rfl⟩ := Int.eq_ofNat_of_zero_le y0
  have e : ((a : Int) * 256).toNat = a * 2 ^ 8 := by omega
  rw [e, Int.toNat_natCast, or_add (n := 8) (by omega)]
  omega
theorem or8hi {t : Int} {c : Nat} (h0 : 0 ≤ t) (h1 : t < 64) (hc : c ≤ 3) : bits .or .u8 t ((c : Int) * 64) = t + 64 * c := by
  rw [bits_or_u8' _ _ h0 (by omega) (by omega) (by omega)]
  obtain ⟨a, rfl⟩ := Int.eq_ofNat_of_zero_le h0
  have e : ((c : Int) * 64).toNat = c * 2 ^ 6 := by omega
  rw [e, Int.toNat_natCast, Nat.or_comm, or_add (n := 6) (by omega)]
  omega
theorem and63 {x : Int} (h0 : 0 ≤ x) (h1 : x < 256) : bits .and .u8 x 63 = x % 64 := by
  rw [bits_and_u8' _ _ h0 h1 (by omega) (by omega)]
  obtain ⟨a, rfl⟩ := Int.eq_ofNat_of_zero_le h0
  have e : (a : Int).toNat &&& (63 : Int).toNat = a % 2 ^ 6 := by
    rw [Int.toNat_natCast]; exact Nat.and_two_pow_sub_one_eq_mod a 6
  rw [e]; omega
def vtV : Option (Int × Nat) → Value
  | none => .tuple #[.int .u64 0, .int .i64 0, .bool false]
  | some v => .tuple #[.int .u64 v.1, .int .i64 (v.2 : Nat), .bool true]
theorem ofF_take {L : List Int} {j : Nat} (hj : j < L.length) (a : Int) : ofF a (L.take (j + 1)) = 256 * ofF a (L.take j) + L.getD j 0 := by
  rw [take_snoc_getD hj, ofF_snoc]
theorem pow_le_256 {j : Nat} (h : j ≤ 6) : (256 : Int) ^ j ≤ 281474976710656 := by
  rcases (show j = 0 ∨ j = 1 ∨ j = 2 ∨ j = 3 ∨ j = 4 ∨ j = 5 ∨ j = 6 by omega) with rfl | rfl | rfl | rfl | rfl | rfl | rfl <;> decide
set_option maxRecDepth 100000 in
set_option maxHeartbeats 2000000 in
theorem vtake_any (A : Option Addr) (cap : Nat) (xs : List Int) (w : World) (hr : Rd w.heap.size .u8 w A xs) (hb : Byt xs) (hc : xs.length ≤ cap) (hl : xs.length ≤ 1000000000000) :
    Calls Try.prog 108 #[.slice A xs.length cap] w fun e w' => e = .returned (vtV (vtake xs)) ∧ w = w' := by
  cases xs with
  | nil =>
    go_enter Try.func108, Try.ntmps108
    go_wp2_with fail
    go_ret3
    exact ⟨rfl, rfl⟩
  | cons x r =>
    have hx := hb x (by simp)
    have HV := Lib.hid (vtake_cons x r)
    have hcl : (x / 64).toNat ≤ 3 := by omega
    have hq4 : (2 : Nat) ^ (x / 64).toNat = 1 ∨ (2 : Nat) ^ (x / 64).toNat = 2 ∨ (2 : Nat) ^ (x / 64).toNat = 4 ∨ (2 : Nat) ^ (x / 64).toNat = 8 := by
      rcases (show (x / 64).toNat = 0 ∨ (x / 64).toNat = 1 ∨ (x / 64).toNat = 2 ∨ (x / 64).toNat = 3 by omega) with h | h | h | h <;> rw [h] <;> simp
    have HW := fun w => width_any (x / 64).toNat hcl w
    rw [show (((x / 64).toNat : Nat) : Int) = x / 64 by omega] at HW
    generalize (2 : Nat) ^ (x / 64).toNat = q at *
    have HW' := Lib.hid HW
    clear HW
    obtain ⟨ad, rfl, _⟩ := hr.isSome (by simp)
    have c0 := hr.at0 (by simp)
    rw [List.getD_cons_zero] at c0
    have HX63 := and63 hx.1 hx.2
    obtain ⟨hx0, hx1⟩ := hx
    have hq8 : 1 ≤ q ∧ q ≤ 8 := by omega
    obtain ⟨hq1, hq8⟩ := hq8
    have hL1 : 0 < (x :: r).length := by simp
    by_cases hlen : (x :: r).length < q
    · rw [if_pos hlen] at HV
      generalize hL : (x :: r).length = L at *
      clear hL hq4
      have hL0 : L ≠ 0 := by omega
      go_enter Try.func108, Try.ntmps108
      go_wp2_with fail
      refine (HW'.out _).mono ?_
      rintro e w' ⟨rfl, rfl⟩
      go_wp2_with fail
      go_ret3
      exact ⟨by rw [HV.out]; rfl, rfl⟩
    · rw [if_neg hlen] at HV
      obtain ⟨A', c', hc1, hc2, hrd, hlen', hrun⟩ := slice_lh elUh hr hc 1 q (q - 1) (by omega) (by omega) (by omega) (by omega)
      have hdrop : ((x :: r).drop (1 : Int).toNat).take (q - 1) = r.take (q - 1) := rfl
      rw [hdrop] at hrd hlen'
      have HBL : Hid (Byt (r.take (q - 1))) := Lib.hid ((show Byt r from fun y hy => hb y (by simp [hy])).take _)
      generalize hL : (x :: r).length = L at *
      have hL0 : L ≠ 0 := by omega
      clear hL hr
      generalize r.take (q - 1) = l at *
      have HRD := Lib.hid hrd
      have HLL := Lib.hid hlen'
      clear hrd hlen' hq4 hdrop
      go_enter Try.func108, Try.ntmps108
      go_wp2_with fail
      refine (HW'.out _).mono ?_
      rintro e w' ⟨rfl, rfl⟩
      go_wp2_with fail
      go_loop [2, 29] (fun n i => ∃ (j : Nat) (z : Int), j ≤ q - 1 ∧ i = .int .i64 j ∧ n = .int .u64 z ∧ 0 ≤ z ∧ Hid (z = ofF (x % 64) (l.take j))) (fun _ i => q - (intOf i).toNat)
      case atStart => exact ⟨0, x % 64, by omega, rfl, rfl, by omega, Lib.hid (by simp [ofF])⟩
      case round =>
        obtain ⟨j, z, hj, rfl, rfl, hz0, HZ⟩ := hrel
        have hrg := ofF_range (x % 64) (l.take j) (HBL.out.take _) (by omega)
        rw [← HZ.out] at hrg
        have hlt : (l.take j).length = j := by rw [List.length_take, HLL.out]; omega
        rw [hlt] at hrg
        by_cases hjl : j < q - 1
        · have hp := pow_le_256 (j := j) (by omega)
          have hz1 : z < 18014398509481984 := by
            have h1 : (x % 64 + 1) * 256 ^ j ≤ 64 * 281474976710656 := Int.mul_le_mul (by omega) hp (Int.le_of_lt (pow_pos256 _)) (by omega)
            omega
          obtain ⟨ad2, hA2, _, hc'⟩ := HRD.out j (by rw [HLL.out]; exact hjl)
          have hy := HBL.out.getD j
          have HN : Hid (ofF (x % 64) (l.take (j + 1)) = z * 256 + l.getD j 0) := Lib.hid (by rw [ofF_take (by rw [HLL.out]; exact hjl), ← HZ.out]; omega)
          subst hA2
          clear hrg hlt hp
          generalize l.getD j 0 = y at *
          obtain ⟨hy0, hy1⟩ := hy
          have hor := or64 hz0 (by omega) hy0 hy1
          go_wp2_with fail
          go_round
          case rel => exact ⟨j + 1, z * 256 + y, by omega, by go_num, rfl, by omega, Lib.hid HN.out.symm⟩
          case measure => simp [intOf]; omega
        · have hjq : j = q - 1 := by omega
          have hlj : l.take j = l := List.take_of_length_le (by rw [HLL.out]; omega)
          rw [hlj] at HZ
          clear hrg hlt hlj
          go_wp2_with fail
          go_ret3
          exact ⟨by rw [HV.out, ← HZ.out]; rfl, rfl⟩
end Go.Proofs.Ythpacdondnenmaa
/- Contract (layer 1): varint.Append of one number. Conditions: as each theorem states them. -/
namespace Go.Proofs.Ythpacdondnenmaa
open Go.RowKit
theorem add_zero_addr2 (g i : Nat) : (⟨g, 0, none⟩ : Addr).add i = ⟨g, i, none⟩ := by unfold Addr.add; split <;> simp_all
theorem set_mid (xs l : List Int) (t v : Int) : (xs ++ t :: l).set xs.length v = xs ++ v :: l := by
  rw [List.set_append_right _ _ (Nat.le_refl _), Nat.sub_self, List.set_cons_zero]
theorem getD_mid (xs l : List Int) (t : Int) : (xs ++ t :: l).getD xs.length 0 = t := by
  rw [List.getD_eq_getElem?_getD, List.getElem?_append_right (Nat.le_refl _)]; simp
set_option maxRecDepth 100000 in
set_option maxHeartbeats 4000000 in
theorem vappend_any (A : Option Addr) (cap : Nat) (xs : List Int) (A2 : Option Addr) (c2 : Nat) (n : Int) (w : World) (hr : Rd w.heap.size .u8 w A xs) (hr2 : Rd w.heap.size .u64 w A2 [n]) (h0 : 0 ≤ n) (h1 : n < 18446744073709551616) (hc : vcls n < 4) (hl : xs.length ≤ 1000000000000) :
    Calls Try.prog 54 #[.slice A xs.length cap, .slice A2 1 c2] w (RetOwn2 5 .u8 (xs ++ vput n) (.int .i64 0) w) := by
  have ht := vtop h0 hc
  have hV : vput n = vputC n (vcls n) := rfl
  have hq4 : (2 : Nat) ^ vcls n = 1 ∨ (2 : Nat) ^ vcls n = 2 ∨ (2 : Nat) ^ vcls n = 4 ∨ (2 : Nat) ^ vcls n = 8 := by
    rcases (show vcls n = 0 ∨ vcls n = 1 ∨ vcls n = 2 ∨ vcls n = 3 by omega) with h | h | h | h <;> rw [h] <;> simp
  have hcc := Lib.hid (class_any n)
  have HW := Lib.hid (fun w => width_any (vcls n) (by omega) w)
  have hbe : beL n (2 ^ vcls n) = (n / 256 ^ (2 ^ vcls n - 1) % 256) :: beL n (2 ^ vcls n - 1) := by
    have e : 2 ^ vcls n = (2 ^ vcls n - 1) + 1 := by omega
    rw [e]; rfl
  have hV2 : vput n = (n / 256 ^ (2 ^ vcls n - 1) % 256 + 64 * (vcls n : Int)) :: beL n (2 ^ vcls n - 1) := rfl
  have hor := or8hi (t := n / 256 ^ (2 ^ vcls n - 1) % 256) (c := vcls n) (by omega) (by have := Int.ediv_nonneg h0 (Int.le_of_lt (pow_pos256 (2 ^ vcls n - 1))); omega) (by omega)
  have ht0 : 0 ≤ n / 256 ^ (2 ^ vcls n - 1) % 256 ∧ n / 256 ^ (2 ^ vcls n - 1) % 256 < 256 := by omega
  generalize hvn : vput n = V at *
  generalize n / 256 ^ (2 ^ vcls n - 1) % 256 = t at *
  generalize (2 : Nat) ^ vcls n = q at *
  generalize vcls n = c at *
  have HV2 := Lib.hid hV2
  have HBE := Lib.hid hbe
  have HOR := Lib.hid hor
  have hq8 : 1 ≤ q ∧ q ≤ 8 := by omega
  obtain ⟨hq1, hq8⟩ := hq8
  obtain ⟨ht0, ht1⟩ := ht0
  clear hV2 hbe hV hvn ht hor hq4
  have HR := Lib.hid hr
  have HR2 := Lib.hid hr2
  clear hr hr2
  go_enter Try.func54, Try.ntmps54
  go_wp2_with (at_builtin; refine wpList_app (o := ⟨some 13, _, _, _, _, _⟩) elUh rfl _ _ rfl rfl rfl (Own.nil w.heap.size _ _ _) HR.out rfl ?_ ?_ ?_; (simp <;> omega); exact Nat.le_refl _; intro A1 n1 c1 w1 h1; have H1 := Lib.hid (Own.cast h1.1 (List.nil_append xs)); have B1 := Lib.hid h1.2.2.1; clear h1)
  go_loopw [6, 16] (fun b i wr => ∃ (k : Nat) (A : Option Addr) (m c' : Nat), k ≤ 1 ∧ i = .int .i64 k ∧ b = .slice A m c' ∧ Hid (Own w.heap.size 5 .u8 wr A m c' (if k = 0 then xs else xs ++ V)) ∧ Hid (Below w.heap.size w wr)) (fun _ i _ => 1 - (intOf i).toNat)
  case atStart => exact ⟨0, A1, n1, c1, by omega, rfl, rfl, H1, B1⟩
  case round =>
    obtain ⟨k, A3, m, c', hk, rfl, rfl, HO, HB⟩ := hrel
    rcases (show k = 0 ∨ k = 1 by omega) with rfl | rfl
    · have HO' : Hid (Own w.heap.size 5 .u8 wr A3 m c' xs) := HO
      have hm := HO'.out.len
      subst hm
      have HR2r := HR2.out.below HB.out (Nat.le_refl _)
      obtain ⟨ad2, hA2, _⟩ := HR2r.isSome (by simp)
      subst hA2
      have e0 := HR2r.at0 (by simp)
      rw [List.getD_cons_zero] at e0
      have hc4 : (c : Int) ≤ 3 := by omega
      clear HO HR2r
      go_wp2_with fail
      refine (hcc.out _).mono ?_
      rintro e w' ⟨rfl, rfl⟩
      go_wp2_with fail
      refine (HW.out _).mono ?_
      rintro e w' ⟨rfl, rfl⟩
      go_wp2_with fail
      go_loopw [6, 11] (fun b i wr => ∃ (r : Nat) (A : Option Addr) (m c' : Nat) (acc : List Int), r ≤ q ∧ i = .int .i64 ((r : Int) - 1) ∧ b = .slice A m c' ∧ acc.length ≤ 8 ∧ Hid (Own w.heap.size 5 .u8 wr A m c' (xs ++ acc)) ∧ Hid (acc.length + r = q) ∧ Hid (acc ++ beL n r = beL n q) ∧ Hid (Below w.heap.size w wr)) (fun _ i _ => (intOf i + 1).toNat)
      case atStart => exact ⟨q, A3, xs.length, c', [], by omega, rfl, rfl, by simp, Lib.hid (Own.cast HO'.out (List.append_nil xs).symm), Lib.hid (by simp), Lib.hid rfl, HB⟩
      case round =>
        obtain ⟨r, A, m, c3, acc, hr, rfl, rfl, hacc, HO, HL, HE, HB⟩ := hrel
        cases r with
        | zero =>
          have hE := HE.out
          simp only [beL, List.append_nil] at hE
          rw [hE, HBE.out] at HO
          have hmm := HO.out.len
          obtain ⟨g, hA, hg1, hg2⟩ := HO.out.addr (by rw [hmm]; simp only [List.length_append, List.length_cons]; omega)
          subst hA
          have hml : xs.length < m := by rw [hmm]; simp only [List.length_append, List.length_cons]; omega
          have d0 := HO.out.cell0 (i := xs.length) (by simp)
          have f0 := HO.out.frozen xs.length
          rw [getD_mid] at d0
          have d1 := d0
          have f1 := f0
          rw [← add_zero_addr2] at d1 f1
          have hor := HOR.out
          clear hE hmm
          go_wp2_with fail
          go_roundw
          case rel => exact ⟨1, some ⟨g, 0, none⟩, m, c3, by omega, rfl, rfl, Lib.hid (Own.cast (HO.out.set_ xs.length _) (by rw [set_mid, HV2.out]; rfl)), Lib.hid (HB.out.setCell (by simp; omega) _)⟩
          case measure => simp [intOf]
        | succ r =>
          obtain ⟨x, hx⟩ : ∃ x, x = n / 256 ^ r % 256 := ⟨_, rfl⟩
          have HX := Lib.hid hx
          have HE2 : Hid ((acc ++ [x]) ++ beL n r = beL n q) := Lib.hid (by rw [hx, ← HE.out]; simp [beL])
          have HL2 : Hid ((acc ++ [x]).length + r = q) := Lib.hid (by have := HL.out; simp; omega)
          have hl2 : Hid (acc.length + 1 ≤ 8) := Lib.hid (by have := HL.out; omega)
          have hxb : 0 ≤ x ∧ x < 256 := by omega
          obtain ⟨hx0, hx1⟩ := hxb
          clear hx
          have hsz := HB.out.size
          rcases (show r = 0 ∨ r = 1 ∨ r = 2 ∨ r = 3 ∨ r = 4 ∨ r = 5 ∨ r = 6 ∨ r = 7 by omega) with rfl | rfl | rfl | rfl | rfl | rfl | rfl | rfl
          · have hxx : n % 256 = x := by have := HX.out; omega
            go_wp2_with (at_builtin; refine wpList_app (o := ⟨some 40, _, _, _, _, _⟩) elUh rfl _ _ rfl rfl rfl (HO.out.alloc _) (Rd.newAt (xs := [x]) rfl rfl) rfl ?_ ?_ ?_; (have := hl2.out; simp; omega); (simp <;> omega); intro A5 n5 c5 w5 h5; have H5 := Lib.hid h5.1; have B5 := Lib.hid ((HB.out.alloc HB.out.size _).trans h5.2.2.1); clear h5)
            go_roundw
            case rel => exact ⟨_, A5, n5, c5, acc ++ [x], by omega, by go_num, rfl, by have := hl2.out; simp; omega, Lib.hid (Own.cast H5.out (List.append_assoc _ _ _)), HL2, HE2, B5⟩
            case measure => simp [intOf]
          · have hxx : n / 256 % 256 = x := by have := HX.out; omega
            go_wp2_with (at_builtin; refine wpList_app (o := ⟨some 40, _, _, _, _, _⟩) elUh rfl _ _ rfl rfl rfl (HO.out.alloc _) (Rd.newAt (xs := [x]) rfl rfl) rfl ?_ ?_ ?_; (have := hl2.out; simp; omega); (simp <;> omega); intro A5 n5 c5 w5 h5; have H5 := Lib.hid h5.1; have B5 := Lib.hid ((HB.out.alloc HB.out.size _).trans h5.2.2.1); clear h5)
            go_roundw
            case rel => exact ⟨_, A5, n5, c5, acc ++ [x], by omega, by go_num, rfl, by have := hl2.out; simp; omega, Lib.hid (Own.cast H5.out (List.append_assoc _ _ _)), HL2, HE2, B5⟩
            case measure => simp [intOf]
          · have hxx : n / 65536 % 256 = x := by have := HX.out; omega
            go_wp2_with (at_builtin; refine wpList_app (o := ⟨some 40, _, _, _, _, _⟩) elUh rfl _ _ rfl rfl rfl (HO.out.alloc _) (Rd.newAt (xs := [x]) rfl rfl) rfl ?_ ?_ ?_; (have := hl2.out; simp; omega); (simp <;> omega); intro A5 n5 c5 w5 h5; have H5 := Lib.hid h5.1; have B5 := Lib.hid ((HB.out.alloc HB.out.size _).trans h5.2.2.1); clear h5)
            go_roundw
            case rel => exact ⟨_, A5, n5, c5, acc ++ [x], by omega, by go_num, rfl, by have := hl2.out; simp; omega, Lib.hid (Own.cast H5.out (List.append_assoc _ _ _)), HL2, HE2, B5⟩
            case measure => simp [intOf]
          · have hxx : n / 16777216 % 256 = x := by have := HX.out; omega
            go_wp2_with (at_builtin; refine wpList_app (o := ⟨some 40, _, _, _, _, _⟩) elUh rfl _ _ rfl rfl rfl (HO.out.alloc _) (Rd.newAt (xs := [x]) rfl rfl) rfl ?_ ?_ ?_; (have := hl2.out; simp; omega); (simp <;> omega); intro A5 n5 c5 w5 h5; have H5 := Lib.hid h5.1; have B5 := Lib.hid ((HB.out.alloc HB.out.size _).trans h5.2.2.1); clear h5)
            go_roundw
            case rel => exact ⟨_, A5, n5, c5, acc ++ [x], by omega, by go_num, rfl, by have := hl2.out; simp; omega, Lib.hid (Own.cast H5.out (List.append_assoc _ _ _)), HL2, HE2, B5⟩
            case measure => simp [intOf]
          · have hxx : n / 4294967296 % 256 = x := by have := HX.out; omega
            go_wp2_with (at_builtin; refine wpList_app (o := ⟨some 40, _, _, _, _, _⟩) elUh rfl _ _ rfl rfl rfl (HO.out.alloc _) (Rd.newAt (xs := [x]) rfl rfl) rfl ?_ ?_ ?_; (have := hl2.out; simp; omega); (simp <;> omega); intro A5 n5 c5 w5 h5; have H5 := Lib.hid h5.1; have B5 := Lib.hid ((HB.out.alloc HB.out.size _).trans h5.2.2.1); clear h5)
            go_roundw
            case rel => exact ⟨_, A5, n5, c5, acc ++ [x], by omega, by go_num, rfl, by have := hl2.out; simp; omega, Lib.hid (Own.cast H5.out (List.append_assoc _ _ _)), HL2, HE2, B5⟩
            case measure => simp [intOf]
          · have hxx : n / 1099511627776 % 256 = x := by have := HX.out; omega
            go_wp2_with (at_builtin; refine wpList_app (o := ⟨some 40, _, _, _, _, _⟩) elUh rfl _ _ rfl rfl rfl (HO.out.alloc _) (Rd.newAt (xs := [x]) rfl rfl) rfl ?_ ?_ ?_; (have := hl2.out; simp; omega); (simp <;> omega); intro A5 n5 c5 w5 h5; have H5 := Lib.hid h5.1; have B5 := Lib.hid ((HB.out.alloc HB.out.size _).trans h5.2.2.1); clear h5)
            go_roundw
            case rel => exact ⟨_, A5, n5, c5, acc ++ [x], by omega, by go_num, rfl, by have := hl2.out; simp; omega, Lib.hid (Own.cast H5.out (List.append_assoc _ _ _)), HL2, HE2, B5⟩
            case measure => simp [intOf]
          · have hxx : n / 281474976710656 % 256 = x := by have := HX.out; omega
            go_wp2_with (at_builtin; refine wpList_app (o := ⟨some 40, _, _, _, _, _⟩) elUh rfl _ _ rfl rfl rfl (HO.out.alloc _) (Rd.newAt (xs := [x]) rfl rfl) rfl ?_ ?_ ?_; (have := hl2.out; simp; omega); (simp <;> omega); intro A5 n5 c5 w5 h5; have H5 := Lib.hid h5.1; have B5 := Lib.hid ((HB.out.alloc HB.out.size _).trans h5.2.2.1); clear h5)
            go_roundw
            case rel => exact ⟨_, A5, n5, c5, acc ++ [x], by omega, by go_num, rfl, by have := hl2.out; simp; omega, Lib.hid (Own.cast H5.out (List.append_assoc _ _ _)), HL2, HE2, B5⟩
            case measure => simp [intOf]
          · have hxx : n / 72057594037927936 = x := by have := HX.out; omega
            go_wp2_with (at_builtin; refine wpList_app (o := ⟨some 40, _, _, _, _, _⟩) elUh rfl _ _ rfl rfl rfl (HO.out.alloc _) (Rd.newAt (xs := [x]) rfl rfl) rfl ?_ ?_ ?_; (have := hl2.out; simp; omega); (simp <;> omega); intro A5 n5 c5 w5 h5; have H5 := Lib.hid h5.1; have B5 := Lib.hid ((HB.out.alloc HB.out.size _).trans h5.2.2.1); clear h5)
            go_roundw
            case rel => exact ⟨_, A5, n5, c5, acc ++ [x], by omega, by go_num, rfl, by have := hl2.out; simp; omega, Lib.hid (Own.cast H5.out (List.append_assoc _ _ _)), HL2, HE2, B5⟩
            case measure => simp [intOf]
    · go_wp2_with fail
      go_ret2
      exact ⟨A3, m, c', rfl, HO.out, HB.out⟩
end Go.Proofs.Ythpacdondnenmaa
/- Contracts (layer 3): the reader of a packet: some, number, take, cid, length. Conditions: as each theorem states them. -/
namespace Go.Proofs.Ythpacdondnenmaa
open Go.RowKit
theorem slice_lhm {P : Program} {t e : TypeId} {k : IntKind} {bytes B : Nat} {w : World} {A : Option Addr} {xs : List Int} {c : Nat} (E : ElT P t e k bytes) (hr : Rd B k w A xs) (hc : xs.length ≤ c) (l h : Int) (m : Nat) (h0 : 0 ≤ l) (h1 : l ≤ h) (h2 : h ≤ xs.length) (hm : (m : Int) = h - l) :
    ∃ A', Rd B k w A' ((xs.drop l.toNat).take m) ∧ ((xs.drop l.toNat).take m).length = m ∧
      ∀ (w : World) (kl kh km : IntKind), (Instr.sliceAt t (.slice A xs.length c) (some (.int kl l)) (some (.int kh h)) (some (.int km h))).run P w = .ok (.slice A' m m) w := by
  refine ⟨if h.toNat = l.toNat then A else A.map (·.add (l.toNat * 1)), ?_, by simp; omega, fun w kl kh km => ?_⟩
  · by_cases g : h.toNat = l.toNat
    · have : m = 0 := by omega
      subst this
      simp only [List.take_zero]
      exact Rd.nil
    · rw [if_neg g]
      have := hr.cut l.toNat m (xs.length + l.toNat + 1) (by omega) (by omega)
      rwa [if_neg (by omega)] at this
  · rw [run_sliceAt_slice _ _ _ _ _ _ (by rw [E.elem]; exact E.ht), run_slice_lhm _ _ _ _ _ (by rw [E.elem]; exact E.ht) kl kh km l h h h0 h1 (by omega) (by omega), E.elem, E.size]
    simp [Result.andThen, sliced, show h.toNat - l.toNat = m by omega]
/-- the reader in block g: the bytes b, how far they were read, is something wrong -/
def SpSt (N g : Nat) (w : World) (A : Option Addr) (c : Nat) (b : List Int) (at_ : Nat) (bad : Bool) : Prop := Blk w g 75 #[.slice A b.length c, .int .i64 at_, .bool bad] ∧ Rd N .u8 w A b ∧ b.length ≤ c ∧ b.length ≤ 1000000000000 ∧ at_ ≤ b.length ∧ Byt b ∧ N ≤ g
section
variable {N g : Nat} {w w' : World} {A : Option Addr} {c : Nat} {b : List Int} {at_ : Nat} {bad : Bool}
theorem SpSt.facts (h : SpSt N g w A c b at_ bad) : w.cell? ⟨g, 0, none⟩ = some (.slice A b.length c) ∧ w.cell? ⟨g, 1, none⟩ = some (.int .i64 at_) ∧ w.cell? ⟨g, 2, none⟩ = some (.bool bad) ∧ w.frozen? ⟨g, 0, none⟩ = false ∧ w.frozen? ⟨g, 1, none⟩ = false ∧ w.frozen? ⟨g, 2, none⟩ = false :=
  ⟨Blk.cell h.1 0, Blk.cell h.1 1, Blk.cell h.1 2, Blk.frozen h.1 0, Blk.frozen h.1 1, Blk.frozen h.1 2⟩
theorem SpSt.lt (h : SpSt N g w A c b at_ bad) : g < w.heap.size := Blk.lt h.1
theorem SpSt.drewN (h : SpSt N g w A c b at_ bad) (n : Nat) : SpSt N g (w.drewN n) A c b at_ bad := ⟨Blk.drewN h.1 n, h.2.1.drewN n, h.2.2⟩
theorem SpSt.below (h : SpSt N g w A c b at_ bad) (hb : Below w.heap.size w w') : SpSt N g w' A c b at_ bad := ⟨Blk.below h.1 hb h.lt, h.2.1.below hb (by have := h.lt; have := h.2.2.2.2.2.2; omega), h.2.2⟩
theorem SpSt.grown {x : Nat} (h : SpSt N g w A c b at_ bad) (hb : w.grownBy w' (some x)) (hx : g ≠ x) (hN : N ≤ x) : SpSt N g w' A c b at_ bad :=
  ⟨Blk.grown h.1 hb (by simp; omega), h.2.1.grown hb (by have := h.lt; have := h.2.2.2.2.2.2; omega) (fun y hy => by injection hy; omega), h.2.2⟩
theorem SpSt.far {p : Addr} (h : SpSt N g w A c b at_ bad) (hp : g ≠ p.block) (hN : N ≤ p.block) (u : Value) : SpSt N g (w.setCell p u) A c b at_ bad :=
  ⟨Blk.far h.1 hp u, h.2.1.setCell hN u, h.2.2⟩
theorem SpSt.le (h : SpSt N g w A c b at_ bad) : N ≤ g := h.2.2.2.2.2.2
theorem SpSt.goTo (h : SpSt N g w A c b at_ bad) {at2 : Nat} {v : Int} (hv : v = at2) (ha : at2 ≤ b.length) : SpSt N g (w.setCell ⟨g, 1, none⟩ (.int .i64 v)) A c b at2 bad :=
  ⟨Blk.cast (Blk.set_ h.1 1 _) (by rw [hv]; simp), h.2.1.setCell h.2.2.2.2.2.2 _, h.2.2.1, h.2.2.2.1, ha, h.2.2.2.2.2⟩
theorem SpSt.setBad (h : SpSt N g w A c b at_ bad) (x : Bool) : SpSt N g (w.setCell ⟨g, 2, none⟩ (.bool x)) A c b at_ x :=
  ⟨Blk.cast (Blk.set_ h.1 2 _) (by simp), h.2.1.setCell h.2.2.2.2.2.2 _, h.2.2⟩
end
theorem only_grown {g : Nat} {w w' : World} (n : Nat) (h : (w.drewN n).grownBy w' (some g)) : w.grownBy w' (some g) := ⟨h.os, h.tape, h.output, h.size, h.block⟩

section
variable {N g : Nat} {w : World} {A : Option Addr} {c : Nat} {b : List Int} {at_ : Nat} {bad : Bool}
set_option maxHeartbeats 1000000 in
theorem some_yes (Hs : SpSt N g w A c b at_ bad) (m : Nat) (hm : at_ + m ≤ b.length) :
    Calls Try.prog 68 #[.pointer (some ⟨g, 0, none⟩), .int .u64 m] w fun e w' => ∃ A', e = .returned (.tuple #[.slice A' m m, .bool true]) ∧ Rd N .u8 w' A' ((b.drop at_).take m) ∧ SpSt N g w' A c b (at_ + m) bad ∧ w.grownBy w' (some g) := by
  obtain ⟨A', hrd, hlm, hrun⟩ := slice_lhm elUh Hs.2.1 Hs.2.2.1 (at_ : Int) ((at_ : Int) + m) m (by omega) (by omega) (by omega) (by omega)
  rw [Int.toNat_natCast] at hrd hlm
  have HRD := Lib.hid hrd
  obtain ⟨d0, d1, d2, f0, f1, f2⟩ := Hs.facts
  have hl : b.length ≤ 1000000000000 := Hs.2.2.2.1
  have HS := Lib.hid Hs
  clear hrd Hs
  generalize hL : b.length = L at *
  have HL := Lib.hid hL
  clear hL hlm
  go_enter Try.func68, Try.ntmps68
  go_wp2_with fail
  go_quiet (fail)
  obtain ⟨nq1, rfl⟩ : ∃ x : Nat, x = nq := ⟨_, rfl⟩
  go_wp2_with fail
  go_quiet (fail)
  go_wp2_with fail
  go_ret2
  have HS2 := (HS.out.drewN nq1).goTo (v := (at_ : Int) + m) (at2 := at_ + m) (by omega) (by rw [HL.out]; exact hm)
  exact ⟨A', rfl, (((HRD.out.drewN nq1).setCell (p := ⟨g, 1, none⟩) HS.out.le _).drewN nq), HS2.drewN nq, only_drewN (only_setCell (only_drewN (World.grownBy.refl _ _) nq1) (.inl rfl) _) nq⟩
theorem some_no (Hs : SpSt N g w A c b at_ bad) (n : Int) (hn : (b.length : Int) - at_ < n) (_h1 : n < 18446744073709551616) :
    Calls Try.prog 68 #[.pointer (some ⟨g, 0, none⟩), .int .u64 n] w fun e w' => e = .returned (.tuple #[.slice none 0 0, .bool false]) ∧ SpSt N g w' A c b at_ bad ∧ w.grownBy w' (some g) := by
  obtain ⟨d0, d1, d2, f0, f1, f2⟩ := Hs.facts
  have hl : b.length ≤ 1000000000000 := Hs.2.2.2.1
  have ha := Hs.2.2.2.2.1
  have HS := Lib.hid Hs
  clear Hs
  go_enter Try.func68, Try.ntmps68
  go_wp2_with fail
  go_quiet (fail)
  go_wp2_with fail
  go_ret2
  exact ⟨rfl, HS.out.drewN nq, only_drewN (World.grownBy.refl _ _) nq⟩
set_option maxHeartbeats 1000000 in
theorem number_b (Hs : SpSt N g w A c b at_ bad) :
    Calls Try.prog 93 #[.pointer (some ⟨g, 0, none⟩)] w fun e w' => e = .returned (.tuple #[.int .u64 ((vtake (b.drop at_)).elim 0 (·.1)), .bool (vtake (b.drop at_)).isSome]) ∧ SpSt N g w' A c b (at_ + (vtake (b.drop at_)).elim 0 (·.2)) bad ∧ w.grownBy w' (some g) := by
  have ha := Hs.2.2.2.2.1
  obtain ⟨A', c', hc1, hc2, hrd, hlm, hrun⟩ := slice_l elUh Hs.2.1 Hs.2.2.1 (at_ : Int) (b.length - at_) (by omega) (by omega) (by omega)
  rw [Int.toNat_natCast] at hrd hlm
  obtain ⟨d0, d1, d2, f0, f1, f2⟩ := Hs.facts
  have hl : b.length ≤ 1000000000000 := Hs.2.2.2.1
  have hT := Lib.hid (fun n => vtake_any A' c' (b.drop at_) (w.drewN n) ((hrd.drewN n).mono (by have := Hs.lt; have := Hs.le; simp; omega)) (Hs.2.2.2.2.2.1.drop _) (by rw [hlm]; exact hc1) (by rw [hlm]; omega))
  rw [hlm] at hT
  have hvt : (vtake (b.drop at_)).elim 0 (·.2) ≤ b.length - at_ := by
    cases hv : vtake (b.drop at_) with
    | none => simp
    | some v => have := (vtake_append hv []).2.2; rw [hlm] at this; exact this
  have hvV : vtV (vtake (b.drop at_)) = .tuple #[.int .u64 ((vtake (b.drop at_)).elim 0 (·.1)), .int .i64 ((vtake (b.drop at_)).elim 0 (·.2) : Nat), .bool (vtake (b.drop at_)).isSome] := by
    cases vtake (b.drop at_) <;> rfl
  rw [hvV] at hT
  have HS := Lib.hid Hs
  clear Hs hrd hvV hlm
  generalize (vtake (b.drop at_)).elim (0 : Int) (·.1) = n at *
  generalize (vtake (b.drop at_)).elim (0 : Nat) (·.2) = u at *
  generalize (vtake (b.drop at_)).isSome = ok at *
  generalize hL : b.length = L at *
  have HL := Lib.hid hL
  clear hL
  go_enter Try.func93, Try.ntmps93
  go_wp2_with fail
  go_quiet ((go_at_call 108; exact quiet_left (hT.out _)))
  go_wp2_with fail
  go_ret2
  exact ⟨rfl, (HS.out.drewN nq).goTo (v := (at_ : Int) + u) (at2 := at_ + u) (by omega) (by rw [HL.out]; omega), only_setCell (only_drewN (World.grownBy.refl _ _) nq) (.inl rfl) _⟩

/-- bytes of the reader's own -/
def TkPost (N g : Nat) (A : Option Addr) (c : Nat) (b : List Int) (at_ : Nat) (bad : Bool) (L : List Int) (w : World) (e : Ending) (w' : World) : Prop :=
  ∃ A' n' c', e = .returned (.slice A' n' c') ∧ Own w.heap.size 5 .u8 w' A' n' c' L ∧ SpSt N g w' A c b at_ bad ∧ w.grownBy w' (some g)
theorem below_of_none {w w' : World} (h : w.grownBy w' none) : Below w.heap.size w w' := ⟨h.os, h.tape, h.output, h.size, fun i hi => h.block i hi (by simp)⟩
theorem grown_apd {B g : Nat} {e : TypeId} {k : IntKind} {w0 w w' : World} {A A' : Option Addr} {n' c' : Nat} {zs : List Int} (h : w0.grownBy w (some g)) (ha : Apd B e k w A zs A' n' c' w') (hB : w0.heap.size ≤ B) : w0.grownBy w' (some g) :=
  ⟨ha.2.2.1.os.trans h.os, ha.2.2.1.tape.trans h.tape, ha.2.2.1.output.trans h.output, Nat.le_trans h.size ha.2.2.1.size, fun i hi hne => (ha.2.2.1.block i (by omega)).trans (h.block i hi hne)⟩
set_option maxHeartbeats 1000000 in
theorem take_yes (Hs : SpSt N g w A c b at_ bad) (m : Nat) (hm : at_ + m ≤ b.length) :
    Calls Try.prog 38 #[.pointer (some ⟨g, 0, none⟩), .int .u64 m] w (TkPost N g A c b (at_ + m) bad ((b.drop at_).take m) w) := by
  have HM := Lib.hid (some_yes Hs m hm)
  have hl : b.length ≤ 1000000000000 := Hs.2.2.2.1
  have hlm : ((b.drop at_).take m).length = m := by rw [List.length_take, List.length_drop]; omega
  have hgw := Hs.lt
  go_enter Try.func38, Try.ntmps38
  go_wp2_with fail
  refine HM.out.mono ?_
  rintro e w1 ⟨A', rfl, hrd, hs1, hg1⟩
  have HRD := Lib.hid hrd
  have HS1 := Lib.hid hs1
  have HG1 := Lib.hid hg1
  have HLM := Lib.hid hlm
  obtain ⟨d0, d1, d2, f0, f1, f2⟩ := hs1.facts
  clear hrd hg1 hs1 hlm
  have hz1 := HG1.out.size
  cases bad
  all_goals
    go_wp2_with (at_builtin; refine wpList_app (o := ⟨some 27, _, _, _, _, _⟩) (B := w.heap.size) elUh rfl _ _ rfl rfl rfl (Own.nil _ _ _ _) (HRD.out.setCell (p := ⟨g, 2, none⟩) HS1.out.le _) HLM.out.symm ?_ ?_ ?_; (rw [HLM.out]; simp <;> omega); (simp <;> omega); intro A5 n5 c5 w5 h5; have H5 := Lib.hid h5; clear h5)
    go_ret
    exact ⟨A5, n5, c5, rfl, Own.cast H5.out.1 (List.nil_append _), (HS1.out.setBad _).below (below_of_none H5.out.2.1), grown_apd (only_setCell HG1.out (.inl rfl) _) H5.out (Nat.le_refl _)⟩
set_option maxHeartbeats 1000000 in
theorem take_no (Hs : SpSt N g w A c b at_ bad) (n : Int) (hn : (b.length : Int) - at_ < n) (h1 : n < 18446744073709551616) :
    Calls Try.prog 38 #[.pointer (some ⟨g, 0, none⟩), .int .u64 n] w (TkPost N g A c b at_ true [] w) := by
  have HM := Lib.hid (some_no Hs n hn h1)
  have hgw := Hs.lt
  have ha := Hs.2.2.2.2.1
  go_enter Try.func38, Try.ntmps38
  go_wp2_with fail
  refine HM.out.mono ?_
  rintro e w1 ⟨rfl, hs1, hg1⟩
  have HS1 := Lib.hid hs1
  have HG1 := Lib.hid hg1
  obtain ⟨d0, d1, d2, f0, f1, f2⟩ := hs1.facts
  clear hg1 hs1
  have hz1 := HG1.out.size
  cases bad
  all_goals
    go_wp2_with (at_builtin; refine wpList_app (o := ⟨some 27, _, _, _, _, _⟩) (B := w.heap.size) (B2 := 0) (ys := []) elUh rfl _ _ rfl rfl rfl (Own.nil _ _ _ _) Rd.nil rfl ?_ ?_ ?_; (simp); (simp <;> omega); intro A5 n5 c5 w5 h5; have H5 := Lib.hid h5; clear h5)
    go_ret
    exact ⟨A5, n5, c5, rfl, Own.cast H5.out.1 (List.nil_append _), (HS1.out.setBad _).below (below_of_none H5.out.2.1), grown_apd (only_setCell HG1.out (.inl rfl) _) H5.out (Nat.le_refl _)⟩
set_option maxHeartbeats 1000000 in
theorem length_any (Hs : SpSt N g w A c b at_ bad) :
    Calls Try.prog 67 #[.pointer (some ⟨g, 0, none⟩)] w fun e w' => e = .returned (.int .u64 ((vtake (b.drop at_)).elim 0 (·.1))) ∧ SpSt N g w' A c b (at_ + (vtake (b.drop at_)).elim 0 (·.2)) (bad || !(vtake (b.drop at_)).isSome) ∧ w.grownBy w' (some g) := by
  have HM := Lib.hid (number_b Hs)
  have hgw := Hs.lt
  generalize (vtake (b.drop at_)).elim (0 : Int) (·.1) = n at *
  generalize (vtake (b.drop at_)).elim (0 : Nat) (·.2) = u at *
  generalize (vtake (b.drop at_)).isSome = ok at *
  go_enter Try.func67, Try.ntmps67
  go_wp2_with fail
  refine HM.out.mono ?_
  rintro e w1 ⟨rfl, hs1, hg1⟩
  have HS1 := Lib.hid hs1
  have HG1 := Lib.hid hg1
  obtain ⟨d0, d1, d2, f0, f1, f2⟩ := hs1.facts
  clear hg1 hs1
  cases bad <;> cases ok
  all_goals
    go_wp2_with fail
    go_ret
    exact ⟨rfl, HS1.out.setBad _, only_setCell HG1.out (.inl rfl) _⟩
/-- a connection id is there -/
theorem cid_yes (Hs : SpSt N g w A c b at_ false) {x : List Int × List Int} (hx : cidL (b.drop at_) = some x) :
    Calls Try.prog 66 #[.pointer (some ⟨g, 0, none⟩)] w (TkPost N g A c b (b.length - x.2.length) false x.1 w) := by
  have ha := Hs.2.2.2.2.1
  have hby := Hs.2.2.2.2.2.1
  have hld : (b.drop at_).length = b.length - at_ := List.length_drop
  cases hd : b.drop at_ with
  | nil => rw [hd] at hx; cases hx
  | cons n r =>
    rw [hd, cidL_cons] at hx
    rw [hd] at hld
    have hr : b.drop (at_ + 1) = r := by rw [← List.drop_drop, hd]; rfl
    have hn := (hby.drop at_) n (by rw [hd]; simp)
    split at hx
    · cases hx
    · rename_i hcn
      injection hx with hx
      subst hx
      simp only [List.length_cons] at hld
      have ht1 := take_yes Hs 1 (by omega)
      rw [hd, show (n :: r).take 1 = [n] from rfl] at ht1
      have HT1 := Lib.hid ht1
      have hgw := Hs.lt
      have HL := Lib.hid (show b.length - (r.drop n.toNat).length = at_ + 1 + n.toNat by rw [List.length_drop]; omega)
      have HHr := Lib.hid hr
      obtain ⟨hn0, hn1⟩ := hn
      have hn20 : n ≤ 20 := by omega
      have hnl : at_ + 1 + n.toNat ≤ b.length := by omega
      have hnn : ((n.toNat : Nat) : Int) = n := by omega
      clear hcn hd hr ht1 hld Hs
      go_enter Try.func66, Try.ntmps66
      go_wp2_with fail
      refine HT1.out.mono ?_
      rintro e w1 ⟨A1, n1, c1, rfl, ho1, hs1, hg1⟩
      have hl1 : n1 = 1 := ho1.len
      subst hl1
      obtain ⟨g1, hA1, _, _⟩ := ho1.addr (by omega)
      subst hA1
      have e0 := ho1.cell0 (i := 0) (by simp)
      rw [List.getD_cons_zero] at e0
      obtain ⟨d0, d1, d2, f0, f1, f2⟩ := hs1.facts
      have HT2 := Lib.hid (take_yes hs1 n.toNat (by omega))
      rw [hnn] at HT2
      have HG1 := Lib.hid hg1
      clear hg1 hs1 ho1
      have hz1 := HG1.out.size
      go_wp2_with fail
      refine HT2.out.mono ?_
      rintro e w2 ⟨A2, n2, c2, rfl, ho2, hs2, hg2⟩
      rw [HHr.out] at ho2
      have HO2 := Lib.hid (ho2.mono hz1)
      have HS2 := Lib.hid hs2
      have HG2 := Lib.hid (only_trans HG1.out hg2)
      clear ho2 hs2 hg2
      go_wp2_with fail
      go_ret
      exact ⟨A2, n2, c2, rfl, HO2.out, by rw [HL.out]; exact HS2.out, HG2.out⟩
end
end Go.Proofs.Ythpacdondnenmaa
/- Contracts (layer 3): the reader of a packet: cid that is none; long. Conditions: as each theorem states them. -/
namespace Go.Proofs.Ythpacdondnenmaa
open Go.RowKit
section
variable {N g : Nat} {w : World} {A : Option Addr} {c : Nat} {b : List Int} {at_ : Nat} {bad : Bool}
/-- something is wrong; whatever was read -/
def NoPost (N g : Nat) (A : Option Addr) (c : Nat) (b : List Int) (w : World) (e : Ending) (w' : World) : Prop :=
  ∃ (at_ : Nat) (L : List Int), TkPost N g A c b at_ true L w e w'
set_option maxHeartbeats 2000000 in
theorem cid_no (Hs : SpSt N g w A c b at_ bad) (hx : bad = true ∨ cidL (b.drop at_) = none) :
    Calls Try.prog 66 #[.pointer (some ⟨g, 0, none⟩)] w (NoPost N g A c b w) := by
  have ha := Hs.2.2.2.2.1
  have hby := Hs.2.2.2.2.2.1
  have hld : (b.drop at_).length = b.length - at_ := List.length_drop
  cases hd : b.drop at_ with
  | nil =>
    rw [hd] at hld
    simp only [List.length_nil] at hld
    have HT1 := Lib.hid (take_no Hs 1 (by omega) (by omega))
    clear hld hx hd hby Hs
    go_enter Try.func66, Try.ntmps66
    go_wp2_with fail
    refine HT1.out.mono ?_
    rintro e w1 ⟨A1, n1, c1, rfl, ho1, hs1, hg1⟩
    obtain ⟨d0, d1, d2, f0, f1, f2⟩ := hs1.facts
    have HS1 := Lib.hid hs1
    have HG1 := Lib.hid hg1
    clear hs1 hg1 ho1
    go_wp2_with fail
    go_ret
    exact ⟨at_, [], none, 0, 0, rfl, Own.nil _ _ _ _, HS1.out.setBad _, only_setCell HG1.out (.inl rfl) _⟩
  | cons n r =>
    rw [hd] at hld hx
    have hn := (hby.drop at_) n (by rw [hd]; simp)
    obtain ⟨hn0, hn1⟩ := hn
    simp only [List.length_cons] at hld
    have ht1 := take_yes Hs 1 (by omega)
    rw [hd, show (n :: r).take 1 = [n] from rfl] at ht1
    have HT1 := Lib.hid ht1
    have hln : Hid (b.length - at_ = r.length + 1) := Lib.hid hld.symm
    have ha1 : at_ + 1 ≤ b.length := by omega
    clear ht1 hd Hs hld
    cases bad with
    | true =>
      go_enter Try.func66, Try.ntmps66
      go_wp2_with fail
      refine HT1.out.mono ?_
      rintro e w1 ⟨A1, n1, c1, rfl, ho1, hs1, hg1⟩
      obtain ⟨d0, d1, d2, f0, f1, f2⟩ := hs1.facts
      have HS1 := Lib.hid hs1
      have HG1 := Lib.hid hg1
      clear hs1 hg1 ho1
      go_wp2_with fail
      go_ret
      exact ⟨at_ + 1, [], none, 0, 0, rfl, Own.nil _ _ _ _, HS1.out.setBad _, only_setCell HG1.out (.inl rfl) _⟩
    | false =>
      replace hx := hx.resolve_left (by simp)
      rw [cidL_cons] at hx
      by_cases h20 : 20 < n
      · go_enter Try.func66, Try.ntmps66
        go_wp2_with fail
        refine HT1.out.mono ?_
        rintro e w1 ⟨A1, n1, c1, rfl, ho1, hs1, hg1⟩
        have hl1 : n1 = 1 := ho1.len
        subst hl1
        obtain ⟨g1, hA1, _, _⟩ := ho1.addr (by omega)
        subst hA1
        have e0 := ho1.cell0 (i := 0) (by simp)
        rw [List.getD_cons_zero] at e0
        obtain ⟨d0, d1, d2, f0, f1, f2⟩ := hs1.facts
        have HS1 := Lib.hid hs1
        have HG1 := Lib.hid hg1
        clear hs1 hg1 ho1
        go_wp2_with fail
        go_ret
        exact ⟨at_ + 1, [], none, 0, 0, rfl, Own.nil _ _ _ _, HS1.out.setBad _, only_setCell HG1.out (.inl rfl) _⟩
      · have hlt : (r.length : Int) < n := by
          by_cases h : (r.length : Int) < n
          · exact h
          · rw [if_neg (by omega)] at hx; cases hx
        have h20' : decide (20 < n) = false := by simp; omega
        go_enter Try.func66, Try.ntmps66
        go_wp2_with fail
        refine HT1.out.mono ?_
        rintro e w1 ⟨A1, n1, c1, rfl, ho1, hs1, hg1⟩
        have hl1 : n1 = 1 := ho1.len
        subst hl1
        obtain ⟨g1, hA1, _, _⟩ := ho1.addr (by omega)
        subst hA1
        have e0 := ho1.cell0 (i := 0) (by simp)
        rw [List.getD_cons_zero] at e0
        obtain ⟨d0, d1, d2, f0, f1, f2⟩ := hs1.facts
        have HT2 := Lib.hid (take_no hs1 n (by have := hln.out; omega) (by omega))
        have HG1 := Lib.hid hg1
        clear hs1 hg1 ho1
        have hz1 := HG1.out.size
        go_wp2_with fail
        refine HT2.out.mono ?_
        rintro e w2 ⟨A2, n2, c2, rfl, ho2, hs2, hg2⟩
        have HO2 := Lib.hid (ho2.mono hz1)
        have HS2 := Lib.hid hs2
        have HG2 := Lib.hid (only_trans HG1.out hg2)
        clear ho2 hs2 hg2
        go_wp2_with fail
        go_ret
        exact ⟨at_ + 1, [], A2, n2, c2, rfl, HO2.out, HS2.out, HG2.out⟩
end
end Go.Proofs.Ythpacdondnenmaa
/- Contract (layer 3): long: words for its states. Conditions: as each theorem states them. -/
namespace Go.Proofs.Ythpacdondnenmaa
open Go.RowKit
theorem drop_len {b r : List Int} {i : Nat} (h : b.drop i = r) (hi : i ≤ b.length) : b.length - r.length = i := by
  rw [← h, List.length_drop]; omega
theorem cid_suffix {b : List Int} {i : Nat} {x : List Int × List Int} (h : cidL (b.drop i) = some x) (hi : i ≤ b.length) (hb : Byt b) : ∃ j, i ≤ j ∧ j ≤ b.length ∧ b.drop j = x.2 ∧ b.length - x.2.length = j ∧ x.1.length ≤ 20 := by
  cases hd : b.drop i with
  | nil => rw [hd] at h; cases h
  | cons n r =>
    have hn := (hb.drop i) n (by rw [hd]; simp)
    have hl : (b.drop i).length = b.length - i := List.length_drop
    rw [hd] at h hl
    simp only [List.length_cons] at hl
    rw [cidL_cons] at h
    split at h
    · cases h
    · injection h with h
      subst h
      have e : b.drop (i + 1 + n.toNat) = r.drop n.toNat := by rw [← List.drop_drop, ← List.drop_drop, hd]; rfl
      exact ⟨i + 1 + n.toNat, by omega, by omega, e, drop_len e (by omega), by simp only [List.length_take]; omega⟩
/-- the reader and the packet that it fills -/
def LB (N gp g : Nat) (w0 w : World) (A : Option Addr) (c : Nat) (b : List Int) (at_ : Nat) (bad : Bool) (cs : Array Value) : Prop :=
  SpSt N g w A c b at_ bad ∧ Blk w gp 38 cs ∧ Below gp w0 w ∧ w0.heap.size ≤ w.heap.size ∧ gp < g ∧ N ≤ gp ∧ g < w0.heap.size
section
variable {N gp g : Nat} {w0 w w' : World} {A : Option Addr} {c : Nat} {b : List Int} {at_ : Nat} {bad : Bool} {cs : Array Value}
theorem LB.step {at2 : Nat} {bad2 : Bool} (h : LB N gp g w0 w A c b at_ bad cs) (hs : SpSt N g w' A c b at2 bad2) (hg : w.grownBy w' (some g)) : LB N gp g w0 w' A c b at2 bad2 cs := by
  obtain ⟨h1, h2, h3, h4, h5, h6, h7⟩ := h
  exact ⟨hs, Blk.grown h2 hg (by simp; omega), h3.trans (below_of_only hg (by omega) (by omega)), Nat.le_trans h4 hg.size, h5, h6, h7⟩
theorem LB.store (h : LB N gp g w0 w A c b at_ bad cs) (i : Nat) (v : Value) : LB N gp g w0 (w.setCell ⟨gp, i, none⟩ v) A c b at_ bad (cs.setIfInBounds i v) := by
  obtain ⟨h1, h2, h3, h4, h5, h6, h7⟩ := h
  exact ⟨h1.far (by simp; omega) h6 v, Blk.set_ h2 i v, h3.setCell (by simp) v, by simpa [World.setCell] using h4, h5, h6, h7⟩
theorem LB.setBad (h : LB N gp g w0 w A c b at_ bad cs) (x : Bool) : LB N gp g w0 (w.setCell ⟨g, 2, none⟩ (.bool x)) A c b at_ x cs := by
  obtain ⟨h1, h2, h3, h4, h5, h6, h7⟩ := h
  exact ⟨h1.setBad x, Blk.far h2 (by simp; omega) _, h3.setCell (by simp; omega) _, by simpa [World.setCell] using h4, h5, h6, h7⟩
theorem LB.below (h : LB N gp g w0 w A c b at_ bad cs) (hb : Below w.heap.size w w') : LB N gp g w0 w' A c b at_ bad cs := by
  obtain ⟨h1, h2, h3, h4, h5, h6, h7⟩ := h
  exact ⟨h1.below hb, Blk.below h2 hb (Blk.lt h2), h3.trans (hb.mono (by omega)), Nat.le_trans h4 hb.size, h5, h6, h7⟩
theorem LB.drewN (h : LB N gp g w0 w A c b at_ bad cs) (n : Nat) : LB N gp g w0 (w.drewN n) A c b at_ bad cs := h.below (below_drewN (Below.refl _ _) n)
theorem LB.cast {cs' : Array Value} (h : LB N gp g w0 w A c b at_ bad cs) (e : cs = cs') : LB N gp g w0 w A c b at_ bad cs' := e ▸ h
theorem LB.sp (h : LB N gp g w0 w A c b at_ bad cs) : w.cell? ⟨g, 0, none⟩ = some (.slice A b.length c) ∧ w.cell? ⟨g, 1, none⟩ = some (.int .i64 at_) ∧ w.cell? ⟨g, 2, none⟩ = some (.bool bad) ∧ w.frozen? ⟨g, 0, none⟩ = false ∧ w.frozen? ⟨g, 1, none⟩ = false ∧ w.frozen? ⟨g, 2, none⟩ = false := h.1.facts
theorem LB.pt {c0 c1 c2 c3 c4 c5 : Value} (h : LB N gp g w0 w A c b at_ bad #[c0, c1, c2, c3, c4, c5]) : w.cell? ⟨gp, 0, none⟩ = some c0 ∧ w.cell? ⟨gp, 1, none⟩ = some c1 ∧ w.cell? ⟨gp, 2, none⟩ = some c2 ∧ w.cell? ⟨gp, 3, none⟩ = some c3 ∧ w.cell? ⟨gp, 4, none⟩ = some c4 ∧
    w.frozen? ⟨gp, 0, none⟩ = false ∧ w.frozen? ⟨gp, 1, none⟩ = false ∧ w.frozen? ⟨gp, 2, none⟩ = false ∧ w.frozen? ⟨gp, 3, none⟩ = false ∧ w.frozen? ⟨gp, 4, none⟩ = false :=
  ⟨Blk.cell h.2.1 0, Blk.cell h.2.1 1, Blk.cell h.2.1 2, Blk.cell h.2.1 3, Blk.cell h.2.1 4, Blk.frozen h.2.1 0, Blk.frozen h.2.1 1, Blk.frozen h.2.1 2, Blk.frozen h.2.1 3, Blk.frozen h.2.1 4⟩
theorem LB.lts (h : LB N gp g w0 w A c b at_ bad cs) : gp < g ∧ g < w0.heap.size ∧ w0.heap.size ≤ w.heap.size ∧ gp ≠ g := ⟨h.2.2.2.2.1, h.2.2.2.2.2.2, h.2.2.2.1, by have := h.2.2.2.2.1; omega⟩
/-- behind all of it: it is one -/
def LongYes (N gp g : Nat) (A : Option Addr) (c : Nat) (b : List Int) (p : PartL) (w : World) (e : Ending) (w' : World) : Prop :=
  ∃ (x : Nat) (A1 A2 A3 : Option Addr) (n1 c1 n2 c2 n3 c3 : Nat), e = .returned (.int .i64 (p.fin : Nat)) ∧
    LB N gp g w w' A c b x false #[.int .u8 p.space, .slice A1 n1 c1, .slice A2 n2 c2, .slice A3 n3 c3, .int .i64 (p.at_ : Nat), .slice none 0 0] ∧
    Own w.heap.size 5 .u8 w' A1 n1 c1 p.dst ∧ Own w.heap.size 5 .u8 w' A2 n2 c2 p.src ∧ Own w.heap.size 5 .u8 w' A3 n3 c3 p.tok
def LongNo (N gp g : Nat) (A : Option Addr) (c : Nat) (b : List Int) (w : World) (e : Ending) (w' : World) : Prop :=
  ∃ (x : Nat) (v : Int) (cs : Array Value), e = .returned (.int .i64 v) ∧ LB N gp g w w' A c b x true cs ∧ cs.size = 6
end
section
variable {B : Nat} {e : TypeId} {k : IntKind} {w w' : World} {A : Option Addr} {n c : Nat} {xs : List Int}
theorem Own.kgr {g : Nat} (h : Own B e k w A n c xs) (hg : w.grownBy w' (some g)) (hB : g < B) : Own B e k w' A n c xs :=
  h.kept hg (fun ad hA e => by injection e with e; have := h.block ad hA; omega)
theorem Own.st {p : Addr} (h : Own B e k w A n c xs) (hp : p.block < B) (u : Value) : Own B e k (w.setCell p u) A n c xs :=
  h.farA (fun ad hA e => by have := h.block ad hA; omega) u
end
theorem and3_16 (x : Int) (h0 : 0 ≤ x) (h1 : x < 256) : bits .and .u8 (x / 16) 3 = x / 16 % 4 := by
  rw [bits_and_u8' _ _ (by omega) (by omega) (by omega) (by omega)]
  obtain ⟨a, rfl⟩ := Int.eq_ofNat_of_zero_le h0
  have e : ((a : Int) / 16).toNat &&& (3 : Int).toNat = (a / 16) % 2 ^ 2 := by
    rw [show ((a : Int) / 16).toNat = a / 16 by omega]; exact Nat.and_two_pow_sub_one_eq_mod (a / 16) 2
  rw [e]; omega
theorem be14 : beL 1 4 = [0, 0, 0, 1] := by decide
end Go.Proofs.Ythpacdondnenmaa
/- Contract (layer 3): long. Conditions: as each theorem states them. -/
namespace Go.Proofs.Ythpacdondnenmaa
open Go.RowKit
theorem byt0001 : Byt [0, 0, 0, 1] := by intro x hx; simp at hx; omega
def LongPost (N gp g : Nat) (A : Option Addr) (c : Nat) (b : List Int) (w : World) (e : Ending) (w' : World) : Prop :=
  (∀ p, longL b = some p → LongYes N gp g A c b p w e w') ∧ (longL b = none → LongNo N gp g A c b w e w')
theorem LongPost.no {N gp g : Nat} {A : Option Addr} {c : Nat} {b : List Int} {w : World} {e : Ending} {w' : World} (h : longL b = none) (h2 : LongNo N gp g A c b w e w') : LongPost N gp g A c b w e w' :=
  ⟨(fun p hp => by rw [h] at hp; cases hp), fun _ => h2⟩
theorem LongPost.yes {N gp g : Nat} {A : Option Addr} {c : Nat} {b : List Int} {p : PartL} {w : World} {e : Ending} {w' : World} (h : longL b = some p) (h2 : LongYes N gp g A c b p w e w') : LongPost N gp g A c b w e w' :=
  ⟨(fun p' hp => by rw [h] at hp; injection hp with hp; subst hp; exact h2), (fun hn => by rw [h] at hn; cases hn)⟩
theorem take_one {b : List Int} (h : 1 ≤ b.length) : (b.drop 0).take 1 = [b.getD 0 0] := by
  cases b with
  | nil => simp at h
  | cons x r => rfl
theorem LB.sz {N gp g : Nat} {w0 w : World} {A : Option Addr} {c : Nat} {b : List Int} {at_ : Nat} {bad : Bool} {cs : Array Value} (h : LB N gp g w0 w A c b at_ bad cs) : LB N gp g w0 w A c b at_ bad cs := h

section
variable {N g : Nat} {w : World} {A : Option Addr} {c : Nat} {b : List Int} {at_ : Nat} {bad : Bool}
theorem length_some (Hs : SpSt N g w A c b at_ bad) {v : Int × Nat} (hv : vtake (b.drop at_) = some v) :
    Calls Try.prog 67 #[.pointer (some ⟨g, 0, none⟩)] w fun e w' => e = .returned (.int .u64 v.1) ∧ SpSt N g w' A c b (at_ + v.2) bad ∧ w.grownBy w' (some g) := by
  have h := length_any Hs
  rw [hv] at h
  simp only [Option.elim_some, Option.isSome_some, Bool.not_true, Bool.or_false] at h
  exact h
theorem length_none (Hs : SpSt N g w A c b at_ bad) (hv : vtake (b.drop at_) = none) :
    Calls Try.prog 67 #[.pointer (some ⟨g, 0, none⟩)] w fun e w' => e = .returned (.int .u64 0) ∧ SpSt N g w' A c b at_ true ∧ w.grownBy w' (some g) := by
  have h := length_any Hs
  rw [hv] at h
  simp only [Option.elim_none, Option.isSome_none, Bool.not_false, Bool.or_true, Nat.add_zero] at h
  exact h
end

set_option maxRecDepth 100000 in
set_option maxHeartbeats 8000000 in
theorem long_any {N gp g : Nat} {w : World} {A : Option Addr} {c : Nat} {b : List Int} (h : LB N gp g w w A c b 0 false #[.int .u8 0, .slice none 0 0, .slice none 0 0, .slice none 0 0, .int .i64 0, .slice none 0 0]) (h1 : 1 ≤ b.length) :
    Calls Try.prog 37 #[.pointer (some ⟨g, 0, none⟩), .pointer (some ⟨gp, 0, none⟩)] w (LongPost N gp g A c b w) := by
  have hby : Byt b := h.1.2.2.2.2.2.1
  have HBY := Lib.hid hby
  have hx := hby.getD 0
  have hb12 : b.length ≤ 1000000000000 := h.1.2.2.2.1
  have HL0 := Lib.hid h
  have ht1 := take_yes h.1 1 (by omega)
  rw [take_one h1] at ht1
  have HT1 := Lib.hid ht1
  have h316 := and3_16 (b.getD 0 0) hx.1 hx.2
  have HLG := Lib.hid (show longL b = _ from rfl)
  have hlu : longL b = if b.length < 5 ∨ (b.drop 1).take 4 ≠ [0, 0, 0, 1] ∨ (b.getD 0 0 / 16 % 4 ≠ 0 ∧ b.getD 0 0 / 16 % 4 ≠ 2) then none
    else (cidL (b.drop 5)).bind fun d => (cidL d.2).bind fun s => (tokL (b.getD 0 0 / 16 % 4) s.2).bind fun t => endL b (b.getD 0 0 / 16 % 4) d.1 s.1 t.1 t.2 := rfl
  clear ht1 h hby HLG
  generalize b.getD 0 0 = x at *
  obtain ⟨hx0, hx1⟩ := hx
  have hne := HL0.out.lts.2.2.2
  have hgw := HL0.out.lts.2.1
  have hgpw : gp < w.heap.size := by have := HL0.out.lts; omega
  have hne2 : g ≠ gp := fun e => hne e.symm
  go_enter Try.func37, Try.ntmps37
  go_wp2_with fail
  refine HT1.out.mono ?_
  rintro e w1 ⟨A1, n1, c1, rfl, ho1, hs1, hg1⟩
  have hl1 : n1 = 1 := ho1.len
  subst hl1
  obtain ⟨g1, hA1, hg1a, hg1b⟩ := ho1.addr (by omega)
  subst hA1
  have HF1 := Lib.hid ho1
  have HL1 := Lib.hid (HL0.out.step hs1 hg1)
  clear ho1 hs1 hg1
  by_cases h5 : b.length < 5
  · have hno : longL b = none := by rw [hlu, if_pos (.inl h5)]
    have HNO := Lib.hid hno
    clear hno hlu
    have HT4 := Lib.hid (take_no HL1.out.1 4 (by omega) (by omega))
    go_wp2_with fail
    refine HT4.out.mono ?_
    rintro e w2 ⟨A2, n2, c2, rfl, ho2, hs2, hg2⟩
    have HL2 := Lib.hid (HL1.out.step hs2 hg2)
    clear ho2 hs2 hg2
    obtain ⟨d0, d1, d2, f0, f1, f2⟩ := HL2.out.sp
    go_wp2_with fail
    go_quiet (fail)
    go_wp2_with fail
    go_ret
    exact LongPost.no HNO.out ⟨_, _, _, rfl, (HL2.out.drewN nq).setBad true, rfl⟩
  · by_cases hv : (b.drop 1).take 4 = [0, 0, 0, 1]
    case neg =>
      have hno : longL b = none := by rw [hlu, if_pos (.inr (.inl hv))]
      have HNO := Lib.hid hno
      clear hno hlu
      have HT4 := Lib.hid (take_yes HL1.out.1 4 (by omega))
      rw [show 0 + 1 + 4 = 5 from rfl, show 0 + 1 = 1 from rfl] at HT4
      go_wp2_with fail
      refine HT4.out.mono ?_
      rintro e w2 ⟨A2, n2, c2, rfl, ho2, hs2, hg2⟩
      have HF2 := Lib.hid (HF1.out.kgr hg2 HL1.out.lts.2.1)
      have HV2 := Lib.hid (ho2.mono HL1.out.2.2.2.1)
      have HL2 := Lib.hid (HL1.out.step hs2 hg2)
      clear ho2 hs2 hg2
      have hbd2 : ∀ r : BW w2.heap.size w2, r.world.cell? ⟨g, 2, none⟩ = some (.bool false) := fun r => BW.cell HL2.out.sp.2.2.1 (by have := HL2.out.lts; show g < _; omega) r
      have hcv2 : ∀ r : BW w2.heap.size w2, (convert 28 9 (.slice A2 n2 c2)).run Try.prog r.world = .ok (.string (strOfNums ((b.drop 1).take 4))) r.world := fun r => conv_own elUh Try.underlying9 (HV2.out.below r.below)
      have hse := str_eq (xs := (b.drop 1).take 4) (ys := [0, 0, 0, 1]) ((HBY.out.drop 1).take 4) byt0001
      rw [decide_eq_false hv] at hse
      generalize strOfNums ((b.drop 1).take 4) = sa at *
      generalize hsb : strOfNums [0, 0, 0, 1] = sb at hse
      have HSB := Lib.hid hsb
      clear hsb
      go_wp2_with fail
      refine wp_region_mixN w2.heap.size [([0, 1, 2, 3, 4, 5, 6], 7)] [8, 9, 10] (by kernel_rfl) (by kernel_rfl) (by kernel_rfl) (by kernel_rfl) ?_
      simp only [pickL, List.map_cons, List.map_nil, List.filterMap_cons, List.filterMap_nil, List.getElem?_cons_succ, List.getElem?_cons_zero]
      refine mixN_cons ?_
      repeat (show wpQuiet _ _ _ _ (_ :: _) _; go_big_quiet_step (fail))
      refine wpQuiet_nil ?_
      show wpList _ _ _ [_] _ _
      go_wp2_with fail
      refine Calls.mono (number_any 1 4 _ (by omega) (by omega) (by omega)) ?_
      rintro e w3 ⟨A3, n3, c3, rfl, ho3, hb3⟩
      have B23 : Hid (Below w2.heap.size w2 w3) := Lib.hid ((Below.refl w2.heap.size w2).drew.trans hb3)
      have hcv3 : ∀ r : BW w3.heap.size w3, (convert 28 9 (.slice A3 n3 c3)).run Try.prog r.world = .ok (.string sb) r.world := fun r => by rw [← HSB.out, ← be14]; exact conv_own elUh Try.underlying9 (ho3.below r.below)
      have HF3 := Lib.hid (HF2.out.below B23.out)
      have HL3 := Lib.hid (HL2.out.below B23.out)
      clear hb3 hcv2 hbd2
      go_wp2_with fail
      refine MixN.narrow B23.out B23.out.size ?_
      refine mixN_nil ?_
      repeat (show wpQuiet _ _ _ _ (_ :: _) _; go_big_quiet_step (fail))
      refine wpQuiet_nil ?_
      refine NoPanic.normal ?_
      clear hcv3 ho3
      obtain ⟨d0, d1, d2, f0, f1, f2⟩ := HL3.out.sp
      obtain ⟨p0, p1, p2, p3, p4, q0, q1, q2, q3, q4⟩ := HL3.out.pt
      have e0 := HF3.out.cell0 (i := 0) (by simp)
      rw [List.getD_cons_zero] at e0
      go_wp2_with fail
      go_ret
      exact LongPost.no HNO.out ⟨_, _, _, rfl, HL3.out.setBad true, rfl⟩
    case pos =>
      have hlu2 : (x / 16 % 4 ≠ 0 ∧ x / 16 % 4 ≠ 2) ∨ longL b = (cidL (b.drop 5)).bind fun d => (cidL d.2).bind fun s => (tokL (x / 16 % 4) s.2).bind fun t => endL b (x / 16 % 4) d.1 s.1 t.1 t.2 := by
        by_cases hk : x / 16 % 4 ≠ 0 ∧ x / 16 % 4 ≠ 2
        · exact .inl hk
        · right; rw [hlu, if_neg (by intro hh; rcases hh with hh | hh | hh; exact h5 hh; exact hh hv; exact hk hh)]
      have hlu3 : (x / 16 % 4 ≠ 0 ∧ x / 16 % 4 ≠ 2) → longL b = none := fun hk => by rw [hlu, if_pos (.inr (.inr hk))]
      clear hlu
      have HT4 := Lib.hid (take_yes HL1.out.1 4 (by omega))
      rw [show 0 + 1 + 4 = 5 from rfl, show 0 + 1 = 1 from rfl] at HT4
      go_wp2_with fail
      refine HT4.out.mono ?_
      rintro e w2 ⟨A2, n2, c2, rfl, ho2, hs2, hg2⟩
      have HF2 := Lib.hid (HF1.out.kgr hg2 HL1.out.lts.2.1)
      have HV2 := Lib.hid (ho2.mono HL1.out.2.2.2.1)
      have HL2 := Lib.hid (HL1.out.step hs2 hg2)
      clear ho2 hs2 hg2
      have hbd2 : ∀ r : BW w2.heap.size w2, r.world.cell? ⟨g, 2, none⟩ = some (.bool false) := fun r => BW.cell HL2.out.sp.2.2.1 (by have := HL2.out.lts; show g < _; omega) r
      have hcv2 : ∀ r : BW w2.heap.size w2, (convert 28 9 (.slice A2 n2 c2)).run Try.prog r.world = .ok (.string (strOfNums ((b.drop 1).take 4))) r.world := fun r => conv_own elUh Try.underlying9 (HV2.out.below r.below)
      have hse := str_eq (xs := (b.drop 1).take 4) (ys := [0, 0, 0, 1]) ((HBY.out.drop 1).take 4) byt0001
      rw [decide_eq_true hv] at hse
      generalize strOfNums ((b.drop 1).take 4) = sa at *
      generalize hsb : strOfNums [0, 0, 0, 1] = sb at hse
      have HSB := Lib.hid hsb
      clear hsb
      go_wp2_with fail
      refine wp_region_mixN w2.heap.size [([0, 1, 2, 3, 4, 5, 6], 7)] [8, 9, 10] (by kernel_rfl) (by kernel_rfl) (by kernel_rfl) (by kernel_rfl) ?_
      simp only [pickL, List.map_cons, List.map_nil, List.filterMap_cons, List.filterMap_nil, List.getElem?_cons_succ, List.getElem?_cons_zero]
      refine mixN_cons ?_
      repeat (show wpQuiet _ _ _ _ (_ :: _) _; go_big_quiet_step (fail))
      refine wpQuiet_nil ?_
      show wpList _ _ _ [_] _ _
      go_wp2_with fail
      refine Calls.mono (number_any 1 4 _ (by omega) (by omega) (by omega)) ?_
      rintro e w3 ⟨A3, n3, c3, rfl, ho3, hb3⟩
      have B23 : Hid (Below w2.heap.size w2 w3) := Lib.hid ((Below.refl w2.heap.size w2).drew.trans hb3)
      have hcv3 : ∀ r : BW w3.heap.size w3, (convert 28 9 (.slice A3 n3 c3)).run Try.prog r.world = .ok (.string sb) r.world := fun r => by rw [← HSB.out, ← be14]; exact conv_own elUh Try.underlying9 (ho3.below r.below)
      have HF3 := Lib.hid (HF2.out.below B23.out)
      have HL3 := Lib.hid (HL2.out.below B23.out)
      clear hb3 hcv2 hbd2
      go_wp2_with fail
      refine MixN.narrow B23.out B23.out.size ?_
      refine mixN_nil ?_
      repeat (show wpQuiet _ _ _ _ (_ :: _) _; go_big_quiet_step (fail))
      refine wpQuiet_nil ?_
      refine NoPanic.normal ?_
      clear hcv3 ho3
      obtain ⟨d0, d1, d2, f0, f1, f2⟩ := HL3.out.sp
      obtain ⟨p0, p1, p2, p3, p4, q0, q1, q2, q3, q4⟩ := HL3.out.pt
      have e0 := HF3.out.cell0 (i := 0) (by simp)
      rw [List.getD_cons_zero] at e0
      clear hse
      have HLU2 := Lib.hid hlu2
      have HLU3 := Lib.hid hlu3
      clear hlu2 hlu3 hv
      have hk4 : x / 16 % 4 = 0 ∨ x / 16 % 4 = 1 ∨ x / 16 % 4 = 2 ∨ x / 16 % 4 = 3 := by omega
      have h5b : 5 ≤ b.length := by omega
      clear h5
      rcases hk4 with hk | hk | hk | hk
      · skip
        have hlu := HLU2.out.resolve_left (by omega)
        rw [hk] at hlu
        have HLU := Lib.hid hlu
        clear hlu HLU2 HLU3
        have H4 := Lib.hid ((HL3.out.store 0 (.int .u8 0)).cast (cs' := #[.int .u8 0, .slice none 0 0, .slice none 0 0, .slice none 0 0, .int .i64 0, .slice none 0 0]) rfl)
        cases hd : cidL (b.drop 5) with
        | none =>
          have HNO : Hid (longL b = none) := Lib.hid (by rw [HLU.out, hd]; rfl)
          have HCC := Lib.hid (cid_no H4.out.1 (.inr hd))
          go_wp2_with (go_at_call 53; refine (types_any _ _).mono ?_; rintro e w4 ⟨rfl, rfl⟩)
          refine HCC.out.mono ?_
          rintro e w5 ⟨at5, L5, A5, n5, c5, rfl, ho5, hs5, hg5⟩
          have H5 := Lib.hid (H4.out.step hs5 hg5)
          clear ho5
          clear hs5 hg5 HCC
          clear d0 d1 d2 f0 f1 f2 p0 p1 p2 p3 p4 q0 q1 q2 q3 q4
          clear e0
          have HCC := Lib.hid (cid_no H5.out.1 (.inl rfl))
          go_wp2_with fail
          refine HCC.out.mono ?_
          rintro e w6 ⟨at6, L6, A6, n6, c6, rfl, ho6, hs6, hg6⟩
          have H6 := Lib.hid (H5.out.step hs6 hg6)
          clear ho6
          clear hs6 hg6 HCC
          obtain ⟨d0, d1, d2, f0, f1, f2⟩ := H6.out.sp
          obtain ⟨p0, p1, p2, p3, p4, q0, q1, q2, q3, q4⟩ := H6.out.pt
          go_wp2_with fail
          go_ret
          exact LongPost.no HNO.out ⟨_, _, _, rfl, (H6.out.store 1 _).store 2 _, rfl⟩
        | some d =>
          obtain ⟨at1, hj1, hj2, hj3, hj4, hj5⟩ := cid_suffix hd h5b HBY.out
          obtain ⟨dd, r1⟩ := d
          try simp only at hj3 hj4 hj5
          have HCC := Lib.hid (cid_yes H4.out.1 hd)
          go_wp2_with (go_at_call 53; refine (types_any _ _).mono ?_; rintro e w4 ⟨rfl, rfl⟩)
          refine HCC.out.mono ?_
          rintro e w5 ⟨A5, n5, c5, rfl, ho5, hs5, hg5⟩
          have H5 := Lib.hid (H4.out.step hs5 hg5)
          have O5 := Lib.hid (ho5.mono H4.out.2.2.2.1)
          clear ho5
          clear hs5 hg5 HCC
          clear d0 d1 d2 f0 f1 f2 p0 p1 p2 p3 p4 q0 q1 q2 q3 q4
          clear e0
          try simp only at H5 O5
          rw [hj4] at H5
          have HJ3 := Lib.hid hj3
          clear hj3 hj4
          cases hs : cidL r1 with
          | none =>
            have HNO : Hid (longL b = none) := Lib.hid (by rw [HLU.out, hd]; simp only [Option.bind_some]; rw [hs]; rfl)
            clear hd
            have HCC := Lib.hid (cid_no H5.out.1 (.inr (by rw [HJ3.out]; exact hs)))
            go_wp2_with fail
            refine HCC.out.mono ?_
            rintro e w6 ⟨at6, L6, A6, n6, c6, rfl, ho6, hs6, hg6⟩
            have H6 := Lib.hid (H5.out.step hs6 hg6)
            replace O5 := Lib.hid (O5.out.kgr hg6 hgw)
            clear ho6
            clear hs6 hg6 HCC
            obtain ⟨d0, d1, d2, f0, f1, f2⟩ := H6.out.sp
            obtain ⟨p0, p1, p2, p3, p4, q0, q1, q2, q3, q4⟩ := H6.out.pt
            go_wp2_with fail
            go_ret
            exact LongPost.no HNO.out ⟨_, _, _, rfl, (H6.out.store 1 _).store 2 _, rfl⟩
          | some s =>
            obtain ⟨at2, hi1, hi2, hi3, hi4, hi5⟩ := cid_suffix (i := at1) (by rw [HJ3.out]; exact hs) hj2 HBY.out
            obtain ⟨ss, r2⟩ := s
            try simp only at hi3 hi4 hi5
            have HCC := Lib.hid (cid_yes H5.out.1 (x := (ss, r2)) (by rw [HJ3.out]; exact hs))
            go_wp2_with fail
            refine HCC.out.mono ?_
            rintro e w6 ⟨A6, n6, c6, rfl, ho6, hs6, hg6⟩
            have H6 := Lib.hid (H5.out.step hs6 hg6)
            replace O5 := Lib.hid (O5.out.kgr hg6 hgw)
            have O6 := Lib.hid (ho6.mono H5.out.2.2.2.1)
            clear ho6
            clear hs6 hg6 HCC
            try simp only at H6 O6
            rw [hi4] at H6
            have HI3 := Lib.hid hi3
            have HLT : Hid (longL b = (tokL 0 r2).bind fun t => endL b 0 dd ss t.1 t.2) := Lib.hid (by rw [HLU.out, hd]; simp only [Option.bind_some]; rw [hs]; rfl)
            clear hi3 hi4 hd hs HLU
            have hr2l : Hid (r2.length = b.length - at2) := Lib.hid (by rw [← HI3.out, List.length_drop])
            have H7 := Lib.hid (((H6.out.store 1 (.slice A5 n5 c5)).store 2 (.slice A6 n6 c6)).cast (cs' := #[.int .u8 0, .slice A5 n5 c5, .slice A6 n6 c6, .slice none 0 0, .int .i64 0, .slice none 0 0]) rfl)
            replace O5 := Lib.hid ((O5.out.st (p := ⟨gp, 1, none⟩) hgpw (.slice A5 n5 c5)).st (p := ⟨gp, 2, none⟩) hgpw (.slice A6 n6 c6))
            replace O6 := Lib.hid ((O6.out.st (p := ⟨gp, 1, none⟩) hgpw (.slice A5 n5 c5)).st (p := ⟨gp, 2, none⟩) hgpw (.slice A6 n6 c6))
            obtain ⟨d0, d1, d2, f0, f1, f2⟩ := H6.out.sp
            obtain ⟨p0, p1, p2, p3, p4, q0, q1, q2, q3, q4⟩ := H6.out.pt
            cases hv2 : vtake r2 with
            | none =>
              have HNO : Hid (longL b = none) := Lib.hid (by rw [HLT.out]; unfold tokL; rw [if_pos rfl, hv2]; rfl)
              have HCC := Lib.hid (length_none H7.out.1 (by rw [HI3.out]; exact hv2))
              go_wp2_with fail
              refine HCC.out.mono ?_
              rintro e w8 ⟨rfl, hs8, hg8⟩
              have H8 := Lib.hid (H7.out.step hs8 hg8)
              clear hs8 hg8 HCC
              have HCC := Lib.hid (take_yes H8.out.1 0 (by omega))
              go_wp2_with fail
              refine HCC.out.mono ?_
              rintro e w9 ⟨A9, n9, c9, rfl, ho9, hs9, hg9⟩
              have H9 := Lib.hid (H8.out.step hs9 hg9)
              clear hs9 hg9 HCC
              clear d0 d1 d2 f0 f1 f2 p0 p1 p2 p3 p4 q0 q1 q2 q3 q4
              obtain ⟨d0, d1, d2, f0, f1, f2⟩ := H9.out.sp
              obtain ⟨p0, p1, p2, p3, p4, q0, q1, q2, q3, q4⟩ := H9.out.pt
              go_wp2_with fail
              go_ret
              exact LongPost.no HNO.out ⟨_, _, _, rfl, H9.out.store 3 _, rfl⟩
            | some v =>
              obtain ⟨vi, u⟩ := v
              have hvu := (vtake_append hv2 []).2.2
              have hv0 := vtake_nonneg (by rw [← HI3.out]; exact HBY.out.drop at2) hv2
              simp only at hvu hv0
              obtain ⟨m, rfl⟩ := Int.eq_ofNat_of_zero_le hv0.1
              have hat2 : at2 + u ≤ b.length := by have h2 := hr2l.out; omega
              have HD4 : Hid ((r2.drop u).length = b.length - (at2 + u) ∧ b.drop (at2 + u) = r2.drop u) := Lib.hid (by have h2 := hr2l.out; rw [List.length_drop, ← List.drop_drop, HI3.out]; exact ⟨by omega, rfl⟩)
              have hm64 : m < 18446744073709551616 := by omega
              have HCC := Lib.hid (length_some H7.out.1 (v := ((m : Int), u)) (by rw [HI3.out]; exact hv2))
              go_wp2_with fail
              refine HCC.out.mono ?_
              rintro e w8 ⟨rfl, hs8, hg8⟩
              have H8 := Lib.hid (H7.out.step hs8 hg8)
              replace O5 := Lib.hid (O5.out.kgr hg8 hgw)
              replace O6 := Lib.hid (O6.out.kgr hg8 hgw)
              clear hs8 hg8 HCC
              by_cases hfit : (at2 + u) + m ≤ b.length
              · skip
                have HCC := Lib.hid (take_yes H8.out.1 m hfit)
                go_wp2_with fail
                refine HCC.out.mono ?_
                rintro e w9 ⟨A9, n9, c9, rfl, ho9, hs9, hg9⟩
                have H9 := Lib.hid (H8.out.step hs9 hg9)
                replace O5 := Lib.hid (O5.out.kgr hg9 hgw)
                replace O6 := Lib.hid (O6.out.kgr hg9 hgw)
                have O7 := Lib.hid (ho9.mono H8.out.2.2.2.1)
                clear ho9
                clear hs9 hg9 HCC
                clear d0 d1 d2 f0 f1 f2 p0 p1 p2 p3 p4 q0 q1 q2 q3 q4
                obtain ⟨d0, d1, d2, f0, f1, f2⟩ := H9.out.sp
                obtain ⟨p0, p1, p2, p3, p4, q0, q1, q2, q3, q4⟩ := H9.out.pt
                have H10 := Lib.hid ((H9.out.store 3 (.slice A9 n9 c9)).cast (cs' := #[.int .u8 0, .slice A5 n5 c5, .slice A6 n6 c6, .slice A9 n9 c9, .int .i64 0, .slice none 0 0]) rfl)
                replace O5 := Lib.hid (O5.out.st (p := ⟨gp, 3, none⟩) hgpw (.slice A9 n9 c9))
                replace O6 := Lib.hid (O6.out.st (p := ⟨gp, 3, none⟩) hgpw (.slice A9 n9 c9))
                replace O7 := Lib.hid (O7.out.st (p := ⟨gp, 3, none⟩) hgpw (.slice A9 n9 c9))
                rw [HD4.out.2] at O7
                obtain ⟨tt, htt⟩ : ∃ t : List Int, t = (r2.drop u).take m := ⟨_, rfl⟩
                rw [← htt] at O7
                obtain ⟨t2, ht2⟩ : ∃ t : List Int, t = (r2.drop u).drop m := ⟨_, rfl⟩
                obtain ⟨at3, hat3⟩ : ∃ y : Nat, y = at2 + u + m := ⟨_, rfl⟩
                rw [← hat3] at H10
                have HEND : Hid (longL b = endL b 0 dd ss tt t2) := Lib.hid (by rw [HLT.out, htt, ht2]; unfold tokL; rw [if_pos rfl, hv2]; simp only [Option.bind_some]; rw [if_neg (by have := HD4.out.1; omega), Int.toNat_natCast]; rfl)
                have HD3 : Hid (b.drop at3 = t2) := Lib.hid (by rw [hat3, ht2, ← List.drop_drop, HD4.out.2])
                have HD3L : Hid (t2.length = b.length - at3) := Lib.hid (by rw [← HD3.out, List.length_drop])
                have HAT3 : Hid (at3 ≤ b.length) := Lib.hid (by omega)
                have HAT3E := Lib.hid hat3
                clear htt ht2 hat3 HLT hv2 hv0 hm64
                obtain ⟨m9, rfl⟩ : ∃ y : Nat, y = m := ⟨_, rfl⟩
                cases hv3 : vtake t2 with
                | none =>
                  have HNO : Hid (longL b = none) := Lib.hid (by rw [HEND.out]; unfold endL; rw [hv3]; rfl)
                  have HCC := Lib.hid (length_none H10.out.1 (by rw [HD3.out]; exact hv3))
                  go_wp2_with fail
                  refine HCC.out.mono ?_
                  rintro e w20 ⟨rfl, hs20, hg20⟩
                  have H20 := Lib.hid (H10.out.step hs20 hg20)
                  clear hs20 hg20 HCC
                  obtain ⟨d0, d1, d2, f0, f1, f2⟩ := H20.out.sp
                  obtain ⟨p0, p1, p2, p3, p4, q0, q1, q2, q3, q4⟩ := H20.out.pt
                  have HST := Lib.hid ((H20.out.store 4 (.int .i64 (at3 : Nat))).cast (cs' := #[.int .u8 0, .slice A5 n5 c5, .slice A6 n6 c6, .slice A9 n9 c9, .int .i64 (at3 : Nat), .slice none 0 0]) rfl)
                  have HCC := Lib.hid (some_yes HST.out.1 0 (by have := HAT3.out; omega))
                  go_wp2_with fail
                  refine HCC.out.mono ?_
                  rintro e w21 ⟨A21, rfl, _, hs21, hg21⟩
                  have H21 := Lib.hid (HST.out.step hs21 hg21)
                  clear hs21 hg21
                  clear d0 d1 d2 f0 f1 f2 p0 p1 p2 p3 p4 q0 q1 q2 q3 q4
                  obtain ⟨d0, d1, d2, f0, f1, f2⟩ := H21.out.sp
                  obtain ⟨p0, p1, p2, p3, p4, q0, q1, q2, q3, q4⟩ := H21.out.pt
                  go_wp2_with fail
                  go_ret
                  exact LongPost.no HNO.out ⟨_, _, _, rfl, H21.out.setBad true, rfl⟩
                | some v =>
                  obtain ⟨vi, u⟩ := v
                  have hvu := (vtake_append hv3 []).2.2
                  have hv0 := vtake_nonneg (by rw [← HD3.out]; exact HBY.out.drop at3) hv3
                  simp only at hvu hv0
                  obtain ⟨m, rfl⟩ := Int.eq_ofNat_of_zero_le hv0.1
                  have hat4 : at3 + u ≤ b.length := by have h1 := HAT3.out; have h2 := HD3L.out; omega
                  have HD4 : Hid (b.length - (t2.drop u).length = at3 + u ∧ (t2.drop u).length = b.length - (at3 + u)) := Lib.hid (by have h1 := HAT3.out; have h2 := HD3L.out; rw [List.length_drop]; omega)
                  have hm64 : m < 18446744073709551616 := by omega
                  have HCC := Lib.hid (length_some H10.out.1 (v := ((m : Int), u)) (by rw [HD3.out]; exact hv3))
                  go_wp2_with fail
                  refine HCC.out.mono ?_
                  rintro e w20 ⟨rfl, hs20, hg20⟩
                  have H20 := Lib.hid (H10.out.step hs20 hg20)
                  replace O5 := Lib.hid (O5.out.kgr hg20 hgw)
                  replace O6 := Lib.hid (O6.out.kgr hg20 hgw)
                  replace O7 := Lib.hid (O7.out.kgr hg20 hgw)
                  clear hs20 hg20 HCC
                  obtain ⟨d0, d1, d2, f0, f1, f2⟩ := H20.out.sp
                  obtain ⟨p0, p1, p2, p3, p4, q0, q1, q2, q3, q4⟩ := H20.out.pt
                  have HST := Lib.hid ((H20.out.store 4 (.int .i64 ((at3 + u : Nat) : Int))).cast (cs' := #[.int .u8 0, .slice A5 n5 c5, .slice A6 n6 c6, .slice A9 n9 c9, .int .i64 ((at3 + u : Nat) : Int), .slice none 0 0]) rfl)
                  by_cases hfit : (at3 + u) + m ≤ b.length
                  · have HCC := Lib.hid (some_yes HST.out.1 m hfit)
                    go_wp2_with fail
                    refine HCC.out.mono ?_
                    rintro e w21 ⟨A21, rfl, _, hs21, hg21⟩
                    have H21 := Lib.hid (HST.out.step hs21 hg21)
                    replace O5 := Lib.hid ((O5.out.st (p := ⟨gp, 4, none⟩) hgpw _).kgr hg21 hgw)
                    replace O6 := Lib.hid ((O6.out.st (p := ⟨gp, 4, none⟩) hgpw _).kgr hg21 hgw)
                    replace O7 := Lib.hid ((O7.out.st (p := ⟨gp, 4, none⟩) hgpw _).kgr hg21 hgw)
                    clear hs21 hg21
                    clear d0 d1 d2 f0 f1 f2 p0 p1 p2 p3 p4 q0 q1 q2 q3 q4
                    obtain ⟨d0, d1, d2, f0, f1, f2⟩ := H21.out.sp
                    obtain ⟨p0, p1, p2, p3, p4, q0, q1, q2, q3, q4⟩ := H21.out.pt
                    by_cases h20 : m < 20
                    · have HNO : Hid (longL b = none) := Lib.hid (by rw [HEND.out]; unfold endL; rw [hv3]; simp only [Option.bind_some]; rw [if_pos (.inl (by omega))])
                      go_wp2_with fail
                      go_ret
                      exact LongPost.no HNO.out ⟨_, _, _, rfl, H21.out.setBad true, rfl⟩
                    · have HYES : Hid (longL b = some ⟨0, dd, ss, tt, at3 + u, at3 + u + m⟩) := Lib.hid (by rw [HEND.out]; unfold endL; rw [hv3]; simp only [Option.bind_some]; rw [if_neg (by have := HD4.out; omega), HD4.out.1]; rfl)
                      have h20' : decide ((m : Int) < 20) = false := by simp; omega
                      go_wp2_with fail
                      go_ret
                      exact LongPost.yes HYES.out ⟨_, _, _, _, _, _, _, _, _, _, rfl, H21.out.cast rfl, O5.out, O6.out, O7.out⟩
                  · have HNO : Hid (longL b = none) := Lib.hid (by rw [HEND.out]; unfold endL; rw [hv3]; simp only [Option.bind_some]; rw [if_pos (.inr (by have := HD4.out; omega))])
                    have HCC := Lib.hid (some_no HST.out.1 (m : Int) (by omega) (by omega))
                    go_wp2_with fail
                    refine HCC.out.mono ?_
                    rintro e w21 ⟨rfl, hs21, hg21⟩
                    have H21 := Lib.hid (HST.out.step hs21 hg21)
                    clear hs21 hg21
                    clear d0 d1 d2 f0 f1 f2 p0 p1 p2 p3 p4 q0 q1 q2 q3 q4
                    obtain ⟨d0, d1, d2, f0, f1, f2⟩ := H21.out.sp
                    obtain ⟨p0, p1, p2, p3, p4, q0, q1, q2, q3, q4⟩ := H21.out.pt
                    go_wp2_with fail
                    go_ret
                    exact LongPost.no HNO.out ⟨_, _, _, rfl, H21.out.setBad true, rfl⟩
              · skip
                have HNO : Hid (longL b = none) := Lib.hid (by rw [HLT.out]; unfold tokL; rw [if_pos rfl, hv2]; simp only [Option.bind_some]; rw [if_pos (by have := HD4.out.1; omega)]; rfl)
                have HCC := Lib.hid (take_no H8.out.1 (m : Int) (by omega) (by omega))
                go_wp2_with fail
                refine HCC.out.mono ?_
                rintro e w9 ⟨A9, n9, c9, rfl, ho9, hs9, hg9⟩
                have H9 := Lib.hid (H8.out.step hs9 hg9)
                clear hs9 hg9 HCC
                clear d0 d1 d2 f0 f1 f2 p0 p1 p2 p3 p4 q0 q1 q2 q3 q4
                obtain ⟨d0, d1, d2, f0, f1, f2⟩ := H9.out.sp
                obtain ⟨p0, p1, p2, p3, p4, q0, q1, q2, q3, q4⟩ := H9.out.pt
                go_wp2_with fail
                go_ret
                exact LongPost.no HNO.out ⟨_, _, _, rfl, H9.out.store 3 _, rfl⟩
      · skip
        have HNO := Lib.hid (HLU3.out (by omega))
        clear HLU2 HLU3
        have H4 := Lib.hid (HL3.out.setBad true)
        have HCC := Lib.hid (cid_no H4.out.1 (.inl rfl))
        go_wp2_with (go_at_call 53; refine (types_any _ _).mono ?_; rintro e w4 ⟨rfl, rfl⟩)
        refine HCC.out.mono ?_
        rintro e w5 ⟨at5, L5, A5, n5, c5, rfl, ho5, hs5, hg5⟩
        have H5 := Lib.hid (H4.out.step hs5 hg5)
        clear ho5
        clear hs5 hg5 HCC
        clear d0 d1 d2 f0 f1 f2 p0 p1 p2 p3 p4 q0 q1 q2 q3 q4
        clear e0
        have HCC := Lib.hid (cid_no H5.out.1 (.inl rfl))
        go_wp2_with fail
        refine HCC.out.mono ?_
        rintro e w6 ⟨at6, L6, A6, n6, c6, rfl, ho6, hs6, hg6⟩
        have H6 := Lib.hid (H5.out.step hs6 hg6)
        clear ho6
        clear hs6 hg6 HCC
        obtain ⟨d0, d1, d2, f0, f1, f2⟩ := H6.out.sp
        obtain ⟨p0, p1, p2, p3, p4, q0, q1, q2, q3, q4⟩ := H6.out.pt
        go_wp2_with fail
        go_ret
        exact LongPost.no HNO.out ⟨_, _, _, rfl, (H6.out.store 1 _).store 2 _, rfl⟩
      · skip
        have hlu := HLU2.out.resolve_left (by omega)
        rw [hk] at hlu
        have HLU := Lib.hid hlu
        clear hlu HLU2 HLU3
        have H4 := Lib.hid ((HL3.out.store 0 (.int .u8 1)).cast (cs' := #[.int .u8 1, .slice none 0 0, .slice none 0 0, .slice none 0 0, .int .i64 0, .slice none 0 0]) rfl)
        cases hd : cidL (b.drop 5) with
        | none =>
          have HNO : Hid (longL b = none) := Lib.hid (by rw [HLU.out, hd]; rfl)
          have HCC := Lib.hid (cid_no H4.out.1 (.inr hd))
          go_wp2_with (go_at_call 53; refine (types_any _ _).mono ?_; rintro e w4 ⟨rfl, rfl⟩)
          refine HCC.out.mono ?_
          rintro e w5 ⟨at5, L5, A5, n5, c5, rfl, ho5, hs5, hg5⟩
          have H5 := Lib.hid (H4.out.step hs5 hg5)
          clear ho5
          clear hs5 hg5 HCC
          clear d0 d1 d2 f0 f1 f2 p0 p1 p2 p3 p4 q0 q1 q2 q3 q4
          clear e0
          have HCC := Lib.hid (cid_no H5.out.1 (.inl rfl))
          go_wp2_with fail
          refine HCC.out.mono ?_
          rintro e w6 ⟨at6, L6, A6, n6, c6, rfl, ho6, hs6, hg6⟩
          have H6 := Lib.hid (H5.out.step hs6 hg6)
          clear ho6
          clear hs6 hg6 HCC
          obtain ⟨d0, d1, d2, f0, f1, f2⟩ := H6.out.sp
          obtain ⟨p0, p1, p2, p3, p4, q0, q1, q2, q3, q4⟩ := H6.out.pt
          go_wp2_with fail
          go_ret
          exact LongPost.no HNO.out ⟨_, _, _, rfl, (H6.out.store 1 _).store 2 _, rfl⟩
        | some d =>
          obtain ⟨at1, hj1, hj2, hj3, hj4, hj5⟩ := cid_suffix hd h5b HBY.out
          obtain ⟨dd, r1⟩ := d
          try simp only at hj3 hj4 hj5
          have HCC := Lib.hid (cid_yes H4.out.1 hd)
          go_wp2_with (go_at_call 53; refine (types_any _ _).mono ?_; rintro e w4 ⟨rfl, rfl⟩)
          refine HCC.out.mono ?_
          rintro e w5 ⟨A5, n5, c5, rfl, ho5, hs5, hg5⟩
          have H5 := Lib.hid (H4.out.step hs5 hg5)
          have O5 := Lib.hid (ho5.mono H4.out.2.2.2.1)
          clear ho5
          clear hs5 hg5 HCC
          clear d0 d1 d2 f0 f1 f2 p0 p1 p2 p3 p4 q0 q1 q2 q3 q4
          clear e0
          try simp only at H5 O5
          rw [hj4] at H5
          have HJ3 := Lib.hid hj3
          clear hj3 hj4
          cases hs : cidL r1 with
          | none =>
            have HNO : Hid (longL b = none) := Lib.hid (by rw [HLU.out, hd]; simp only [Option.bind_some]; rw [hs]; rfl)
            clear hd
            have HCC := Lib.hid (cid_no H5.out.1 (.inr (by rw [HJ3.out]; exact hs)))
            go_wp2_with fail
            refine HCC.out.mono ?_
            rintro e w6 ⟨at6, L6, A6, n6, c6, rfl, ho6, hs6, hg6⟩
            have H6 := Lib.hid (H5.out.step hs6 hg6)
            replace O5 := Lib.hid (O5.out.kgr hg6 hgw)
            clear ho6
            clear hs6 hg6 HCC
            obtain ⟨d0, d1, d2, f0, f1, f2⟩ := H6.out.sp
            obtain ⟨p0, p1, p2, p3, p4, q0, q1, q2, q3, q4⟩ := H6.out.pt
            go_wp2_with fail
            go_ret
            exact LongPost.no HNO.out ⟨_, _, _, rfl, (H6.out.store 1 _).store 2 _, rfl⟩
          | some s =>
            obtain ⟨at2, hi1, hi2, hi3, hi4, hi5⟩ := cid_suffix (i := at1) (by rw [HJ3.out]; exact hs) hj2 HBY.out
            obtain ⟨ss, r2⟩ := s
            try simp only at hi3 hi4 hi5
            have HCC := Lib.hid (cid_yes H5.out.1 (x := (ss, r2)) (by rw [HJ3.out]; exact hs))
            go_wp2_with fail
            refine HCC.out.mono ?_
            rintro e w6 ⟨A6, n6, c6, rfl, ho6, hs6, hg6⟩
            have H6 := Lib.hid (H5.out.step hs6 hg6)
            replace O5 := Lib.hid (O5.out.kgr hg6 hgw)
            have O6 := Lib.hid (ho6.mono H5.out.2.2.2.1)
            clear ho6
            clear hs6 hg6 HCC
            try simp only at H6 O6
            rw [hi4] at H6
            have HI3 := Lib.hid hi3
            have HLT : Hid (longL b = (tokL 2 r2).bind fun t => endL b 2 dd ss t.1 t.2) := Lib.hid (by rw [HLU.out, hd]; simp only [Option.bind_some]; rw [hs]; rfl)
            clear hi3 hi4 hd hs HLU
            have hr2l : Hid (r2.length = b.length - at2) := Lib.hid (by rw [← HI3.out, List.length_drop])
            have H7 := Lib.hid (((H6.out.store 1 (.slice A5 n5 c5)).store 2 (.slice A6 n6 c6)).cast (cs' := #[.int .u8 1, .slice A5 n5 c5, .slice A6 n6 c6, .slice none 0 0, .int .i64 0, .slice none 0 0]) rfl)
            replace O5 := Lib.hid ((O5.out.st (p := ⟨gp, 1, none⟩) hgpw (.slice A5 n5 c5)).st (p := ⟨gp, 2, none⟩) hgpw (.slice A6 n6 c6))
            replace O6 := Lib.hid ((O6.out.st (p := ⟨gp, 1, none⟩) hgpw (.slice A5 n5 c5)).st (p := ⟨gp, 2, none⟩) hgpw (.slice A6 n6 c6))
            obtain ⟨d0, d1, d2, f0, f1, f2⟩ := H6.out.sp
            obtain ⟨p0, p1, p2, p3, p4, q0, q1, q2, q3, q4⟩ := H6.out.pt
            have O7 : Hid (Own w.heap.size 5 .u8 ((w6.setCell ⟨gp, 1, none⟩ (.slice A5 n5 c5)).setCell ⟨gp, 2, none⟩ (.slice A6 n6 c6)) none 0 0 []) := Lib.hid (Own.nil _ _ _ _)
            obtain ⟨tt, htt⟩ : ∃ t : List Int, t = [] := ⟨_, rfl⟩
            rw [← htt] at O7
            have HEND : Hid (longL b = endL b 2 dd ss tt r2) := Lib.hid (by rw [HLT.out, htt]; rfl)
            clear htt HLT
            obtain ⟨at3, rfl⟩ : ∃ x : Nat, x = at2 := ⟨_, rfl⟩
            obtain ⟨t2, rfl⟩ : ∃ x : List Int, x = r2 := ⟨_, rfl⟩
            have HD3 := HI3
            have HD3L := hr2l
            have HAT3 : Hid (at3 ≤ b.length) := Lib.hid hi2
            cases hv3 : vtake t2 with
            | none =>
              have HNO : Hid (longL b = none) := Lib.hid (by rw [HEND.out]; unfold endL; rw [hv3]; rfl)
              have HCC := Lib.hid (length_none H7.out.1 (by rw [HD3.out]; exact hv3))
              go_wp2_with fail
              refine HCC.out.mono ?_
              rintro e w20 ⟨rfl, hs20, hg20⟩
              have H20 := Lib.hid (H7.out.step hs20 hg20)
              clear hs20 hg20 HCC
              obtain ⟨d0, d1, d2, f0, f1, f2⟩ := H20.out.sp
              obtain ⟨p0, p1, p2, p3, p4, q0, q1, q2, q3, q4⟩ := H20.out.pt
              have HST := Lib.hid ((H20.out.store 4 (.int .i64 (at3 : Nat))).cast (cs' := #[.int .u8 1, .slice A5 n5 c5, .slice A6 n6 c6, .slice none 0 0, .int .i64 (at3 : Nat), .slice none 0 0]) rfl)
              have HCC := Lib.hid (some_yes HST.out.1 0 (by have := HAT3.out; omega))
              go_wp2_with fail
              refine HCC.out.mono ?_
              rintro e w21 ⟨A21, rfl, _, hs21, hg21⟩
              have H21 := Lib.hid (HST.out.step hs21 hg21)
              clear hs21 hg21
              clear d0 d1 d2 f0 f1 f2 p0 p1 p2 p3 p4 q0 q1 q2 q3 q4
              obtain ⟨d0, d1, d2, f0, f1, f2⟩ := H21.out.sp
              obtain ⟨p0, p1, p2, p3, p4, q0, q1, q2, q3, q4⟩ := H21.out.pt
              go_wp2_with fail
              go_ret
              exact LongPost.no HNO.out ⟨_, _, _, rfl, H21.out.setBad true, rfl⟩
            | some v =>
              obtain ⟨vi, u⟩ := v
              have hvu := (vtake_append hv3 []).2.2
              have hv0 := vtake_nonneg (by rw [← HD3.out]; exact HBY.out.drop at3) hv3
              simp only at hvu hv0
              obtain ⟨m, rfl⟩ := Int.eq_ofNat_of_zero_le hv0.1
              have hat4 : at3 + u ≤ b.length := by have h1 := HAT3.out; have h2 := HD3L.out; omega
              have HD4 : Hid (b.length - (t2.drop u).length = at3 + u ∧ (t2.drop u).length = b.length - (at3 + u)) := Lib.hid (by have h1 := HAT3.out; have h2 := HD3L.out; rw [List.length_drop]; omega)
              have hm64 : m < 18446744073709551616 := by omega
              have HCC := Lib.hid (length_some H7.out.1 (v := ((m : Int), u)) (by rw [HD3.out]; exact hv3))
              go_wp2_with fail
              refine HCC.out.mono ?_
              rintro e w20 ⟨rfl, hs20, hg20⟩
              have H20 := Lib.hid (H7.out.step hs20 hg20)
              replace O5 := Lib.hid (O5.out.kgr hg20 hgw)
              replace O6 := Lib.hid (O6.out.kgr hg20 hgw)
              replace O7 := Lib.hid (O7.out.kgr hg20 hgw)
              clear hs20 hg20 HCC
              obtain ⟨d0, d1, d2, f0, f1, f2⟩ := H20.out.sp
              obtain ⟨p0, p1, p2, p3, p4, q0, q1, q2, q3, q4⟩ := H20.out.pt
              have HST := Lib.hid ((H20.out.store 4 (.int .i64 ((at3 + u : Nat) : Int))).cast (cs' := #[.int .u8 1, .slice A5 n5 c5, .slice A6 n6 c6, .slice none 0 0, .int .i64 ((at3 + u : Nat) : Int), .slice none 0 0]) rfl)
              by_cases hfit : (at3 + u) + m ≤ b.length
              · have HCC := Lib.hid (some_yes HST.out.1 m hfit)
                go_wp2_with fail
                refine HCC.out.mono ?_
                rintro e w21 ⟨A21, rfl, _, hs21, hg21⟩
                have H21 := Lib.hid (HST.out.step hs21 hg21)
                replace O5 := Lib.hid ((O5.out.st (p := ⟨gp, 4, none⟩) hgpw _).kgr hg21 hgw)
                replace O6 := Lib.hid ((O6.out.st (p := ⟨gp, 4, none⟩) hgpw _).kgr hg21 hgw)
                replace O7 := Lib.hid ((O7.out.st (p := ⟨gp, 4, none⟩) hgpw _).kgr hg21 hgw)
                clear hs21 hg21
                clear d0 d1 d2 f0 f1 f2 p0 p1 p2 p3 p4 q0 q1 q2 q3 q4
                obtain ⟨d0, d1, d2, f0, f1, f2⟩ := H21.out.sp
                obtain ⟨p0, p1, p2, p3, p4, q0, q1, q2, q3, q4⟩ := H21.out.pt
                by_cases h20 : m < 20
                · have HNO : Hid (longL b = none) := Lib.hid (by rw [HEND.out]; unfold endL; rw [hv3]; simp only [Option.bind_some]; rw [if_pos (.inl (by omega))])
                  go_wp2_with fail
                  go_ret
                  exact LongPost.no HNO.out ⟨_, _, _, rfl, H21.out.setBad true, rfl⟩
                · have HYES : Hid (longL b = some ⟨1, dd, ss, tt, at3 + u, at3 + u + m⟩) := Lib.hid (by rw [HEND.out]; unfold endL; rw [hv3]; simp only [Option.bind_some]; rw [if_neg (by have := HD4.out; omega), HD4.out.1]; rfl)
                  have h20' : decide ((m : Int) < 20) = false := by simp; omega
                  go_wp2_with fail
                  go_ret
                  exact LongPost.yes HYES.out ⟨_, _, _, _, _, _, _, _, _, _, rfl, H21.out.cast rfl, O5.out, O6.out, O7.out⟩
              · have HNO : Hid (longL b = none) := Lib.hid (by rw [HEND.out]; unfold endL; rw [hv3]; simp only [Option.bind_some]; rw [if_pos (.inr (by have := HD4.out; omega))])
                have HCC := Lib.hid (some_no HST.out.1 (m : Int) (by omega) (by omega))
                go_wp2_with fail
                refine HCC.out.mono ?_
                rintro e w21 ⟨rfl, hs21, hg21⟩
                have H21 := Lib.hid (HST.out.step hs21 hg21)
                clear hs21 hg21
                clear d0 d1 d2 f0 f1 f2 p0 p1 p2 p3 p4 q0 q1 q2 q3 q4
                obtain ⟨d0, d1, d2, f0, f1, f2⟩ := H21.out.sp
                obtain ⟨p0, p1, p2, p3, p4, q0, q1, q2, q3, q4⟩ := H21.out.pt
                go_wp2_with fail
                go_ret
                exact LongPost.no HNO.out ⟨_, _, _, rfl, H21.out.setBad true, rfl⟩
      · skip
        have HNO := Lib.hid (HLU3.out (by omega))
        clear HLU2 HLU3
        have H4 := Lib.hid (HL3.out.setBad true)
        have HCC := Lib.hid (cid_no H4.out.1 (.inl rfl))
        go_wp2_with (go_at_call 53; refine (types_any _ _).mono ?_; rintro e w4 ⟨rfl, rfl⟩)
        refine HCC.out.mono ?_
        rintro e w5 ⟨at5, L5, A5, n5, c5, rfl, ho5, hs5, hg5⟩
        have H5 := Lib.hid (H4.out.step hs5 hg5)
        clear ho5
        clear hs5 hg5 HCC
        clear d0 d1 d2 f0 f1 f2 p0 p1 p2 p3 p4 q0 q1 q2 q3 q4
        clear e0
        have HCC := Lib.hid (cid_no H5.out.1 (.inl rfl))
        go_wp2_with fail
        refine HCC.out.mono ?_
        rintro e w6 ⟨at6, L6, A6, n6, c6, rfl, ho6, hs6, hg6⟩
        have H6 := Lib.hid (H5.out.step hs6 hg6)
        clear ho6
        clear hs6 hg6 HCC
        obtain ⟨d0, d1, d2, f0, f1, f2⟩ := H6.out.sp
        obtain ⟨p0, p1, p2, p3, p4, q0, q1, q2, q3, q4⟩ := H6.out.pt
        go_wp2_with fail
        go_ret
        exact LongPost.no HNO.out ⟨_, _, _, rfl, (H6.out.store 1 _).store 2 _, rfl⟩
end Go.Proofs.Ythpacdondnenmaa
/- Contract (layer 3): Split. Conditions: as each theorem states them. -/
namespace Go.Proofs.Ythpacdondnenmaa
open Go.RowKit
def allB : List Int := (List.range 256).map fun i : Nat => (i : Int)
theorem all_mem {b : Int} (h0 : 0 ≤ b) (h1 : b < 256) : b ∈ allB := List.mem_map.2 ⟨b.toNat, List.mem_range.2 (by omega), by omega⟩
theorem and_64 : (allB.all fun b => bits .and .u8 b 64 == (if b / 64 % 2 = 0 then 0 else 64)) = true := by decide +kernel
theorem and64 {b : Int} (h0 : 0 ≤ b) (h1 : b < 256) : bits .and .u8 b 64 = if b / 64 % 2 = 0 then 0 else 64 := by
  have h := List.all_eq_true.1 and_64 b (all_mem h0 h1)
  rwa [beq_iff_eq] at h
theorem and_128 : (allB.all fun b => bits .and .u8 b 128 == (if 128 ≤ b then 128 else 0)) = true := by decide +kernel
theorem and128 {b : Int} (h0 : 0 ≤ b) (h1 : b < 256) : bits .and .u8 b 128 = if 128 ≤ b then 128 else 0 := by
  have h := List.all_eq_true.1 and_128 b (all_mem h0 h1)
  rwa [beq_iff_eq] at h
/-- a slice of bytes that reads as L -/
def Sl (w : World) (v : Value) (L : List Int) : Prop := ∃ A n c, v = .slice A n c ∧ n = L.length ∧ n ≤ c ∧ Rd w.heap.size .u8 w A L
theorem Sl.own {B : Nat} {e : TypeId} {w : World} {A : Option Addr} {n c : Nat} {L : List Int} (h : Own B e .u8 w A n c L) : Sl w (.slice A n c) L := ⟨A, n, c, rfl, h.len, h.cap.1, h.rd⟩
theorem Sl.below {w w' : World} {v : Value} {L : List Int} (h : Sl w v L) (hb : Below w.heap.size w w') : Sl w' v L := by
  obtain ⟨A, n, c, h1, h2, h3, h4⟩ := h
  exact ⟨A, n, c, h1, h2, h3, (h4.below hb (Nat.le_refl _)).mono hb.size⟩
theorem Sl.nil (w : World) : Sl w (.slice none 0 0) [] := ⟨none, 0, 0, rfl, rfl, Nat.le_refl _, Rd.nil⟩
def SplitYes (b : List Int) (p : PartL) (w : World) (e : Ending) (w' : World) : Prop :=
  ∃ vd vs vt vb vr, e = .returned (.tuple #[.agg #[.int .u8 p.space, vd, vs, vt, .int .i64 (p.at_ : Nat), vb], vr, .int .i64 0]) ∧ Sl w' vd p.dst ∧ Sl w' vs p.src ∧ Sl w' vt p.tok ∧ Sl w' vb (b.take p.fin) ∧ Sl w' vr (b.drop p.fin) ∧ Below w.heap.size w w'
def SplitNo (w : World) (e : Ending) (w' : World) : Prop :=
  e = .returned (.tuple #[.agg #[.int .u8 0, .slice none 0 0, .slice none 0 0, .slice none 0 0, .int .i64 0, .slice none 0 0], .slice none 0 0, .int .i64 2]) ∧ Below w.heap.size w w'
def SplitPost (b : List Int) (own : Int) (w : World) (e : Ending) (w' : World) : Prop :=
  (∀ p, splitL b own = some p → SplitYes b p w e w') ∧ (splitL b own = none → SplitNo w e w')
/-- a slice whose block is B or beyond -/
def Fr (B : Nat) (v : Value) : Prop := ∀ A n c, v = .slice A n c → ∀ ad : Addr, A = some ad → B ≤ ad.block
def SlF (B : Nat) (w : World) (v : Value) (L : List Int) : Prop := Sl w v L ∧ Fr B v
theorem SlF.own {B B0 : Nat} {e : TypeId} {w : World} {A : Option Addr} {n c : Nat} {L : List Int} (h : Own B e .u8 w A n c L) (hB : B0 ≤ B) : SlF B0 w (.slice A n c) L :=
  ⟨Sl.own h, fun A' n' c' hv ad hA => by injection hv with h1 h2 h3; subst h1; exact Nat.le_trans hB (h.block ad hA).1⟩
def SplitYesF (b : List Int) (p : PartL) (w : World) (e : Ending) (w' : World) : Prop :=
  ∃ vd vs vt vb vr, e = .returned (.tuple #[.agg #[.int .u8 p.space, vd, vs, vt, .int .i64 (p.at_ : Nat), vb], vr, .int .i64 0]) ∧ SlF w.heap.size w' vd p.dst ∧ Sl w' vs p.src ∧ Sl w' vt p.tok ∧ Sl w' vb (b.take p.fin) ∧ Sl w' vr (b.drop p.fin) ∧ Below w.heap.size w w'
/-- and the destination's id lies in memory of the call's own -/
def SplitPostF (b : List Int) (own : Int) (w : World) (e : Ending) (w' : World) : Prop :=
  SplitPost b own w e w' ∧ ∀ vs r x, e = .returned (.tuple #[.agg vs, r, x]) → Fr w.heap.size (vs.getD 1 undef)
theorem SplitPost.no {b : List Int} {own : Int} {w : World} {e : Ending} {w' : World} (h : splitL b own = none) (h2 : SplitNo w e w') : SplitPost b own w e w' :=
  ⟨(fun p hp => by rw [h] at hp; cases hp), fun _ => h2⟩
theorem SplitPost.yes {b : List Int} {own : Int} {p : PartL} {w : World} {e : Ending} {w' : World} (h : splitL b own = some p) (h2 : SplitYes b p w e w') : SplitPost b own w e w' :=
  ⟨(fun p' hp => by rw [h] at hp; injection hp with hp; subst hp; exact h2), (fun hn => by rw [h] at hn; cases hn)⟩
theorem SplitPostF.no {b : List Int} {own : Int} {w : World} {e : Ending} {w' : World} (h : splitL b own = none) (h2 : SplitNo w e w') : SplitPostF b own w e w' :=
  ⟨SplitPost.no h h2, fun vs r x he A n c hv ad hA => by
    obtain ⟨h3, -⟩ := h2
    rw [h3] at he
    injection he with he
    injection he with he
    injection he with he
    injection he with he h5
    injection he with he
    subst he
    simp at hv
    rw [← hv.1] at hA
    cases hA⟩
theorem SplitPostF.yes {b : List Int} {own : Int} {p : PartL} {w : World} {e : Ending} {w' : World} (h : splitL b own = some p) (h2 : SplitYesF b p w e w') : SplitPostF b own w e w' := by
  obtain ⟨vd, vs, vt, vb, vr, h3, h4, h5⟩ := h2
  refine ⟨SplitPost.yes h ⟨vd, vs, vt, vb, vr, h3, h4.1, h5⟩, fun ws r x he => ?_⟩
  rw [h3] at he
  injection he with he
  injection he with he
  injection he with he
  injection he with he h6
  injection he with he
  subst he
  exact h4.2
theorem results_pt {w : World} {g : Nat} {c0 c1 c2 c3 c4 c5 : Value} {fn : Func} {x u v : Tmp} {tmps : Array Value} (hr : fn.results = #[.cell x 38, .tmp u, .tmp v]) (hx : tmps.getD x undef = .pointer (some ⟨g, 0, none⟩)) (h : Blk w g 38 #[c0, c1, c2, c3, c4, c5]) :
    (results fn tmps).run Try.prog w = .ok (.tuple #[.agg #[c0, c1, c2, c3, c4, c5], tmps.getD u undef, tmps.getD v undef]) w := by
  have a0 := Blk.cell h 0
  have a1 := Blk.cell h 1
  have a2 := Blk.cell h 2
  have a3 := Blk.cell h 3
  have a4 := Blk.cell h 4
  have a5 := Blk.cell h 5
  simp at a0 a1 a2 a3 a4 a5
  have hx' : tmps[x]?.getD undef = .pointer (some ⟨g, 0, none⟩) := by simpa using hx
  simp [results, hr, hx', go_sem, a0, a1, a2, a3, a4, a5]
theorem six {cs : Array Value} (h : cs.size = 6) : ∃ c0 c1 c2 c3 c4 c5, cs = #[c0, c1, c2, c3, c4, c5] := by
  obtain ⟨l⟩ := cs
  match l, h with
  | [c0, c1, c2, c3, c4, c5], _ => exact ⟨c0, c1, c2, c3, c4, c5, rfl⟩

theorem load_pt {w : World} {g : Nat} {c0 c1 c2 c3 c4 c5 : Value} (h : Blk w g 38 #[c0, c1, c2, c3, c4, c5]) :
    (Instr.loadAt 38 (.pointer (some ⟨g, 0, none⟩))).run Try.prog w = .ok (.agg #[c0, c1, c2, c3, c4, c5]) w := by
  have a0 := Blk.cell h 0
  have a1 := Blk.cell h 1
  have a2 := Blk.cell h 2
  have a3 := Blk.cell h 3
  have a4 := Blk.cell h 4
  have a5 := Blk.cell h 5
  simp at a0 a1 a2 a3 a4 a5
  simp [go_sem, a0, a1, a2, a3, a4, a5]
/-- only the packet's block was turned, and it reads as it did -/
def PtS (W : World) (gp : Nat) (cs : Array Value) (w' : World) : Prop := W.grownBy w' (some gp) ∧ Blk w' gp 38 cs
theorem LB.start (w : World) (A : Option Addr) (c : Nat) (b : List Int) (hr : Rd w.heap.size .u8 w A b) (hby : Byt b) (hc : b.length ≤ c) (hl : b.length ≤ 1000000000000) :
    LB w.heap.size w.heap.size (w.heap.size + 1) ((w.alloc (.cells #[.int .u8 0, .slice none 0 0, .slice none 0 0, .slice none 0 0, .int .i64 0, .slice none 0 0] 38)).alloc (.cells #[.slice A b.length c, .int .i64 0, .bool false] 75))
      ((w.alloc (.cells #[.int .u8 0, .slice none 0 0, .slice none 0 0, .slice none 0 0, .int .i64 0, .slice none 0 0] 38)).alloc (.cells #[.slice A b.length c, .int .i64 0, .bool false] 75)) A c b 0 false
      #[.int .u8 0, .slice none 0 0, .slice none 0 0, .slice none 0 0, .int .i64 0, .slice none 0 0] := by
  have hs : ((w.alloc (.cells #[.int .u8 0, .slice none 0 0, .slice none 0 0, .slice none 0 0, .int .i64 0, .slice none 0 0] 38)).heap.size) = w.heap.size + 1 := by simp
  have hb := Blk.new (w.alloc (.cells #[.int .u8 0, .slice none 0 0, .slice none 0 0, .slice none 0 0, .int .i64 0, .slice none 0 0] 38)) 75 #[.slice A b.length c, .int .i64 0, .bool false]
  rw [hs] at hb
  refine ⟨⟨hb, (hr.alloc (Nat.le_refl _) _).alloc (by simp) _, hc, hl, Nat.zero_le _, hby, by omega⟩, Blk.alloc (Blk.new _ _ _) _, Below.refl _ _, Nat.le_refl _, by omega, Nat.le_refl _, by simp⟩

set_option maxRecDepth 100000 in
set_option maxHeartbeats 3000000 in
theorem split_anyF (A : Option Addr) (c : Nat) (b : List Int) (own : Int) (w : World) (hr : Rd w.heap.size .u8 w A b) (hby : Byt b) (hc : b.length ≤ c) (hl : b.length ≤ 1000000000000) (ho0 : -9223372036854775808 ≤ own) (ho1 : own ≤ 9223372036854775807) :
    Calls Try.prog 10 #[.slice A b.length c, .int .i64 own] w (SplitPostF b own w) := by
  have HR := Lib.hid hr
  have HBY := Lib.hid hby
  have HS : Hid (splitL b own = if b.length = 0 ∨ b.getD 0 0 / 64 % 2 = 0 then none
    else if 128 ≤ b.getD 0 0 then longL b
    else if own < 0 ∨ 20 < own ∨ (b.length : Int) - 1 - own < 20 then none
    else some ⟨2, (b.drop 1).take own.toNat, [], [], 1 + own.toNat, b.length⟩) := Lib.hid rfl
  by_cases h0 : b.length = 0
  · have HNO : Hid (splitL b own = none) := Lib.hid (by rw [HS.out, if_pos (.inl h0)])
    clear hr HS
    generalize hL : b.length = L at *
    subst h0
    clear hL
    go_enter Try.func10, Try.ntmps10
    go_wp2_with fail
    refine bodyPost_ret (results_pt (g := w.heap.size) rfl rfl ?_) rfl (SplitPostF.no HNO.out ⟨rfl, ?_⟩)
    · apply Blk.cast
      · (repeat (first | with_reducible exact Blk.new _ _ _ | with_reducible apply Blk.set_ | with_reducible apply Blk.alloc))
      · simp
    · (repeat (first | with_reducible exact Below.refl _ _ | with_reducible refine Below.alloc ?_ (by simp <;> omega) _ | (with_reducible refine Below.setCell ?_ (by simp <;> omega) _)))
  have hx := hby.getD 0
  obtain ⟨ad, hA, _⟩ := hr.isSome (by omega)
  subst hA
  have c0 := hr.at0 (by omega)
  have h64 := and64 hx.1 hx.2
  have h128 := and128 hx.1 hx.2
  have hlp : 0 < b.length := by omega
  generalize hxx : b.getD 0 0 = x at *
  have HXX := Lib.hid hxx
  clear hxx hr
  obtain ⟨hx0, hx1⟩ := hx
  by_cases h1 : x / 64 % 2 = 0
  · have HNO : Hid (splitL b own = none) := Lib.hid (by rw [HS.out, if_pos (.inr h1)])
    rw [if_pos h1] at h64
    clear HS h128
    go_enter Try.func10, Try.ntmps10
    go_wp2_with fail
    refine bodyPost_ret (results_pt (g := w.heap.size) rfl rfl ?_) rfl (SplitPostF.no HNO.out ⟨rfl, ?_⟩)
    · apply Blk.cast
      · (repeat (first | with_reducible exact Blk.new _ _ _ | with_reducible apply Blk.set_ | with_reducible apply Blk.alloc))
      · simp
    · (repeat (first | with_reducible exact Below.refl _ _ | with_reducible refine Below.alloc ?_ (by simp <;> omega) _ | (with_reducible refine Below.setCell ?_ (by simp <;> omega) _)))
  rw [if_neg h1] at h64
  by_cases h2 : 128 ≤ x
  · rw [if_pos h2] at h128
    have HLE : Hid (splitL b own = longL b) := Lib.hid (by rw [HS.out, if_neg (by omega), if_pos h2])
    have HST := Lib.hid (LB.start w (some ad) c b HR.out HBY.out hc hl)
    clear HS
    go_enter Try.func10, Try.ntmps10
    go_wp2_with fail
    have HB0 : Hid (Below w.heap.size w ((w.alloc (.cells #[.int .u8 0, .slice none 0 0, .slice none 0 0, .slice none 0 0, .int .i64 0, .slice none 0 0] 38)).alloc (.cells #[.slice (some ad) b.length c, .int .i64 0, .bool false] 75))) := Lib.hid (((Below.refl w.heap.size w).alloc (Nat.le_refl _) _).alloc (by simp) _)
    generalize ((w.alloc (.cells #[.int .u8 0, .slice none 0 0, .slice none 0 0, .slice none 0 0, .int .i64 0, .slice none 0 0] 38)).alloc (.cells #[.slice (some ad) b.length c, .int .i64 0, .bool false] 75)) = w2 at *
    refine (long_any HST.out hlp).mono ?_
    rintro e w3 hpost
    have hgw := HST.out.lts.2.1
    have hzw := HST.out.2.2.1.size
    cases hlg : longL b with
    | none =>
      obtain ⟨xx, v, cs, rfl, hlb, hsz⟩ := hpost.2 hlg
      obtain ⟨z0, z1, z2, z3, z4, z5, rfl⟩ := six hsz
      have HNO : Hid (splitL b own = none) := Lib.hid (by rw [HLE.out, hlg])
      have H3 := Lib.hid hlb
      have HBK := Lib.hid hlb.2.1
      have HBB := Lib.hid (HB0.out.trans hlb.2.2.1)
      clear hlb hpost hlg hsz
      obtain ⟨d0, d1, d2, f0, f1, f2⟩ := H3.out.sp
      obtain ⟨p0, p1, p2, p3, p4, q0, q1, q2, q3, q4⟩ := H3.out.pt
      have p5 := Blk.cell H3.out.2.1 5
      have q5 := Blk.frozen H3.out.2.1 5
      have h3z := H3.out.2.2.2.1
      simp only [List.getElem?_toArray, List.getElem?_cons_succ, List.getElem?_cons_zero] at p5
      go_wp2_with fail
      refine bodyPost_ret (results_pt (g := w.heap.size) rfl rfl ?_) rfl (SplitPostF.no HNO.out ⟨rfl, ?_⟩)
      · apply Blk.cast
        · (repeat (first | with_reducible exact HBK.out | with_reducible apply Blk.set_))
        · simp
      · (repeat (first | with_reducible exact HBB.out | (with_reducible refine Below.setCell ?_ (by simp) _)))
    | some p =>
      obtain ⟨xx, A1, A2, A3, n1, c1, n2, c2, n3, c3, rfl, hlb, o1, o2, o3⟩ := hpost.1 p hlg
      have HYES : Hid (splitL b own = some p) := Lib.hid (by rw [HLE.out, hlg])
      have hfin := (longL_append hlg HBY.out []).2
      obtain ⟨sp, pd, ps, ptk, pa, pf⟩ := p
      simp only at hfin o1 o2 o3 hlb
      have H3 := Lib.hid hlb
      have HBK := Lib.hid hlb.2.1
      have HBB := Lib.hid (HB0.out.trans hlb.2.2.1)
      have O1 := Lib.hid o1
      have O2 := Lib.hid o2
      have O3 := Lib.hid o3
      clear hlb hpost hlg o1 o2 o3
      obtain ⟨d0, d1, d2, f0, f1, f2⟩ := H3.out.sp
      obtain ⟨p0, p1, p2, p3, p4, q0, q1, q2, q3, q4⟩ := H3.out.pt
      have p5 := Blk.cell H3.out.2.1 5
      have q5 := Blk.frozen H3.out.2.1 5
      have h3z := H3.out.2.2.2.1
      simp only [List.getElem?_toArray, List.getElem?_cons_succ, List.getElem?_cons_zero] at p5
      obtain ⟨Aa, ca, ka1, ka2, ra, la, runa⟩ := slice_h elUh HR.out hc (pf : Int) pf (by omega) rfl
      obtain ⟨Ab, cb, kb1, kb2, rb, lb, runb⟩ := slice_l elUh HR.out hc (pf : Int) (b.length - pf) (by omega) (by omega) (by omega)
      rw [Int.toNat_natCast] at rb lb
      have RA := Lib.hid ra
      have LA := Lib.hid la
      have RB := Lib.hid rb
      have LB' := Lib.hid lb
      clear ra la rb lb
      go_wp2_with (at_builtin; refine wpList_app (o := ⟨some 79, _, _, _, _, _⟩) (B := w2.heap.size) elUh rfl _ _ rfl rfl rfl (Own.nil _ _ _ _) (RA.out.below HBB.out (Nat.le_refl _)) LA.out.symm ?_ ?_ ?_; (rw [LA.out]; simp <;> omega); exact h3z; intro A5 n5 c5 w5 h5; have H5 := Lib.hid h5; have p5' := Below.cell_some (below_of_none H5.out.2.1) p5 (cell_lt p5); have q5' := Blk.frozen (Blk.below HBK.out (below_of_none H5.out.2.1) (Blk.lt HBK.out)) 5; clear h5)
      have gpw : w.heap.size < w2.heap.size := by omega
      have bel5 := below_of_none H5.out.2.1
      have BW5 : Hid (Blk (w5.setCell ⟨w.heap.size, 5, none⟩ (.slice A5 n5 c5)) w.heap.size 38 #[.int .u8 sp, .slice A1 n1 c1, .slice A2 n2 c2, .slice A3 n3 c3, .int .i64 (pa : Nat), .slice A5 n5 c5]) := Lib.hid (Blk.cast (Blk.set_ (Blk.below HBK.out bel5 (Blk.lt HBK.out)) 5 _) (by simp))
      replace O1 := Lib.hid ((O1.out.below bel5).st (p := ⟨w.heap.size, 5, none⟩) gpw (.slice A5 n5 c5))
      replace O2 := Lib.hid ((O2.out.below bel5).st (p := ⟨w.heap.size, 5, none⟩) gpw (.slice A5 n5 c5))
      replace O3 := Lib.hid ((O3.out.below bel5).st (p := ⟨w.heap.size, 5, none⟩) gpw (.slice A5 n5 c5))
      have O5 := Lib.hid (Own.st (Own.cast H5.out.1 (List.nil_append _)) (p := ⟨w.heap.size, 5, none⟩) gpw (.slice A5 n5 c5))
      have HBW : Hid (Below w.heap.size w (w5.setCell ⟨w.heap.size, 5, none⟩ (.slice A5 n5 c5))) := Lib.hid ((HBB.out.trans (bel5.mono HBB.out.size)).setCell (by simp) _)
      have hzW : w2.heap.size ≤ (w5.setCell ⟨w.heap.size, 5, none⟩ (.slice A5 n5 c5)).heap.size := by have := H5.out.2.2.1.size; simp only [World.setCell, Array.size_modify]; omega
      clear H5 p5' q5' bel5 d0 d1 d2 f0 f1 f2 p0 p1 p2 p3 p4 p5 q0 q1 q2 q3 q4 q5 H3 HBK HBB
      generalize w5.setCell ⟨w.heap.size, 5, none⟩ (.slice A5 n5 c5) = W at *
      have hS : (PtS W w.heap.size #[.int .u8 sp, .slice A1 n1 c1, .slice A2 n2 c2, .slice A3 n3 c3, .int .i64 (pa : Nat), .slice A5 n5 c5]) W.drew := ⟨only_drew (World.grownBy.refl _ _), Blk.drew BW5.out⟩
      have hne : Nonempty (CW (PtS W w.heap.size #[.int .u8 sp, .slice A1 n1 c1, .slice A2 n2 c2, .slice A3 n3 c3, .int .i64 (pa : Nat), .slice A5 n5 c5])) := CW.inh hS
      refine wp_region_mix_class (PtS W w.heap.size #[.int .u8 sp, .slice A1 n1 c1, .slice A2 n2 c2, .slice A3 n3 c3, .int .i64 (pa : Nat), .slice A5 n5 c5]) [([0, 1, 2, 3], 4), ([], 5)] [6, 7] (by kernel_rfl) (by kernel_rfl) (by kernel_rfl) (by kernel_rfl) hS ?_
      simp only [pickL, List.map_cons, List.map_nil, List.filterMap_cons, List.filterMap_nil, List.getElem?_cons_succ, List.getElem?_cons_zero]
      refine mixS_cons ?_
      show wpQuiet _ _ _ _ (_ :: _) _
      refine wpQuiet_loadV (o := ⟨some 81, _, _, _, _, _⟩) rfl _ rfl rfl (fun w' hw' => by obtain ⟨r, rfl⟩ := hw'; exact load_pt r.holds.2) ?_
      simp only [Act.put, List.setIfInBounds_toArray, List.set_cons_zero, List.set_cons_succ]
      repeat (show wpQuiet _ _ _ _ (_ :: _) _; go_big_quiet_step (fail))
      refine wpQuiet_nil ?_
      show wpList _ _ _ [_] _ _
      go_wp2_with (at_builtin; refine wpList_app (o := ⟨some 85, _, _, _, _, _⟩) (B := w2.heap.size) elUh rfl _ _ rfl rfl rfl (Own.nil _ _ _ _) (Rd.drew (RB.out.below HBW.out (Nat.le_refl _))) LB'.out.symm ?_ ?_ ?_; (rw [LB'.out]; simp <;> omega); exact hzW; intro A6 n6 c6 w6 h6; have H6 := Lib.hid h6; clear h6)
      have bel6 : Hid (Below W.heap.size W w6) := Lib.hid ((Below.refl W.heap.size W).drew.trans (below_of_none H6.out.2.1))
      have O6 := Lib.hid (Own.cast H6.out.1 (List.nil_append _))
      replace O1 := Lib.hid (O1.out.below bel6.out)
      replace O2 := Lib.hid (O2.out.below bel6.out)
      replace O3 := Lib.hid (O3.out.below bel6.out)
      replace O5 := Lib.hid (O5.out.below bel6.out)
      have BW6 := Lib.hid (Blk.below BW5.out bel6.out (Blk.lt BW5.out))
      have HB6 := Lib.hid (HBW.out.trans (bel6.out.mono (Nat.le_trans (Nat.le_of_lt gpw) hzW)))
      have p0 := Blk.cell BW6.out 0
      have p1 := Blk.cell BW6.out 1
      have p2 := Blk.cell BW6.out 2
      have p3 := Blk.cell BW6.out 3
      have p4 := Blk.cell BW6.out 4
      have p5 := Blk.cell BW6.out 5
      have q0 := Blk.frozen BW6.out 0
      have q1 := Blk.frozen BW6.out 1
      have q2 := Blk.frozen BW6.out 2
      have q3 := Blk.frozen BW6.out 3
      have q4 := Blk.frozen BW6.out 4
      have q5 := Blk.frozen BW6.out 5
      simp only [List.getElem?_toArray, List.getElem?_cons_succ, List.getElem?_cons_zero] at p0 p1 p2 p3 p4 p5
      refine MixQ.class ⟨only_of_below bel6.out _, BW6.out⟩ ?_
      refine mixS_cons ?_
      refine wpQuiet_nil ?_
      show wpList _ _ _ [_] _ _
      go_wp2_with fail
      refine MixQ.class ⟨?_, ?_⟩ ?_
      · (repeat (first | with_reducible exact only_of_below bel6.out _ | (with_reducible refine only_setCell ?_ (.inl rfl) _)))
      · apply Blk.cast
        · (repeat (first | with_reducible exact BW6.out | with_reducible apply Blk.set_))
        · simp
      refine mixS_nil ?_
      repeat (show wpQuiet _ _ _ _ (_ :: _) _; go_big_quiet_step (fail))
      refine wpQuiet_nil ?_
      refine NoPanic.normal ?_
      go_wp2_with fail
      refine bodyPost_ret (results_pt (g := w.heap.size) rfl rfl ?_) rfl (SplitPostF.yes HYES.out ⟨_, _, _, _, _, rfl, SlF.own (Own.kgr O1.out ?_ gpw) (Nat.le_of_lt gpw), Sl.own (Own.kgr O2.out ?_ gpw), Sl.own (Own.kgr O3.out ?_ gpw), Sl.own (Own.kgr O5.out ?_ gpw), Sl.own (Own.kgr O6.out ?_ gpw), ?_⟩)
      · apply Blk.cast
        · (repeat (first | with_reducible exact BW6.out | with_reducible apply Blk.set_))
        · simp
      · (repeat (first | with_reducible exact World.grownBy.refl _ _ | (with_reducible refine only_setCell ?_ (.inl rfl) _)))
      · (repeat (first | with_reducible exact World.grownBy.refl _ _ | (with_reducible refine only_setCell ?_ (.inl rfl) _)))
      · (repeat (first | with_reducible exact World.grownBy.refl _ _ | (with_reducible refine only_setCell ?_ (.inl rfl) _)))
      · (repeat (first | with_reducible exact World.grownBy.refl _ _ | (with_reducible refine only_setCell ?_ (.inl rfl) _)))
      · (repeat (first | with_reducible exact World.grownBy.refl _ _ | (with_reducible refine only_setCell ?_ (.inl rfl) _)))
      · (repeat (first | with_reducible exact HB6.out | (with_reducible refine Below.setCell ?_ (by simp) _)))
  · rw [if_neg h2] at h128
    have HST := Lib.hid (LB.start w (some ad) c b HR.out HBY.out hc hl)
    have HSS : Hid (splitL b own = if own < 0 ∨ 20 < own ∨ (b.length : Int) - 1 - own < 20 then none else some ⟨2, (b.drop 1).take own.toNat, [], [], 1 + own.toNat, b.length⟩) := Lib.hid (by rw [HS.out, if_neg (by omega), if_neg h2])
    clear HS
    by_cases h3 : own < 0 ∨ 20 < own
    · have HNO : Hid (splitL b own = none) := Lib.hid (by rw [HSS.out, if_pos (by omega)])
      clear HSS
      rcases h3 with h3 | h3
      · go_enter Try.func10, Try.ntmps10
        go_wp2_with fail
        refine bodyPost_ret (results_pt (g := w.heap.size) rfl rfl ?_) rfl (SplitPostF.no HNO.out ⟨rfl, ?_⟩)
        · apply Blk.cast
          · (repeat (first | with_reducible exact HST.out.2.1 | with_reducible exact Blk.alloc (Blk.new _ _ _) _ | with_reducible apply Blk.set_))
          · simp
        · (repeat (first | with_reducible exact Below.refl _ _ | with_reducible refine Below.alloc ?_ (by simp <;> omega) _ | (with_reducible refine Below.setCell ?_ (by simp <;> omega) _)))
      · go_enter Try.func10, Try.ntmps10
        go_wp2_with fail
        refine bodyPost_ret (results_pt (g := w.heap.size) rfl rfl ?_) rfl (SplitPostF.no HNO.out ⟨rfl, ?_⟩)
        · apply Blk.cast
          · (repeat (first | with_reducible exact HST.out.2.1 | with_reducible exact Blk.alloc (Blk.new _ _ _) _ | with_reducible apply Blk.set_))
          · simp
        · (repeat (first | with_reducible exact Below.refl _ _ | with_reducible refine Below.alloc ?_ (by simp <;> omega) _ | (with_reducible refine Below.setCell ?_ (by simp <;> omega) _)))
    · obtain ⟨m, rfl⟩ := Int.eq_ofNat_of_zero_le (show 0 ≤ own by omega)
      have hm20 : m ≤ 20 := by omega
      have hown1 : decide ((m : Int) < 0) = false := by simp
      have hown2 : decide (20 < (m : Int)) = false := by simp; omega
      clear h3
      have hneg : w.heap.size ≠ w.heap.size + 1 := by omega
      go_enter Try.func10, Try.ntmps10
      go_wp2_with fail
      have HB0 : Hid (Below w.heap.size w ((w.alloc (.cells #[.int .u8 0, .slice none 0 0, .slice none 0 0, .slice none 0 0, .int .i64 0, .slice none 0 0] 38)).alloc (.cells #[.slice (some ad) b.length c, .int .i64 0, .bool false] 75))) := Lib.hid (((Below.refl w.heap.size w).alloc (Nat.le_refl _) _).alloc (by simp) _)
      generalize ((w.alloc (.cells #[.int .u8 0, .slice none 0 0, .slice none 0 0, .slice none 0 0, .int .i64 0, .slice none 0 0] 38)).alloc (.cells #[.slice (some ad) b.length c, .int .i64 0, .bool false] 75)) = w2 at *
      have hgw := HST.out.lts.2.1
      have hT1 := Lib.hid (take_yes HST.out.1 1 (by omega))
      refine hT1.out.mono ?_
      rintro e w7 ⟨A7, n7, c7, rfl, ho7, hs7, hg7⟩
      have H7 := Lib.hid (HST.out.step hs7 hg7)
      have h7z := H7.out.2.2.2.1
      clear ho7 hs7 hg7 hT1
      by_cases hfit : 1 + m ≤ b.length
      · have hT2 := Lib.hid (take_yes H7.out.1 m (by omega))
        go_wp2_with fail
        refine hT2.out.mono ?_
        rintro e w8 ⟨A1, n1, c1, rfl, ho8, hs8, hg8⟩
        have H8' := H7.out.step hs8 hg8
        obtain ⟨k1, hk1⟩ : ∃ k : Nat, k = 0 + 1 + m := ⟨_, rfl⟩
        rw [← hk1] at H8'
        have H8 := Lib.hid H8'
        have hk1a : k1 ≤ 1 + m := by omega
        have hk1b : 1 + m ≤ k1 := by omega
        have HK1 := Lib.hid hk1
        clear hk1 H8'
        have O1 := Lib.hid (ho8.mono h7z)
        have H3 := Lib.hid ((((H8.out.store 0 (.int .u8 2)).store 1 (.slice A1 n1 c1)).store 4 (.int .i64 (k1 : Nat))).cast (cs' := #[.int .u8 2, .slice A1 n1 c1, .slice none 0 0, .slice none 0 0, .int .i64 (k1 : Nat), .slice none 0 0]) rfl)
        have gpw : w.heap.size < w2.heap.size := by omega
        clear ho8 hs8 hg8 hT2
        obtain ⟨d0, d1, d2, f0, f1, f2⟩ := H8.out.sp
        obtain ⟨p0, p1, p2, p3, p4, q0, q1, q2, q3, q4⟩ := H8.out.pt
        have p5 := Blk.cell H8.out.2.1 5
        have q5 := Blk.frozen H8.out.2.1 5
        have h3z := H8.out.2.2.2.1
        simp only [List.getElem?_toArray, List.getElem?_cons_succ, List.getElem?_cons_zero] at p5
        by_cases h20 : (b.length : Int) - 1 - m < 20
        · have HNO : Hid (splitL b m = none) := Lib.hid (by rw [HSS.out, if_pos (by omega)])
          have HBK := Lib.hid ((((H8.out.store 0 (.int .u8 2)).store 1 (.slice A1 n1 c1)).store 4 (.int .i64 (k1 : Nat))).setBad true).2.1
          have HBB := Lib.hid (HB0.out.trans H8.out.2.2.1)
          go_wp2_with fail
          refine bodyPost_ret (results_pt (g := w.heap.size) rfl rfl ?_) rfl (SplitPostF.no HNO.out ⟨rfl, ?_⟩)
          · apply Blk.cast
            · (repeat (first | with_reducible exact HBK.out | with_reducible apply Blk.set_))
            · simp
          · (repeat (first | with_reducible exact HBB.out | (with_reducible refine Below.setCell ?_ (by simp) _)))
        · have HYES : Hid (splitL b m = some ⟨2, (b.drop 1).take m, [], [], k1, b.length⟩) := Lib.hid (by rw [HSS.out, if_neg (by omega), Int.toNat_natCast, HK1.out, Nat.zero_add])
          have h20' : decide ((b.length : Int) - (k1 : Int) < 20) = false := by simp; omega
          have HBK := Lib.hid (Blk.far H3.out.2.1 (p := ⟨w.heap.size + 1, 2, none⟩) (by simp) (.bool false))
          have HBB := Lib.hid ((HB0.out.trans H3.out.2.2.1).setCell (p := ⟨w.heap.size + 1, 2, none⟩) (by simp) (.bool false))
          replace O1 := Lib.hid ((((O1.out.st (p := ⟨w.heap.size, 0, none⟩) gpw (.int .u8 2)).st (p := ⟨w.heap.size, 1, none⟩) gpw (.slice A1 n1 c1)).st (p := ⟨w.heap.size, 4, none⟩) gpw (.int .i64 (k1 : Nat))).st (p := ⟨w.heap.size + 1, 2, none⟩) hgw (.bool false))
          rw [Nat.zero_add] at O1
          have h3z := (H3.out.setBad false).2.2.2.1
          clear p5
          have p5 := Blk.cell HBK.out 5
          simp only [List.getElem?_toArray, List.getElem?_cons_succ, List.getElem?_cons_zero] at p5
          obtain ⟨Aa, ca, ka1, ka2, ra, la, runa⟩ := slice_h elUh HR.out hc (b.length : Int) b.length (by omega) rfl
          obtain ⟨Ab, cb, kb1, kb2, rb, lb, runb⟩ := slice_l elUh HR.out hc (b.length : Int) 0 (by omega) (by omega) (by omega)
          rw [Int.toNat_natCast] at rb lb
          have RA := Lib.hid ra
          have LA := Lib.hid la
          have RB := Lib.hid rb
          have LB' := Lib.hid lb
          clear ra la rb lb
          go_wp2_with (at_builtin; refine wpList_app (o := ⟨some 79, _, _, _, _, _⟩) (B := w2.heap.size) elUh rfl _ _ rfl rfl rfl (Own.nil _ _ _ _) (RA.out.below HBB.out (Nat.le_refl _)) LA.out.symm ?_ ?_ ?_; (rw [LA.out]; simp <;> omega); exact h3z; intro A5 n5 c5 w5 h5; have H5 := Lib.hid h5; have p5' := Below.cell_some (below_of_none H5.out.2.1) p5 (cell_lt p5); have q5' := Blk.frozen (Blk.below HBK.out (below_of_none H5.out.2.1) (Blk.lt HBK.out)) 5; clear h5)
          have bel5 := below_of_none H5.out.2.1
          have BW5 : Hid (Blk (w5.setCell ⟨w.heap.size, 5, none⟩ (.slice A5 n5 c5)) w.heap.size 38 #[.int .u8 2, .slice A1 n1 c1, .slice none 0 0, .slice none 0 0, .int .i64 (k1 : Nat), .slice A5 n5 c5]) := Lib.hid (Blk.cast (Blk.set_ (Blk.below HBK.out bel5 (Blk.lt HBK.out)) 5 _) (by simp))
          replace O1 := Lib.hid ((O1.out.below bel5).st (p := ⟨w.heap.size, 5, none⟩) gpw (.slice A5 n5 c5))
          have O5 := Lib.hid (Own.st (Own.cast H5.out.1 (List.nil_append _)) (p := ⟨w.heap.size, 5, none⟩) gpw (.slice A5 n5 c5))
          have HBW : Hid (Below w.heap.size w (w5.setCell ⟨w.heap.size, 5, none⟩ (.slice A5 n5 c5))) := Lib.hid ((HBB.out.trans (bel5.mono HBB.out.size)).setCell (by simp) _)
          have hzW : w2.heap.size ≤ (w5.setCell ⟨w.heap.size, 5, none⟩ (.slice A5 n5 c5)).heap.size := by have := H5.out.2.2.1.size; simp only [World.setCell, Array.size_modify]; omega
          clear H5 p5' q5' bel5 d0 d1 d2 f0 f1 f2 p0 p1 p2 p3 p4 p5 q0 q1 q2 q3 q4 q5 H3 HBK HBB
          generalize w5.setCell ⟨w.heap.size, 5, none⟩ (.slice A5 n5 c5) = W at *
          have hS : (PtS W w.heap.size #[.int .u8 2, .slice A1 n1 c1, .slice none 0 0, .slice none 0 0, .int .i64 (k1 : Nat), .slice A5 n5 c5]) W.drew := ⟨only_drew (World.grownBy.refl _ _), Blk.drew BW5.out⟩
          have hne : Nonempty (CW (PtS W w.heap.size #[.int .u8 2, .slice A1 n1 c1, .slice none 0 0, .slice none 0 0, .int .i64 (k1 : Nat), .slice A5 n5 c5])) := CW.inh hS
          refine wp_region_mix_class (PtS W w.heap.size #[.int .u8 2, .slice A1 n1 c1, .slice none 0 0, .slice none 0 0, .int .i64 (k1 : Nat), .slice A5 n5 c5]) [([0, 1, 2, 3], 4), ([], 5)] [6, 7] (by kernel_rfl) (by kernel_rfl) (by kernel_rfl) (by kernel_rfl) hS ?_
          simp only [pickL, List.map_cons, List.map_nil, List.filterMap_cons, List.filterMap_nil, List.getElem?_cons_succ, List.getElem?_cons_zero]
          refine mixS_cons ?_
          show wpQuiet _ _ _ _ (_ :: _) _
          refine wpQuiet_loadV (o := ⟨some 81, _, _, _, _, _⟩) rfl _ rfl rfl (fun w' hw' => by obtain ⟨r, rfl⟩ := hw'; exact load_pt r.holds.2) ?_
          simp only [Act.put, List.setIfInBounds_toArray, List.set_cons_zero, List.set_cons_succ]
          repeat (show wpQuiet _ _ _ _ (_ :: _) _; go_big_quiet_step (fail))
          refine wpQuiet_nil ?_
          show wpList _ _ _ [_] _ _
          go_wp2_with (at_builtin; refine wpList_app (o := ⟨some 85, _, _, _, _, _⟩) (B := w2.heap.size) elUh rfl _ _ rfl rfl rfl (Own.nil _ _ _ _) (Rd.drew (RB.out.below HBW.out (Nat.le_refl _))) LB'.out.symm ?_ ?_ ?_; (rw [LB'.out]; simp <;> omega); exact hzW; intro A6 n6 c6 w6 h6; have H6 := Lib.hid h6; clear h6)
          have bel6 : Hid (Below W.heap.size W w6) := Lib.hid ((Below.refl W.heap.size W).drew.trans (below_of_none H6.out.2.1))
          have O6 := Lib.hid (Own.cast H6.out.1 (List.nil_append _))
          replace O1 := Lib.hid (O1.out.below bel6.out)
          replace O5 := Lib.hid (O5.out.below bel6.out)
          have BW6 := Lib.hid (Blk.below BW5.out bel6.out (Blk.lt BW5.out))
          have HB6 := Lib.hid (HBW.out.trans (bel6.out.mono (Nat.le_trans (Nat.le_of_lt gpw) hzW)))
          have p0 := Blk.cell BW6.out 0
          have p1 := Blk.cell BW6.out 1
          have p2 := Blk.cell BW6.out 2
          have p3 := Blk.cell BW6.out 3
          have p4 := Blk.cell BW6.out 4
          have p5 := Blk.cell BW6.out 5
          have q0 := Blk.frozen BW6.out 0
          have q1 := Blk.frozen BW6.out 1
          have q2 := Blk.frozen BW6.out 2
          have q3 := Blk.frozen BW6.out 3
          have q4 := Blk.frozen BW6.out 4
          have q5 := Blk.frozen BW6.out 5
          simp only [List.getElem?_toArray, List.getElem?_cons_succ, List.getElem?_cons_zero] at p0 p1 p2 p3 p4 p5
          refine MixQ.class ⟨only_of_below bel6.out _, BW6.out⟩ ?_
          refine mixS_cons ?_
          refine wpQuiet_nil ?_
          show wpList _ _ _ [_] _ _
          go_wp2_with fail
          refine MixQ.class ⟨?_, ?_⟩ ?_
          · (repeat (first | with_reducible exact only_of_below bel6.out _ | (with_reducible refine only_setCell ?_ (.inl rfl) _)))
          · apply Blk.cast
            · (repeat (first | with_reducible exact BW6.out | with_reducible apply Blk.set_))
            · simp
          refine mixS_nil ?_
          repeat (show wpQuiet _ _ _ _ (_ :: _) _; go_big_quiet_step (fail))
          refine wpQuiet_nil ?_
          refine NoPanic.normal ?_
          go_wp2_with fail
          refine bodyPost_ret (results_pt (g := w.heap.size) rfl rfl ?_) rfl (SplitPostF.yes HYES.out ⟨_, _, _, _, _, rfl, SlF.own (Own.kgr O1.out ?_ gpw) (Nat.le_of_lt gpw), Sl.nil _, Sl.nil _, Sl.own (Own.kgr O5.out ?_ gpw), Sl.own (Own.kgr O6.out ?_ gpw), ?_⟩)
          · apply Blk.cast
            · (repeat (first | with_reducible exact BW6.out | with_reducible apply Blk.set_))
            · simp
          · (repeat (first | with_reducible exact World.grownBy.refl _ _ | (with_reducible refine only_setCell ?_ (.inl rfl) _)))
          · (repeat (first | with_reducible exact World.grownBy.refl _ _ | (with_reducible refine only_setCell ?_ (.inl rfl) _)))
          · (repeat (first | with_reducible exact World.grownBy.refl _ _ | (with_reducible refine only_setCell ?_ (.inl rfl) _)))
          · (repeat (first | with_reducible exact HB6.out | (with_reducible refine Below.setCell ?_ (by simp) _)))
      · have HNO : Hid (splitL b m = none) := Lib.hid (by rw [HSS.out, if_pos (by omega)])
        have hT2 := Lib.hid (take_no H7.out.1 (m : Int) (by omega) (by omega))
        go_wp2_with fail
        refine hT2.out.mono ?_
        rintro e w8 ⟨A1, n1, c1, rfl, ho8, hs8, hg8⟩
        have H3 := Lib.hid (H7.out.step hs8 hg8)
        have HBK := Lib.hid ((((H3.out.store 0 (.int .u8 2)).store 1 (.slice A1 n1 c1)).store 4 (.int .i64 1)).setBad true).2.1
        have HBB := Lib.hid (HB0.out.trans H3.out.2.2.1)
        clear ho8 hs8 hg8 hT2
        obtain ⟨d0, d1, d2, f0, f1, f2⟩ := H3.out.sp
        obtain ⟨p0, p1, p2, p3, p4, q0, q1, q2, q3, q4⟩ := H3.out.pt
        have p5 := Blk.cell H3.out.2.1 5
        have q5 := Blk.frozen H3.out.2.1 5
        have h3z := H3.out.2.2.2.1
        simp only [List.getElem?_toArray, List.getElem?_cons_succ, List.getElem?_cons_zero] at p5
        go_wp2_with fail
        refine bodyPost_ret (results_pt (g := w.heap.size) rfl rfl ?_) rfl (SplitPostF.no HNO.out ⟨rfl, ?_⟩)
        · apply Blk.cast
          · (repeat (first | with_reducible exact HBK.out | with_reducible apply Blk.set_))
          · simp
        · (repeat (first | with_reducible exact HBB.out | (with_reducible refine Below.setCell ?_ (by simp) _)))
theorem split_any (A : Option Addr) (c : Nat) (b : List Int) (own : Int) (w : World) (hr : Rd w.heap.size .u8 w A b) (hby : Byt b) (hc : b.length ≤ c) (hl : b.length ≤ 1000000000000) (ho0 : -9223372036854775808 ≤ own) (ho1 : own ≤ 9223372036854775807) :
    Calls Try.prog 10 #[.slice A b.length c, .int .i64 own] w (SplitPost b own w) := (split_anyF A c b own w hr hby hc hl ho0 ho1).mono fun _ _ h => h.1
end Go.Proofs.Ythpacdondnenmaa
