
/- Numbers as bytes, numbers of variable length, packets' heads (layers 1 and 3) as plain functions on lists of bytes. Conditions: as each theorem states them. -/
import Derived.Test.YtibjafkclojimaaB
import Derived.Test.YtibjafkclojimaaN
namespace Go.Proofs.Ytibjafkclojimaa
open Go.RowKit

/-- the low bytes of a number, the highest first -/
def beL (n : Int) : Nat → List Int
  | 0 => []
  | k + 1 => n / 256 ^ k % 256 :: beL n k
theorem beL_len (n : Int) (k : Nat) : (beL n k).length = k := by induction k with
  | zero => rfl
  | succ k ih => simp [beL, ih]
theorem beL_byt (n : Int) (k : Nat) : Byt (beL n k) := by induction k with
  | zero => exact Byt.nil
  | succ k ih => exact Byt.cons (by omega) ih
def ofF (a : Int) (b : List Int) : Int := b.foldl (fun a c => 256 * a + c) a
theorem ofF_cons (a x : Int) (b : List Int) : ofF a (x :: b) = ofF (256 * a + x) b := rfl
theorem ofF_snoc (a : Int) (b : List Int) (x : Int) : ofF a (b ++ [x]) = 256 * ofF a b + x := by simp [ofF]
theorem pow_pos256 (k : Nat) : (0 : Int) < 256 ^ k := Int.pow_pos (by decide)
theorem mod_split (n : Int) (h : 0 ≤ n) (k : Nat) : n % 256 ^ (k + 1) = n / 256 ^ k % 256 * 256 ^ k + n % 256 ^ k := by
  obtain ⟨m, rfl⟩ := Int.eq_ofNat_of_zero_le h
  have e := Nat.mod_mul (a := 256 ^ k) (b := 256) (x := m)
  rw [← Nat.pow_succ] at e
  have e2 : ((m % 256 ^ (k + 1) : Nat) : Int) = ((m % 256 ^ k + 256 ^ k * (m / 256 ^ k % 256) : Nat) : Int) := by rw [e]
  simp only [Int.natCast_emod, Int.natCast_add, Int.natCast_mul, Int.natCast_pow, Int.natCast_ediv] at e2
  rw [show ((256 : Nat) : Int) = 256 from rfl] at e2
  rw [e2, Int.mul_comm (m / 256 ^ k % 256 : Int), Int.add_comm]
theorem ofF_beL (a n : Int) (h : 0 ≤ n) (k : Nat) : ofF a (beL n k) = a * 256 ^ k + n % 256 ^ k := by
  induction k generalizing a with
  | zero => simp [beL, ofF, Int.emod_one]
  | succ k ih =>
    have e : ofF a (beL n (k + 1)) = ofF (256 * a + n / 256 ^ k % 256) (beL n k) := rfl
    rw [e, ih, mod_split n h k, Int.add_mul, Int.pow_succ, Int.mul_comm 256 a, Int.mul_assoc, Int.mul_comm 256, ← Int.add_assoc]
theorem ofF_range (a : Int) (b : List Int) (hb : Byt b) (ha : 0 ≤ a) : 0 ≤ ofF a b ∧ ofF a b < (a + 1) * 256 ^ b.length := by
  induction b generalizing a with
  | nil => simp [ofF]; omega
  | cons x b ih =>
    have hx := hb x (by simp)
    have h := ih (256 * a + x) (fun y hy => hb y (by simp [hy])) (by omega)
    rw [ofF_cons]
    refine ⟨h.1, Int.lt_of_lt_of_le h.2 ?_⟩
    rw [List.length_cons, Int.pow_succ, Int.mul_comm (256 ^ b.length), ← Int.mul_assoc]
    exact Int.mul_le_mul_of_nonneg_right (by omega) (Int.le_of_lt (pow_pos256 _))

/-- which class a number is of; 4: it is too great -/
def vcls (n : Int) : Nat := if n ≤ 63 then 0 else if n ≤ 16383 then 1 else if n ≤ 1073741823 then 2 else if n ≤ 4611686018427387903 then 3 else 4
/-- a number's bytes, of class c -/
def vputC (n : Int) (c : Nat) : List Int := (n / 256 ^ (2 ^ c - 1) % 256 + 64 * c) :: beL n (2 ^ c - 1)
def vput (n : Int) : List Int := vputC n (vcls n)
theorem vputC_len (n : Int) (c : Nat) : (vputC n c).length = 2 ^ c := by
  have := Nat.two_pow_pos c
  simp [vputC, beL_len]; omega
theorem vput_len (n : Int) : (vput n).length = 2 ^ vcls n := vputC_len n _
/-- a number that is read, and of how many bytes -/
def vtake : List Int → Option (Int × Nat)
  | [] => none
  | x :: r => if (x :: r).length < 2 ^ (x / 64).toNat then none else some (ofF (x % 64) (r.take (2 ^ (x / 64).toNat - 1)), 2 ^ (x / 64).toNat)
theorem vtake_cons (x : Int) (r : List Int) : vtake (x :: r) = if (x :: r).length < 2 ^ (x / 64).toNat then none else some (ofF (x % 64) (r.take (2 ^ (x / 64).toNat - 1)), 2 ^ (x / 64).toNat) := rfl
theorem vtop {n : Int} (h0 : 0 ≤ n) (hc : vcls n < 4) : n / 256 ^ (2 ^ vcls n - 1) < 64 := by
  unfold vcls at *
  split
  · simp; omega
  · split
    · simp; omega
    · split
      · simp; omega
      · split
        · simp; omega
        · rename_i h1 h2 h3 h4
          rw [if_neg h1, if_neg h2, if_neg h3, if_neg h4] at hc
          omega
theorem vput_byt {n : Int} (h0 : 0 ≤ n) (hc : vcls n < 4) : Byt (vput n) := by
  have ht := vtop h0 hc
  have h1 : 0 ≤ n / 256 ^ (2 ^ vcls n - 1) := Int.ediv_nonneg h0 (Int.le_of_lt (pow_pos256 _))
  exact Byt.cons (by omega) (beL_byt _ _)
theorem vtake_vput {n : Int} (h0 : 0 ≤ n) (hc : vcls n < 4) (r : List Int) : vtake (vput n ++ r) = some (n, 2 ^ vcls n) := by
  have ht := vtop h0 hc
  have h1 : 0 ≤ n / 256 ^ (2 ^ vcls n - 1) := Int.ediv_nonneg h0 (Int.le_of_lt (pow_pos256 _))
  have hp := Nat.two_pow_pos (vcls n)
  unfold vput vputC
  rw [List.cons_append, vtake_cons]
  have e1 : ((n / 256 ^ (2 ^ vcls n - 1) % 256 + 64 * (vcls n : Int)) / 64).toNat = vcls n := by omega
  have e2 : (n / 256 ^ (2 ^ vcls n - 1) % 256 + 64 * (vcls n : Int)) % 64 = n / 256 ^ (2 ^ vcls n - 1) := by omega
  rw [e1, e2, if_neg (by simp [beL_len]; omega)]
  congr 2
  rw [List.take_append_of_le_length (by rw [beL_len]; omega), List.take_of_length_le (by rw [beL_len]; omega), ofF_beL _ _ h0]
  have := Int.mul_ediv_add_emod n (256 ^ (2 ^ vcls n - 1))
  rw [Int.mul_comm] at this
  exact this
theorem vtake_append {b : List Int} {x : Int × Nat} (h : vtake b = some x) (r : List Int) : vtake (b ++ r) = some x ∧ 1 ≤ x.2 ∧ x.2 ≤ b.length := by
  cases b with
  | nil => cases h
  | cons y b =>
    rw [vtake_cons] at h
    split at h
    · cases h
    · rename_i hl
      injection h with h
      have hp := Nat.two_pow_pos (y / 64).toNat
      subst h
      simp only [List.length_cons] at hl
      refine ⟨?_, hp, by simp only [List.length_cons]; omega⟩
      rw [List.cons_append, vtake_cons]
      rw [if_neg (by simp; omega), List.take_append_of_le_length (by omega)]
theorem vtake_nonneg {b : List Int} (hb : Byt b) {x : Int × Nat} (h : vtake b = some x) : 0 ≤ x.1 ∧ x.1 < 18446744073709551616 := by
  cases b with
  | nil => cases h
  | cons y b =>
    have hy := hb y (by simp)
    rw [vtake_cons] at h
    split at h
    · cases h
    · rename_i hl
      injection h with h
      subst h
      have h1 := ofF_range (y % 64) (b.take (2 ^ (y / 64).toNat - 1)) (fun z hz => hb z (by simp [List.mem_of_mem_take hz])) (by omega)
      refine ⟨h1.1, Int.lt_of_lt_of_le h1.2 ?_⟩
      simp only [List.length_cons] at hl
      have hlen : (b.take (2 ^ (y / 64).toNat - 1)).length = 2 ^ (y / 64).toNat - 1 := by rw [List.length_take]; omega
      rw [hlen]
      have h4 : (y / 64).toNat = 0 ∨ (y / 64).toNat = 1 ∨ (y / 64).toNat = 2 ∨ (y / 64).toNat = 3 := by omega
      rcases h4 with h4 | h4 | h4 | h4 <;> rw [h4] <;> simp <;> omega

/-- a packet's head -/
structure HD where
  space : Int
  dst : List Int
  src : List Int
  tok : List Int
  phase : Bool
  pn : Int
  pb : Int
/-- as its types say -/
def HD.Fit (h : HD) : Prop := 0 ≤ h.space ∧ h.space < 256 ∧ Byt h.dst ∧ Byt h.src ∧ Byt h.tok ∧ 0 ≤ h.pn ∧ h.pn < 18446744073709551616
def HD.May (h : HD) : Prop := h.space ≤ 2 ∧ h.dst.length ≤ 20 ∧ h.src.length ≤ 20 ∧ 1 ≤ h.pb ∧ h.pb ≤ 4 ∧ h.pn ≤ 4611686018427387903 ∧ (h.space ≠ 0 → h.tok.length = 0) ∧ (h.space = 2 → h.src.length = 0) ∧ (h.space ≠ 2 → h.phase = false)
def HD.first (h : HD) : Int := if h.space = 2 then (if h.phase then 68 else 64) + (h.pb - 1) else (if h.space = 1 then 224 else 192) + (h.pb - 1)
/-- the bytes behind the first one -/
def HD.rest (h : HD) (n : Int) : List Int :=
  if h.space = 2 then h.dst ++ beL h.pn h.pb.toNat
  else [0, 0, 0, 1, (h.dst.length : Int)] ++ h.dst ++ [(h.src.length : Int)] ++ h.src ++ (if h.space = 0 then vput h.tok.length ++ h.tok else []) ++ vput (h.pb + n) ++ beL h.pn h.pb.toNat
def HD.put (h : HD) (n : Int) : List Int := h.first :: h.rest n
/-- a packet as it comes -/
structure PartL where
  space : Int
  dst : List Int
  src : List Int
  tok : List Int
  at_ : Nat
  fin : Nat
def cidL : List Int → Option (List Int × List Int)
  | [] => none
  | n :: r => if 20 < n ∨ (r.length : Int) < n then none else some (r.take n.toNat, r.drop n.toNat)
def tokL (k : Int) (r : List Int) : Option (List Int × List Int) :=
  if k = 0 then (vtake r).bind fun v => if ((r.drop v.2).length : Int) < v.1 then none else some ((r.drop v.2).take v.1.toNat, (r.drop v.2).drop v.1.toNat)
  else some ([], r)
def endL (b : List Int) (k : Int) (d s t : List Int) (r : List Int) : Option PartL :=
  (vtake r).bind fun v => if v.1 < 20 ∨ ((r.drop v.2).length : Int) < v.1 then none else some ⟨k / 2, d, s, t, b.length - (r.drop v.2).length, b.length - (r.drop v.2).length + v.1.toNat⟩
def longL (b : List Int) : Option PartL :=
  if b.length < 5 ∨ (b.drop 1).take 4 ≠ [0, 0, 0, 1] ∨ (b.getD 0 0 / 16 % 4 ≠ 0 ∧ b.getD 0 0 / 16 % 4 ≠ 2) then none
  else (cidL (b.drop 5)).bind fun d => (cidL d.2).bind fun s => (tokL (b.getD 0 0 / 16 % 4) s.2).bind fun t => endL b (b.getD 0 0 / 16 % 4) d.1 s.1 t.1 t.2
def splitL (b : List Int) (own : Int) : Option PartL :=
  if b.length = 0 ∨ b.getD 0 0 / 64 % 2 = 0 then none
  else if 128 ≤ b.getD 0 0 then longL b
  else if own < 0 ∨ 20 < own ∨ (b.length : Int) - 1 - own < 20 then none
  else some ⟨2, (b.drop 1).take own.toNat, [], [], 1 + own.toNat, b.length⟩

theorem cidL_cons (n : Int) (r : List Int) : cidL (n :: r) = if 20 < n ∨ (r.length : Int) < n then none else some (r.take n.toNat, r.drop n.toNat) := rfl
theorem cidL_append {b : List Int} {x : List Int × List Int} (h : cidL b = some x) (hb : Byt b) (r : List Int) : cidL (b ++ r) = some (x.1, x.2 ++ r) ∧ x.1.length ≤ 20 ∧ Byt x.1 ∧ Byt x.2 ∧ b.length = 1 + x.1.length + x.2.length := by
  cases b with
  | nil => cases h
  | cons n b =>
    have hn := hb n (by simp)
    have hb' : Byt b := fun y hy => hb y (by simp [hy])
    rw [cidL_cons] at h
    split at h
    · cases h
    · rename_i hl
      injection h with h
      subst h
      rw [List.cons_append, cidL_cons]
      rw [if_neg (by simp; omega), List.take_append_of_le_length (by omega), List.drop_append_of_le_length (by omega)]
      refine ⟨rfl, by simp; omega, hb'.take _, hb'.drop _, ?_⟩
      simp only [List.length_cons, List.length_take, List.length_drop]
      omega
theorem tokL_append {k : Int} {b : List Int} {x : List Int × List Int} (h : tokL k b = some x) (hb : Byt b) (r : List Int) : tokL k (b ++ r) = some (x.1, x.2 ++ r) ∧ Byt x.1 ∧ Byt x.2 ∧ x.2.length ≤ b.length := by
  unfold tokL at *
  by_cases hk : k = 0
  · rw [if_pos hk] at h ⊢
    cases hv : vtake b with
    | none => rw [hv] at h; cases h
    | some v =>
      obtain ⟨v1, v2, v3⟩ := vtake_append hv r
      have v4 := vtake_nonneg hb hv
      rw [hv] at h
      simp only [Option.bind_some] at h
      rw [v1]
      simp only [Option.bind_some]
      split at h
      · cases h
      · rename_i hl
        injection h with h
        subst h
        rw [List.drop_append_of_le_length (by omega)]
        rw [if_neg (by rw [List.length_append]; omega), List.take_append_of_le_length (by omega), List.drop_append_of_le_length (by omega)]
        exact ⟨rfl, (hb.drop _).take _, (hb.drop _).drop _, by simp only [List.length_drop]; omega⟩
  · rw [if_neg hk] at h ⊢
    injection h with h
    subst h
    exact ⟨rfl, Byt.nil, hb, Nat.le_refl _⟩
theorem endL_append {c b : List Int} {k : Int} {d s t : List Int} {p : PartL} (h : endL b k d s t c = some p) (hb : Byt c) (hl : c.length ≤ b.length) (r : List Int) : endL (b ++ r) k d s t (c ++ r) = some p ∧ p.fin ≤ b.length := by
  unfold endL at *
  cases hv : vtake c with
  | none => rw [hv] at h; cases h
  | some v =>
    obtain ⟨v1, v2, v3⟩ := vtake_append hv r
    have v4 := vtake_nonneg hb hv
    rw [hv] at h
    simp only [Option.bind_some] at h
    rw [v1]
    simp only [Option.bind_some]
    split at h
    · cases h
    · rename_i hl
      injection h with h
      subst h
      rw [List.drop_append_of_le_length (by omega), if_neg (by rw [List.length_append]; omega)]
      simp only [List.length_append, List.length_drop] at *
      refine ⟨?_, by omega⟩
      congr 2 <;> omega
theorem longL_append {b : List Int} {p : PartL} (h : longL b = some p) (hb : Byt b) (r : List Int) : longL (b ++ r) = some p ∧ p.fin ≤ b.length := by
  unfold longL at *
  split at h
  · cases h
  · rename_i hc
    have h5 : 5 ≤ b.length := by omega
    have e0 : (b ++ r).getD 0 0 = b.getD 0 0 := by
      rw [List.getD_eq_getElem?_getD, List.getD_eq_getElem?_getD, List.getElem?_append_left (by omega)]
    have e1 : ((b ++ r).drop 1).take 4 = (b.drop 1).take 4 := by
      rw [List.drop_append_of_le_length (by omega), List.take_append_of_le_length (by simp; omega)]
    rw [e0, e1, if_neg (fun hh => hc (hh.imp (fun h => by rw [List.length_append] at h; omega) id)), List.drop_append_of_le_length h5]
    cases hd : cidL (b.drop 5) with
    | none => rw [hd] at h; cases h
    | some d =>
      obtain ⟨d1, _, _, d2, d3⟩ := cidL_append hd (hb.drop 5) r
      rw [hd] at h
      rw [d1]
      simp only [Option.bind_some] at h ⊢
      cases hs : cidL d.2 with
      | none => rw [hs] at h; cases h
      | some s =>
        obtain ⟨s1, _, _, s2, s3⟩ := cidL_append hs d2 r
        rw [hs] at h
        rw [s1]
        simp only [Option.bind_some] at h ⊢
        cases ht : tokL (b.getD 0 0 / 16 % 4) s.2 with
        | none => rw [ht] at h; cases h
        | some t =>
          obtain ⟨t1, _, t2, t3⟩ := tokL_append ht s2 r
          rw [ht] at h
          rw [t1]
          simp only [Option.bind_some] at h ⊢
          exact endL_append h t2 (by simp at d3; omega) r
/-- what was put, is split as it was -/
theorem put_long {h : HD} (hf : h.Fit) (hm : h.May) (hs : h.space ≠ 2) (x : Int) (load behind : List Int) (hx : x / 16 = h.first / 16) (h20 : 20 ≤ h.pb + load.length) (hlen : load.length ≤ 65536) (htok : h.tok.length ≤ 4611686018427387903) (own : Int) :
    splitL (x :: (h.rest load.length ++ (load ++ behind))) own = some ⟨h.space, h.dst, h.src, h.tok, 1 + (h.rest load.length).length - h.pb.toNat, 1 + (h.rest load.length).length + load.length⟩ := by
  obtain ⟨f1, f2, f3, f4, f5, f6, f7⟩ := hf
  obtain ⟨m1, m2, m3, m4, m5, m6, m7, m8, m9⟩ := hm
  have hsp : h.space = 0 ∨ h.space = 1 := by omega
  have hfirst : h.first / 16 = (if h.space = 1 then 14 else 12) := by
    unfold HD.first; rw [if_neg hs]; split <;> omega
  rw [hfirst] at hx
  have hx2 : x / 64 % 2 = 1 ∧ 128 ≤ x ∧ x / 16 % 4 = 2 * h.space := by
    rcases hsp with e | e <;> rw [e] at hx ⊢ <;> simp at hx ⊢ <;> omega
  obtain ⟨hx3, hx4, hx5⟩ := hx2
  have hc1 : vcls (h.pb + load.length) < 4 := by unfold vcls; split <;> (try split) <;> (try split) <;> (try split) <;> omega
  have hc2 : vcls (h.tok.length : Int) < 4 := by unfold vcls; split <;> (try split) <;> (try split) <;> (try split) <;> omega
  unfold splitL
  rw [List.getD_cons_zero, if_neg (by simp; omega), if_pos hx4]
  unfold longL
  have er : h.rest load.length = [0, 0, 0, 1, (h.dst.length : Int)] ++ h.dst ++ [(h.src.length : Int)] ++ h.src ++ (if h.space = 0 then vput h.tok.length ++ h.tok else []) ++ vput (h.pb + load.length) ++ beL h.pn h.pb.toNat := by
    unfold HD.rest; rw [if_neg hs]
  generalize hR : h.rest load.length = R at *
  rw [List.getD_cons_zero, hx5]
  have eb : x :: (R ++ (load ++ behind)) = [x, 0, 0, 0, 1] ++ ((h.dst.length : Int) :: (h.dst ++ ((h.src.length : Int) :: (h.src ++ ((if h.space = 0 then vput h.tok.length ++ h.tok else []) ++ (vput (h.pb + load.length) ++ (beL h.pn h.pb.toNat ++ (load ++ behind)))))))) := by
    rw [er]; simp only [List.append_assoc, List.cons_append, List.nil_append]
  have e5 : (x :: (R ++ (load ++ behind))).drop 5 = (h.dst.length : Int) :: (h.dst ++ ((h.src.length : Int) :: (h.src ++ ((if h.space = 0 then vput h.tok.length ++ h.tok else []) ++ (vput (h.pb + load.length) ++ (beL h.pn h.pb.toNat ++ (load ++ behind))))))) := by
    rw [eb]; rfl
  have e4 : ((x :: (R ++ (load ++ behind))).drop 1).take 4 = [0, 0, 0, 1] := by rw [eb]; rfl
  have el : (x :: (R ++ (load ++ behind))).length = 1 + R.length + load.length + behind.length := by simp; omega
  have e5l : 5 ≤ (x :: (R ++ (load ++ behind))).length := by rw [eb]; simp only [List.length_append, List.length_cons, List.length_nil]; omega
  have elR : R.length = 5 + h.dst.length + 1 + h.src.length + (if h.space = 0 then vput h.tok.length ++ h.tok else []).length + (vput (h.pb + load.length)).length + h.pb.toNat := by
    rw [er]; simp only [List.length_append, List.length_cons, List.length_nil, beL_len] <;> omega
  rw [e4, e5, if_neg (by rcases hsp with e | e <;> rw [e] <;> simp <;> omega)]
  generalize hB : x :: (R ++ (load ++ behind)) = B at *
  have cid_put : ∀ (d r : List Int), d.length ≤ 20 → cidL ((d.length : Int) :: (d ++ r)) = some (d, r) := by
    intro d r hd
    rw [cidL_cons, if_neg (by simp; omega), Int.toNat_natCast, List.take_left, List.drop_left]
  rw [cid_put _ _ m2]
  simp only [Option.bind_some]
  rw [cid_put _ _ m3]
  simp only [Option.bind_some]
  have htk : ∀ r, tokL (2 * h.space) ((if h.space = 0 then vput h.tok.length ++ h.tok else []) ++ r) = some (h.tok, r) := by
    intro r
    unfold tokL
    rcases hsp with e | e
    · rw [e]
      simp only [Int.mul_zero, if_true]
      rw [List.append_assoc, vtake_vput (by omega) hc2]
      simp only [Option.bind_some]
      have ed : ((vput h.tok.length ++ (h.tok ++ r)).drop (2 ^ vcls (h.tok.length : Int))) = h.tok ++ r := by
        rw [← vput_len, List.drop_left]
      rw [ed, if_neg (by simp; omega), Int.toNat_natCast, List.take_left, List.drop_left]
    · have : h.tok = [] := List.eq_nil_of_length_eq_zero (m7 (by omega))
      rw [e, this]
      simp
  rw [htk]
  simp only [Option.bind_some]
  unfold endL
  rw [vtake_vput (by omega) hc1]
  simp only [Option.bind_some]
  have ed : ((vput (h.pb + load.length) ++ (beL h.pn h.pb.toNat ++ (load ++ behind))).drop (2 ^ vcls (h.pb + load.length))) = beL h.pn h.pb.toNat ++ (load ++ behind) := by
    rw [← vput_len, List.drop_left]
  rw [ed, if_neg (by simp [beL_len]; omega)]
  have el2 : (beL h.pn h.pb.toNat ++ (load ++ behind)).length = h.pb.toNat + load.length + behind.length := by simp [beL_len]; omega
  rw [el2, el]
  congr 2
  · omega
  · omega
  · omega
theorem put_short {h : HD} (hm : h.May) (hs : h.space = 2) (x : Int) (load : List Int) (hx : x / 32 = h.first / 32) (h20 : 20 ≤ h.pb + load.length) :
    splitL (x :: (h.rest load.length ++ load)) h.dst.length = some ⟨2, h.dst, [], [], 1 + (h.rest load.length).length - h.pb.toNat, 1 + (h.rest load.length).length + load.length⟩ := by
  obtain ⟨m1, m2, m3, m4, m5, m6, m7, m8, m9⟩ := hm
  have hfirst : h.first / 32 = 2 := by
    unfold HD.first; rw [if_pos hs]; split <;> omega
  rw [hfirst] at hx
  have er : h.rest load.length = h.dst ++ beL h.pn h.pb.toNat := by unfold HD.rest; rw [if_pos hs]
  rw [er]
  unfold splitL
  rw [List.getD_cons_zero, if_neg (by simp; omega), if_neg (by omega), if_neg (by simp [beL_len]; omega), Int.toNat_natCast]
  simp only [List.drop_succ_cons, List.drop_zero, List.append_assoc, List.take_left, List.length_cons, List.length_append, beL_len]
  congr 2
  · omega
  · omega
/-- cut short, it is none -/
theorem cut_long {h : HD} (hf : h.Fit) (hm : h.May) (hs : h.space ≠ 2) (load : List Int) (hl : Byt load) (h20 : 20 ≤ h.pb + load.length) (hlen : load.length ≤ 65536) (htok : h.tok.length ≤ 4611686018427387903) (own : Int) (cut : Nat)
    (hc : cut < (h.put load.length ++ load).length) (hb : Byt (h.put load.length)) : splitL ((h.put load.length ++ load).take cut) own = none := by
  have hw := put_long hf hm hs h.first load [] rfl h20 hlen htok own
  have e0 : h.first :: (h.rest load.length ++ (load ++ [])) = h.put load.length ++ load := by unfold HD.put; simp
  rw [e0] at hw
  have elen : (h.put load.length ++ load).length = 1 + (h.rest load.length).length + load.length := by simp [HD.put]; omega
  have hbb : Byt (h.put load.length ++ load) := hb.append hl
  generalize h.put load.length ++ load = b at *
  cases hp : splitL (b.take cut) own with
  | none => rfl
  | some p =>
    exfalso
    unfold splitL at hp hw
    split at hp
    · cases hp
    · rename_i h1
      have hcut : 0 < cut := by
        rcases Nat.eq_zero_or_pos cut with g | g
        · subst g; simp at h1
        · exact g
      have e1 : (b.take cut).getD 0 0 = b.getD 0 0 := by
        rw [List.getD_eq_getElem?_getD, List.getD_eq_getElem?_getD, List.getElem?_take, if_pos hcut]
      rw [e1] at hp h1
      rw [if_neg (by omega)] at hw
      have hlong : 128 ≤ b.getD 0 0 := by
        by_cases g : 128 ≤ b.getD 0 0
        · exact g
        · rw [if_neg g] at hw
          split at hw
          · cases hw
          · injection hw with hw
            have := congrArg PartL.space hw
            simp only at this
            omega
      rw [if_pos hlong] at hp hw
      obtain ⟨q1, q2⟩ := longL_append hp (hbb.take cut) (b.drop cut)
      rw [List.take_append_drop, hw] at q1
      injection q1 with q1
      subst q1
      simp at q2
      omega
theorem rest_byt {h : HD} (hf : h.Fit) (hm : h.May) (n : Int) (hn : 0 ≤ n) (hn2 : n ≤ 65536) (htok : h.tok.length ≤ 4611686018427387903) : Byt (h.rest n) := by
  obtain ⟨f1, f2, f3, f4, f5, f6, f7⟩ := hf
  obtain ⟨m1, m2, m3, m4, m5, m6, m7, m8, m9⟩ := hm
  have hc1 : vcls (h.pb + n) < 4 := by unfold vcls; split <;> (try split) <;> (try split) <;> (try split) <;> omega
  have hc2 : vcls (h.tok.length : Int) < 4 := by unfold vcls; split <;> (try split) <;> (try split) <;> (try split) <;> omega
  unfold HD.rest
  split
  · exact f3.append (beL_byt _ _)
  · refine Byt.append (Byt.append (Byt.append (Byt.append (Byt.append (Byt.append ?_ f3) ?_) f4) ?_) (vput_byt (by omega) hc1)) (beL_byt _ _)
    · intro x hx; simp at hx; omega
    · intro x hx; simp at hx; omega
    · split
      · exact (vput_byt (by omega) hc2).append f5
      · exact Byt.nil
theorem put_byt {h : HD} (hf : h.Fit) (hm : h.May) (n : Int) (hn : 0 ≤ n) (hn2 : n ≤ 65536) (htok : h.tok.length ≤ 4611686018427387903) : Byt (h.put n) := by
  refine Byt.cons ?_ (rest_byt hf hm n hn hn2 htok)
  obtain ⟨m1, m2, m3, m4, m5, m6, m7, m8, m9⟩ := hm
  unfold HD.first
  split <;> split <;> omega
end Go.Proofs.Ytibjafkclojimaa
