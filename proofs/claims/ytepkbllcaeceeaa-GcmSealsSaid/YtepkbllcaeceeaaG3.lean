/- Sealing and opening of layer 9 as plain functions on lists of bytes; what was sealed is opened as it was, and nothing that differs from it in one byte. Conditions: as each theorem states them. -/
import Derived.Test.YtepkbllcaeceeaaE9
import Derived.Test.YtepkbllcaeceeaaG2
namespace Go.Proofs.Ytepkbllcaeceeaa
/-- a nonce's i-th block -/
def ctrL (key nonce : List Int) (i : Nat) : List Int := aesL key (nonce ++ byk 4 i)
theorem ctr_in {nonce : List Int} (hn : nonce.length = 12) (hb : Byt nonce) (i : Nat) : Blk16 (nonce ++ byk 4 i) :=
  ⟨by rw [List.length_append, hn, byk_len], hb.append (byk_byt _ _)⟩
theorem ctrL_ok {key nonce : List Int} (hk : Blk16 key) (hn : nonce.length = 12) (hb : Byt nonce) (i : Nat) : Blk16 (ctrL key nonce i) := aesL_ok hk (ctr_in hn hb i)
/-- a text, turned -/
def turnL (key nonce b : List Int) : List Int := (List.range b.length).map fun k => xb (b.getD k 0) ((ctrL key nonce (2 + k / 16)).getD (k % 16) 0)
theorem turnL_len (key nonce b : List Int) : (turnL key nonce b).length = b.length := by simp [turnL]
theorem turnL_getD (key nonce b : List Int) {k : Nat} (hk : k < b.length) : (turnL key nonce b).getD k 0 = xb (b.getD k 0) ((ctrL key nonce (2 + k / 16)).getD (k % 16) 0) := by
  unfold turnL
  rw [getD_el (by simpa using hk), List.getElem_map, List.getElem_range]
theorem byt_of {s : List Int} (h : ∀ i, i < s.length → B8 (s.getD i 0)) : Byt s := by
  intro x hx
  obtain ⟨i, hi, rfl⟩ := List.mem_iff_getElem.1 hx
  have := h i hi
  rwa [getD_el hi] at this
theorem ext_getD {s t : List Int} (hl : s.length = t.length) (h : ∀ i, i < s.length → s.getD i 0 = t.getD i 0) : s = t := by
  apply List.ext_getElem hl
  intro i h1 h2
  have := h i h1
  rwa [getD_el h1, getD_el h2] at this
theorem turnL_byt (key nonce b : List Int) : Byt (turnL key nonce b) := byt_of fun i hi => by
  rw [turnL_len] at hi
  rw [turnL_getD key nonce b hi]
  exact xb_u _ _
theorem turnL_turnL {key nonce b : List Int} (hk : Blk16 key) (hn : nonce.length = 12) (hnb : Byt nonce) (hb : Byt b) : turnL key nonce (turnL key nonce b) = b := by
  refine ext_getD (by rw [turnL_len, turnL_len]) fun i hi => ?_
  rw [turnL_len] at hi
  rw [turnL_getD _ _ _ hi]
  rw [turnL_len] at hi
  rw [turnL_getD _ _ _ hi]
  exact xb_cancel (hb.getD i) ((ctrL_ok hk hn hnb _).2.getD _)
/-- with noughts up to a multiple of sixteen -/
def whL (l : List Int) : List Int := l ++ List.replicate ((16 - l.length % 16) % 16) 0
theorem whL_byt {l : List Int} (h : Byt l) : Byt (whL l) := h.append fun x hx => by have := (List.mem_replicate.1 hx).2; omega
def fllL (aad text : List Int) : List Int := whL aad ++ whL text ++ (byk 8 (8 * aad.length) ++ byk 8 (8 * text.length))
theorem fllL_byt {aad text : List Int} (ha : Byt aad) (ht : Byt text) : Byt (fllL aad text) := ((whL_byt ha).append (whL_byt ht)).append ((byk_byt _ _).append (byk_byt _ _))
def z16 : List Int := List.replicate 16 0
theorem z16_ok : Blk16 z16 := ⟨by decide, fun x hx => by have := (List.mem_replicate.1 hx).2; omega⟩
def tagL (key nonce aad text : List Int) : List Int := xaL (hashL (aesL key z16) (fllL aad text)) (ctrL key nonce 1)
theorem tagL_len {key nonce : List Int} (hk : Blk16 key) (hn : nonce.length = 12) (hnb : Byt nonce) (aad text : List Int) : (tagL key nonce aad text).length = 16 := by
  unfold tagL
  rw [xaL_len (by rw [hashL_len, (ctrL_ok hk hn hnb 1).1]), hashL_len]
theorem tagL_byt (key nonce aad text : List Int) : Byt (tagL key nonce aad text) := xaL_byt _ _
def gsealL (key nonce aad plain : List Int) : List Int := turnL key nonce plain ++ tagL key nonce aad (turnL key nonce plain)
def gopenL (key nonce aad sealed : List Int) : Option (List Int) :=
  if sealed.length < 16 then none else if tagL key nonce aad (sealed.take (sealed.length - 16)) = sealed.drop (sealed.length - 16) then some (turnL key nonce (sealed.take (sealed.length - 16))) else none
theorem gsealL_byt (key nonce aad plain : List Int) : Byt (gsealL key nonce aad plain) := (turnL_byt _ _ _).append (tagL_byt _ _ _ _)
section
variable {key nonce aad text : List Int}
theorem gsealL_len (hk : Blk16 key) (hn : nonce.length = 12) (hnb : Byt nonce) : (gsealL key nonce aad text).length = text.length + 16 := by
  unfold gsealL; rw [List.length_append, turnL_len, tagL_len hk hn hnb]
theorem gopen_at (key nonce aad : List Int) {t g : List Int} (hg : g.length = 16) : gopenL key nonce aad (t ++ g) = if tagL key nonce aad t = g then some (turnL key nonce t) else none := by
  unfold gopenL
  rw [if_neg (by rw [List.length_append]; omega), List.length_append, hg, Nat.add_sub_cancel, List.take_left, List.drop_left]
theorem gback (hk : Blk16 key) (hn : nonce.length = 12) (hnb : Byt nonce) (ht : Byt text) : gopenL key nonce aad (gsealL key nonce aad text) = some text := by
  unfold gsealL
  rw [gopen_at _ _ _ (tagL_len hk hn hnb _ _), if_pos rfl, turnL_turnL hk hn hnb ht]
end
theorem pc_same {a b : List Int} {p : Nat} (h : ∀ i, i ≠ p → a.getD i 0 = b.getD i 0) {k : Nat} (hk : k ≠ p / 16) : pc a k = pc b k := by
  refine ext16' (pc_len _ _) (pc_len _ _) fun i hi => ?_
  rw [pc_getD _ _ hi, pc_getD _ _ hi]
  exact h _ (by omega)
theorem pc_diff {a b : List Int} {p : Nat} (h : a.getD p 0 ≠ b.getD p 0) : pc a (p / 16) ≠ pc b (p / 16) := fun e => by
  have e2 := congrArg (fun l => l.getD (p % 16) 0) e
  simp only [pc_getD _ _ (Nat.mod_lt p (show 0 < 16 by decide))] at e2
  rw [show 16 * (p / 16) + p % 16 = p by omega] at e2
  exact h e2
/-- texts that differ in one byte alone have other tags -/
theorem tagL_apart {key nonce aad text aad' text' : List Int} (hk : Blk16 key) (hn : nonce.length = 12) (hnb : Byt nonce) (h0 : aesL key z16 ≠ z16) (ha : Byt aad) (ht : Byt text) (ha' : Byt aad') (ht' : Byt text')
    {p : Nat} (hl : (fllL aad text).length = (fllL aad' text').length) (hp : p < (fllL aad text).length) (hs : ∀ i, i ≠ p → (fllL aad text).getD i 0 = (fllL aad' text').getD i 0) (hd : (fllL aad text).getD p 0 ≠ (fllL aad' text').getD p 0) :
    tagL key nonce aad text ≠ tagL key nonce aad' text' := fun e => by
  have hz := aesL_ok hk z16_ok
  have hne : beN (aesL key z16) ≠ 0 := fun h => h0 (beN_inj hz.1 z16_ok.1 hz.2 z16_ok.2 (by rw [h]; decide +kernel))
  have hh := hashL_apart hz.1 hz.2 hne hl (fllL_byt ha ht) (fllL_byt ha' ht') (j := p / 16) (by unfold nBlk; omega) (fun k hk => pc_same hs hk) (pc_diff hd)
  unfold tagL at e
  have hc := ctrL_ok hk hn hnb 1
  refine hh (ext16' (hashL_len _ _) (hashL_len _ _) fun i hi => ?_)
  have e2 := congrArg (fun l => l.getD i 0) e
  simp only [xaL_getD (show (hashL (aesL key z16) (fllL aad text)).length = (ctrL key nonce 1).length by rw [hashL_len, hc.1]), xaL_getD (show (hashL (aesL key z16) (fllL aad' text')).length = (ctrL key nonce 1).length by rw [hashL_len, hc.1])] at e2
  exact xb_inj ((hashL_byt _ _).getD i) ((hashL_byt _ _).getD i) (hc.2.getD i) e2
theorem set_getD (l : List Int) (p : Nat) (x : Int) : (∀ i, i ≠ p → (l.set p x).getD i 0 = l.getD i 0) ∧ (p < l.length → (l.set p x).getD p 0 = x) := by
  refine ⟨fun i hi => ?_, fun hp => ?_⟩
  · rw [getD_set', if_neg (fun h => hi h.1.symm)]
  · rw [getD_set', if_pos ⟨rfl, hp⟩]
theorem append_getD (a b : List Int) (i : Nat) : (a ++ b).getD i 0 = if i < a.length then a.getD i 0 else b.getD (i - a.length) 0 := by
  simp only [List.getD_eq_getElem?_getD]
  split
  · rw [List.getElem?_append_left (by assumption)]
  · rw [List.getElem?_append_right (by omega)]
theorem whL_set {l : List Int} {p : Nat} (x : Int) (hp : p < l.length) : whL (l.set p x) = (whL l).set p x := by
  unfold whL
  rw [List.set_append_left _ _ hp, List.length_set]
theorem whL_le (l : List Int) : l.length ≤ (whL l).length := by unfold whL; rw [List.length_append]; omega
theorem fll_setA {aad text : List Int} {p : Nat} (x : Int) (hp : p < aad.length) : fllL (aad.set p x) text = (fllL aad text).set p x := by
  unfold fllL
  have := whL_le aad
  rw [whL_set x hp, List.length_set, List.append_assoc, List.append_assoc, List.set_append_left _ _ (by omega)]
theorem fll_setT {aad text : List Int} {p : Nat} (x : Int) (hp : p < text.length) : fllL aad (text.set p x) = (fllL aad text).set ((whL aad).length + p) x := by
  unfold fllL
  have := whL_le text
  rw [whL_set x hp, List.length_set, List.append_assoc, List.append_assoc, List.set_append_right _ _ (by omega), List.set_append_left _ _ (by omega), Nat.add_sub_cancel_left]
theorem fllL_lenA (aad text : List Int) : aad.length ≤ (fllL aad text).length ∧ ∀ p, p < text.length → (whL aad).length + p < (fllL aad text).length := by
  have h1 := whL_le aad
  have h2 := whL_le text
  unfold fllL
  simp only [List.length_append]
  exact ⟨by omega, fun p hp => by omega⟩
theorem bytE_set {l : List Int} (h : Byt l) (p : Nat) {x : Int} (hx : B8 x) : Byt (l.set p x) := fun y hy => by
  rcases List.mem_or_eq_of_mem_set hy with h1 | h1
  · exact h y h1
  · subst h1; exact hx
section
variable {key nonce aad text : List Int}
/-- a byte of what was sealed is changed -/
theorem gbad (hk : Blk16 key) (hn : nonce.length = 12) (hnb : Byt nonce) (h0 : aesL key z16 ≠ z16) (ha : Byt aad) (_ht : Byt text) {p : Nat} (hp : p < text.length + 16) {x : Int} (hx : B8 x) (hne : x ≠ (gsealL key nonce aad text).getD p 0) :
    gopenL key nonce aad ((gsealL key nonce aad text).set p x) = none := by
  unfold gsealL at *
  have hl := turnL_len key nonce text
  have hb := turnL_byt key nonce text
  generalize turnL key nonce text = t at *
  have hg := tagL_len hk hn hnb aad t
  rw [append_getD] at hne
  rcases Nat.lt_or_ge p t.length with h1 | h1
  · rw [if_pos h1] at hne
    rw [List.set_append_left _ _ h1, gopen_at _ _ _ hg, if_neg]
    have hs := fll_setT (aad := aad) x h1
    have hlt := (fllL_lenA aad t).2 p h1
    refine Ne.symm (tagL_apart hk hn hnb h0 ha hb ha (bytE_set hb p hx) (p := (whL aad).length + p) (by rw [hs, List.length_set]) hlt (fun i hi => ?_) ?_)
    · rw [hs]; exact ((set_getD _ _ x).1 i hi).symm
    · rw [hs, (set_getD _ _ x).2 hlt]
      intro e
      apply hne
      rw [← e]
      unfold fllL
      rw [List.append_assoc, append_getD, if_neg (by omega), Nat.add_sub_cancel_left, append_getD, if_pos (Nat.lt_of_lt_of_le h1 (whL_le t))]
      unfold whL
      rw [append_getD, if_pos h1]
  · rw [if_neg (by omega)] at hne
    rw [List.set_append_right _ _ h1, gopen_at _ _ _ (by rw [List.length_set]; exact hg), if_neg]
    intro e
    apply hne
    rw [e, (set_getD _ _ x).2 (by rw [hg]; omega)]
/-- a byte of the aad is changed -/
theorem gother (hk : Blk16 key) (hn : nonce.length = 12) (hnb : Byt nonce) (h0 : aesL key z16 ≠ z16) (ha : Byt aad) (_ht : Byt text) {p : Nat} (hp : p < aad.length) {x : Int} (hx : B8 x) (hne : x ≠ aad.getD p 0) :
    gopenL key nonce (aad.set p x) (gsealL key nonce aad text) = none := by
  unfold gsealL at *
  have hb := turnL_byt key nonce text
  generalize turnL key nonce text = t at *
  rw [gopen_at _ _ _ (tagL_len hk hn hnb aad t), if_neg]
  have hs := fll_setA (text := t) x hp
  have hlt : p < (fllL aad t).length := Nat.lt_of_lt_of_le hp (fllL_lenA aad t).1
  refine Ne.symm (tagL_apart hk hn hnb h0 ha hb (bytE_set ha p hx) hb (p := p) (by rw [hs, List.length_set]) hlt (fun i hi => ?_) ?_)
  · rw [hs]; exact ((set_getD _ _ x).1 i hi).symm
  · rw [hs, (set_getD _ _ x).2 hlt]
    intro e
    apply hne
    rw [← e]
    unfold fllL
    rw [List.append_assoc, append_getD, if_pos (Nat.lt_of_lt_of_le hp (whL_le aad))]
    unfold whL
    rw [append_getD, if_pos hp]
end
end Go.Proofs.Ytepkbllcaeceeaa
