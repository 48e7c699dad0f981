/- Layer 21: bytes.Join by the library's contract. Conditions: as each theorem states them. -/
import Derived.Test.YthknncdhjicklaaRows
import Derived.Shelf.Bytes.SlJoin
import Derived.Test.YthknncdhjicklaaAV
import Derived.Test.YthknncdhjicklaaB2
import Derived.Test.YthknncdhjicklaaQO
import Derived.Test.YthknncdhjicklaaQP
import Derived.Test.YthknncdhjicklaaQB
import Derived.Test.YthknncdhjicklaaLV
import Derived.Test.YthknncdhjicklaaBZ
import Derived.Test.YthknncdhjicklaaWS
import Derived.Test.YthknncdhjicklaaBO
import Derived.Test.YthknncdhjicklaaJK
import Derived.Lib.SlFreshShut
import Derived.Lib.SmallJoins
namespace Go.Proofs.Ythknncdhjicklaa
open Go.RowKit
def joinRen : Go.Shelf.Ren := { f := fun n => if n = 14 then 20 else 26, t := fun n => if n = 0 then 0 else if n = 3 then 3 else if n = 4 then 4 else if n = 9 then 9 else if n = 20 then 20 else if n = 22 then 23 else if n = 26 then 57 else 5, g := fun n => n }
theorem joinLays : SlLaysJ.n14 Try.prog joinRen where
  mixed := by kernel_rfl
  f14 := by kernel_rfl
  f15 := by kernel_rfl
  t0 := by kernel_rfl
  a0 := fun w => by kernel_rfl
  z0 := fun w => by kernel_rfl
  v0 := fun w => by kernel_rfl
  t3 := by kernel_rfl
  a3 := fun w => by kernel_rfl
  z3 := fun w => by kernel_rfl
  v3 := fun w => by kernel_rfl
  t4 := by kernel_rfl
  a4 := fun w => by kernel_rfl
  z4 := fun w => by kernel_rfl
  v4 := fun w => by kernel_rfl
  t9 := by kernel_rfl
  a9 := fun w => by kernel_rfl
  z9 := fun w => by kernel_rfl
  v9 := fun w => by kernel_rfl
  t20 := by kernel_rfl
  a20 := fun w => by kernel_rfl
  z20 := fun w => by kernel_rfl
  v20 := fun w => by kernel_rfl
  t22 := by kernel_rfl
  a22 := fun w => by kernel_rfl
  z22 := fun w => by kernel_rfl
  v22 := fun w => by kernel_rfl
  t26 := by kernel_rfl
  a26 := fun w => by kernel_rfl
  z26 := fun w => by kernel_rfl
  v26 := fun w => by kernel_rfl
  t5 := by kernel_rfl
  z5 := fun w => by kernel_rfl
  i5 := by kernel_rfl
theorem fresh_sli {B : Nat} {w' : World} {v : Value} {xs : List Int} (hb : Byt xs) (h : Lib.FreshBytes B w' v (Lib.bytesOf xs)) : ∃ A c, v = .slice A xs.length c ∧ xs.length ≤ c ∧ Rd w'.heap.size .u8 w' A xs ∧ ∀ ad, A = some ad → B ≤ ad.block := by
  obtain ⟨g, cap, zs, e, hB, hc, _, hz, hr, ht, hcl, _⟩ := h
  have hlen : (Lib.bytesOf xs).length = xs.length := Lib.bytesOf_length xs
  rw [hlen] at e hc ht
  have h1 : zs.take xs.length = xs := by
    have h2 := Lib.numsL_bytesOf (zs.take xs.length) (fun y hy => hr y (List.mem_of_mem_take hy))
    rw [ht, Lib.numsL_bytesOf xs hb] at h2
    exact h2.symm
  refine ⟨some ⟨g, 0, none⟩, cap, e, hc, fun i hi => ⟨_, rfl, ?_, ?_⟩, fun ad q => by injection q with q; subst q; exact hB⟩
  · exact World.block_lt_of_cell? w' ⟨g, i, none⟩ (hcl i (by omega))
  · rw [add_zero_addr, hcl i (by omega)]
    congr 2
    have := congrArg (fun l => l.getD i 0) h1
    simp only [List.getD_eq_getElem?_getD, List.getElem?_take, if_pos hi] at this
    rw [List.getD_eq_getElem?_getD, List.getD_eq_getElem?_getD]
    exact this
theorem bytes_cells {B : Nat} {w : World} {A : Option Addr} {xs : List Int} (hb : Byt xs) (hr : Rd B .u8 w A xs) {ad : Addr} (e : A = some ad) (i : Nat) (x : UInt8) (hx : (Lib.bytesOf xs)[i]? = some x) : w.cell? (ad.add i) = some (.int .u8 (x.toNat : Int)) := by
  have hi : i < xs.length := by
    rcases Nat.lt_or_ge i xs.length with q | q
    · exact q
    · rw [List.getElem?_eq_none (by rw [Lib.bytesOf_length]; exact q)] at hx; cases hx
  obtain ⟨ad', e', _, hc⟩ := hr i hi
  rw [e] at e'
  injection e' with e'
  subst e'
  rw [hc]
  have h2 := Lib.numsL_bytesOf xs hb
  have h3 : (Lib.numsL (Lib.bytesOf xs))[i]? = some (x.toNat : Int) := by unfold Lib.numsL; rw [List.getElem?_map, hx]; rfl
  rw [h2] at h3
  rw [List.getD_eq_getElem?_getD, h3]
  rfl
/-- one part of a byte or more -/
theorem bjoin_one (g c : Nat) (t : Tx) (w : World) (hc : w.cell? ⟨g, 0, none⟩ = some (.slice t.A t.xs.length t.c)) (hr : Rd w.heap.size .u8 w t.A t.xs) (hb : Byt t.xs) (h0 : 0 < t.xs.length) (hl : t.xs.length ≤ 1000000000000) :
    Calls Try.prog 20 #[.slice (some ⟨g, 0, none⟩) 1 c, .slice none 0 0] w (SliPost t.xs w) := by
  obtain ⟨ad, hA, _⟩ := hr.isSome h0
  rw [hA] at hc
  have hlen : (Lib.bytesOf t.xs).length = t.xs.length := Lib.bytesOf_length _
  rw [← hlen] at hc
  refine Calls.mono (Any.bytes_Join_one joinLays g 0 c ad t.c (Lib.bytesOf t.xs) (.slice none 0 0) w hc (fun i x hx => bytes_cells hb hr hA i x hx) (by omega) (by omega)) ?_
  rintro e w' ⟨v, rfl, hf, hbl⟩
  obtain ⟨A, c', rfl, h1, h2, _⟩ := fresh_sli hb hf
  exact ⟨A, _, c', rfl, rfl, h1, h2, hbl⟩
/-- two parts -/
theorem bjoin_two (g c : Nat) (t u : Tx) (w : World) (hc2 : 2 ≤ c) (hc : w.cell? ⟨g, 0, none⟩ = some (.slice t.A t.xs.length t.c)) (hd : w.cell? ⟨g, 1, none⟩ = some (.slice u.A u.xs.length u.c)) (hr : Rd w.heap.size .u8 w t.A t.xs) (hs : Rd w.heap.size .u8 w u.A u.xs) (hb : Byt t.xs) (hbu : Byt u.xs) (hl : t.xs.length ≤ 1000000000000) (hlu : u.xs.length ≤ 1000000000000) :
    Calls Try.prog 20 #[.slice (some ⟨g, 0, none⟩) 2 c, .slice none 0 0] w (SliPost (t.xs ++ u.xs) w) := by
  have none_nil : ∀ (z : Tx), Rd w.heap.size .u8 w z.A z.xs → z.A = none → Lib.bytesOf z.xs = [] := fun z hz e => by
    have : z.xs = [] := by
      rcases hx : z.xs with _ | ⟨x, r⟩
      · rfl
      · obtain ⟨ad, h, _⟩ := hz 0 (by rw [hx]; simp)
        rw [e] at h; cases h
    rw [this]; rfl
  have holds : ∀ (z : Tx), Rd w.heap.size .u8 w z.A z.xs → Byt z.xs → Lib.HoldsBytes w (.slice z.A z.xs.length z.c) (Lib.bytesOf z.xs) := fun z hz hzb =>
    ⟨z.A, z.c, by rw [Lib.bytesOf_length], none_nil z hz, fun a e i x hx => bytes_cells hzb hz e i x hx⟩
  have hpa : Lib.PartsAt w ⟨g, 0, none⟩ [.slice t.A t.xs.length t.c, .slice u.A u.xs.length u.c] [Lib.bytesOf t.xs, Lib.bytesOf u.xs] := by
    refine ⟨rfl, fun i v hv => ?_, fun i v l hv hl => ?_⟩
    · match i with
      | 0 => rw [add_zero_addr]; simp at hv; subst hv; exact hc
      | 1 => rw [add_zero_addr]; simp at hv; subst hv; exact hd
      | _ + 2 => simp at hv
    · match i with
      | 0 => simp at hv hl; subst hv hl; exact holds t hr hb
      | 1 => simp at hv hl; subst hv hl; exact holds u hs hbu
      | _ + 2 => simp at hv
  have hjoin : Lib.join [Lib.bytesOf t.xs, Lib.bytesOf u.xs] [] = Lib.bytesOf (t.xs ++ u.xs) := by
    rw [Lib.join_cons]
    simp [Lib.joinTail, Lib.bytesOf]
  refine Calls.mono (Any.bytes_Join_many joinLays g 0 2 c _ _ (.slice none 0 0) [] w rfl (Nat.le_refl _) hpa hc2 ⟨none, 0, rfl, fun _ => rfl, fun a e => by cases e⟩ (by omega) (by simp [Lib.lens, Lib.bytesOf_length]; omega)) ?_
  rintro e w' ⟨v, rfl, hf, hbl⟩
  rw [hjoin] at hf
  obtain ⟨A, c', rfl, h1, h2, _⟩ := fresh_sli (hb.append hbu) hf
  exact ⟨A, _, c', rfl, rfl, h1, h2, hbl⟩
end Go.Proofs.Ythknncdhjicklaa
