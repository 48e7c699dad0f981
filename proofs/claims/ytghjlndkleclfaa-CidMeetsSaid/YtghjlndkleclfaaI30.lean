/- Layer 20: one of the law's frames is learnt, new or again. Conditions: as each theorem states them. -/
import Derived.Test.YtghjlndkleclfaaI29
import Derived.Test.YtghjlndkleclfaaI15
import Derived.Test.YtghjlndkleclfaaI17
namespace Go.Proofs.Ytghjlndkleclfaa
open Go.RowKit
theorem FrR.load {n B k cl i g : Nat} {w : World} {L : List FX} (h : FrR n B w (.slice (some ⟨g, 0, none⟩) k cl) L) (hl : L.length = k) (hi : i < k) : (Instr.loadAt 34 (.pointer (some ⟨g, i * 30, none⟩))).run Try.prog w = .ok (.agg (L.getD i ⟨0, none, 0⟩).vs.toArray) w := by
  obtain ⟨g', c', cur, e, kb, _, _, ht, _⟩ := h.blk (by omega)
  injection e with e1 e2 e3
  injection e1 with e1
  injection e1 with e1 _
  subst e1
  rw [hl] at ht
  exact frow_load kb ht hi rfl (vsF_get L i (by rw [hl]; exact hi))
theorem EntR.load {B g n c i : Nat} {w : World} {l : List CX} (h : EntR B w (.slice (some ⟨g, 0, none⟩) n c) l) (hi : i < l.length) : (Instr.loadAt 47 (.pointer (some ⟨g, i * 18, none⟩))).run Try.prog w = .ok (.agg (l.getD i CX.zero).vs.toArray) w :=
  row_load (P := Try.prog) (vs := (l.getD i CX.zero).vs) (fun j v hv => by
    rw [show (⟨g, i * 18, none⟩ : Addr) = (⟨g, 0, none⟩ : Addr).add (i * 18) by rw [add_zero_addr2], add_of_add, add_zero_addr2]
    exact h.cells hi j v hv) Try.underlying47 (by rw [sizeE, CX.vs_len (h.2 _ (memD hi)).tl])
set_option maxHeartbeats 1000000 in
theorem learn_meets (m B g : Nat) (vo vp : Value) (own : List CX) (nx us : Int) (p : List CX) (x : FX) (lim : Int) (w : World) (h : IdR B g w vo vp ⟨own, nx, p, us, 0, []⟩) (hx : x.Ok m w) (hp : PeerL m p) (hm : m ≤ 30) (ho : own.length ≤ 900) (hlim : lim = (m : Int) + 1) :
    Calls Try.prog 7 #[.pointer (some ⟨g, 0, none⟩), .agg x.vs.toArray, .int .u64 lim] w fun e w' => ∃ vo' vp' p', e = .returned (.int .i64 0) ∧ IdR w.heap.size g w' vo' vp' ⟨own, nx, p', us, 0, []⟩ ∧ w.grownBy w' (some g) ∧ PeerL m p' ∧ (∀ y ∈ p, y ∈ p') ∧ ∃ y ∈ p', y.seq = x.q := by
  have hl := hp.len
  have h1 := hx.lo
  have h2 := hx.hi
  have hrd := slT_rd hx.sl
  by_cases hin : ∃ y ∈ p, y.seq = x.q
  · obtain ⟨y, hy, e⟩ := hin
    obtain ⟨i, hi, hid, hpi⟩ := idx_yes (p := fun z => z.seq == x.q) hy (by simp [e])
    have hd := hp.ok _ (memD hi)
    have hs : (p.getD i CX.zero).seq = x.q := by simpa using hpi
    refine Calls.mono (learn_dup B g vo vp ⟨own, nx, p, us, 0, []⟩ x.q 0 (x.q - 1) lim x.A 1 x.c [x.q] w h hrd rfl (byt1 (by omega) (by omega)) (by omega) (by omega) (by omega) (by omega) i hid (by rw [idx_bs hp.ok]; exact hid) hi ?_ (Int.le_refl _) (by omega) (by show (0 : Int) ≤ x.q; omega) ho (by show p.length ≤ 900; omega) (by simp) (by show (p.length : Int) ≤ lim; omega)) ?_
    · rcases hd.2 with hz | hz
      · omega
      · show (p.getD i CX.zero).tok = tk (x.q - 1)
        rw [hz, hs]
    · rintro e2 w' ⟨vo', vp', rfl, i', g'⟩
      exact ⟨vo', vp', p, rfl, i', g', hp, fun _ h => h, y, hy, e⟩
  · have hno : ∀ z ∈ p, z.seq ≠ x.q := fun z hz e => hin ⟨z, hz, e⟩
    have hid : idx (fun z => z.seq == x.q) p = -1 := idx_no (fun z hz => by have := hno z hz; simpa using this)
    refine Calls.mono (learn_new B g vo vp ⟨own, nx, p, us, 0, []⟩ x.q 0 (x.q - 1) lim x.A 1 x.c [x.q] w h hrd rfl (byt1 (by omega) (by omega)) (by omega) (by omega) (by omega) (by omega) hid (by rw [idx_bs hp.ok]; exact hid) (Int.le_refl _) (by omega) (by show (0 : Int) ≤ x.q; omega) hp.pos hp.ris.rising ho (by show p.length ≤ 900; omega) (by simp) ?_) ?_
    · show (p.length : Int) + 1 ≤ lim
      have := hp.ins (y := ⟨x.q, x.A, 1, x.c, [x.q], tk (x.q - 1)⟩) ⟨rfl, .inr rfl⟩ (by show (0 : Int) ≤ x.q; omega) h2 hno
      have := this.len
      rw [insL_len] at this
      omega
    · rintro e2 w' ⟨vo', vp', y, rfl, hy, i', g'⟩
      have hys : y.seq = x.q := congrArg CE.seq hy
      have hyb : y.bs = [x.q] := congrArg CE.bs hy
      have hyt : y.tok = tk (x.q - 1) := congrArg CE.tok hy
      have hins : p.take (posL x.q p) ++ y :: p.drop (posL x.q p) = insL y p := by unfold insL; rw [hys]
      refine ⟨vo', vp', insL y p, rfl, ?_, g', hp.ins ⟨by rw [hyb, hys], .inr (by rw [hyt, hys])⟩ (by omega) (by omega) (fun z hz => by rw [hys]; exact hno z hz), fun z hz => mem_insL.2 (.inr hz), y, mem_insL.2 (.inl rfl), hys⟩
      rw [← hins]
      exact i'
end Go.Proofs.Ytghjlndkleclfaa
