/- Layer 20: CidMeets, the walk. Conditions: as each theorem states them. -/
import Derived.Test.YtghjlndkleclfaaI30
import Derived.Deep.DeepCutAuto
import Derived.Deep.CutBlock
namespace Go.Proofs.Ytghjlndkleclfaa
open Go.RowKit
/-- the frames of the numbers 1 .. k, in some order -/
def AllL (m : Nat) (L : List FX) : Prop := ∀ j : Nat, 1 ≤ j → j ≤ m → ∃ x ∈ L, x.q = j
set_option maxRecDepth 100000 in
set_option maxHeartbeats 16000000 in
theorem meets_walk (n : Int) (A : Option Addr) (l c : Nat) (ts : List Int) (tw : Bool) (w : World) (hl : l = ts.length) (hr : Rd w.heap.size .u16 w A ts) (hts : ∀ x ∈ ts, 0 ≤ x ∧ x < 65536) :
    Calls Try.prog 3 #[.int .i64 n, .slice A l c, .bool tw] w fun e w' => e = .returned (.bool true) ∧ Below w.heap.size w w' := by
  have R0 := Lib.hid hr
  have HTS := Lib.hid hts
  clear hr hts
  go_enter Try.func3, Try.ntmps3
  go_wp2_with fail
  refine Calls.mono (known20 w) ?_
  rintro e w1 ⟨rfl, b1⟩
  have B1 := Lib.hid b1
  have R1 := Lib.hid (R0.out.below b1 (Nat.le_refl _))
  clear b1
  by_cases hn1 : n < 1
  · go_wp2_with fail
    go_ret
    exact ⟨rfl, B1.out⟩
  by_cases hn2 : 30 < n
  · go_wp2_with fail
    go_ret
    exact ⟨rfl, B1.out⟩
  by_cases hl2 : 100 < l
  · go_wp2_with fail
    go_ret
    exact ⟨rfl, B1.out⟩
  obtain ⟨m, rfl⟩ : ∃ m : Nat, n = m := ⟨n.toNat, by omega⟩
  have hm1 : 1 ≤ m := by omega
  have hm2 : m ≤ 30 := by omega
  clear hn1 hn2
  have B2 := Lib.hid ((B1.out.alloc B1.out.size (.cells #[.int .u8 0] 5)).alloc (by have := B1.out.size; simp; omega) (.cells #[.int .u8 200] 5))
  have S1 : Hid (Rd (w1.heap.size + 1 + 1) .u8 ((w1.alloc (.cells #[.int .u8 0] 5)).alloc (.cells #[.int .u8 200] 5)) (some ⟨w1.heap.size, 0, none⟩) [0]) := Lib.hid (((Rd.newAt (w := w1) rfl rfl).alloc (by simp) _).mono (by omega))
  have S2 : Hid (Rd (w1.heap.size + 1 + 1) .u8 ((w1.alloc (.cells #[.int .u8 0] 5)).alloc (.cells #[.int .u8 200] 5)) (some ⟨w1.heap.size + 1, 0, none⟩) [200]) := Lib.hid (Rd.newAt (by simp) rfl)
  have Z1 : Hid (w1.heap.size + 1 + 1 ≤ ((w1.alloc (.cells #[.int .u8 0] 5)).alloc (.cells #[.int .u8 200] 5)).heap.size) := Lib.hid (by simp)
  have R2 := Lib.hid ((R1.out.alloc B1.out.size (.cells #[.int .u8 0] 5)).alloc (by have := B1.out.size; simp; omega) (.cells #[.int .u8 200] 5))
  clear B1 R1
  go_wp2_with fail
  generalize (w1.alloc (.cells #[.int .u8 0] 5)).alloc (.cells #[.int .u8 200] 5) = w2 at *
  refine Calls.mono (begin_any (some ⟨w1.heap.size, 0, none⟩) (some ⟨w1.heap.size + 1, 0, none⟩) 1 1 1 1 [0] [200] w2 (S1.out.mono Z1.out) (S2.out.mono Z1.out) rfl rfl (byt1 (by omega) (by omega)) (byt1 (by omega) (by omega)) (by omega) (by omega)) ?_
  rintro e w3 ⟨ga, voa, vpa, xa, ya, rfl, ia, hxa, _, hga, b3⟩
  have HXA : Hid (xa.seq = 0 ∧ xa.bs = [0]) := Lib.hid ⟨congrArg CE.seq hxa, congrArg CE.bs hxa⟩
  have HGA : Hid (w2.heap.size ≤ ga ∧ w.heap.size ≤ w2.heap.size) := Lib.hid ⟨hga, B2.out.size⟩
  have B3 := Lib.hid (B2.out.trans (b3.mono B2.out.size))
  have R3 := Lib.hid (R2.out.below b3 (by have := HGA.out; omega))
  have HZ3 : Hid (w2.heap.size ≤ w3.heap.size) := Lib.hid b3.size
  clear b3 hxa hga B2 S1 S2 Z1 R2
  have HGA3 : Hid (ga < w3.heap.size) := Lib.hid ia.lt
  have E4 := (((Below.refl w3.heap.size w3).alloc (Nat.le_refl _) (.cells #[.int .u8 200] 5)).alloc (by simp) (.cells #[.int .u8 0] 5))
  have B4 := Lib.hid (B3.out.trans (E4.mono B3.out.size))
  have IA4 := Lib.hid (ia.below E4)
  have R4 := Lib.hid (R3.out.below E4 (by have := HGA.out; have := HZ3.out; omega))
  have HZ4 : Hid (w3.heap.size ≤ ((w3.alloc (.cells #[.int .u8 200] 5)).alloc (.cells #[.int .u8 0] 5)).heap.size) := Lib.hid E4.size
  have S3 : Hid (Rd (w3.heap.size + 1 + 1) .u8 ((w3.alloc (.cells #[.int .u8 200] 5)).alloc (.cells #[.int .u8 0] 5)) (some ⟨w3.heap.size, 0, none⟩) [200]) := Lib.hid (((Rd.newAt (w := w3) rfl rfl).alloc (by simp) _).mono (by omega))
  have S4 : Hid (Rd (w3.heap.size + 1 + 1) .u8 ((w3.alloc (.cells #[.int .u8 200] 5)).alloc (.cells #[.int .u8 0] 5)) (some ⟨w3.heap.size + 1, 0, none⟩) [0]) := Lib.hid (Rd.newAt (by simp) rfl)
  have Z3 : Hid (w3.heap.size + 1 + 1 ≤ ((w3.alloc (.cells #[.int .u8 200] 5)).alloc (.cells #[.int .u8 0] 5)).heap.size) := Lib.hid (by simp)
  clear E4 ia R3 B3
  go_wp2_with fail
  generalize (w3.alloc (.cells #[.int .u8 200] 5)).alloc (.cells #[.int .u8 0] 5) = w4 at *
  refine Calls.mono (begin_any (some ⟨w3.heap.size, 0, none⟩) (some ⟨w3.heap.size + 1, 0, none⟩) 1 1 1 1 [200] [0] w4 (S3.out.mono Z3.out) (S4.out.mono Z3.out) rfl rfl (byt1 (by omega) (by omega)) (byt1 (by omega) (by omega)) (by omega) (by omega)) ?_
  rintro e w5 ⟨gb, vob, vpb, xb, yb, rfl, ib, _, hyb, hgb, b5⟩
  have HYB : Hid (yb.seq = 0 ∧ yb.bs = [0]) := Lib.hid ⟨congrArg CE.seq hyb, congrArg CE.bs hyb⟩
  have B5 := Lib.hid (B4.out.trans (b5.mono B4.out.size))
  have R5 := Lib.hid (R4.out.below b5 (by have := HGA.out; have := HZ3.out; have := HZ4.out; omega))
  have AB5 : Hid (AB w.heap.size w2.heap.size ga w4.heap.size gb w5 voa vpa vob vpb ⟨[xa], 1, [ya], 0, 0, []⟩ ⟨[xb], 1, [yb], 0, 0, []⟩) := Lib.hid (by
    have h1 := HGA.out
    have h2 := HZ3.out
    have h3 := HZ4.out
    have h4 := HGA3.out
    refine ⟨IA4.out.below b5, ib.r, by omega, fun k hk => ?_, by omega, by omega, fun k hk => ?_⟩
    · have := IA4.out.own.ltb hk
      refine ⟨fun q => ?_, fun q => ?_⟩
      · have := (ib.own.1.lt k q).1; omega
      · have := (ib.peer.1.lt k q).1; omega
    · have := (IA4.out.own.1.lt k hk).1; omega)
  have HZ25 : Hid (w2.heap.size ≤ w5.heap.size) := Lib.hid (by have := HZ3.out; have := HZ4.out; have := b5.size; omega)
  clear b5 hyb hgb ib IA4 R4 B4 S3 S4 Z3 HZ4 HZ3 HGA3
  go_wp2_with fail
  obtain ⟨goa, coa, hva⟩ : ∃ goa coa, voa = .slice (some ⟨goa, 0, none⟩) 1 coa := by
    rcases AB5.out.a.own.form with ⟨_, z⟩ | ⟨go, co, hvo, _⟩
    · cases z
    · exact ⟨go, co, hvo⟩
  subst hva
  obtain ⟨i0, hi0, hz0, hz1, hz2⟩ := info_parts infoF
  have HI0 := Lib.hid hi0
  have HZ0 := Lib.hid hz0
  have HZ1 := Lib.hid hz1
  have HZ2 := Lib.hid hz2
  clear hi0 hz0 hz1 hz2
  go_loopw [10, 48] (fun v i wr => ∃ (k go co : Nat) (Al : Option Addr) (cl : Nat) (own : List CX) (L : List FX), k ≤ m ∧ i = .int .i64 k ∧ v = .slice Al k cl ∧ Hid (FrR m w.heap.size wr (.slice Al k cl) L) ∧ Hid (L.length = k ∧ ∀ j : Nat, 1 ≤ j → j ≤ k → ∃ x ∈ L, x.q = j) ∧ Hid (AB w.heap.size w2.heap.size ga w4.heap.size gb wr (.slice (some ⟨go, 0, none⟩) (k + 1) co) vpa vob vpb ⟨own, (k : Int) + 1, [ya], 0, 0, []⟩ ⟨[xb], 1, [yb], 0, 0, []⟩) ∧ Hid (own.length = k + 1 ∧ SeqL 0 own ∧ ∀ x ∈ own, EOk x) ∧ Hid (Below w.heap.size w wr) ∧ Hid (w5.heap.size ≤ wr.heap.size)) (fun _ i _ => m - (intOf i).toNat)
  case atStart =>
    refine ⟨0, goa, coa, none, 0, [xa], [], by omega, rfl, rfl, Lib.hid ⟨World.ownsRow_nil _ _ _ _, by intro x hx; cases hx⟩, Lib.hid ⟨rfl, by intro j h1 h2; omega⟩, AB5, Lib.hid ⟨rfl, ?_, ?_⟩, B5, Lib.hid (Nat.le_refl _)⟩
    · intro i hi
      have : i = 0 := by simp at hi; omega
      subst this
      simp [HXA.out.1]
    · intro x hx
      simp at hx
      subst hx
      exact ⟨by rw [HXA.out.1, HXA.out.2], .inl HXA.out.1⟩
  case round =>
    obtain ⟨k, go, co, Al, cl, own, L, hk, rfl, rfl, HF, HL, HAB, HOW, HB, HZ⟩ := hrel
    by_cases hlt : k < m
    · have E6 := (Below.refl wr.heap.size wr).alloc (Nat.le_refl _) (.cells #[.int .u8 ((k : Int) + 1)] 5)
      have F6 := Lib.hid (HF.out.below E6)
      have AB6 := Lib.hid (HAB.out.below E6)
      have B6 := Lib.hid (HB.out.trans (E6.mono HB.out.size))
      have C6 := Lib.hid (slT_new wr ((k : Int) + 1))
      have HZ6 := Lib.hid (Nat.le_trans HZ.out E6.size)
      clear HF HAB HB HZ E6
      go_wp2_with fail
      generalize wr.alloc (.cells #[.int .u8 ((k : Int) + 1)] 5) = w6 at *
      obtain ⟨g6, hg6⟩ : ∃ z, wr.heap.size = z := ⟨_, rfl⟩
      rw [hg6] at C6 ⊢
      clear hg6
      have hB6 : w2.heap.size ≤ w6.heap.size := by have := HZ6.out; have := HZ25.out; omega
      have hN6 : w.heap.size ≤ w6.heap.size := B6.out.size
      refine Calls.mono (issue_any w2.heap.size ga go (k + 1) co vpa ⟨own, (k : Int) + 1, [ya], 0, 0, []⟩ k ((m : Int) + 1) (some ⟨g6, 0, none⟩) 1 1 [(k : Int) + 1] w6 AB6.out.a hB6 HOW.out.1 (by omega) C6.out rfl (byt1 (by omega) (by omega)) (by omega) (by omega) (by omega) (by omega) (idx_bsno HOW.out.2.2 (fun x hx => by have := HOW.out.2.1.mem x hx; rw [HOW.out.1] at this; push_cast at this; omega)) (by push_cast; omega) (by show (k : Int) + 1 ≤ _; omega) (by show (0 : Int) ≤ (k : Int) + 1; omega)) ?_
      rintro e w7 ⟨v7, y, A7, n7, c7, rfl, s7, hy, i7, hv7, t7⟩
      obtain rfl : n7 = 1 := slT_n s7
      have HY7 : Hid (y.seq = (k : Int) + 1 ∧ y.bs = [(k : Int) + 1] ∧ y.tok = tk k) := Lib.hid ⟨congrArg CE.seq hy, congrArg CE.bs hy, congrArg CE.tok hy⟩
      obtain ⟨cur6, hk6, _⟩ := AB6.out.a.own.blk
      obtain ⟨vr6, hg6, _⟩ := AB6.out.a.blk
      have AB7 := AB6.out.two rfl ⟨_, hk6⟩ t7 i7 hv7 hN6
      have F7 := Lib.hid (F6.out.two t7 hg6 hk6)
      have B7 := Lib.hid (B6.out.trans (t7.low AB6.out.la (AB6.out.lo go rfl) hN6))
      have HZ7 := Lib.hid (Nat.le_trans HZ6.out t7.size)
      have S7 := Lib.hid s7
      have OW7 : Hid ((own ++ [y]).length = k + 1 + 1 ∧ SeqL 0 (own ++ [y]) ∧ ∀ x ∈ own ++ [y], EOk x) := Lib.hid (by
        refine ⟨by simp [HOW.out.1], HOW.out.2.1.snoc (by rw [HY7.out.1, HOW.out.1]; push_cast; omega), fun x hx => ?_⟩
        rcases List.mem_append.1 hx with hx | hx
        · exact HOW.out.2.2 x hx
        · simp at hx
          subst hx
          exact ⟨by rw [HY7.out.2.1, HY7.out.1], .inr (by rw [HY7.out.2.2, HY7.out.1, Int.add_sub_cancel])⟩)
      obtain ⟨go7, co7, hv7'⟩ : ∃ go7 co7, v7 = .slice (some ⟨go7, 0, none⟩) (k + 1 + 1) co7 := by
        rcases i7.own.form with ⟨_, z⟩ | ⟨g', c', hv, _⟩
        · simp at z
        · exact ⟨g', c', by rw [hv, OW7.out.1]⟩
      subst hv7'
      have AB7' := Lib.hid AB7
      have FK7 : Hid (w7.ownsRow w.heap.size 34 30 (.slice Al k cl) k (vsF L)) := Lib.hid (by have h := F7.out.1; rw [HL.out.1] at h; exact h)
      have F8 : Hid (Blk (w7.alloc (.cells #[.int .u64 0, .int .u64 0, .int .u64 0, .int .u64 0, .int .u64 0, .int .u64 0, .bool false, .slice none 0 0, .slice none 0 0, .int .u8 0, .int .u8 0, .int .u8 0, .int .u8 0, .int .u8 0, .int .u8 0, .int .u8 0, .int .u8 0, .int .u8 0, .int .u8 0, .int .u8 0, .int .u8 0, .int .u8 0, .int .u8 0, .int .u8 0, .int .u8 0, .slice none 0 0, .int .u64 0, .int .u64 0, .int .u64 0, .int .u64 0] 34)) w7.heap.size 34 #[.int .u64 0, .int .u64 0, .int .u64 0, .int .u64 0, .int .u64 0, .int .u64 0, .bool false, .slice none 0 0, .slice none 0 0, .int .u8 0, .int .u8 0, .int .u8 0, .int .u8 0, .int .u8 0, .int .u8 0, .int .u8 0, .int .u8 0, .int .u8 0, .int .u8 0, .int .u8 0, .int .u8 0, .int .u8 0, .int .u8 0, .int .u8 0, .int .u8 0, .slice none 0 0, .int .u64 0, .int .u64 0, .int .u64 0, .int .u64 0]) := Lib.hid (Blk.new _ _ _)
      have hzw := B7.out.size
      clear s7 hy i7 hv7 t7 hk6 hg6 AB7 F6 AB6 B6 HZ6 C6 HOW
      go_wp2_with (first
        | ((with_reducible (show wpList _ _ _ (⟨none, .store 34 _ _, _, _, _, _⟩ :: _) _ _)); go_loud (refine wpList_storeBlk (o := ⟨none, .store 34 _ _, _, _, _, _⟩) (g := w7.heap.size) (t := 34) (vs := [.int .u64 24, .int .u64 ((k : Int) + 1), .int .u64 0, .int .u64 0, .int .u64 0, .int .u64 0, .bool false, .slice none 0 0, .slice A7 1 c7, .int .u8 k, .int .u8 0, .int .u8 0, .int .u8 0, .int .u8 0, .int .u8 0, .int .u8 0, .int .u8 0, .int .u8 0, .int .u8 0, .int .u8 0, .int .u8 0, .int .u8 0, .int .u8 0, .int .u8 0, .int .u8 0, .slice none 0 0, .int .u64 0, .int .u64 0, .int .u64 0, .int .u64 0]) rfl _ _ rfl rfl rfl F8.out rfl (frN_one _ _ _ _ _) sizeF34 ?_); intro w9 z9 g9)
        | ((with_reducible (show wpList _ _ _ (⟨some 67, .load _ _, _, _, _, _⟩ :: _) _ _)); refine wpList_loadV (o := ⟨some 67, .load _ _, _, _, _, _⟩) rfl _ rfl rfl (fr_load z9 rfl) ?_)
        | (at_builtin; go_loud (refine wpList_append_own (o := ⟨some 69, _, _, _, _, _⟩) _ rfl _ _ 28 rfl w.heap.size 34 i0 (.agg #[.int .u64 0, .int .u64 0, .int .u64 0, .int .u64 0, .int .u64 0, .int .u64 0, .bool false, .slice none 0 0, .slice none 0 0, .int .u8 0, .int .u8 0, .int .u8 0, .int .u8 0, .int .u8 0, .int .u8 0, .int .u8 0, .int .u8 0, .int .u8 0, .int .u8 0, .int .u8 0, .int .u8 0, .int .u8 0, .int .u8 0, .int .u8 0, .int .u8 0, .slice none 0 0, .int .u64 0, .int .u64 0, .int .u64 0, .int .u64 0]) 30 176 Try.underlying28 HI0.out HZ0.out HZ1.out HZ2.out rfl (by decide) _ _ _ rfl ((own_below FK7.out (((Below.refl w7.heap.size w7).alloc (Nat.le_refl _) _).trans (below_of_only g9 (Nat.le_refl _) (by simp)))).alloc _) ⟨w9.heap.size, 0, none⟩ 1 1 [.int .u64 24, .int .u64 ((k : Int) + 1), .int .u64 0, .int .u64 0, .int .u64 0, .int .u64 0, .bool false, .slice none 0 0, .slice A7 1 c7, .int .u8 k, .int .u8 0, .int .u8 0, .int .u8 0, .int .u8 0, .int .u8 0, .int .u8 0, .int .u8 0, .int .u8 0, .int .u8 0, .int .u8 0, .int .u8 0, .int .u8 0, .int .u8 0, .int .u8 0, .int .u8 0, .slice none 0 0, .int .u64 0, .int .u64 0, .int .u64 0, .int .u64 0] rfl rfl (blk_at (Blk.new _ _ _)) (frN_one _ _ _ _ _) ?_ ?_ ?_ ?_); (unfold maxLen; omega); omega; (have := g9.size; simp at this ⊢; omega); intro v10 w10 ho10 hg10 _))
      have E9 := ((Below.refl w7.heap.size w7).alloc (Nat.le_refl _) (.cells #[.int .u64 0, .int .u64 0, .int .u64 0, .int .u64 0, .int .u64 0, .int .u64 0, .bool false, .slice none 0 0, .slice none 0 0, .int .u8 0, .int .u8 0, .int .u8 0, .int .u8 0, .int .u8 0, .int .u8 0, .int .u8 0, .int .u8 0, .int .u8 0, .int .u8 0, .int .u8 0, .int .u8 0, .int .u8 0, .int .u8 0, .int .u8 0, .int .u8 0, .slice none 0 0, .int .u64 0, .int .u64 0, .int .u64 0, .int .u64 0] 34)).trans (below_of_only g9 (Nat.le_refl _) (by simp))
      have E9b := E9.alloc E9.size (.cells #[.int .u64 24, .int .u64 ((k : Int) + 1), .int .u64 0, .int .u64 0, .int .u64 0, .int .u64 0, .bool false, .slice none 0 0, .slice A7 1 c7, .int .u8 k, .int .u8 0, .int .u8 0, .int .u8 0, .int .u8 0, .int .u8 0, .int .u8 0, .int .u8 0, .int .u8 0, .int .u8 0, .int .u8 0, .int .u8 0, .int .u8 0, .int .u8 0, .int .u8 0, .int .u8 0, .slice none 0 0, .int .u64 0, .int .u64 0, .int .u64 0, .int .u64 0] 34)
      have AB9 := AB7'.out.below E9b
      have F9 := F7.out.below E9b
      have S9 := S7.out.below E9b
      have B9 := B7.out.trans (E9b.mono B7.out.size)
      have HZ9 := Nat.le_trans HZ7.out E9b.size
      have FK9 := own_below FK7.out E9b
      have rb := row_block FK9 hg10
      have hxx : FX.Ok m (w9.alloc (.cells #[.int .u64 24, .int .u64 ((k : Int) + 1), .int .u64 0, .int .u64 0, .int .u64 0, .int .u64 0, .bool false, .slice none 0 0, .slice A7 1 c7, .int .u8 k, .int .u8 0, .int .u8 0, .int .u8 0, .int .u8 0, .int .u8 0, .int .u8 0, .int .u8 0, .int .u8 0, .int .u8 0, .int .u8 0, .int .u8 0, .int .u8 0, .int .u8 0, .int .u8 0, .int .u8 0, .slice none 0 0, .int .u64 0, .int .u64 0, .int .u64 0, .int .u64 0] 34)) (⟨(k : Int) + 1, A7, c7⟩ : FX) := ⟨S9, by show (1 : Int) ≤ (k : Int) + 1; omega, by show (k : Int) + 1 ≤ (m : Int); omega⟩
      have hvs : (⟨(k : Int) + 1, A7, c7⟩ : FX).vs = [.int .u64 24, .int .u64 ((k : Int) + 1), .int .u64 0, .int .u64 0, .int .u64 0, .int .u64 0, .bool false, .slice none 0 0, .slice A7 1 c7, .int .u8 k, .int .u8 0, .int .u8 0, .int .u8 0, .int .u8 0, .int .u8 0, .int .u8 0, .int .u8 0, .int .u8 0, .int .u8 0, .int .u8 0, .int .u8 0, .int .u8 0, .int .u8 0, .int .u8 0, .int .u8 0, .slice none 0 0, .int .u64 0, .int .u64 0, .int .u64 0, .int .u64 0] := by simp [FX.vs]
      obtain ⟨A10, c10, hv10, _⟩ := own_form ho10
      subst hv10
      refine ⟨⟨k + 1, go7, co7, A10, c10, own ++ [y], L ++ [⟨(k : Int) + 1, A7, c7⟩], by omega, by go_num, rfl, Lib.hid ⟨?_, ?_⟩, Lib.hid ⟨by simp [HL.out.1], ?_⟩, Lib.hid ?_, OW7, Lib.hid (B9.trans (below_own FK9 hg10 B9.size)), Lib.hid (Nat.le_trans HZ9 hg10.size)⟩, ?_⟩
      · rw [List.length_append, HL.out.1, vsF_app, vsF_one, hvs]
        exact ho10
      · intro x hx
        rcases List.mem_append.1 hx with hx | hx
        · exact (F9.2 x hx).fr rb
        · simp at hx
          subst hx
          exact hxx.fr rb
      · intro j h1 h2
        rcases Nat.lt_or_ge k j with hc | hc
        · have : j = k + 1 := by omega
          subst this
          exact ⟨_, List.mem_append.2 (.inr (List.mem_singleton.2 rfl)), by push_cast; rfl⟩
        · obtain ⟨x, hx, e⟩ := HL.out.2 j h1 hc
          exact ⟨x, List.mem_append.2 (.inl hx), e⟩
      · have := AB9.fr rb
        push_cast
        exact this
      · simp [intOf]; omega
    · have hkm : k = m := by omega
      subst hkm
      have E6 := (Below.refl wr.heap.size wr).alloc (Nat.le_refl _) (.cells #[.int .u8 99] 5)
      have F6 := Lib.hid (HF.out.below E6)
      have AB6 := Lib.hid (HAB.out.below E6)
      have B6 := Lib.hid (HB.out.trans (E6.mono HB.out.size))
      have C6 := Lib.hid (slT_new wr 99)
      have HZ6 := Lib.hid (Nat.le_trans HZ.out E6.size)
      clear HF HAB HB HZ E6 hlt hk B5 AB5 R5
      go_wp2_with fail
      generalize wr.alloc (.cells #[.int .u8 99] 5) = w6 at *
      obtain ⟨g6, hg6⟩ : ∃ z, wr.heap.size = z := ⟨_, rfl⟩
      rw [hg6] at C6 ⊢
      clear hg6
      refine Calls.mono (issue_full w2.heap.size ga (k + 1) co (some ⟨go, 0, none⟩) vpa ⟨own, (k : Int) + 1, [ya], 0, 0, []⟩ 0 ((k : Int) + 1) (some ⟨g6, 0, none⟩) 1 1 [99] w6 AB6.out.a.r HOW.out.1 (by omega) (slT_rd C6.out) rfl (byt1 (by omega) (by omega)) (by omega) (by omega) (idx_bsno HOW.out.2.2 (fun x hx => by have := HOW.out.2.1.mem x hx; rw [HOW.out.1] at this; push_cast at this; omega)) (by push_cast; omega)) ?_
      rintro e w7 ⟨rfl, b7⟩
      have F7 := Lib.hid (F6.out.below b7)
      have AB7 := Lib.hid (AB6.out.below b7)
      have B7 := Lib.hid (B6.out.trans (b7.mono B6.out.size))
      have F8 : Hid (Blk (w7.alloc (.cells #[.int .u64 0, .int .u64 0, .int .u64 0, .int .u64 0, .int .u64 0, .int .u64 0, .bool false, .slice none 0 0, .slice none 0 0, .int .u8 0, .int .u8 0, .int .u8 0, .int .u8 0, .int .u8 0, .int .u8 0, .int .u8 0, .int .u8 0, .int .u8 0, .int .u8 0, .int .u8 0, .int .u8 0, .int .u8 0, .int .u8 0, .int .u8 0, .int .u8 0, .slice none 0 0, .int .u64 0, .int .u64 0, .int .u64 0, .int .u64 0] 34)) w7.heap.size 34 #[.int .u64 0, .int .u64 0, .int .u64 0, .int .u64 0, .int .u64 0, .int .u64 0, .bool false, .slice none 0 0, .slice none 0 0, .int .u8 0, .int .u8 0, .int .u8 0, .int .u8 0, .int .u8 0, .int .u8 0, .int .u8 0, .int .u8 0, .int .u8 0, .int .u8 0, .int .u8 0, .int .u8 0, .int .u8 0, .int .u8 0, .int .u8 0, .int .u8 0, .slice none 0 0, .int .u64 0, .int .u64 0, .int .u64 0, .int .u64 0]) := Lib.hid (Blk.new _ _ _)
      clear b7 F6 AB6 B6 HZ6 C6
      go_wp2_with (first
        | ((with_reducible (show wpList _ _ _ (⟨none, .store 34 _ _, _, _, _, _⟩ :: _) _ _)); go_loud (refine wpList_storeBlk (o := ⟨none, .store 34 _ _, _, _, _, _⟩) (g := w7.heap.size) (t := 34) (vs := [.int .u64 0, .int .u64 0, .int .u64 0, .int .u64 0, .int .u64 0, .int .u64 0, .bool false, .slice none 0 0, .slice none 0 0, .int .u8 0, .int .u8 0, .int .u8 0, .int .u8 0, .int .u8 0, .int .u8 0, .int .u8 0, .int .u8 0, .int .u8 0, .int .u8 0, .int .u8 0, .int .u8 0, .int .u8 0, .int .u8 0, .int .u8 0, .int .u8 0, .slice none 0 0, .int .u64 0, .int .u64 0, .int .u64 0, .int .u64 0]) rfl _ _ rfl rfl rfl F8.out rfl one30z sizeF34 ?_); intro w9 z9 g9))
      have E9 := ((Below.refl w7.heap.size w7).alloc (Nat.le_refl _) (.cells #[.int .u64 0, .int .u64 0, .int .u64 0, .int .u64 0, .int .u64 0, .int .u64 0, .bool false, .slice none 0 0, .slice none 0 0, .int .u8 0, .int .u8 0, .int .u8 0, .int .u8 0, .int .u8 0, .int .u8 0, .int .u8 0, .int .u8 0, .int .u8 0, .int .u8 0, .int .u8 0, .int .u8 0, .int .u8 0, .int .u8 0, .int .u8 0, .int .u8 0, .slice none 0 0, .int .u64 0, .int .u64 0, .int .u64 0, .int .u64 0] 34)).trans (below_of_only g9 (Nat.le_refl _) (by simp))
      have F9 := Lib.hid (F7.out.below E9)
      have AB9 := Lib.hid (AB7.out.below E9)
      have B9 := Lib.hid (B7.out.trans (E9.mono B7.out.size))
      clear E9 z9 g9 F7 AB7 B7 F8
      obtain ⟨gl, clX, curX, hvl, _, _, _, _, _⟩ := F9.out.blk (by rw [HL.out.1]; omega)
      obtain rfl : Al = some ⟨gl, 0, none⟩ := by injection hvl
      clear hvl
      generalize w9 = w10 at *
      go_loopw [83] (fun i wr => ∃ (j : Nat) (L2 : List FX), j ≤ ts.length ∧ i = .int .i64 j ∧ Hid (FrR k w.heap.size wr (.slice (some ⟨gl, 0, none⟩) k cl) L2) ∧ Hid (L2.length = k ∧ ∀ j : Nat, 1 ≤ j → j ≤ k → ∃ x ∈ L2, x.q = j) ∧ Hid (AB w.heap.size w2.heap.size ga w4.heap.size gb wr (.slice (some ⟨go, 0, none⟩) (k + 1) co) vpa vob vpb ⟨own, (k : Int) + 1, [ya], 0, 0, []⟩ ⟨[xb], 1, [yb], 0, 0, []⟩) ∧ Hid (Below w.heap.size w wr)) (fun i _ => ts.length - (intOf i).toNat)
      case atStart => exact ⟨0, L, by omega, rfl, F9, HL, AB9, B9⟩
      case round =>
        obtain ⟨j, L2, hj, rfl, HF, HL2, HAB, HB⟩ := hrel
        by_cases hjt : j < ts.length
        · obtain ⟨ad, hA, _, hc⟩ := (R0.out.below HB.out (Nat.le_refl _)) j hjt
          have hu := HTS.out _ (List.getElem_mem hjt)
          have hue : ts.getD j 0 = ts[j] := by rw [List.getD_eq_getElem?_getD, List.getElem?_eq_getElem hjt]; rfl
          rw [← hue] at hu
          generalize ts.getD j 0 = u at *
          subst hA
          by_cases hjk : j < k
          · go_wp2_with fail
            obtain ⟨q, hq, hqk⟩ : ∃ q : Nat, ts[j] % (k : Int) = q ∧ q < k := ⟨(ts[j] % (k : Int)).toNat, by have := Int.emod_nonneg ts[j] (show (k : Int) ≠ 0 by omega); omega, by have := Int.emod_lt_of_pos ts[j] (show (0 : Int) < k by omega); have := Int.emod_nonneg ts[j] (show (k : Int) ≠ 0 by omega); omega⟩
            rw [hq]
            refine wp_region_sig (fun _ => True) (.two [0, 1, 2, 3, 4, 5, 6, 8, 9, 10] 7 (.one [] 11 (.one [12] 13 (.one [14] 15 (.fin [])))) 11 (.one [] 7 (.one [12] 13 (.one [14] 15 (.fin []))))) (by kernel_rfl) (by kernel_rfl) (by kernel_rfl) (by kernel_rfl) trivial ?_
            have hne : Nonempty (CW (fun _ => True)) := CW.inh (w := wr) trivial
            have HF2 := Lib.hid (HF.out.below (Below.refl wr.heap.size wr).drew)
            have HAB2 := Lib.hid (HAB.out.below (Below.refl wr.heap.size wr).drew)
            have HB2 := Lib.hid (HB.out.drew)
            clear HF HAB HB hc
            generalize wr.drew = wd at *
            have hjm : ∀ (q : Nat), q < k → (Instr.loadAt 34 (.pointer (some ⟨gl, q * 30, none⟩))).run Try.prog wd = .ok (.agg (L2.getD q ⟨0, none, 0⟩).vs.toArray) wd := fun q hq => by
              obtain ⟨g', c', cur, e, kb, _, _, ht, _⟩ := HF2.out.blk (by rw [HL2.out.1]; omega)
              injection e with e1 e2 e3
              injection e1 with e1
              injection e1 with e1 _
              subst e1
              rw [HL2.out.1] at ht
              exact frow_load kb ht hq rfl (vsF_get L2 q (by rw [HL2.out.1]; exact hq))
            have LQ := Lib.hid (hjm q hqk)
            have LJ := Lib.hid (hjm j hjk)
            clear hjm
            obtain ⟨wa, ca, ra, fa, ga', ka⟩ := HF2.out.put HL2.out.1 hjk (HF2.out.2 _ (getD_in (L := L2) (i := q) (by rw [HL2.out.1]; exact hqk)))
            have ABa := HAB2.out.fr (.inr ⟨_, _, ga', ka⟩)
            have BBa := below_own HF2.out.1 ga' HB2.out.size
            obtain ⟨wb, cb, rb, fb, gb', kb⟩ := fa.put (by rw [List.length_set]; exact HL2.out.1) hqk ((HF2.out.2 _ (getD_in (L := L2) (i := j) (by rw [HL2.out.1]; exact hjk))).fr (.inr ⟨_, _, ga', ka⟩))
            have ABb := Lib.hid (ABa.fr (.inr ⟨_, _, gb', kb⟩))
            have BBb := Lib.hid ((HB2.out.trans BBa).trans (below_own fa.1 gb' (HB2.out.trans BBa).size))
            have FB := Lib.hid fb
            have SA := Lib.hid ra
            have SB := Lib.hid rb
            have HLb : Hid ((swF L2 j q).length = k ∧ ∀ z : Nat, 1 ≤ z → z ≤ k → ∃ x ∈ swF L2 j q, x.q = z) := Lib.hid ⟨by rw [swF_len]; exact HL2.out.1, fun i h1 h2 => by
              obtain ⟨x, hx, e⟩ := HL2.out.2 i h1 h2
              exact ⟨x, swF_mem (by rw [HL2.out.1]; exact hjk) (by rw [HL2.out.1]; exact hqk) hx, e⟩⟩
            clear ra rb fa fb ga' gb' ka kb ABa BBa
            refine mixT_two ?_
            simp only [pickL, List.filterMap_cons, List.filterMap_nil, List.getElem?_cons_succ, List.getElem?_cons_zero]
            repeat (show wpQuiet _ _ _ _ (_ :: _) _; go_big_quiet_step (fail))
            refine wpQuiet_nil ?_
            refine ⟨?_, ?_⟩
            all_goals
              show wpList _ _ _ [_] _ _
              go_wp2_with (first | ((with_reducible (show wpList _ _ _ (⟨some 102, .load _ _, _, _, _, _⟩ :: _) _ _)); refine wpList_loadV (o := ⟨some 102, .load _ _, _, _, _, _⟩) rfl _ rfl rfl (LQ.out) ?_) | ((with_reducible (show wpList _ _ _ (⟨some 106, .load _ _, _, _, _, _⟩ :: _) _ _)); refine wpList_loadV (o := ⟨some 106, .load _ _, _, _, _, _⟩) rfl _ rfl rfl (LJ.out) ?_))
              refine MixQ.class trivial ?_
              refine mixT_one ?_
              simp only [pickL, List.filterMap_cons, List.filterMap_nil, List.getElem?_cons_succ, List.getElem?_cons_zero]
              refine wpQuiet_nil ?_
              show wpList _ _ _ [_] _ _
              go_wp2_with (first | ((with_reducible (show wpList _ _ _ (⟨some 102, .load _ _, _, _, _, _⟩ :: _) _ _)); refine wpList_loadV (o := ⟨some 102, .load _ _, _, _, _, _⟩) rfl _ rfl rfl (LQ.out) ?_) | ((with_reducible (show wpList _ _ _ (⟨some 106, .load _ _, _, _, _, _⟩ :: _) _ _)); refine wpList_loadV (o := ⟨some 106, .load _ _, _, _, _, _⟩) rfl _ rfl rfl (LJ.out) ?_))
              refine MixQ.class trivial ?_
              refine mixT_one ?_
              simp only [pickL, List.filterMap_cons, List.filterMap_nil, List.getElem?_cons_succ, List.getElem?_cons_zero]
              repeat (show wpQuiet _ _ _ _ (_ :: _) _; go_big_quiet_step (fail))
              refine wpQuiet_nil ?_
              show wpList _ _ _ [_] _ _
              go_wp2_with ((with_reducible (show wpList _ _ _ (⟨none, .store 34 _ _, _, _, _, _⟩ :: _) _ _)); refine wpList_storeV (o := ⟨none, .store 34 _ _, _, _, _, _⟩) rfl _ _ rfl rfl rfl (SA.out) ?_)
              refine MixQ.class trivial ?_
              refine mixT_one ?_
              simp only [pickL, List.filterMap_cons, List.filterMap_nil, List.getElem?_cons_succ, List.getElem?_cons_zero]
              repeat (show wpQuiet _ _ _ _ (_ :: _) _; go_big_quiet_step (fail))
              refine wpQuiet_nil ?_
              show wpList _ _ _ [_] _ _
              go_wp2_with ((with_reducible (show wpList _ _ _ (⟨none, .store 34 _ _, _, _, _, _⟩ :: _) _ _)); refine wpList_storeV (o := ⟨none, .store 34 _ _, _, _, _, _⟩) rfl _ _ rfl rfl rfl (SB.out) ?_)
              refine MixQ.class trivial ?_
              refine mixT_fin ?_
              simp only [pickL, List.filterMap_nil]
              refine wpQuiet_nil ?_
              refine NoPanic.normal ?_
              go_wp2_with fail
              go_roundw
              case rel => exact ⟨j + 1, swF L2 j q, by omega, by go_num, FB, HLb, ABb, BBb⟩
              case measure => simp [intOf]; omega
          · go_wp2_with fail
            go_roundw
            case rel => exact ⟨j + 1, L2, by omega, by go_num, HF, HL2, HAB, HB⟩
            case measure => simp [intOf]; omega
        · clear hj
          go_upto_if 110 with (fail)
          go_cut [10] from 16 (fun v wx => ∃ (A3 : Option Addr) (n3 c3 : Nat) (L3 : List FX), v = .slice A3 n3 c3 ∧ Hid (FrR k w.heap.size wx v L3) ∧ Hid (L3.length = n3 ∧ n3 ≤ 60 ∧ ∀ z : Nat, 1 ≤ z → z ≤ k → ∃ x ∈ L3, x.q = z) ∧ Hid (AB w.heap.size w2.heap.size ga w4.heap.size gb wx (.slice (some ⟨go, 0, none⟩) (k + 1) co) vpa vob vpb ⟨own, (k : Int) + 1, [ya], 0, 0, []⟩ ⟨[xb], 1, [yb], 0, 0, []⟩) ∧ Hid (Below w.heap.size w wx))
          case first =>
            cases tw
            · go_wp2_with fail
              go_meet
              case rel => exact ⟨_, _, _, L2, rfl, HF, Lib.hid ⟨HL2.out.1, by omega, HL2.out.2⟩, HAB, HB⟩
            · have HOR : Hid (wr.ownsRow w.heap.size 34 30 (.slice (some ⟨gl, 0, none⟩) k cl) k (vsF L2)) := Lib.hid (by have h := HF.out.1; rw [HL2.out.1] at h; exact h)
              have HCE : Hid (∀ j u, (vsF L2)[j]? = some u → wr.cell? ((⟨gl, 0, none⟩ : Addr).add j) = some u) := Lib.hid (by
                obtain ⟨g', c', cur, e, kb, _, _, ht, _⟩ := HF.out.blk (by rw [HL2.out.1]; omega)
                injection e with e1 e2 e3
                injection e1 with e1
                injection e1 with e1 _
                subst e1
                intro j u hu
                refine blk_at kb j u ?_
                rw [← ht, List.getElem?_take] at hu
                split at hu
                · exact hu
                · cases hu)
              have HLN : Hid ((vsF L2).length = k * 30) := Lib.hid (by rw [vsF_len, HL2.out.1])
              go_wp2_with ((at_builtin; go_loud (refine wpList_append_own (o := ⟨some 113, _, _, _, _, _⟩) _ rfl _ _ 28 rfl w.heap.size 34 i0 (.agg #[.int .u64 0, .int .u64 0, .int .u64 0, .int .u64 0, .int .u64 0, .int .u64 0, .bool false, .slice none 0 0, .slice none 0 0, .int .u8 0, .int .u8 0, .int .u8 0, .int .u8 0, .int .u8 0, .int .u8 0, .int .u8 0, .int .u8 0, .int .u8 0, .int .u8 0, .int .u8 0, .int .u8 0, .int .u8 0, .int .u8 0, .int .u8 0, .int .u8 0, .slice none 0 0, .int .u64 0, .int .u64 0, .int .u64 0, .int .u64 0]) 30 176 Try.underlying28 HI0.out HZ0.out HZ1.out HZ2.out rfl (by decide) _ _ _ rfl HOR.out ⟨gl, 0, none⟩ k cl (vsF L2) rfl HLN.out HCE.out vsF_ones ?_ ?_ ?_ ?_); (unfold maxLen; omega); omega; exact HB.out.size; intro v10 w10' ho10 hg10 _))
              obtain ⟨A10, c10, hv10, _⟩ := own_form ho10
              subst hv10
              have rb := row_block HOR.out hg10
              have ho11 : w10'.ownsRow w.heap.size 34 30 (.slice A10 (k + k) c10) (L2 ++ L2).length (vsF (L2 ++ L2)) := by rw [List.length_append, HL2.out.1, vsF_app]; exact ho10
              go_meet
              case rel => exact ⟨_, _, _, L2 ++ L2, rfl, Lib.hid ⟨ho11, fun x hx => by rcases List.mem_append.1 hx with hx | hx <;> exact (HF.out.2 x hx).fr rb⟩, Lib.hid ⟨by rw [List.length_append, HL2.out.1], by omega, fun z h1 h2 => by
                obtain ⟨x, hx, e⟩ := HL2.out.2 z h1 h2
                exact ⟨x, List.mem_append.2 (.inl hx), e⟩⟩, Lib.hid (HAB.out.fr rb), Lib.hid (HB.out.trans (below_own HOR.out hg10 HB.out.size))⟩
          case rest =>
            obtain ⟨A3, n3, c3, L3, rfl, F3, HL3, AB3, B3⟩ := hcut
            clear HF HL2 HAB HB AB9 B9 F9 HL HZ25 hjt
            generalize wc = w11 at *
            have hn3 : 0 < n3 ∧ n3 ≤ 60 := by
              obtain ⟨x, hx, _⟩ := HL3.out.2.2 1 (by omega) (by omega)
              have := List.length_pos_of_mem hx
              have h1 := HL3.out.1
              have h2 := HL3.out.2.1
              omega
            obtain ⟨g3, _, _, hA3, _, _, _, _, _⟩ := F3.out.blk (by rw [HL3.out.1]; exact hn3.1)
            obtain rfl : A3 = some ⟨g3, 0, none⟩ := by injection hA3
            clear hA3
            have PB3 : Hid (PeerL k [yb]) := Lib.hid ⟨List.pairwise_singleton _ _, fun x hx => by
              simp at hx; subst hx
              exact ⟨by rw [HYB.out.1, HYB.out.2], .inl HYB.out.1⟩, fun x hx => by simp at hx; subst hx; rw [HYB.out.1]; omega, fun x hx => by simp at hx; subst hx; rw [HYB.out.1]; omega, yb, by simp, HYB.out.1⟩
            go_wp2_with fail
            go_loopw [116] (fun i wr => ∃ (j Bb : Nat) (vob' vpb' : Value) (p : List CX), j ≤ n3 ∧ i = .int .i64 j ∧ Hid (FrR k w.heap.size wr (.slice (some ⟨g3, 0, none⟩) n3 c3) L3) ∧ Hid (AB w.heap.size w2.heap.size ga Bb gb wr (.slice (some ⟨go, 0, none⟩) (k + 1) co) vpa vob' vpb' ⟨own, (k : Int) + 1, [ya], 0, 0, []⟩ ⟨[xb], 1, p, 0, 0, []⟩) ∧ Hid (PeerL k p ∧ ∀ x ∈ L3.take j, ∃ y ∈ p, y.seq = x.q) ∧ Hid (Below w.heap.size w wr)) (fun i _ => n3 - (intOf i).toNat)
            case atStart => exact ⟨0, _, vob, vpb, [yb], by omega, rfl, F3, AB3, Lib.hid ⟨PB3.out, fun x hx => by simp at hx⟩, B3⟩
            case round =>
              obtain ⟨j, Bb, vob', vpb', p, hj, rfl, HF, HAB, HP, HB⟩ := hrel
              by_cases hjn : j < n3
              · have LJ := Lib.hid (HF.out.load HL3.out.1 hjn)
                have OK1 := Lib.hid (HF.out.2 _ (getD_in (L := L3) (i := j) (by rw [HL3.out.1]; exact hjn)))
                have HXE : Hid (L3[j]'(by rw [HL3.out.1]; exact hjn) = L3.getD j ⟨0, none, 0⟩) := Lib.hid (by rw [List.getD_eq_getElem?_getD, List.getElem?_eq_getElem]; rfl)
                generalize L3.getD j ⟨0, none, 0⟩ = x at *
                have F8 : Hid (Blk (wr.alloc (.cells #[.int .u64 0, .int .u64 0, .int .u64 0, .int .u64 0, .int .u64 0, .int .u64 0, .bool false, .slice none 0 0, .slice none 0 0, .int .u8 0, .int .u8 0, .int .u8 0, .int .u8 0, .int .u8 0, .int .u8 0, .int .u8 0, .int .u8 0, .int .u8 0, .int .u8 0, .int .u8 0, .int .u8 0, .int .u8 0, .int .u8 0, .int .u8 0, .int .u8 0, .slice none 0 0, .int .u64 0, .int .u64 0, .int .u64 0, .int .u64 0] 34)) wr.heap.size 34 #[.int .u64 0, .int .u64 0, .int .u64 0, .int .u64 0, .int .u64 0, .int .u64 0, .bool false, .slice none 0 0, .slice none 0 0, .int .u8 0, .int .u8 0, .int .u8 0, .int .u8 0, .int .u8 0, .int .u8 0, .int .u8 0, .int .u8 0, .int .u8 0, .int .u8 0, .int .u8 0, .int .u8 0, .int .u8 0, .int .u8 0, .int .u8 0, .int .u8 0, .slice none 0 0, .int .u64 0, .int .u64 0, .int .u64 0, .int .u64 0]) := Lib.hid (Blk.new _ _ _)
                go_wp2_with (first
                  | ((with_reducible (show wpList _ _ _ (⟨some 119, .load _ _, _, _, _, _⟩ :: _) _ _)); refine wpList_loadV (o := ⟨some 119, .load _ _, _, _, _, _⟩) rfl _ rfl rfl (LJ.out) ?_)
                  | ((with_reducible (show wpList _ _ _ (⟨none, .store 34 _ _, _, _, _, _⟩ :: _) _ _)); go_loud (refine wpList_storeBlk (o := ⟨none, .store 34 _ _, _, _, _, _⟩) (g := wr.heap.size) (t := 34) (vs := x.vs) rfl _ _ rfl rfl rfl F8.out rfl x.one sizeF34 ?_); intro w9 z9 g9)
                  | ((with_reducible (show wpList _ _ _ (⟨some 121, .load _ _, _, _, _, _⟩ :: _) _ _)); refine wpList_loadV (o := ⟨some 121, .load _ _, _, _, _, _⟩) rfl _ rfl rfl (fr_load z9 x.len) ?_))
                have E9 := ((Below.refl wr.heap.size wr).alloc (Nat.le_refl _) (.cells #[.int .u64 0, .int .u64 0, .int .u64 0, .int .u64 0, .int .u64 0, .int .u64 0, .bool false, .slice none 0 0, .slice none 0 0, .int .u8 0, .int .u8 0, .int .u8 0, .int .u8 0, .int .u8 0, .int .u8 0, .int .u8 0, .int .u8 0, .int .u8 0, .int .u8 0, .int .u8 0, .int .u8 0, .int .u8 0, .int .u8 0, .int .u8 0, .int .u8 0, .slice none 0 0, .int .u64 0, .int .u64 0, .int .u64 0, .int .u64 0] 34)).trans (below_of_only g9 (Nat.le_refl _) (by simp))
                have HF9 := Lib.hid (HF.out.below E9)
                have AB9 := Lib.hid (HAB.out.below E9)
                have B9 := Lib.hid (HB.out.trans (E9.mono HB.out.size))
                have OK9 := OK1.out.below E9
                clear E9 g9 z9 F8 LJ OK1 HF HAB HB
                refine Calls.mono (learn_meets k Bb gb vob' vpb' [xb] 1 0 p x ((k : Int) + 1) w9 AB9.out.b OK9 HP.out.1 hm2 (by simp) rfl) ?_
                rintro e wz ⟨vo2, vp2, p2, rfl, i2, g2, hp2, hin2, hx2⟩
                obtain ⟨vrb, kb9, _⟩ := AB9.out.b.blk
                have ABz := Lib.hid (AB9.out.onb g2 i2)
                have Fz := Lib.hid (HF9.out.grown g2 (kb9.notT (by decide)) (kb9.notT (by decide)))
                have Bz := Lib.hid (B9.out.grown g2 B9.out.size (fun z e => by injection e with e; subst e; exact AB9.out.lb))
                have Pz := Lib.hid hp2
                have Iz := Lib.hid hin2
                have Xz := Lib.hid hx2
                clear i2 g2 hp2 hin2 hx2 kb9 AB9 HF9 B9 OK9
                go_wp2_with fail
                go_roundw
                case rel => exact ⟨j + 1, _, vo2, vp2, p2, by omega, by go_num, Fz, ABz, Lib.hid ⟨Pz.out, fun z hz => by
                  have hjl : j < L3.length := by rw [HL3.out.1]; exact hjn
                  rw [List.take_succ_eq_append_getElem hjl] at hz
                  rcases List.mem_append.1 hz with hz | hz
                  · obtain ⟨y, hy, e⟩ := HP.out.2 z hz
                    exact ⟨y, Iz.out y hy, e⟩
                  · simp at hz
                    subst hz
                    rw [HXE.out]
                    exact Xz.out⟩, Bz⟩
                case measure => simp [intOf]; omega
              · have hjn3 : n3 ≤ j := by omega
                have HALL := Lib.hid (HP.out.1.all (fun z h1 h2 => by
                  obtain ⟨x, hx, e⟩ := HL3.out.2.2 z h1 h2
                  obtain ⟨y, hy, e2⟩ := HP.out.2 x (by rw [List.take_of_length_le (by rw [HL3.out.1]; exact hjn3)]; exact hx)
                  exact ⟨y, hy, by rw [e2, e]⟩))
                have HPO := Lib.hid HP.out.1.ok
                clear hjn3 hj HP F3 AB3 B3 PB3
                obtain ⟨vrb, kb9, _⟩ := HAB.out.b.blk
                obtain ⟨_, _, y2, _, _, _⟩ := id_cells kb9
                obtain ⟨gp, cp, hvp⟩ : ∃ gp cp, vpb' = .slice (some ⟨gp, 0, none⟩) (k + 1) cp := by
                  rcases HAB.out.b.peer.form with ⟨_, z⟩ | ⟨g', c', hv, _⟩
                  · have h1 := HALL.out.1
                    simp only at z
                    rw [z] at h1
                    simp at h1
                  · have h1 := HALL.out.1
                    simp only at hv
                    rw [h1] at hv
                    exact ⟨g', c', hv⟩
                subst hvp
                clear kb9
                go_wp2_with fail
                clear y2
                go_loopw [132] (fun i wr => ∃ (j : Nat), j ≤ k + 1 ∧ i = .int .i64 j ∧ Hid (AB w.heap.size w2.heap.size ga Bb gb wr (.slice (some ⟨go, 0, none⟩) (k + 1) co) vpa vob' (.slice (some ⟨gp, 0, none⟩) (k + 1) cp) ⟨own, (k : Int) + 1, [ya], 0, 0, []⟩ ⟨[xb], 1, p, 0, 0, []⟩) ∧ Hid (Below w.heap.size w wr)) (fun i _ => k + 1 - (intOf i).toNat)
                case atStart => exact ⟨0, by omega, rfl, HAB, HB⟩
                case round =>
                  clear HF HAB HB
                  obtain ⟨j, hj, rfl, HAB, HB⟩ := hrel
                  by_cases hjn : j < k + 1
                  · have hjl : j < p.length := by rw [HALL.out.1]; exact hjn
                    have LJ := Lib.hid (HAB.out.b.peer.load (i := j) hjl)
                    have OK1 := Lib.hid (HAB.out.b.peer.2 _ (memD hjl))
                    have EOX := Lib.hid (HPO.out _ (memD hjl))
                    have HSX := Lib.hid (HALL.out.2 j hjl)
                    clear hjl
                    simp only at LJ OK1
                    generalize p.getD j CX.zero = x at *
                    have F8 : Hid (Blk (wr.alloc (.cells #[.int .u64 0, .slice none 0 0, .int .u8 0, .int .u8 0, .int .u8 0, .int .u8 0, .int .u8 0, .int .u8 0, .int .u8 0, .int .u8 0, .int .u8 0, .int .u8 0, .int .u8 0, .int .u8 0, .int .u8 0, .int .u8 0, .int .u8 0, .int .u8 0] 47)) wr.heap.size 47 #[.int .u64 0, .slice none 0 0, .int .u8 0, .int .u8 0, .int .u8 0, .int .u8 0, .int .u8 0, .int .u8 0, .int .u8 0, .int .u8 0, .int .u8 0, .int .u8 0, .int .u8 0, .int .u8 0, .int .u8 0, .int .u8 0, .int .u8 0, .int .u8 0]) := Lib.hid (Blk.new _ _ _)
                    go_wp2_with (first
                      | ((with_reducible (show wpList _ _ _ (⟨some 135, .load _ _, _, _, _, _⟩ :: _) _ _)); refine wpList_loadV (o := ⟨some 135, .load _ _, _, _, _, _⟩) rfl _ rfl rfl (LJ.out) ?_)
                      | ((with_reducible (show wpList _ _ _ (⟨none, .store 47 _ _, _, _, _, _⟩ :: _) _ _)); go_loud (refine wpList_storeBlk (o := ⟨none, .store 47 _ _, _, _, _, _⟩) (g := wr.heap.size) (t := 47) (vs := x.vs) rfl _ _ rfl rfl rfl F8.out (CX.vs_len OK1.out.tl) (vs_one x) (by rw [sizeE, CX.vs_len OK1.out.tl]) ?_); intro w9 z9 g9; have c9 : w9.cell? ⟨wr.heap.size, 1, none⟩ = some (.slice x.A x.n x.c) := by have h := Blk.cell z9 1; simpa [CX.vs] using h))
                    have E9 := ((Below.refl wr.heap.size wr).alloc (Nat.le_refl _) (.cells #[.int .u64 0, .slice none 0 0, .int .u8 0, .int .u8 0, .int .u8 0, .int .u8 0, .int .u8 0, .int .u8 0, .int .u8 0, .int .u8 0, .int .u8 0, .int .u8 0, .int .u8 0, .int .u8 0, .int .u8 0, .int .u8 0, .int .u8 0, .int .u8 0] 47)).trans (below_of_only g9 (Nat.le_refl _) (by simp))
                    have AB9 := Lib.hid (HAB.out.below E9)
                    have B9 := Lib.hid (HB.out.trans (E9.mono HB.out.size))
                    have OK9 := OK1.out.below E9
                    clear E9 g9 z9 F8 LJ OK1 HAB HB c9
                    refine Calls.mono (owns_any w2.heap.size ga _ vpa ⟨own, (k : Int) + 1, [ya], 0, 0, []⟩ x.A x.n x.c x.bs w9 AB9.out.a.r (by show own.length ≤ 1000; rw [HOW.out.1]; omega) OK9.rd OK9.n.symm OK9.byt) ?_
                    rintro e wz ⟨he, bz⟩
                    have htrue : decide (0 ≤ idx (fun z => decide (z.bs = x.bs)) own) = true := by
                      rw [decide_eq_true_eq, EOX.out.1, idx_bs HOW.out.2.2]
                      obtain ⟨y, hy, e2⟩ := HOW.out.2.1.has j (by rw [HOW.out.1]; omega)
                      obtain ⟨i, _, h2, _⟩ := idx_yes (p := fun z => z.seq == x.seq) hy (by have := HSX.out; simp; omega)
                      omega
                    simp only [htrue] at he
                    subst he
                    have ABz := Lib.hid (AB9.out.below bz)
                    have Bz := Lib.hid (B9.out.trans (bz.mono B9.out.size))
                    clear bz AB9 B9 OK9 htrue
                    go_wp2_with fail
                    go_roundw
                    case rel => exact ⟨j + 1, by omega, by go_num, ABz, Bz⟩
                    case measure => simp [intOf]; omega
                  · clear hj
                    go_wp2_with fail
                    go_loopw [143] (fun i wr => ∃ (j r Bb co : Nat) (ownj pj : List CX) (vob' vpb' : Value), j + r = k ∧ i = .int .i64 j ∧ Hid (AB w.heap.size w2.heap.size ga Bb gb wr (.slice (some ⟨go, 0, none⟩) (r + 1) co) vpa vob' vpb' ⟨ownj, (k : Int) + 1, [ya], 0, 0, []⟩ ⟨[xb], 1, pj, j, j, []⟩) ∧ Hid (ownj.length = r + 1 ∧ SeqL j ownj ∧ ∀ x ∈ ownj, EOk x) ∧ Hid (pj.length = r + 1 ∧ SeqL j pj ∧ ∀ x ∈ pj, EOk x) ∧ Hid (Below w.heap.size w wr)) (fun i _ => k - (intOf i).toNat)
                    case atStart => exact ⟨0, k, _, co, own, p, vob', .slice (some ⟨gp, 0, none⟩) (k + 1) cp, by omega, rfl, HAB, HOW, Lib.hid ⟨HALL.out.1, HALL.out.2, HPO.out⟩, HB⟩
                    case round =>
                      clear HAB HB hjn HOW HALL HPO HL3
                      obtain ⟨j, r, Bc, cj, ownj, pj, voc, vpc, hjr, rfl, HAB, HOW, HPE, HB⟩ := hrel
                      by_cases hjk : j < k
                      · obtain ⟨r, rfl⟩ : ∃ r', r = r' + 1 := ⟨r - 1, by omega⟩
                        obtain ⟨ox, ownr, rfl⟩ : ∃ x t, ownj = x :: t := by
                          cases ownj with
                          | nil => have := HOW.out.1; simp at this
                          | cons x t => exact ⟨x, t, rfl⟩
                        obtain ⟨px, py, pr, rfl⟩ : ∃ x y t, pj = x :: y :: t := by
                          rcases pj with _ | ⟨x, _ | ⟨y, t⟩⟩
                          · have := HPE.out.1; simp at this
                          · have := HPE.out.1; simp at this
                          · exact ⟨x, y, t, rfl⟩
                        have hox : ox.seq = j := HOW.out.2.1.head
                        have hpx : px.seq = j := HPE.out.2.1.head
                        have hpy : py.seq = (j : Int) + 1 := HPE.out.2.1.tail.head
                        have HOX := Lib.hid hox
                        have HPX := Lib.hid hpx
                        have HPY := Lib.hid hpy
                        have RT := Lib.hid (change_one Bc gb voc vpc ⟨[xb], 1, px :: py :: pr, j, j, []⟩ px py pr wr HAB.out.b rfl hpx (by show (j : Int) < py.seq; omega) (fun z hz => by have := (HPE.out.2.1.tail.mem z hz).1; omega) (by simp) (by show (px :: py :: pr).length ≤ 900; rw [HPE.out.1]; omega) (by simp))
                        clear hox hpx hpy
                        go_wp2_with fail
                        refine Calls.mono RT.out ?_
                        clear RT
                        rintro e wa ⟨voa2, vpa2, rfl, ia, gra⟩
                        simp only [List.nil_append] at ia
                        rw [HPY.out, HPX.out] at ia
                        have AB1 := Lib.hid (HAB.out.onb gra ia)
                        have B1 := Lib.hid (HB.out.grown gra HB.out.size (fun z e => by injection e with e; subst e; exact HAB.out.lb))
                        clear ia gra HAB HB
                        go_wp2_with fail
                        refine Calls.mono (tell_any wr.heap.size gb voa2 vpa2 _ wa AB1.out.b (by simp)) ?_
                        rintro e wb ⟨v, rfl, fb, ib, grb⟩
                        obtain ⟨gt, ct, cur, rfl, kt, hn, hlt, hx, hBt⟩ := frow_blk fb (by simp)
                        have hrow := Lib.hid (frow_load (vs := frV j) (i := 0) kt hx (by simp) rfl (by simp [frL, frV]))
                        have AB2 := Lib.hid (AB1.out.tell grb ib)
                        have B2 := Lib.hid (B1.out.grown grb B1.out.size (fun z e => by injection e with e; subst e; exact AB1.out.lb))
                        clear fb ib grb kt hn hlt hx hBt AB1 B1
                        simp only [List.length_cons, List.length_nil]
                        go_wp2_with fail
                        refine wp_loop_rounds 3 ?_
                        rw [rounds_succ]
                        have F8 : Hid (Blk (wb.alloc (.cells #[.int .u64 0, .int .u64 0, .int .u64 0, .int .u64 0, .int .u64 0, .int .u64 0, .bool false, .slice none 0 0, .slice none 0 0, .int .u8 0, .int .u8 0, .int .u8 0, .int .u8 0, .int .u8 0, .int .u8 0, .int .u8 0, .int .u8 0, .int .u8 0, .int .u8 0, .int .u8 0, .int .u8 0, .int .u8 0, .int .u8 0, .int .u8 0, .int .u8 0, .slice none 0 0, .int .u64 0, .int .u64 0, .int .u64 0, .int .u64 0] 34)) wb.heap.size 34 #[.int .u64 0, .int .u64 0, .int .u64 0, .int .u64 0, .int .u64 0, .int .u64 0, .bool false, .slice none 0 0, .slice none 0 0, .int .u8 0, .int .u8 0, .int .u8 0, .int .u8 0, .int .u8 0, .int .u8 0, .int .u8 0, .int .u8 0, .int .u8 0, .int .u8 0, .int .u8 0, .int .u8 0, .int .u8 0, .int .u8 0, .int .u8 0, .int .u8 0, .slice none 0 0, .int .u64 0, .int .u64 0, .int .u64 0, .int .u64 0]) := Lib.hid (Blk.new _ _ _)
                        go_wp2_with (first
                          | ((with_reducible (show wpList _ _ _ (⟨some 154, .load _ _, _, _, _, _⟩ :: _) _ _)); refine wpList_loadV (o := ⟨some 154, .load _ _, _, _, _, _⟩) rfl _ rfl rfl (hrow.out) ?_)
                          | ((with_reducible (show wpList _ _ _ (⟨none, .store 34 _ _, _, _, _, _⟩ :: _) _ _)); go_loud (refine wpList_storeBlk (o := ⟨none, .store 34 _ _, _, _, _, _⟩) (g := wb.heap.size) (t := 34) (vs := frV j) rfl _ _ rfl rfl rfl F8.out rfl (frV_one j) sizeF34 ?_); intro w9 z9 g9; have c9 : w9.cell? ⟨wb.heap.size, 1, none⟩ = some (.int .u64 j) := by have h := Blk.cell z9 1; simpa [frV] using h))
                        have E9 := ((Below.refl wb.heap.size wb).alloc (Nat.le_refl _) (.cells #[.int .u64 0, .int .u64 0, .int .u64 0, .int .u64 0, .int .u64 0, .int .u64 0, .bool false, .slice none 0 0, .slice none 0 0, .int .u8 0, .int .u8 0, .int .u8 0, .int .u8 0, .int .u8 0, .int .u8 0, .int .u8 0, .int .u8 0, .int .u8 0, .int .u8 0, .int .u8 0, .int .u8 0, .int .u8 0, .int .u8 0, .int .u8 0, .int .u8 0, .slice none 0 0, .int .u64 0, .int .u64 0, .int .u64 0, .int .u64 0] 34)).trans (below_of_only g9 (Nat.le_refl _) (by simp))
                        have AB9 := Lib.hid (AB2.out.below E9)
                        have B9 := Lib.hid (B2.out.trans (E9.mono B2.out.size))
                        clear E9 g9 z9 F8 hrow c9 AB2 B2
                        have RQ := retired_one w2.heap.size ga go cj (r + 1) vpa _ ox ownr w9 AB9.out.a rfl (by have := HOW.out.1; simp at this; exact this) (by show ox.seq < (k : Int) + 1; rw [HOX.out]; omega) (by omega)
                        rw [HOX.out] at RQ
                        refine Calls.mono RQ ?_
                        clear RQ
                        rintro e wd ⟨rfl, id, we, t1, t2⟩
                        obtain ⟨cur6, hk6, _⟩ := AB9.out.a.own.blk
                        have tw9 := Two.of t1 t2
                        have ABd := Lib.hid (AB9.out.two rfl ⟨_, hk6⟩ tw9 id (.inl rfl) B9.out.size)
                        have Bd := Lib.hid (B9.out.trans (tw9.low AB9.out.la (AB9.out.lo go rfl) B9.out.size))
                        have HOW2 : Hid (ownr.length = r + 1 ∧ SeqL ((j : Int) + 1) ownr ∧ ∀ x ∈ ownr, EOk x) := Lib.hid ⟨by have := HOW.out.1; simp at this; exact this, HOW.out.2.1.tail, fun x hx => HOW.out.2.2 x (List.mem_cons_of_mem _ hx)⟩
                        have HPE2 : Hid ((py :: pr).length = r + 1 ∧ SeqL ((j : Int) + 1) (py :: pr) ∧ ∀ x ∈ py :: pr, EOk x) := Lib.hid ⟨by have := HPE.out.1; simp at this; simp; exact this, HPE.out.2.1.tail, fun x hx => HPE.out.2.2 x (List.mem_cons_of_mem _ hx)⟩
                        clear id t1 t2 hk6 tw9 AB9 B9 HOW HPE
                        go_wp2_with fail
                        rw [rounds_succ]
                        go_wp2_with fail
                        go_roundw
                        case rel => exact ⟨j + 1, r, _, cj, ownr, py :: pr, voa2, vpa2, by omega, by go_num, by push_cast; exact ABd, by push_cast; exact HOW2, by push_cast; exact HPE2, Bd⟩
                        case measure => simp [intOf]; omega
                      · obtain rfl : r = 0 := by omega
                        obtain rfl : j = k := by omega
                        simp only [Nat.zero_add] at HAB HOW HPE
                        obtain ⟨ox, rfl⟩ : ∃ x, ownj = [x] := by
                          rcases ownj with _ | ⟨x, _ | ⟨y, t⟩⟩
                          · have := HOW.out.1; simp at this
                          · exact ⟨x, rfl⟩
                          · have := HOW.out.1; simp at this
                        obtain ⟨px, rfl⟩ : ∃ x, pj = [x] := by
                          rcases pj with _ | ⟨x, _ | ⟨y, t⟩⟩
                          · have := HPE.out.1; simp at this
                          · exact ⟨x, rfl⟩
                          · have := HPE.out.1; simp at this
                        obtain ⟨gq, cq, hvq⟩ : ∃ gq cq, vpc = .slice (some ⟨gq, 0, none⟩) 1 cq := by
                          rcases HAB.out.b.peer.form with ⟨_, z⟩ | ⟨g', c', hv, _⟩
                          · cases z
                          · exact ⟨g', c', hv⟩
                        subst hvq
                        have HOX : Hid (ox.bs = [(j : Int)]) := Lib.hid (by rw [(HOW.out.2.2 ox (by simp)).1, HOW.out.2.1.head])
                        have HPX : Hid (px.bs = [(j : Int)]) := Lib.hid (by rw [(HPE.out.2.2 px (by simp)).1, HPE.out.2.1.head])
                        have HPS : Hid (px.seq = j) := Lib.hid HPE.out.2.1.head
                        have HON : Hid (ox.n = 1) := Lib.hid (by rw [(HAB.out.a.own.2 ox (by simp)).n, HOX.out]; rfl)
                        have HPN : Hid (px.n = 1) := Lib.hid (by rw [(HAB.out.b.peer.2 px (by simp)).n, HPX.out]; rfl)
                        have q0 : ∀ r : BW wr.heap.size wr, r.world.cell? ⟨ga, 0, none⟩ = some (.slice (some ⟨go, 0, none⟩) 1 cj) := fun r => by
                          obtain ⟨vr, kb, _⟩ := (HAB.out.below r.below).a.blk
                          exact (id_cells kb).1
                        have q2 : ∀ r : BW wr.heap.size wr, r.world.cell? ⟨gb, 2, none⟩ = some (.slice (some ⟨gq, 0, none⟩) 1 cq) := fun r => by
                          obtain ⟨vr, kb, _⟩ := (HAB.out.below r.below).b.blk
                          exact (id_cells kb).2.2.1
                        have q3 : ∀ r : BW wr.heap.size wr, r.world.cell? ⟨go, 1, none⟩ = some (.slice ox.A 1 ox.c) := fun r => by
                          have h := (HAB.out.below r.below).a.own.cells (i := 0) (by simp) 1 (.slice ox.A ox.n ox.c) rfl
                          rw [HON.out] at h
                          exact h
                        have q4 : ∀ r : BW wr.heap.size wr, r.world.cell? ⟨gq, 1, none⟩ = some (.slice px.A 1 px.c) := fun r => by
                          have h := (HAB.out.below r.below).b.peer.cells (i := 0) (by simp) 1 (.slice px.A px.n px.c) rfl
                          rw [HPN.out] at h
                          exact h
                        have C1 : ∀ r : BW wr.heap.size wr, (convert 26 9 (.slice ox.A 1 ox.c)).run Try.prog r.world = .ok (.string (strOfNums [(j : Int)])) r.world := fun r => by
                          have h := ((HAB.out.below r.below).a.own.2 ox (by simp)).rd
                          rw [HOX.out] at h
                          exact conv_rd elC Try.underlying9 h ox.c
                        have C2 : ∀ r : BW wr.heap.size wr, (convert 26 9 (.slice px.A 1 px.c)).run Try.prog r.world = .ok (.string (strOfNums [(j : Int)])) r.world := fun r => by
                          have h := ((HAB.out.below r.below).b.peer.2 px (by simp)).rd
                          rw [HPX.out] at h
                          exact conv_rd elC Try.underlying9 h px.c
                        generalize strOfNums [(j : Int)] = str at *
                        have hstr : (str.toList == str.toList) = true := by simp
                        go_wp2_with fail
                        refine wp_region_mix_below wr.heap.size [([0], 1)] [2, 3, 4, 5, 6, 7, 8, 9, 10, 11, 12, 13, 14, 15, 16, 17, 18, 19, 20, 21, 22, 23, 24, 25, 26, 27, 28, 29, 30, 31, 32, 33, 34, 35, 36, 37, 38, 39, 40, 41, 42] (by kernel_rfl) (by kernel_rfl) (by kernel_rfl) (by kernel_rfl) ?_
                        simp only [pickL, List.map_cons, List.map_nil, List.filterMap_cons, List.filterMap_nil, List.getElem?_cons_succ, List.getElem?_cons_zero]
                        refine mixS_cons ?_
                        repeat (show wpQuiet _ _ _ _ (_ :: _) _; go_big_quiet_step (fail))
                        refine wpQuiet_nil ?_
                        show wpList _ _ _ [_] _ _
                        go_wp2_with fail
                        refine Calls.mono (change_none Bc gb voc _ ⟨[xb], 1, [px], j, j, []⟩ _ (HAB.out.below (Below.refl wr.heap.size wr).drew).b (by simp) (fun x hx => by simp at hx; subst hx; have := HPS.out; show ¬ (j : Int) < x.seq; omega)) ?_
                        rintro e wz ⟨rfl, bz⟩
                        have BZ : Hid (Below wr.heap.size wr wz) := Lib.hid ((Below.refl wr.heap.size wr).drew.trans bz)
                        clear bz
                        go_wp2_with fail
                        refine MixQ.below BZ.out ?_
                        refine mixS_nil ?_
                        repeat (show wpQuiet _ _ _ _ (_ :: _) _; go_big_quiet_step (fail))
                        refine wpQuiet_nil ?_
                        refine NoPanic.normal ?_
                        go_wp2_with fail
                        go_ret
                        exact ⟨rfl, HB.out.trans (BZ.out.mono HB.out.size)⟩
end Go.Proofs.Ytghjlndkleclfaa
