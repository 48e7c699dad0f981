/- Contract of gcm: stream.turn. Conditions: as each theorem states them. -/
import Derived.Test.YtepkbllcaeceeaaG7
namespace Go.Proofs.Ytepkbllcaeceeaa
open Go.RowKit
theorem slice_lA {P : Program} {t e : TypeId} {k : IntKind} {bytes n c : Nat} (E : ElT P t e k bytes) (A : Option Addr) (hc : n ≤ c) (l : Int) (m : Nat) (h0 : 0 ≤ l) (h2 : l ≤ n) (hm : (m : Int) = n - l) :
    ∃ A' c', m ≤ c' ∧ (0 < m → ∀ ad, A = some ad → A' = some (ad.add l.toNat)) ∧
      ∀ (w : World) (kl : IntKind), (Instr.sliceAt t (.slice A n c) (some (.int kl l)) none none).run P w = .ok (.slice A' m c') w := by
  refine ⟨if c = l.toNat then A else A.map (·.add (l.toNat * 1)), c - l.toNat, by omega, fun h0 ad hA => ?_, fun w kl => ?_⟩
  · rw [if_neg (by omega), hA, Nat.mul_one]; rfl
  · rw [run_sliceAt_slice _ _ _ _ _ _ (by rw [E.elem]; exact E.ht), run_slice_l _ _ _ _ _ (by rw [E.elem]; exact E.ht) kl l h0 h2, E.elem, E.size]
    simp [Result.andThen, sliced, show n - l.toNat = m by omega]
theorem idxB {P : Program} {t e : TypeId} {n : Nat} {k : IntKind} {kd : IntKind} {xs : List Int} (ht : P.underlying t = some (.array n e)) (he : P.underlying e = some (.int kd)) (hi : ∀ w, (sizeOf e).run P w = .ok 1 w) (hl : xs.length = n) {i : Nat} (hlt : i < n) (ik : IntKind) (w : World) :
    (Instr.index t (.agg (cellsL k xs)) (.int ik (i : Int))).run P w = .ok (.int k (xs.getD i 0)) w := by
  have hx : (cellsL k xs)[i]? = some (.int k (xs.getD i 0)) := by
    unfold cellsL
    simp [List.getElem?_eq_getElem (show i < xs.length by omega), List.getD_eq_getElem?_getD]
  simp [Instr.index, run_underlying ht, asIntOf, part, isAgg, run_underlying he, hi, hlt, hx]
theorem size90 : (Try.prog.info? 90).map (·.size) = some 13 := by kernel_rfl
theorem mix_past {xs ys : List Int} (h : xs.length = ys.length) {k : Nat} (hk : xs.length ≤ k) : mixL xs ys k = ys := by
  unfold mixL
  rw [List.take_of_length_le (by omega), List.drop_eq_nil_of_le hk, List.append_nil]
def TFr (w : World) (gc : Nat) (nonce : List Int) (A : Option Addr) (n c : Nat) (L : List Int) (wr : World) : Prop :=
  Own (w.heap.size + 1) 5 .u8 wr A n c L ∧ Blk wr w.heap.size 90 (stV gc nonce).toArray ∧ Below w.heap.size w wr
theorem TFr.below {w w' wr : World} {gc n c : Nat} {nonce L : List Int} {A : Option Addr} (h : TFr w gc nonce A n c L wr) (hb : Below wr.heap.size wr w') : TFr w gc nonce A n c L w' :=
  ⟨h.1.below hb, h.2.1.below hb (Blk.lt h.2.1), h.2.2.trans (hb.mono h.2.2.size)⟩
theorem TFr.set {w wr : World} {gc g n c : Nat} {nonce L L' : List Int} (h : TFr w gc nonce (some ⟨g, 0, none⟩) n c L wr) (i : Nat) (z : Int) (e : L.set i z = L') : TFr w gc nonce (some ⟨g, 0, none⟩) n c L' (wr.setCell ⟨g, i, none⟩ (.int .u8 z)) :=
  have hg := (h.1.block _ rfl).1
  ⟨(h.1.set_ i z).cast e, h.2.1.far (by simp at hg; simp; omega) _, h.2.2.setCell (by simp at hg; simp; omega) _⟩
set_option maxRecDepth 100000 in
set_option maxHeartbeats 8000000 in
theorem sturn_any (gc n c : Nat) (A : Option Addr) (K nonce b : List Int) (w : World) (hK : Blk16 K) (hn : nonce.length = 12) (hnb : Byt nonce) (hC : Ci w gc K) (hb : b.length = n) (hbl : n ≤ 10000) (hr : Rd w.heap.size .u8 w A b) :
    Calls Try.prog 62 #[.agg (stV gc nonce).toArray, .slice A n c] w (RetOwn 5 .u8 (turnL K nonce b) w) := by
  have HK := Lib.hid hK
  have HN := Lib.hid hn
  have HNB := Lib.hid hnb
  have HC := Lib.hid hC
  have HBL := Lib.hid hb
  have HR := Lib.hid (hr.alloc (Nat.le_refl _) (.cells (stV gc nonce).toArray 90))
  have HTL : Hid ((turnL K nonce b).length = n) := Lib.hid (by rw [turnL_len, hb])
  have HTG : Hid (∀ k j, j < 16 → 16 * k + j < n → (turnL K nonce b).getD (16 * k + j) 0 = xb (b.getD (16 * k + j) 0) ((ctrL K nonce (2 + k)).getD j 0)) := Lib.hid (fun k j hj hlt => by
    rw [turnL_getD K nonce b (by omega), show (16 * k + j) / 16 = k by omega, show (16 * k + j) % 16 = j by omega])
  have HCL : Hid (∀ k, (ctrL K nonce k).length = 16) := Lib.hid (fun k => (ctrL_ok hK hn hnb k).1)
  generalize turnL K nonce b = T at *
  clear hK hn hnb hC hb hr
  have B0 : Hid (Below w.heap.size w (w.alloc (.cells (stV gc nonce).toArray 90))) := Lib.hid ((Below.refl _ _).alloc (Nat.le_refl _) _)
  have S0 : Hid (Blk (w.alloc (.cells (stV gc nonce).toArray 90)) w.heap.size 90 (stV gc nonce).toArray) := Lib.hid (Blk.new _ _ _)
  go_enter Try.func62, Try.ntmps62
  go_wp2_with (at_builtin; refine wpList_app (o := ⟨some 11, _, _, _, _, _⟩) elB8 rfl _ _ rfl rfl rfl (Own.nil (w.heap.size + 1) _ _ _) HR.out HBL.out.symm ?_ ?_ ?_; (rw [HBL.out]; simp <;> omega); (simp); intro A2 n2 c2 w2 q2; have H2 : Hid (Own (w.heap.size + 1) 5 .u8 w2 A2 n2 c2 b) := Lib.hid q2.1; obtain rfl : n2 = n := (by rw [q2.1.len, List.nil_append, HBL.out]); have B2 := Lib.hid q2.2.2.1; clear q2)
  have F2 : Hid (TFr w gc nonce A2 n2 c2 (mixL b T (16 * 0)) w2) := Lib.hid (by
    rw [Nat.mul_zero, mix_zero]
    exact ⟨H2.out, S0.out.below B2.out (by omega), B0.out.trans (B2.out.mono (by omega))⟩)
  have G2 : Hid (0 < n2 → ∃ g, A2 = some ⟨g, 0, none⟩) := Lib.hid (fun h => by obtain ⟨g, hg, _⟩ := H2.out.addr h; exact ⟨g, hg⟩)
  have hcap := H2.out.cap.1
  clear H2 B0 S0 B2 HR
  go_loopw [6, 7] (fun u v wr => ∃ (k : Nat) (A' : Option Addr) (n' c' : Nat), u = .int .u32 ((2 + k : Nat) : Int) ∧ v = .slice A' n' c' ∧ n' ≤ c' ∧ k ≤ nBlk n2 ∧ Hid (n' = n2 - 16 * k) ∧ Hid (0 < n' → ∃ g, A' = some ⟨g, 16 * k, none⟩ ∧ A2 = some ⟨g, 0, none⟩) ∧ Hid (TFr w gc nonce A2 n2 c2 (mixL b T (16 * k)) wr)) (fun _ v _ => lenS v)
  case atStart => exact ⟨0, A2, n2, c2, rfl, rfl, hcap, by omega, Lib.hid (by omega), Lib.hid (fun h => by obtain ⟨g, hg⟩ := G2.out h; exact ⟨g, hg, hg⟩), F2⟩
  case round =>
    clear F2 G2 hcap
    obtain ⟨k, A', n', c', rfl, rfl, hc', hk, HN', HG, HF⟩ := hrel
    by_cases hlt : 0 < n'
    · obtain ⟨g, hgA, hg2⟩ := HG.out hlt
      subst hgA
      subst hg2
      have hn' := HN'.out
      have hkb : k + 1 ≤ nBlk n2 := by unfold nBlk; omega
      have hkk : k < 626 := by omega
      have HNk := Lib.hid hn'
      have HKB := Lib.hid hkb
      have L18 := Lib.hid (blk_load (P := Try.prog) HF.out.2.1 Try.underlying90 rfl (by rw [List.size_toArray, stV_len gc HN.out]; exact size90))
      have HTG2 := Lib.hid (HTG.out k)
      have HCL2 := Lib.hid (HCL.out (2 + k))
      clear hn' hkb HG HN'
      go_wp2_with ((with_reducible (show wpList _ _ _ (⟨some 18, .load _ _, _, _, _, _⟩ :: _) _ _)); refine wpList_loadV (o := ⟨some 18, .load _ _, _, _, _, _⟩) rfl _ rfl rfl (L18.out) ?_)
      refine Calls.mono (sblock_any gc (2 + k) K nonce _ HK.out HN.out HNB.out (HC.out.below HF.out.2.2 HC.out.lt)) ?_
      rintro e w7 ⟨rfl, hb7⟩
      have F7 : Hid (TFr w gc nonce (some ⟨g, 0, none⟩) n2 c2 (mixL b T (16 * k + 0)) w7) := Lib.hid (HF.out.below hb7)
      clear hb7 HF L18
      generalize ctrL K nonce (2 + k) = S at *
      go_wp2_with fail
      go_loopw [21] (fun ii wr => ∃ j : Nat, j ≤ 16 ∧ ii = .int .i64 j ∧ Hid (TFr w gc nonce (some ⟨g, 0, none⟩) n2 c2 (mixL b T (16 * k + j)) wr)) (fun ii _ => 16 - (intOf ii).toNat)
      case atStart => exact ⟨0, by omega, rfl, F7⟩
      case round =>
        clear F7
        obtain ⟨j, hj, rfl, HF⟩ := hrel
        by_cases hj16 : j < 16
        · have hix := fun v => idxB (P := Try.prog) Try.underlying32 Try.underlying5 elB8.size HCL2.out (k := .u8) hj16 .i64 v
          by_cases hjn : j < n'
          · have hjn2 : 16 * k + j < n2 := by have := HNk.out; omega
            have HE := Lib.hid (HTG2.out j hj16 hjn2)
            have hml : Hid ((mixL b T (16 * k + j)).length = n2) := Lib.hid (by rw [mix_len (by rw [HBL.out, HTL.out]) (by rw [HBL.out]; omega), HBL.out])
            have c1 : wr.cell? ⟨g, 16 * k + j, none⟩ = some (.int .u8 (b.getD (16 * k + j) 0)) := by
              have := HF.out.1.cell0 (i := 16 * k + j) (by rw [hml.out]; omega)
              rwa [mix_get (by rw [HBL.out, HTL.out]) (Nat.le_refl _)] at this
            have f1 := HF.out.1.frozen (16 * k + j)
            have HMS := Lib.hid (mix_set (xs := b) (ys := T) (k := 16 * k + j) (by rw [HBL.out, HTL.out]) (by rw [HBL.out]; exact hjn2))
            rw [HE.out] at HMS
            generalize S.getD j 0 = y at *
            generalize b.getD (16 * k + j) 0 = x at *
            go_wp2_with fail
            have F9 := Lib.hid (HF.out.set (16 * k + j) (bits .xor .u8 x y) HMS.out)
            clear c1 f1 HMS HE hml HF hix
            go_roundw
            case rel => exact ⟨j + 1, by omega, by go_num, F9⟩
            case measure => simp [intOf]; omega
          · have F9 : Hid (TFr w gc nonce (some ⟨g, 0, none⟩) n2 c2 (mixL b T (16 * k + (j + 1))) wr) := Lib.hid (by
              have h := HF.out
              have h2 := HNk.out
              rw [mix_past (by rw [HBL.out, HTL.out]) (by rw [HBL.out]; omega)] at h ⊢
              exact h)
            clear HF
            generalize S.getD j 0 = y at *
            go_wp2_with fail
            clear hix
            go_roundw
            case rel => exact ⟨j + 1, by omega, by go_num, F9⟩
            case measure => simp [intOf]; omega
        · have F9 : Hid (TFr w gc nonce (some ⟨g, 0, none⟩) n2 c2 (mixL b T (16 * (k + 1))) wr) := Lib.hid (by
            have h := HF.out
            rwa [show 16 * k + j = 16 * (k + 1) by omega] at h)
          have hj16' : j = 16 := by omega
          subst hj16'
          clear HF hj HTG2 hj16
          by_cases h16 : n' < 16
          · obtain ⟨A3, c3, q1, q2, q3⟩ := slice_lA elB8 (some ⟨g, 16 * k, none⟩) hc' (n' : Int) 0 (by omega) (by omega) (by omega)
            go_wp2_with fail
            clear q2 q3
            go_roundw
            case rel => exact ⟨k + 1, A3, 0, c3, by congr 1, rfl, q1, HKB.out, Lib.hid (by have := HNk.out; omega), Lib.hid (fun h => absurd h (by omega)), F9⟩
            case measure => exact hlt
          · obtain ⟨A3, c3, q1, q2, q3⟩ := slice_lA elB8 (some ⟨g, 16 * k, none⟩) hc' 16 (n' - 16) (by omega) (by omega) (by omega)
            have Q2 : Hid (0 < n' - 16 → ∃ g2, A3 = some ⟨g2, 16 * (k + 1), none⟩ ∧ some (⟨g, 0, none⟩ : Addr) = some ⟨g2, 0, none⟩) := Lib.hid (fun h => ⟨g, by
              rw [q2 h _ rfl]
              show some ((⟨g, 16 * k, none⟩ : Addr).add 16) = _
              rw [Addr.add_mid]; rfl, rfl⟩)
            clear q2
            go_wp2_with fail
            clear q3
            go_roundw
            case rel => exact ⟨k + 1, A3, n' - 16, c3, by congr 1, rfl, q1, HKB.out, Lib.hid (by have := HNk.out; omega), Q2, F9⟩
            case measure => show n' - 16 < n'; omega
    · have HF9 : Hid (TFr w gc nonce A2 n2 c2 T wr) := Lib.hid (by
        have h := HF.out
        have h2 := HN'.out
        rwa [mix_past (by rw [HBL.out, HTL.out]) (by rw [HBL.out]; omega)] at h)
      clear HF HG HN' hk hc'
      go_wp2_with fail
      go_ret
      exact ⟨A2, n2, c2, rfl, HF9.out.1.mono (by omega), HF9.out.2.2⟩
end Go.Proofs.Ytepkbllcaeceeaa
