/- Layer 26: contract of the law's cells. Conditions: as each theorem states them. -/
import Derived.Test.YtnagpaaiaaaamaaD22
namespace Go.Proofs.Ytnagpaaiaaaamaa
open Go.RowKit
theorem below_own {w w' : World} {B : Nat} {e : TypeId} {size n : Nat} {v : Value} {xs : List Value} (h : w.ownsRow B e size v n xs) (hg : w.grownBy w' v.ownBlock) (hB : B ≤ w.heap.size) : Below B w w' :=
  ⟨hg.os, hg.tape, hg.output, hg.size, fun i hi => hg.block i (by omega) (fun e' => by
    rcases h.2 with ⟨rfl, _⟩ | ⟨g, _, _, rfl, h1, _⟩
    · cases e'
    · simp only [Value.ownBlock] at e'
      injection e' with e'
      omega)⟩
theorem own_form {w : World} {B : Nat} {e : TypeId} {size n : Nat} {v : Value} {xs : List Value} (h : w.ownsRow B e size v n xs) : ∃ A c, v = .slice A n c ∧ n ≤ c := by
  rcases h.2 with ⟨rfl, rfl⟩ | ⟨g, cap, cur, rfl, _, _, h4, _⟩
  · exact ⟨none, 0, rfl, Nat.le_refl _⟩
  · exact ⟨_, _, rfl, h4⟩
theorem vs_one (x : CX) : ∀ u ∈ x.vs, u.oneCell' = true := one5 rfl rfl rfl rfl rfl
theorem map_take_snoc (l : List DC) (k : Nat) (h : k < l.length) : (l.take (k + 1)).map DC.x = (l.take k).map DC.x ++ [(l.getD k DC.none).x] := by
  rw [List.take_succ_eq_append_getElem h, List.map_append, List.getD_eq_getElem?_getD, List.getElem?_eq_getElem h]; rfl
attribute [local irreducible] vsL
theorem own_below {w w' : World} {B : Nat} {e : TypeId} {size n c : Nat} {A : Option Addr} {xs : List Value} (h : w.ownsRow B e size (.slice A n c) n xs) (hb : Below w.heap.size w w') : w'.ownsRow B e size (.slice A n c) n xs :=
  h.kept (only_of_below hb none) (by rw [ownBlock_slice]; rcases A with _ | ad; exact .inl rfl; exact .inr (by simp [ablk]))
theorem blk_at {w : World} {g : Nat} {t : TypeId} {vs : List Value} (h : Blk w g t vs.toArray) : ∀ j u, vs[j]? = some u → w.cell? ((⟨g, 0, none⟩ : Addr).add j) = some u := fun j u hu => by
  rw [add_zero_addr2, Blk.cell h j]; simpa using hu
set_option maxRecDepth 100000 in
set_option maxHeartbeats 1000000 in
theorem cells_any (A : Option Addr) (n cap : Nat) (l : List DC) (w : World) (hn : l.length = n) (h : DCs w.heap.size w A l) (hn2 : n ≤ 100) :
    Calls Try.prog 12 #[.slice A n cap] w fun e w' => ∃ A' c', e = .returned (.slice A' n c') ∧ CXs w'.heap.size w' A' (l.map DC.x) ∧ Below w.heap.size w w' := by
  have HN := Lib.hid hn
  have HD := Lib.hid h
  obtain ⟨i0, hi, hz0, hz1, hz2⟩ := info_parts infoCell
  have HI := Lib.hid hi
  have HZ0 := Lib.hid hz0
  have HZ1 := Lib.hid hz1
  have HZ2 := Lib.hid hz2
  clear hn h hi hz0 hz1 hz2
  go_enter Try.func12, Try.ntmps12
  go_wp2_with fail
  go_loopw [3, 8] (fun v i wr => ∃ k : Nat, k ≤ n ∧ i = .int .i64 k ∧ (∃ A' c', v = .slice A' k c') ∧ Hid (wr.ownsRow w.heap.size 25 5 v k (vsL ((l.take k).map DC.x))) ∧ Hid (Below w.heap.size w wr)) (fun _ i _ => n - (intOf i).toNat)
  case atStart => exact ⟨0, by omega, rfl, ⟨none, 0, rfl⟩, Lib.hid (by rw [List.take_zero]; unfold vsL; exact World.ownsRow_nil _ _ _ _), Lib.hid (Below.refl _ _)⟩
  case round =>
    obtain ⟨k, hk, rfl, ⟨Av, cv, rfl⟩, HO, HB⟩ := hrel
    by_cases hlt : k < n
    · obtain ⟨ad, hA, p1, p2, p3⟩ := HD.out.below HB.out (Nat.le_refl _) k (by rw [HN.out]; exact hlt)
      have HS := Lib.hid (map_take_snoc l k (by rw [HN.out]; exact hlt))
      generalize l.getD k DC.none = d at *
      have HROW : Hid ((Instr.loadAt 41 (.pointer (some (ad.add (k * 8))))).run Try.prog wr = .ok (.agg d.vs.toArray) wr) := Lib.hid (row_load (fun j v hv => by rw [add_of_add]; exact p2 j v hv) Try.underlying41 size8d)
      subst hA
      clear p1 p2 p3
      have hzw := HB.out.size
      go_wp2_with (first
        | ((with_reducible (show wpList _ _ _ (⟨some 11, .load _ _, _, _, _, _⟩ :: _) _ _)); refine wpList_loadV (o := ⟨some 11, .load _ _, _, _, _, _⟩) rfl _ rfl rfl (HROW.out) ?_)
        | ((with_reducible (show wpList _ _ _ (⟨some 14, .load _ _, _, _, _, _⟩ :: _) _ _)); refine wpList_loadV (o := ⟨some 14, .load _ _, _, _, _, _⟩) rfl _ rfl rfl (LC.out) ?_)
        | (at_builtin; (have _g := LC; clear _g); go_loud (refine wpList_append_own (o := ⟨some 16, _, _, _, _, _⟩) _ rfl _ _ 28 rfl w.heap.size 25 i0 (.agg #[.int .u64 0, .int .u8 0, .int .u64 0, .int .u64 0, .slice none 0 0]) 5 56 Try.underlying28 HI.out HZ0.out HZ1.out HZ2.out rfl (by decide) _ _ _ rfl ((own_below HO.out G1.out).alloc _) ⟨w1.heap.size, 0, none⟩ 1 1 d.x.vs rfl rfl (blk_at (Blk.new _ _ _)) (vs_one _) ?_ ?_ ?_ ?_); (unfold maxLen; omega); omega; (have := G1.out.size; simp; omega); intro v2 w2 ho2 hg2 _; have G2 : Hid (Below w.heap.size w1 w2) := Lib.hid (((Below.refl w.heap.size w1).alloc (Nat.le_trans hzw G1.out.size) _).trans (below_own ((own_below HO.out G1.out).alloc _) hg2 (by have := G1.out.size; simp; omega))); have HO2 := Lib.hid ho2; clear ho2 hg2)
        | ((with_reducible (show wpList _ _ _ (⟨none, .store 41 _ _, _, _, _, _⟩ :: _) _ _)); go_loud (refine wpList_storeBlk (o := ⟨none, .store 41 _ _, _, _, _, _⟩) (g := wr.heap.size) (t := 41) (vs := d.vs) rfl _ _ rfl rfl rfl (Blk.new _ _ _) rfl (one8 rfl rfl rfl rfl rfl rfl rfl rfl) size8d ?_); intro w1 z1 g1; have G1 := Lib.hid (((Below.refl wr.heap.size wr).alloc (Nat.le_refl _) _).trans (below_of_only g1 (Nat.le_refl _) (by simp))); have LC := Lib.hid (blk_loadMid (P := Try.prog) (ty := 25) (A := []) (B := [.int .u64 d.x.ep, .int .u8 d.x.ow, .int .u64 d.x.nx, .int .u64 d.x.sn, .slice d.x.A d.x.ts.length d.x.cap]) (C := [.bool d.f, .int .i64 d.af, .bool d.cp]) (o := 0) z1 rfl Try.underlying25 rfl size5); clear z1 g1))
      have hz2 := G2.out.size
      have B2 := Lib.hid (HB.out.trans ((G1.out.mono hzw).trans G2.out))
      refine ⟨⟨k + 1, by omega, by go_num, own_form HO2.out |>.elim fun A' h => h.elim fun c' h => ⟨A', c', h.1⟩, Lib.hid (by rw [HS.out, vsL_snoc]; exact HO2.out), B2⟩, ?_⟩
      simp [intOf]
      omega
    · obtain rfl : k = n := by omega
      go_wp2_with fail
      go_ret
      refine ⟨Av, cv, rfl, cxs_own (l := l.map DC.x) (by have h := HO.out; rw [List.take_of_length_le (by rw [HN.out]; omega)] at h; exact h) (by rw [List.length_map, HN.out]) (fun x hx => ?_), HB.out⟩
      obtain ⟨d, hd, rfl⟩ := List.mem_map.1 hx
      obtain ⟨i, hi, e⟩ := List.getElem_of_mem hd
      obtain ⟨ad, _, _, _, h3⟩ := HD.out.below HB.out (Nat.le_refl _) i hi
      rw [List.getD_eq_getElem?_getD, List.getElem?_eq_getElem hi] at h3
      simp only [Option.getD_some] at h3
      rw [e] at h3
      exact h3.mono HB.out.size
end Go.Proofs.Ytnagpaaiaaaamaa
