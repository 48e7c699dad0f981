/- Layer 20: slices.Clone over entries and numbers. Conditions: as each theorem states them. -/
import Derived.Test.YtghjlndkleclfaaI3
namespace Go.Proofs.Ytghjlndkleclfaa
open Go.RowKit
theorem elU : ElT Try.prog 41 27 .u64 8 := ⟨Try.underlying41, Try.underlying27, by kernel_rfl, by decide⟩
theorem clone_u64 (A : Option Addr) (n c : Nat) (xs : List Int) (w : World) (hr : Rd w.heap.size .u64 w A xs) (hn : n = xs.length) (hl : n ≤ 100000) :
    Calls Try.prog 38 #[.slice A n c] w (RetOwn 27 .u64 xs w) := by
  subst hn
  have HR := Lib.hid hr
  have hnil := fun (w : World) (a : Option Addr) (n c : Nat) => Lib.run_eql_slice_nil (P := Try.prog) w 41 27 a n c 0 0 Try.underlying41
  rcases A with _ | ad
  · have hx : xs = [] := by
      rcases xs with _ | ⟨x, r⟩
      · rfl
      · obtain ⟨ad, h, _⟩ := hr 0 (by simp); cases h
    subst hx
    clear hr HR
    go_enter Try.func38, Try.ntmps38
    go_wp2_with fail
    go_ret
    exact ⟨none, 0, 0, rfl, Own.nil _ _ _ _, Below.refl _ _⟩
  · clear hr
    go_enter Try.func38, Try.ntmps38
    go_wp2_with (first
      | (at_builtin; refine wpList_app (o := ⟨some 7, _, _, _, _, _⟩) elU rfl _ _ rfl rfl rfl (Own.litAt (xs := []) rfl rfl rfl (Nat.le_refl _) (by simp)) (HR.out.alloc (Nat.le_refl _) _) (by first | rfl | simp) ?_ ?_ ?_; (simp <;> omega); exact Below.size ((Below.refl w.heap.size w).alloc (Nat.le_refl _) _); intro A1 n1 c1 w1 h1; have H1 := Lib.hid h1; have B1 := Lib.hid (Below.trans ((Below.refl w.heap.size w).alloc (Nat.le_refl _) _) h1.2.2.1); clear h1))
    go_ret
    exact ⟨A1, n1, c1, rfl, H1.out.1, B1.out⟩
set_option maxRecDepth 100000 in
set_option maxHeartbeats 2000000 in
theorem clone_ent (B : Nat) (v : Value) (l : List CX) (w : World) (h : EntR B w v l) (hl : l.length ≤ 100000) :
    Calls Try.prog 32 #[v] w fun e w' => ∃ v', e = .returned v' ∧ EntR w.heap.size w' v' l ∧ Below w.heap.size w w' := by
  have hnil := fun (w : World) (a : Option Addr) (n c : Nat) => Lib.run_eql_slice_nil (P := Try.prog) w 40 47 a n c 0 0 Try.underlying40
  rcases h.form with ⟨rfl, rfl⟩ | ⟨g, c, rfl, hB, hg, hc⟩
  · clear h
    go_enter Try.func32, Try.ntmps32
    go_wp2_with fail
    go_ret
    exact ⟨_, rfl, ⟨World.ownsRow_nil _ _ _ _, fun x hx => by cases hx⟩, Below.refl _ _⟩
  · obtain ⟨n, hn⟩ : ∃ n, l.length = n := ⟨_, rfl⟩
    have H0 := Lib.hid h
    have HN := Lib.hid hn
    obtain ⟨i0, hi0, hz0, hz1, hz2⟩ := info_parts infoE
    have HI0 := Lib.hid hi0
    have HZ0 := Lib.hid hz0
    have HZ1 := Lib.hid hz1
    have HZ2 := Lib.hid hz2
    have hOWN : (w.alloc (.cells #[] 47)).ownsRow w.heap.size 47 18 (.slice (some ⟨w.heap.size, 0, none⟩) 0 0) 0 [] := World.ownsRow_made w #[] 0 (Nat.le_refl _) (by decide) rfl
    have HOWN := Lib.hid hOWN
    have b1 := (Below.refl w.heap.size w).alloc (Nat.le_refl _) (.cells #[] 47)
    have B1 := Lib.hid b1
    have HSRC : Hid (∀ j u, (vsE l)[j]? = some u → (w.alloc (.cells #[] 47)).cell? ((⟨g, 0, none⟩ : Addr).add j) = some u) := Lib.hid (fun j u hu => (own_below h.1 b1).cells (g := g) rfl j u hu)
    have hvl : (vsE l).length = n * 18 := by rw [vsE_len _ (fun x hx => (h.2 x hx).tl), hn]
    have HVL := Lib.hid hvl
    have hlt : l.length = n := hn
    rw [hn] at hl hc
    rw [hn]
    clear h hi0 hz0 hz1 hz2 hOWN b1 hvl hn hlt
    go_enter Try.func32, Try.ntmps32
    go_wp2_with (at_builtin; go_loud (refine wpList_append_own (o := ⟨some 7, _, _, _, _, _⟩) _ rfl _ _ 40 rfl w.heap.size 47 i0 (.agg #[.int .u64 0, .slice none 0 0, .int .u8 0, .int .u8 0, .int .u8 0, .int .u8 0, .int .u8 0, .int .u8 0, .int .u8 0, .int .u8 0, .int .u8 0, .int .u8 0, .int .u8 0, .int .u8 0, .int .u8 0, .int .u8 0, .int .u8 0, .int .u8 0]) 18 48 Try.underlying40 HI0.out HZ0.out HZ1.out HZ2.out rfl (by decide) _ _ _ rfl HOWN.out ⟨g, 0, none⟩ n c (vsE l) rfl HVL.out HSRC.out vsE_one ?_ ?_ ?_ ?_); (unfold maxLen; omega); omega; (simp); intro v2 w2 ho2 hg2 _)
    have B2 := Lib.hid (B1.out.trans (below_own HOWN.out hg2 (Below.size B1.out)))
    have HO2 := Lib.hid ho2
    clear ho2 hg2
    go_ret
    refine ⟨_, rfl, ⟨?_, fun x hx => (H0.out.2 x hx).below B2.out⟩, B2.out⟩
    have h := HO2.out
    rw [HN.out]
    simpa using h
end Go.Proofs.Ytghjlndkleclfaa
