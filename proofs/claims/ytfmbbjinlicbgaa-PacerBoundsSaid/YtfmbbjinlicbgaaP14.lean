/- The law PacerBounds (layer 35): its walk. Conditions: as each theorem states them. -/
import Derived.Test.YtfmbbjinlicbgaaP13
import Derived.Test.YtfmbbjinlicbgaaB
namespace Go.Proofs.Ytfmbbjinlicbgaa
open Go.RowKit
theorem elU64 : ElT Try.prog 23 22 .u64 8 := ⟨Try.underlying23, Try.underlying22, by kernel_rfl, by decide⟩
def Apt (A B : Option Addr) : Prop := ∀ x y, A = some x → B = some y → x.block ≠ y.block
theorem Apt.symm {A B : Option Addr} (h : Apt A B) : Apt B A := fun x y hx hy e => h y x hy hx e.symm
theorem Apt.ne {A B : Option Addr} (h : Apt A B) : ∀ x, B = some x → some x.block ≠ ablk A := fun x hx e => by
  cases A with
  | none => cases e
  | some a => injection e with e; exact h a x rfl hx e.symm
theorem Apt.app {A B A' : Option Addr} {w : World} (h : Apt A B) (hB : ∀ x, B = some x → x.block < w.heap.size) (hA : A' = A ∨ ∃ b, A' = some b ∧ w.heap.size ≤ b.block) : Apt A' B := by
  rcases hA with rfl | ⟨b, rfl, hb⟩
  · exact h
  · intro x y hx hy
    injection hx with hx
    subst hx
    have := hB y hy
    omega
theorem len_heavyT (ds : List DoP) : ds.length ≤ heavyT ds := by
  unfold heavyT
  induction ds with
  | nil => simp
  | cons d ds ih => simp only [List.map_cons, List.sum_cons, List.length_cons]; omega

/-- the state between two packets -/
def BSt (g : Nat) (r b : Int) (w0 w : World) (A : Option Addr) (n c : Nat) (B : Option Addr) (m d : Nat) (ats wents : List Int) (p : PS) (now : Int) : Prop :=
  PBd r b ats wents p now ∧ PSt g w p ∧ Own (g + 1) 22 .u64 w A n c ats ∧ Own (g + 1) 22 .u64 w B m d wents ∧ Apt A B ∧ Below g w0 w
theorem BSt.alloc {g : Nat} {r b : Int} {w0 w : World} {A : Option Addr} {n c : Nat} {B : Option Addr} {m d : Nat} {ats wents : List Int} {p : PS} {now : Int} (h : BSt g r b w0 w A n c B m d ats wents p now) (o : Obj) : BSt g r b w0 (w.alloc o) A n c B m d ats wents p now := by
  obtain ⟨h1, h2, h3, h4, h5, h6⟩ := h
  exact ⟨h1, Blk.alloc h2 o, h3.alloc o, h4.alloc o, h5, h6.alloc (by have := Blk.lt h2; omega) o⟩
theorem BSt.below {g : Nat} {r b : Int} {w0 w w' : World} {A : Option Addr} {n c : Nat} {B : Option Addr} {m d : Nat} {ats wents : List Int} {p : PS} {now : Int} (h : BSt g r b w0 w A n c B m d ats wents p now) (hb : Below w.heap.size w w') : BSt g r b w0 w' A n c B m d ats wents p now := by
  obtain ⟨h1, h2, h3, h4, h5, h6⟩ := h
  exact ⟨h1, Blk.below h2 hb (Blk.lt h2), h3.below hb, h4.below hb, h5, h6.trans (hb.mono (by have := Blk.lt h2; omega))⟩
theorem BSt.later {g : Nat} {r b : Int} {w0 w : World} {A : Option Addr} {n c : Nat} {B : Option Addr} {m d : Nat} {ats wents : List Int} {p : PS} {now now' : Int} (h : BSt g r b w0 w A n c B m d ats wents p now) (hn : now ≤ now') : BSt g r b w0 w A n c B m d ats wents p now' :=
  ⟨h.1.later hn, h.2⟩
/-- behind a Go that was granted, ahead of the two appends -/
def BGo (g : Nat) (r b : Int) (w0 w : World) (A : Option Addr) (n c : Nat) (B : Option Addr) (m d : Nat) (ats wents ats' wents' : List Int) (p' : PS) (now : Int) : Prop :=
  PBd r b ats' wents' p' now ∧ PSt g w p' ∧ Own (g + 1) 22 .u64 w A n c ats ∧ Own (g + 1) 22 .u64 w B m d wents ∧ Apt A B ∧ Below g w0 w
theorem BGo.alloc {g : Nat} {r b : Int} {w0 w : World} {A : Option Addr} {n c : Nat} {B : Option Addr} {m d : Nat} {ats wents ats' wents' : List Int} {p' : PS} {now : Int} (h : BGo g r b w0 w A n c B m d ats wents ats' wents' p' now) (o : Obj) : BGo g r b w0 (w.alloc o) A n c B m d ats wents ats' wents' p' now := by
  obtain ⟨h1, h2, h3, h4, h5, h6⟩ := h
  exact ⟨h1, Blk.alloc h2 o, h3.alloc o, h4.alloc o, h5, h6.alloc (by have := Blk.lt h2; omega) o⟩
theorem BSt.go {g : Nat} {r b : Int} {w0 w w' : World} {A : Option Addr} {n c : Nat} {B : Option Addr} {m d : Nat} {ats wents ats' wents' : List Int} {p p' : PS} {now : Int} (h : BSt g r b w0 w A n c B m d ats wents p now)
    (hp : PSt g w' p') (hg : w.grownBy w' (some g)) (hn : PBd r b ats' wents' p' now) : BGo g r b w0 w' A n c B m d ats wents ats' wents' p' now := by
  obtain ⟨h1, h2, h3, h4, h5, h6⟩ := h
  have hl := Blk.lt h2
  refine ⟨hn, hp, h3.kept hg (fun x hx e => ?_), h4.kept hg (fun x hx e => ?_), h5, h6.trans (below_of_only hg (by omega) (by omega))⟩
  · injection e with e; have := h3.block x hx; omega
  · injection e with e; have := h4.block x hx; omega
theorem BGo.first {g : Nat} {r b : Int} {w0 w w' : World} {A A' : Option Addr} {n c n' c' : Nat} {B : Option Addr} {m d : Nat} {ats wents ats' wents' ys : List Int} {p' : PS} {now : Int} (h : BGo g r b w0 w A n c B m d ats wents ats' wents' p' now)
    (ha : Apd (g + 1) 22 .u64 w A ys A' n' c' w') : BGo g r b w0 w' A' n' c' B m d ys wents ats' wents' p' now := by
  obtain ⟨h1, h2, h3, h4, h5, h6⟩ := h
  obtain ⟨a1, a2, a3, a4⟩ := ha
  exact ⟨h1, Blk.below h2 a3 (by omega), a1, h4.kept a2 (h5.ne), h5.app (fun x hx => (h4.block x hx).2) a4, h6.trans (a3.mono (by omega))⟩
theorem BGo.second {g : Nat} {r b : Int} {w0 w w' : World} {A B' : Option Addr} {n c m' d' : Nat} {B : Option Addr} {m d : Nat} {ats wents wents' : List Int} {p' : PS} {now : Int} (h : BGo g r b w0 w A n c B m d ats wents ats wents' p' now)
    (ha : Apd (g + 1) 22 .u64 w B wents' B' m' d' w') : BSt g r b w0 w' A n c B' m' d' ats wents' p' now := by
  obtain ⟨h1, h2, h3, h4, h5, h6⟩ := h
  obtain ⟨a1, a2, a3, a4⟩ := ha
  exact ⟨h1, Blk.below h2 a3 (by omega), h3.kept a2 (h5.symm.ne), a1, (h5.symm.app (fun x hx => (h3.block x hx).2) a4).symm, h6.trans (a3.mono (by omega))⟩

set_option maxRecDepth 100000 in
set_option maxHeartbeats 4000000 in
theorem bounds_walk (a0 a1 : Int) (A : Option Addr) (cap : Nat) (ds : List DoP) (w : World) (hA : IsDoPs w A ds) :
    Calls Try.prog 4 #[.int .u64 a0, .int .u64 a1, .slice A ds.length cap] w fun e w' => e = .returned (.bool true) ∧ Below w.heap.size w w' := by
  have HA := Lib.hid hA
  have hl := hA.1
  clear hA
  by_cases c1 : okNew a0 a1
  case neg =>
    have c1' := c1
    unfold okNew at c1'
    go_enter Try.func4, Try.ntmps4
    go_wp2_with fail
    refine (new_no _ _ _ c1).mono ?_
    rintro e w' ⟨rfl, rfl⟩
    by_cases d1 : a0 < 1
    · go_wp2_with (go_at_call 9; refine (works_any _).mono ?_; rintro e w1 ⟨rfl, hb1⟩)
      go_ret
      exact ⟨rfl, hb1⟩
    by_cases d2 : 1073741824 < a0
    · go_wp2_with (go_at_call 9; refine (works_any _).mono ?_; rintro e w1 ⟨rfl, hb1⟩)
      go_ret
      exact ⟨rfl, hb1⟩
    by_cases d3 : a1 < 1200
    · go_wp2_with (go_at_call 9; refine (works_any _).mono ?_; rintro e w1 ⟨rfl, hb1⟩)
      go_ret
      exact ⟨rfl, hb1⟩
    have d4 : 1073741824 < a1 := by omega
    go_wp2_with (go_at_call 9; refine (works_any _).mono ?_; rintro e w1 ⟨rfl, hb1⟩)
    go_ret
    exact ⟨rfl, hb1⟩
  have hok : PS.Ok ⟨a0, a1, 0, a1 * 1000000⟩ := by unfold okNew at c1; unfold PS.Ok; simp only; omega
  have HOK := Lib.hid hok
  clear hok
  obtain ⟨k1, k2, k3, k4⟩ : 1 ≤ a0 ∧ a0 ≤ 1073741824 ∧ 1200 ≤ a1 ∧ a1 ≤ 1073741824 := by unfold okNew at c1; exact c1
  go_enter Try.func4, Try.ntmps4
  go_wp2_with fail
  refine (new_yes _ _ _ c1).mono ?_
  rintro e w1 ⟨rfl, hm1, hz1, hb1⟩
  have HM1 := Lib.hid hm1
  have HB1 := Lib.hid hb1
  clear hm1 hb1 hz1 c1
  go_wp2_with fail
  refine (heavy_any A ds cap _ (HA.out.below HB1.out)).mono ?_
  rintro e w2 ⟨b, rfl, hlt2, hgt2, hb2⟩
  have HM2 := Lib.hid (Blk.below HM1.out hb2 (Blk.lt HM1.out))
  have HB2 := Lib.hid (HB1.out.trans (hb2.mono HB1.out.size))
  have HLT := Lib.hid hlt2
  have HGT := Lib.hid hgt2
  clear hb2 hlt2 hgt2
  cases b with
  | true =>
    have hgt := HGT.out rfl
    have d1 : decide (a0 < 1) = false := by simp; omega
    have d2 : decide (1073741824 < a0) = false := by simp; omega
    have d3 : decide (a1 < 1200) = false := by simp; omega
    have d4 : decide (1073741824 < a1) = false := by simp; omega
    go_wp2_with fail
    refine (heavy_any A ds cap _ (HA.out.below HB2.out)).mono ?_
    rintro e w3 ⟨b3, rfl, hf3, _, hb3⟩
    have HB3 := Lib.hid (HB2.out.trans (hb3.mono HB2.out.size))
    clear hb3
    cases b3 with
    | false => exact absurd (hf3 rfl) (by omega)
    | true =>
      go_wp2_with fail
      refine (works_any _).mono ?_
      rintro e w4 ⟨rfl, hb4⟩
      have HB4 := Lib.hid (HB3.out.trans (hb4.mono HB3.out.size))
      clear hb4
      go_wp2_with fail
      go_ret
      exact ⟨rfl, HB4.out⟩
  | false =>
    have h400 := HLT.out rfl
    have hlen := len_heavyT ds
    have HH := Lib.hid (fun k => heavyT_le ds k)
    obtain ⟨g, hg⟩ : ∃ g, g = w.heap.size := ⟨_, rfl⟩
    have HBS : Hid (BSt g a0 a1 w w2 none 0 0 none 0 0 [] [] ⟨a0, a1, 0, a1 * 1000000⟩ 0) := Lib.hid ⟨PBd.start HOK.out rfl rfl (by simp), by rw [hg]; exact HM2.out, Own.nil _ _ _ _, Own.nil _ _ _ _, (fun x y hx => by cases hx), by rw [hg]; exact HB2.out⟩
    rw [← hg] at HM2 HB2 HM1 HB1 ⊢
    have HGW := Lib.hid hg
    clear hg
    go_wp2_with fail
    go_loopw [9, 10, 11, 54] (fun av bv nv i wr => ∃ (k : Nat) (A : Option Addr) (n c : Nat) (B : Option Addr) (m d : Nat) (ats wents : List Int) (p : PS) (now : Int), k ≤ ds.length ∧ i = .int .i64 k ∧ av = .slice A n c ∧ bv = .slice B m d ∧ nv = .int .u64 now ∧ 0 ≤ now ∧ now ≤ k * 1073741824 ∧ Hid (BSt g a0 a1 w wr A n c B m d ats wents p now) ∧ Hid (wents.length ≤ heavyT (ds.take k))) (fun _ _ _ i _ => ds.length - (intOf i).toNat)
    case atStart => exact ⟨0, none, 0, 0, none, 0, 0, [], [], _, 0, by omega, rfl, rfl, rfl, rfl, by omega, by omega, HBS, Lib.hid (by simp)⟩
    case round =>
      obtain ⟨k, A1, n, c, B1, m, d, ats, wents, p, now, hk, rfl, rfl, rfl, rfl, hn0, hn1, HS, HW⟩ := hrel
      have HBr : Hid (Below w.heap.size w wr) := Lib.hid (by rw [← HGW.out]; exact HS.out.2.2.2.2.2)
      by_cases hlt : k < ds.length
      · obtain ⟨a, hA, d1, d2, d3, d4, d5⟩ := HA.out.2.2 k hlt
        have hfit := HA.out.fit hlt
        have HSN := Lib.hid (heavyT_snoc ds k hlt)
        have HHk := Lib.hid (HH.out (k + 1))
        generalize ds.getD k DoP.none = dd at *
        obtain ⟨kd, dt, dn, dA, dc, ns⟩ := dd
        simp only [DoP.Fit] at d1 d2 d3 d4 d5 hfit HSN
        obtain ⟨q1, q2, q3, q4, q5, q6, q7⟩ := hfit
        have y1 := Below.cell_some HBr.out d1 (cell_lt d1)
        have y2 := Below.cell_some HBr.out d2 (cell_lt d2)
        have y3 := Below.cell_some HBr.out d3 (cell_lt d3)
        have y4 := Below.cell_some HBr.out d4 (cell_lt d4)
        have D5 := Lib.hid d5
        subst hA
        clear d1 d2 d3 d4 d5
        have hlen400 : Hid (heavyT (ds.take k) + 1 + ns.length ≤ 400) := Lib.hid (by have h1 := HSN.out; have h2 := HHk.out; omega)
        have hmod : 0 ≤ dt % 1073741824 ∧ dt % 1073741824 < 1073741824 := by omega
        obtain ⟨hm0, hm1⟩ := hmod
        go_wp2_with fail
        obtain ⟨now', hnow'⟩ : ∃ x, x = now + dt % 1073741824 := ⟨_, rfl⟩
        have hn'0 : 0 ≤ now' := by omega
        have hn'1 : now' ≤ (k + 1) * 1073741824 := by omega
        have hn'2 : now' ≤ 429496729600 := by omega
        have HS0 := Lib.hid ((HS.out.alloc (.cells #[.int .u8 kd, .int .u64 dt, .int .u64 dn, .slice dA ns.length dc] 35)).later (show now ≤ now' by omega))
        rw [← hnow']
        clear hnow' hm0 hm1 y1 y2 y3 y4
        go_loopw [9, 10, 66] (fun av bv jv wr2 => ∃ (j : Nat) (A : Option Addr) (n c : Nat) (B : Option Addr) (m d : Nat) (ats wents : List Int) (p : PS), j ≤ ns.length ∧ jv = .int .i64 j ∧ av = .slice A n c ∧ bv = .slice B m d ∧ Hid (BSt g a0 a1 w wr2 A n c B m d ats wents p now') ∧ Hid (wents.length ≤ heavyT (ds.take k) + j)) (fun _ _ jv _ => ns.length - (intOf jv).toNat)
        case atStart => exact ⟨0, A1, n, c, B1, m, d, ats, wents, p, by omega, rfl, rfl, rfl, HS0, HW⟩
        case round =>
          obtain ⟨j, A2, n2, c2, B2, m2, d2, ats2, wents2, p2, hj, rfl, rfl, rfl, HS2, HW2⟩ := hrel
          have HBr2 : Hid (Below w.heap.size w wr) := Lib.hid (by rw [← HGW.out]; exact HS2.out.2.2.2.2.2)
          have HL2 : Hid (ats2.length ≤ 400 ∧ wents2.length ≤ 400) := Lib.hid (by have h1 := hlen400.out; have h2 := HW2.out; have h3 := HS2.out.1.len; omega)
          have hsz : g < wr.heap.size := Blk.lt HS2.out.2.1
          by_cases hjl : j < ns.length
          · have D5r := D5.out.below HBr2.out
            obtain ⟨ad, hA2, hc2⟩ := D5r.2 j hjl
            have hmem := D5r.mem hjl
            subst hA2
            clear D5r
            generalize ns.getD j 0 = nn at *
            rcases hgo : goL (p2.afterS now').level [nn] with _ | mm
            · have HGO := Lib.hid hgo
              clear hgo
              go_wp2_with fail
              refine (go_no _ p2 now' _ _ [nn] _ (by exact (HS2.out.alloc _).2.1) HS2.out.1.ok (by omega) (by omega) (rdU_one (by go_simp) (by omega) (by omega)) (by simp) HGO.out).mono ?_
              rintro e w4 ⟨rfl, hb4⟩
              have HS4 := Lib.hid ((HS2.out.alloc _).below hb4)
              clear hb4
              go_wp2_with fail
              go_roundw
              case rel => exact ⟨j + 1, _, _, _, _, _, _, _, _, _, by omega, by go_num, rfl, rfl, HS4, Lib.hid (by have := HW2.out; omega)⟩
              case measure => simp [intOf]; omega
            · have HST := Lib.hid (HS2.out.1.step (by omega) hmem.1 hgo)
              have HGO := Lib.hid hgo
              clear hgo
              go_wp2_with fail
              refine (go_yes _ p2 now' _ _ [nn] mm _ (by exact (HS2.out.alloc _).2.1) HS2.out.1.ok (by omega) (by omega) (rdU_one (by go_simp) (by omega) (by omega)) (by simp) HGO.out).mono ?_
              rintro e w4 ⟨rfl, hm4, hg4⟩
              have HS4 := Lib.hid ((HS2.out.alloc _).go hm4 hg4 HST.out)
              have hsz4 : g < w4.heap.size := Blk.lt HS4.out.2.1
              clear hm4 hg4
              go_wp2_with (first
                | (at_builtin; refine wpList_app (o := ⟨some 79, _, _, _, _, _⟩) elU64 rfl _ _ rfl rfl rfl (HS4.out.alloc _).2.2.1 (Rd.newAt (xs := [now']) rfl rfl) rfl ?_ ?_ ?_; (have h1 := HL2.out; simp; omega); (simp <;> omega); intro A5 n5 c5 w5 h5; have H5 := Lib.hid ((HS4.out.alloc _).first h5); have hsz5 : g < w5.heap.size := Blk.lt H5.out.2.1; clear h5)
                | (at_builtin; refine wpList_app (o := ⟨some 83, _, _, _, _, _⟩) elU64 rfl _ _ rfl rfl rfl (H5.out.alloc _).2.2.2.1 (Rd.newAt (xs := [nn]) rfl rfl) rfl ?_ ?_ ?_; (have h1 := HL2.out; simp; omega); (simp <;> omega); intro A6 n6 c6 w6 h6; have H6 := Lib.hid ((H5.out.alloc _).second h6); clear h6))
              go_roundw
              case rel => exact ⟨j + 1, _, _, _, _, _, _, _, _, _, by omega, by go_num, rfl, rfl, H6, Lib.hid (by have := HW2.out; simp; omega)⟩
              case measure => simp [intOf]; omega
          · go_wp2_with fail
            go_roundw
            case rel => exact ⟨k + 1, _, _, _, _, _, _, _, _, _, now', by omega, by go_num, rfl, rfl, rfl, by omega, by omega, HS2, Lib.hid (by have h1 := HW2.out; have h2 := HSN.out; omega)⟩
            case measure => simp [intOf]; omega
      · have HL2 : Hid (ats.length ≤ 400 ∧ wents.length ≤ 400) := Lib.hid (by have h1 := HW.out; have h2 := HH.out k; have h3 := HS.out.1.len; omega)
        have hln := HS.out.2.2.1.len
        have hlm := HS.out.2.2.2.1.len
        subst hln
        subst hlm
        have hlq := HL2.out.1
        go_wp2_with fail
        go_loopw [88] (fun iv wr3 => ∃ ii : Nat, ii ≤ ats.length ∧ iv = .int .i64 ii ∧ Hid (BSt g a0 a1 w wr3 A1 ats.length c B1 wents.length d ats wents p now)) (fun iv _ => ats.length - (intOf iv).toNat)
        case atStart => exact ⟨0, by omega, rfl, HS⟩
        case round =>
          obtain ⟨ii, hii, rfl, HS3⟩ := hrel
          by_cases hil : ii < ats.length
          · go_wp2_with fail
            go_loopw [17, 18] (fun sv kv wr4 => ∃ (kk : Nat) (z : Int), ii ≤ kk ∧ kk ≤ ats.length ∧ kv = .int .i64 kk ∧ sv = .int .u64 z ∧ 0 ≤ z ∧ z ≤ 429496729600 ∧ Hid (z = sumTo wents kk - sumTo wents ii) ∧ Hid (BSt g a0 a1 w wr4 A1 ats.length c B1 wents.length d ats wents p now)) (fun _ kv _ => ats.length - (intOf kv).toNat)
            case atStart => exact ⟨ii, 0, by omega, by omega, rfl, rfl, by omega, by omega, Lib.hid (by omega), HS3⟩
            case round =>
              obtain ⟨kk, z, hk1, hk2, rfl, rfl, hz0, hz1, HZ, HS4⟩ := hrel
              by_cases hkl : kk < ats.length
              · have hwl : kk < wents.length := by have := HS4.out.1.len; omega
                obtain ⟨ad1, hA1, _, x1⟩ := HS4.out.2.2.1.rd kk hkl
                obtain ⟨ad2, hA2, _, x2⟩ := HS4.out.2.2.2.1.rd kk hwl
                subst hA1
                subst hA2
                have x3 := HS4.out.2.2.1.rd.at_ hil
                have hfin := HS4.out.1.fin hk1 hkl
                have hmono := HS4.out.1.mono ii kk hk1 hkl
                have hu := HS4.out.1.low _ (getD_mem_of hwl)
                have hy := HS4.out.1.lat _ (getD_mem_of hkl)
                have hx := HS4.out.1.lat _ (getD_mem_of hil)
                have hpn : p.at_ < 18446744073709551616 := by have := HS4.out.1.ok; unfold PS.Ok at this; omega
                have hz' : sumTo wents (kk + 1) - sumTo wents ii = z + wents.getD kk 0 := by rw [sumTo_succ _ _ hwl, HZ.out]; omega
                have hsum := (sumTo_mono HS4.out.1.low ii (kk + 1 - ii) (by omega)).2
                rw [show ii + (kk + 1 - ii) = kk + 1 by omega] at hsum
                rw [hz'] at hfin hsum
                have HZ' := Lib.hid hz'
                clear hz'
                generalize wents.getD kk 0 = u at *
                generalize ats.getD kk 0 = y at *
                generalize ats.getD ii 0 = x at *
                have hzu : z + u ≤ 429496729600 := by
                  refine Int.le_trans hsum ?_
                  have : ((kk + 1 - ii : Nat) : Int) ≤ 400 := by have := HL2.out.1; omega
                  exact Int.le_trans (Int.mul_le_mul_of_nonneg_right this (by decide)) (by decide)
                clear hsum
                obtain ⟨hu0, hu1⟩ := hu
                obtain ⟨hy0, hy1⟩ := hy
                obtain ⟨hx0, hx1⟩ := hx
                by_cases hzg : a1 < z + u
                · have hq0 : 0 ≤ ((z + u - a1) * 1000000 + a0 - 1) / a0 := Int.ediv_nonneg (by omega) (by omega)
                  obtain ⟨q, hq⟩ : ∃ q, ((z + u - a1) * 1000000 + a0 - 1) / a0 = q := ⟨_, rfl⟩
                  rw [hq] at hfin hq0
                  go_wp2_with fail
                  go_quiet (fail)
                  go_wp2_with fail
                  go_roundw
                  case rel => exact ⟨kk + 1, z + u, by omega, by omega, by go_num, rfl, by omega, by omega, Lib.hid HZ'.out.symm, Lib.hid (HS4.out.below (below_drewN (Below.refl _ _) nq))⟩
                  case measure => simp [intOf]; omega
                · have hzg' : decide (a1 < z + u) = false := by simp; omega
                  clear hfin
                  go_wp2_with fail
                  go_quiet (fail)
                  go_wp2_with fail
                  go_roundw
                  case rel => exact ⟨kk + 1, z + u, by omega, by omega, by go_num, rfl, by omega, by omega, Lib.hid HZ'.out.symm, Lib.hid (HS4.out.below (below_drewN (Below.refl _ _) nq))⟩
                  case measure => simp [intOf]; omega
              · go_wp2_with fail
                go_roundw
                case rel => exact ⟨ii + 1, by omega, by go_num, HS4⟩
                case measure => simp [intOf]; omega
          · go_wp2_with fail
            refine (works_any _).mono ?_
            rintro e w9 ⟨rfl, hb9⟩
            have HS9 := Lib.hid (HS3.out.below hb9).2.2.2.2.2
            clear hb9
            go_wp2_with fail
            go_ret
            exact ⟨rfl, by rw [← HGW.out]; exact HS9.out⟩
end Go.Proofs.Ytfmbbjinlicbgaa
