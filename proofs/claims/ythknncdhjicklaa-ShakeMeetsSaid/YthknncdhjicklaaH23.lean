/- Layer 21: the law's closure feed, over an abstract contract of Feed. Conditions: as each theorem states them. -/
import Derived.Test.YthknncdhjicklaaH22
import Derived.Deep.DeepCutAuto
namespace Go.Proofs.Ythknncdhjicklaa
open Go.RowKit
def SX.zero : SX := ⟨0, none, 0, []⟩
theorem getD_memS {l : List SX} {i : Nat} (h : i < l.length) : l.getD i SX.zero ∈ l := by
  rw [List.getD_eq_getElem?_getD, List.getElem?_eq_getElem h]
  exact List.getElem_mem h
def sliceLen : Value → Nat
  | .slice _ n _ => n
  | _ => 0
theorem SdR.load {B g n c : Nat} {w : World} {l : List SX} (h : SdR B w (.slice (some ⟨g, 0, none⟩) n c) l) (i : Nat) (hi : i < l.length) : (Instr.loadAt 31 (.pointer (some ⟨g, i * 2, none⟩))).run Try.prog w = .ok (.agg (l.getD i SX.zero).vs.toArray) w := by
  obtain ⟨c0, c1⟩ := h.cells i hi
  refine run_loadAt_mid w g (i * 2) _ _ _ (fun j v hv => ?_) Try.underlying31 rfl (by rw [sizeSd]; rfl)
  match j with
  | 0 => simp [SX.vs] at hv; subst hv; exact c0
  | 1 => simp [SX.vs] at hv; subst hv; exact c1
  | _ + 2 => simp [SX.vs] at hv
theorem wpList_appS2 {w : World} {ops : Array Oper} {rest : List Oper} {o : Oper} {a : Act} {Q : Exit → Act → World → Prop} {B B2 m c2 : Nat} {v : Value} {A2 : Option Addr} {ts us : List SX} (hgd : o.guard = none) (s x : Operand)
    (ho : o.op = .call { callee := .builtin .append, args := #[s, x], argTypes := #[29, 29] }) (hs : a.eval s = v) (hx : a.eval x = .slice A2 m c2) (hO : SdR B w v ts) (hr : SdR B2 w (.slice A2 m c2) us)
    (hl : ts.length + us.length ≤ 1000000) (hB : B ≤ w.heap.size) (h : ∀ v' w', SdR B w' v' (ts ++ us) → (Below w.heap.size w w' ∨ ∃ b cs, w.grownBy w' (some b) ∧ Blk w b 31 cs) → Below B w w' → w.grownBy w' v.ownBlock → (v'.ownBlock = v.ownBlock ∨ v'.ownBlock = some w.heap.size) → wpList Try.prog ops Q rest (a.put o.dst v') w') : wpList Try.prog ops Q (o :: rest) a w := by
  obtain ⟨A', c', e, hrd⟩ := hr.form
  injection e with e1 e2 e3
  subst e1 e2 e3
  obtain ⟨i, hi, hz, hsz, hby⟩ := info_parts infoSd
  refine wpList_append_any w hgd s x _ ho B 31 i _ 2 32 Try.underlying29 hi hz hsz hby rfl (by decide) _ _ _ hs hO.1 w.heap.size A2 us.length c2 _ hx hrd vsS_one (by unfold maxLen; omega) (by omega) hB ?_
  intro v' w' h1 h2 h3
  have hfr := row_block hO.1 h2
  refine h v' w' ⟨by rw [List.length_append, vsS_app]; exact h1, fun y hy => ?_⟩ hfr (below_own hO.1 h2 hB) h2 h3
  rcases List.mem_append.1 hy with hy | hy
  · exact (hO.2 y hy).fr hfr
  · exact (hr.2 y hy).fr hfr
/-- what the closure asks of a side that is fed: which state it is in behind i messages and a piece P of the next one -/
structure Fed (g : Nat) (L : List SX) (S : Nat → List (Int × List Int)) (I : Nat → List Int → World → Prop) : Prop where
  blk : ∀ i P w, I i P w → ∃ cs, Blk w g 43 cs
  fr : ∀ i P w w', I i P w → (Below w.heap.size w w' ∨ ∃ b t cs, w.grownBy w' (some b) ∧ Blk w b t cs ∧ t ≠ 43 ∧ t ≠ 5) → I i P w'
  step : ∀ i P Y A n c w, i < L.length → I i P w → 0 < Y.length → (∃ j, P ++ Y = (L.getD i SX.zero).bs.take j) → Rd w.heap.size .u8 w A Y → Y.length = n → Byt Y →
    Calls Try.prog 7 #[.pointer (some ⟨g, 0, none⟩), .int .u8 (L.getD i SX.zero).sp, .slice A n c] w fun e w' => w.grownBy w' (some g) ∧
      ((P ++ Y = (L.getD i SX.zero).bs ∧ ∃ v l B, e = .returned (.tuple #[v, .int .i64 0]) ∧ SdR B w' v l ∧ l.map SX.e = S i ∧ l.length ≤ 100 ∧ I (i + 1) [] w') ∨ (P ++ Y ≠ (L.getD i SX.zero).bs ∧ e = .returned (.tuple #[.slice none 0 0, .int .i64 0]) ∧ I i (P ++ Y) w'))
set_option maxRecDepth 100000 in
set_option maxHeartbeats 8000000 in
theorem feedc_any (g gn gc gl Bl n c lc cc n0 : Nat) (Ac : Option Addr) (cuts : List Int) (L : List SX) (S : Nat → List (Int × List Int)) (I : Nat → List Int → World → Prop) (w : World) (hF : Fed g L S I) (h0 : I 0 [] w) (hn : L.length = n) (hn1 : n ≤ 4)
    (hL : SdR Bl w (.slice (some ⟨gl, 0, none⟩) n c) L) (hm : ∀ x ∈ L, 0 < x.bs.length ∧ x.bs.length ≤ 2004) (kn : Blk w gn 3 #[.int .i64 n0]) (kc : Blk w gc 23 #[.slice Ac lc cc]) (hc : Rd w.heap.size .u8 w Ac cuts) (hca : 0 < cuts.length → ∀ ad, Ac = some ad → ad.block ≠ g ∧ ad.block ≠ gn) (hlc : cuts.length = lc) (hcb : Byt cuts) (hlc2 : lc ≤ 100) (hn0 : n0 ≤ 1000000) :
    Calls Try.prog 6 #[.pointer (some ⟨g, 0, none⟩), .slice (some ⟨gl, 0, none⟩) n c, .pointer (some ⟨gn, 0, none⟩), .pointer (some ⟨gc, 0, none⟩)] w fun e w' => ∃ v l, e = .returned (.tuple #[v, .bool true]) ∧ SdR w.heap.size w' v l ∧ l.map SX.e = (List.range n).flatMap S ∧ I n [] w' ∧ Two g gn w w' ∧ ∃ n1 : Nat, Blk w' gn 3 #[.int .i64 n1] ∧ n1 ≤ n0 + 2004 * n := by
  have F := Lib.hid hF
  have LL := Lib.hid hL
  have HN := Lib.hid hn
  have HM := Lib.hid hm
  have KN := Lib.hid kn
  have KC := Lib.hid kc
  have HC := Lib.hid hc
  have HCA := Lib.hid hca
  have HLC := Lib.hid hlc
  have HCB := Lib.hid hcb
  have I0 := Lib.hid h0
  obtain ⟨csg, kg⟩ := hF.blk 0 [] w h0
  have KG := Lib.hid kg
  have hgn : g ≠ gn := Blk.ne_ kg kn (by decide)
  have hgc : gc ≠ g ∧ gc ≠ gn := ⟨Blk.ne_ kc kg (by decide), Blk.ne_ kc kn (by decide)⟩
  have hgnl := kn.lt
  clear hF hL hn hm kn kc hc hca hlc hcb h0 kg
  go_enter Try.func6, Try.ntmps6
  go_wp2_with fail
  go_loopw [8, 17] (fun v i wr => ∃ (k m : Nat) (l : List SX), k ≤ n ∧ i = .int .i64 k ∧ Hid (SdR w.heap.size wr v l) ∧ Hid (l.map SX.e = (List.range k).flatMap S ∧ l.length ≤ 100 * k) ∧ Hid (I k [] wr) ∧ Hid (Two g gn w wr) ∧ Hid (Blk wr gn 3 #[.int .i64 m] ∧ m ≤ n0 + 2004 * k)) (fun _ i _ => n - (intOf i).toNat)
  case atStart => exact ⟨0, n0, [], by omega, rfl, Lib.hid (SdR.nil _ _), Lib.hid ⟨rfl, by simp⟩, I0, Lib.hid (Two.refl _ _ _), Lib.hid ⟨KN.out, by omega⟩⟩
  case round =>
    obtain ⟨k, m, l, hk, rfl, HS, HE, HI, HT, HM2⟩ := hrel
    by_cases hkn : k < n
    · have LW := HT.out.sdr LL.out KG.out KN.out (by decide) (by decide) (by decide) (by decide)
      have hkl : k < L.length := by rw [HN.out]; exact hkn
      have L20 := Lib.hid (LW.load k hkl)
      have HX := Lib.hid (LW.2 _ (getD_memS hkl))
      have HXM := Lib.hid (HM.out _ (getD_memS hkl))
      have HFS := Lib.hid (fun P Y A n c w => F.out.step k P Y A n c w hkl)
      clear LW hkl
      generalize L.getD k SX.zero = x at *
      have F8 : Hid (Blk (wr.alloc (.cells #[.int .u8 0, .slice none 0 0] 31)) wr.heap.size 31 #[.int .u8 0, .slice none 0 0]) := Lib.hid (Blk.new _ _ _)
      have hgr : g < wr.heap.size := by obtain ⟨_, q⟩ := F.out.blk _ _ _ HI.out; exact q.lt
      go_wp2_with (first
        | ((with_reducible (show wpList _ _ _ (⟨some 20, .load _ _, _, _, _, _⟩ :: _) _ _)); refine wpList_loadV (o := ⟨some 20, .load _ _, _, _, _, _⟩) rfl _ rfl rfl (L20.out) ?_)
        | ((with_reducible (show wpList _ _ _ (⟨none, .store 31 _ _, _, _, _, _⟩ :: _) _ _)); go_loud (refine wpList_storeBlk (o := ⟨none, .store 31 _ _, _, _, _, _⟩) (g := wr.heap.size) (t := 31) (vs := x.vs) rfl _ _ rfl rfl rfl F8.out rfl x.one (by rw [sizeSd]; rfl) ?_); intro w1 z1 g1; have c0 : w1.cell? ⟨wr.heap.size, 0, none⟩ = some (.int .u8 x.sp) := Blk.cell z1 0; have c1 : w1.cell? ⟨wr.heap.size, 1, none⟩ = some (.slice x.A x.bs.length x.c) := Blk.cell z1 1))
      have E1 := ((Below.refl wr.heap.size wr).alloc (Nat.le_refl _) (.cells #[.int .u8 0, .slice none 0 0] 31)).trans (below_of_only g1 (Nat.le_refl _) (by simp))
      have HS1 := Lib.hid (HS.out.below E1)
      have HI1 := Lib.hid (F.out.fr _ _ _ _ HI.out (.inl E1))
      have HT1 := Lib.hid (HT.out.below E1)
      have HM1 := Lib.hid (And.intro (HM2.out.1.below E1 HM2.out.1.lt) HM2.out.2)
      have HX1 := Lib.hid (HX.out.below E1)
      have Z1 := Lib.hid z1
      obtain ⟨gx, hgx⟩ : ∃ z, wr.heap.size = z := ⟨_, rfl⟩
      rw [hgx] at Z1 ⊢
      have hgxg : gx ≠ g := by omega
      have HOB : Hid (u8.ownBlock ≠ some gx) := Lib.hid (fun z => by have := (HS.out.1.lt gx z).2; omega)
      have HGX : Hid (w.heap.size ≤ gx) := Lib.hid (by rw [← hgx]; exact HT.out.size)
      clear hgx hgr E1 g1 z1 F8 L20 HX HS HI HT HM2 c0 c1
      obtain ⟨M, hM⟩ : ∃ z, x.bs.length = z := ⟨_, rfl⟩
      have HML := Lib.hid hM
      rw [hM] at HXM ⊢
      clear hM
      go_loopw [8, 11] (fun v r wi => ∃ (j m : Nat) (A' : Option Addr) (c' : Nat) (l : List SX), j ≤ M ∧ r = .slice A' (M - j) c' ∧ Hid (SlT wi (.slice A' (M - j) c') (x.bs.drop j)) ∧ Hid (SdR w.heap.size wi v l) ∧ Hid ((j < M ∧ I k (x.bs.take j) wi ∧ l.map SX.e = (List.range k).flatMap S ∧ l.length ≤ 100 * k) ∨ (j = M ∧ I (k + 1) [] wi ∧ l.map SX.e = (List.range (k + 1)).flatMap S ∧ l.length ≤ 100 * (k + 1))) ∧ Hid (Two g gn w wi) ∧ Hid (Blk wi gn 3 #[.int .i64 m] ∧ m ≤ n0 + 2004 * k + j) ∧ Hid (Blk wi gx 31 x.vs.toArray ∧ v.ownBlock ≠ some gx)) (fun _ r _ => sliceLen r)
      case atStart =>
        refine ⟨0, m, x.A, x.c, l, by omega, rfl, Lib.hid ?_, HS1, Lib.hid (.inl ⟨HXM.out.1, HI1.out, HE.out⟩), HT1, HM1, Lib.hid ⟨Z1.out, HOB.out⟩⟩
        have h := HX1.out.sl
        rw [HML.out] at h
        exact h
      case round =>
        obtain ⟨j, m, A', c', l, hj, rfl, HR, HS, HD, HT, HM2, HZ⟩ := hrel
        by_cases hjM : j < M
        · obtain ⟨r, hr⟩ : ∃ z, M - j = z := ⟨_, rfl⟩
          have HRJ : Hid (j + r = M) := Lib.hid (by omega)
          have hr0 : 0 < r ∧ r ≤ 2004 := by have := HXM.out; omega
          rw [hr] at HR ⊢
          clear hr
          have HDD := Lib.hid (HD.out.resolve_right (fun q => by omega))
          have kcw := Lib.hid (HT.out.blk KC.out hgc.1 hgc.2)
          have qn : wr.cell? ⟨gn, 0, none⟩ = some (.int .i64 m) := Blk.cell HM2.out.1 0
          have qc : wr.cell? ⟨gc, 0, none⟩ = some (.slice Ac lc cc) := Blk.cell kcw.out 0
          clear HD
          go_upto_if 32 with (fail)
          go_cut [12] from 23 to 61 (fun v wx => ∃ q : Nat, (1 ≤ q ∧ q ≤ r) ∧ v = .int .i64 q ∧ Hid (Below wr.heap.size wr wx))
          case first =>
            by_cases hl0 : lc = 0
            · clear qn qc
              go_wp2_with fail
              go_meet
              case rel => exact ⟨r, ⟨by omega, by omega⟩, rfl, Lib.hid (Below.refl _ _)⟩
            · have hlt0 : (0 : Int) < lc := by omega
              obtain ⟨q, hq, hql⟩ : ∃ q : Nat, (m : Int) % (lc : Int) = q ∧ q < lc := ⟨m % lc, by omega, Nat.mod_lt _ (by omega)⟩
              have hrc := HT.out.rd HC.out HCA.out
              obtain ⟨ad, hA, hab, hcell⟩ := hrc q (by rw [HLC.out]; exact hql)
              have hu := HCB.out.getD q
              generalize cuts.getD q 0 = u at *
              obtain ⟨u, rfl⟩ := Int.eq_ofNat_of_zero_le hu.1
              subst hA
              have rc : ∀ s : BW wr.heap.size wr, s.world.cell? (ad.add q) = some (.int .u8 u) := fun s => Below.cell_some s.below hcell (by rw [block_of_add]; exact hab)
              have rn : ∀ s : BW wr.heap.size wr, s.world.cell? ⟨gn, 0, none⟩ = some (.int .i64 m) := fun s => BW.cell qn HM2.out.1.lt s
              have rk : ∀ s : BW wr.heap.size wr, s.world.cell? ⟨gc, 0, none⟩ = some (.slice (some ad) lc cc) := fun s => BW.cell qc kcw.out.lt s
              clear hrc hcell qn qc
              go_wp2_with fail
              refine wp_region_mix_below wr.heap.size [([0, 1, 2, 3, 4, 5, 6, 7, 8, 9], 10)] [11] (by kernel_rfl) (by kernel_rfl) (by kernel_rfl) (by kernel_rfl) ?_
              simp only [pickL, List.map_cons, List.map_nil, List.filterMap_cons, List.filterMap_nil, List.getElem?_cons_succ, List.getElem?_cons_zero]
              refine mixS_cons ?_
              repeat (show wpQuiet _ _ _ _ (_ :: _) _; go_big_quiet_step (fail))
              refine wpQuiet_nil ?_
              show wpList _ _ _ [_] _ _
              go_wp2_with fail
              refine MixQ.below (Below.refl wr.heap.size wr).drew ?_
              refine mixS_nil ?_
              repeat (show wpQuiet _ _ _ _ (_ :: _) _; go_big_quiet_step (fail))
              refine wpQuiet_nil ?_
              refine NoPanic.normal ?_
              clear rc rn rk
              go_wp2_with fail
              go_meet
              case rel => exact ⟨min r (1 + u), ⟨by omega, by omega⟩, by congr 1; omega, Lib.hid (Below.refl wr.heap.size wr).drew⟩
          case rest =>
            obtain ⟨q, hq, rfl, B2⟩ := hcut
            clear qn qc
            have BD := Lib.hid B2.out.drew
            have HR2 := Lib.hid (HR.out.below BD.out)
            have HS2 := Lib.hid (HS.out.below BD.out)
            have HI2 := Lib.hid (F.out.fr _ _ _ _ HDD.out.2.1 (.inl BD.out))
            have HT2 := Lib.hid (HT.out.below BD.out)
            have HM3 := Lib.hid (And.intro (HM2.out.1.below BD.out HM2.out.1.lt) HM2.out.2)
            have HZ2 : Hid (Blk wc gx 31 x.vs.toArray) := Lib.hid (HZ.out.1.below B2.out HZ.out.1.lt)
            have HOB2 := Lib.hid HZ.out.2
            have HNW : Hid (w.heap.size ≤ wc.heap.size) := Lib.hid HT2.out.size
            have HYL : Hid (((x.bs.drop j).take q).length = q) := Lib.hid (by rw [List.length_take, List.length_drop, HML.out]; have := HRJ.out; omega)
            have HPY : Hid (x.bs.take j ++ (x.bs.drop j).take q = x.bs.take (j + q)) := Lib.hid (List.take_add).symm
            have hne : Nonempty (CW (fun v : World => Blk v gx 31 x.vs.toArray)) := CW.inh HZ2.out
            have cs0 : ∀ s : CW (fun v : World => Blk v gx 31 x.vs.toArray), s.world.cell? ⟨gx, 0, none⟩ = some (.int .u8 x.sp) := fun s => Blk.cell s.holds 0
            have hcq := HR2.out.mk.2.1
            clear HR HS HT HM2 HZ B2 kcw
            go_wp2_with fail
            refine wp_region_mix_class (fun v : World => Blk v gx 31 x.vs.toArray) [([0, 1, 2, 3, 4, 5], 6)] [7, 8, 9, 10, 11] (by kernel_rfl) (by kernel_rfl) (by kernel_rfl) (by kernel_rfl) HZ2.out.drew ?_
            simp only [pickL, List.map_cons, List.map_nil, List.filterMap_cons, List.filterMap_nil, List.getElem?_cons_succ, List.getElem?_cons_zero]
            refine mixS_cons ?_
            repeat (show wpQuiet _ _ _ _ (_ :: _) _; go_big_quiet_step (fail))
            refine wpQuiet_nil ?_
            show wpList _ _ _ [_] _ _
            go_wp2_with fail
            clear cs0
            refine Calls.mono (HFS.out (x.bs.take j) ((x.bs.drop j).take q) A' q c' _ HI2.out (by rw [HYL.out]; omega) ⟨j + q, HPY.out⟩ (rd_take HR2.out.mk.2.2 q) HYL.out ((HX1.out.byt.drop j).take q)) ?_
            rintro e wf ⟨gf, hpost⟩
            have HZ3 := Lib.hid (HZ2.out.drew.grown gf (by intro z; injection z with z; exact hgxg z))
            have HRF := Lib.hid (HR2.out.grown2 gf (by obtain ⟨_, z⟩ := F.out.blk _ _ _ HI2.out; exact z.notT (by decide)))
            have HSF := Lib.hid (HS2.out.grown gf (by obtain ⟨_, z⟩ := F.out.blk _ _ _ HI2.out; exact z.notT (by decide)) (by obtain ⟨_, z⟩ := F.out.blk _ _ _ HI2.out; exact z.notT (by decide)))
            have HTF := Lib.hid (HT2.out.one gf)
            have HMF := Lib.hid (And.intro (HM3.out.1.grown gf (by intro z; injection z with z; exact hgn z.symm)) HM3.out.2)
            have HNF := Lib.hid (Nat.le_trans HNW.out gf.size)
            obtain ⟨A7, c7, t7, run7⟩ := HRF.out.cut q hq.2
            have HA7 : Hid (∀ v, SlT v (.slice A' r c') (x.bs.drop j) → SlT v (.slice A7 (r - q) c7) ((x.bs.drop j).drop q)) := Lib.hid (fun v hv => by
              obtain ⟨A8, c8, t8, run8⟩ := hv.cut q hq.2
              have e := (run7 v .i64).symm.trans (run8 v .i64)
              injection e with e1 e2
              rw [e1]; exact t8)
            clear gf HR2 HS2 HI2 HT2 HM3 HZ2 HNW t7 BD
            rcases hpost with ⟨heq, v2, l2, B3, rfl, sd2, he2, hl2, hI2⟩ | ⟨hne2, rfl, hI2⟩
            · have hjq : j + q = M := by
                have h1 := congrArg List.length (HPY.out.symm.trans heq)
                rw [List.length_take, HML.out] at h1
                have := HRJ.out
                omega
              obtain ⟨A2, c2, rfl, _⟩ := sd2.form
              have SD2 := Lib.hid sd2
              have HI3 := Lib.hid hI2
              clear sd2 hI2 heq
              go_wp2_with fail
              refine MixQ.class HZ3.out ?_
              refine mixS_nil ?_
              repeat (show wpQuiet _ _ _ _ (_ :: _) _; go_big_quiet_step (fail))
              refine wpQuiet_nil ?_
              refine NoPanic.normal ?_
              have hmb : m ≤ 2000000 := by have h1 := HMF.out.2; have h2 := HXM.out.2; omega
              have HLE : Hid (l.length + l2.length ≤ 1000000) := Lib.hid (by have h1 := HDD.out.2.2.2; simp; omega)
              go_wp2_with ((at_builtin; go_loud (refine wpList_appS2 (o := ⟨some 58, _, _, _, _, _⟩) rfl _ _ rfl rfl rfl HSF.out SD2.out HLE.out HNF.out ?_); intro v11 w11 sd11 hfr11 b11 gr11 ob11; have S11 := Lib.hid sd11; have FR11 := Lib.hid hfr11; have BL11 := Lib.hid b11; have kn11 := Lib.hid (HMF.out.1.below b11 hgnl); have qn11 : w11.cell? ⟨gn, 0, none⟩ = some (.int .i64 m) := Blk.cell kn11.out 0; have fn11 := kn11.out.frozen 0; have Z11 := Lib.hid (HZ3.out.grown gr11 (fun z => HOB2.out z.symm)); have OB11 : Hid (v11.ownBlock ≠ some gx) := Lib.hid (fun z => by rcases ob11 with y | y; (exact HOB2.out (y.symm.trans z)); (have y2 := y.symm.trans z; injection y2 with y2; have := HZ3.out.lt; omega)); clear sd11 hfr11 b11 gr11 ob11))
              have g12 := only_setCell (World.grownBy.refl w11 (some gn)) (p := ⟨gn, 0, none⟩) (.inl rfl) (.int .i64 ((m : Int) + 1))
              have k12 : Blk (w11.setCell ⟨gn, 0, none⟩ (.int .i64 ((m : Int) + 1))) gn 3 #[.int .i64 ((m + 1 : Nat) : Int)] := (kn11.out.set_ 0 _).cast (by push_cast; rfl)
              have i12 := F.out.fr _ _ _ _ (F.out.fr _ _ _ _ HI3.out (by
                rcases FR11.out with z | ⟨b, cs, z1, z2⟩
                · exact .inl z
                · exact .inr ⟨b, _, cs, z1, z2, by decide, by decide⟩)) (.inr ⟨gn, _, _, g12, kn11.out, by decide, by decide⟩)
              have r12 := HA7.out _ ((HRF.out.fr FR11.out).grown2 g12 (kn11.out.notT (by decide)))
              have s12 := S11.out.grown g12 (kn11.out.notT (by decide)) (kn11.out.notT (by decide))
              have t12 := (HTF.out.old BL11.out).two g12
              have z12 := Z11.out.grown g12 (by intro z; injection z with z; exact Blk.ne_ Z11.out kn11.out (by decide) z)
              rw [List.drop_drop] at r12
              have hrq : r - q = M - (j + q) := by have := HRJ.out; omega
              rw [hrq] at r12 ⊢
              refine ⟨⟨j + q, m + 1, A7, c7, l ++ l2, by omega, rfl, Lib.hid r12, Lib.hid s12, Lib.hid ?_, Lib.hid t12, Lib.hid ⟨k12, ?_⟩, Lib.hid ⟨z12, OB11.out⟩⟩, ?_⟩
              · exact .inr ⟨hjq, i12, by rw [List.map_append, HDD.out.2.2.1, he2, List.range_succ, List.flatMap_append]; simp, by have h1 := HDD.out.2.2.2; simp; omega⟩
              · have h1 := HMF.out.2; omega
              · simp only [sliceLen]; have := HRJ.out; omega
            · have hjq : j + q < M := by
                rcases Nat.lt_or_ge (j + q) M with z | z
                · exact z
                · exact absurd (by rw [HPY.out, List.take_of_length_le (by rw [HML.out]; exact z)]) hne2
              have HI3 := Lib.hid hI2
              clear hI2 hne2
              go_wp2_with fail
              refine MixQ.class HZ3.out ?_
              refine mixS_nil ?_
              repeat (show wpQuiet _ _ _ _ (_ :: _) _; go_big_quiet_step (fail))
              refine wpQuiet_nil ?_
              refine NoPanic.normal ?_
              have hmb : m ≤ 2000000 := by have h1 := HMF.out.2; have h2 := HXM.out.2; omega
              have HLE : Hid (l.length + ([] : List SX).length ≤ 1000000) := Lib.hid (by have h1 := HDD.out.2.2.2; simp; omega)
              go_wp2_with ((at_builtin; go_loud (refine wpList_appS2 (o := ⟨some 58, _, _, _, _, _⟩) rfl _ _ rfl rfl rfl HSF.out (SdR.nil w.heap.size _) HLE.out HNF.out ?_); intro v11 w11 sd11 hfr11 b11 gr11 ob11; have S11 := Lib.hid sd11; have FR11 := Lib.hid hfr11; have BL11 := Lib.hid b11; have kn11 := Lib.hid (HMF.out.1.below b11 hgnl); have qn11 : w11.cell? ⟨gn, 0, none⟩ = some (.int .i64 m) := Blk.cell kn11.out 0; have fn11 := kn11.out.frozen 0; have Z11 := Lib.hid (HZ3.out.grown gr11 (fun z => HOB2.out z.symm)); have OB11 : Hid (v11.ownBlock ≠ some gx) := Lib.hid (fun z => by rcases ob11 with y | y; (exact HOB2.out (y.symm.trans z)); (have y2 := y.symm.trans z; injection y2 with y2; have := HZ3.out.lt; omega)); clear sd11 hfr11 b11 gr11 ob11))
              have g12 := only_setCell (World.grownBy.refl w11 (some gn)) (p := ⟨gn, 0, none⟩) (.inl rfl) (.int .i64 ((m : Int) + 1))
              have k12 : Blk (w11.setCell ⟨gn, 0, none⟩ (.int .i64 ((m : Int) + 1))) gn 3 #[.int .i64 ((m + 1 : Nat) : Int)] := (kn11.out.set_ 0 _).cast (by push_cast; rfl)
              have i12 := F.out.fr _ _ _ _ (F.out.fr _ _ _ _ HI3.out (by
                rcases FR11.out with z | ⟨b, cs, z1, z2⟩
                · exact .inl z
                · exact .inr ⟨b, _, cs, z1, z2, by decide, by decide⟩)) (.inr ⟨gn, _, _, g12, kn11.out, by decide, by decide⟩)
              have r12 := HA7.out _ ((HRF.out.fr FR11.out).grown2 g12 (kn11.out.notT (by decide)))
              have s12 := S11.out.grown g12 (kn11.out.notT (by decide)) (kn11.out.notT (by decide))
              have t12 := (HTF.out.old BL11.out).two g12
              have z12 := Z11.out.grown g12 (by intro z; injection z with z; exact Blk.ne_ Z11.out kn11.out (by decide) z)
              rw [List.drop_drop] at r12
              have hrq : r - q = M - (j + q) := by have := HRJ.out; omega
              rw [hrq] at r12 ⊢
              refine ⟨⟨j + q, m + 1, A7, c7, l ++ [], by omega, rfl, Lib.hid r12, Lib.hid s12, Lib.hid ?_, Lib.hid t12, Lib.hid ⟨k12, ?_⟩, Lib.hid ⟨z12, OB11.out⟩⟩, ?_⟩
              · exact .inl ⟨hjq, by rw [HPY.out] at i12; exact i12, by rw [List.append_nil]; exact HDD.out.2.2.1, by rw [List.append_nil]; exact HDD.out.2.2.2⟩
              · have h1 := HMF.out.2; omega
              · simp only [sliceLen]; have := HRJ.out; omega
        · have hjm : j = M := by omega
          subst hjm
          have HDD := Lib.hid (HD.out.resolve_left (fun q => by omega))
          have hn2 : m ≤ n0 + 2004 * (k + 1) := by have h1 := HM2.out.2; have h2 := HXM.out.2; omega
          clear HD hjM hj
          go_wp2_with fail
          refine ⟨⟨k + 1, m, l, by omega, by go_num, HS, Lib.hid HDD.out.2.2, Lib.hid HDD.out.2.1, HT, Lib.hid ⟨HM2.out.1, hn2⟩⟩, ?_⟩
          simp [intOf]; omega
    · obtain rfl : k = n := by omega
      go_wp2_with fail
      refine bodyPost_ret (results_tmp2 rfl _ _ _) rfl ?_
      exact ⟨_, l, rfl, HS.out, HE.out.1, HI.out, HT.out, m, HM2.out.1, HM2.out.2⟩
end Go.Proofs.Ythknncdhjicklaa
