/- Layer 10's keys and their reference: contracts; the law's known. Conditions: as each theorem states them. -/
import Derived.Test.YthpacdondnenmaaJK
import Derived.Test.YthpacdondnenmaaAM
import Derived.Test.YthpacdondnenmaaLV
import Derived.Test.YthpacdondnenmaaQO
namespace Go.Proofs.Ythpacdondnenmaa
open Go.RowKit
theorem size16 : (Try.prog.info? 23).map (·.size) = some 16 := by kernel_rfl
theorem size12 : (Try.prog.info? 24).map (·.size) = some 12 := by kernel_rfl
theorem sizeTok : (Try.prog.info? 55).map (·.size) = some 16 := by kernel_rfl
theorem sizeKeys : (Try.prog.info? 27).map (·.size) = some 77 := by kernel_rfl
/-- the cells of keys: secret, key, iv, hp, phase -/
def kyL (S K I H : List Int) (p : Int) : List Value := iv .u8 S ++ (iv .u8 K ++ (iv .u8 I ++ (iv .u8 H ++ [.int .u64 p])))
def kyV (S K I H : List Int) (p : Int) : Value := .agg (kyL S K I H p).toArray
structure KyOk (S K I H : List Int) : Prop where
  s : S.length = 32
  k : K.length = 16
  i : I.length = 12
  h : H.length = 16
  bs : Byt S
  bk : Byt K
  bi : Byt I
  bh : Byt H
theorem kyL_len {S K I H : List Int} {p : Int} (h : KyOk S K I H) : (kyL S K I H p).length = 77 := by
  unfold kyL
  simp [iv_len, h.s, h.k, h.i, h.h]
theorem kyL_one (S K I H : List Int) (p : Int) : ∀ v ∈ kyL S K I H p, v.oneCell' = true := fun v hv => by
  unfold kyL at hv
  simp only [List.mem_append, List.mem_singleton] at hv
  rcases hv with hv | hv | hv | hv | hv
  · exact iv_one _ _ v hv
  · exact iv_one _ _ v hv
  · exact iv_one _ _ v hv
  · exact iv_one _ _ v hv
  · subst hv; rfl
def zer (n : Nat) : List Int := List.replicate n 0
theorem zer_len (n : Nat) : (zer n).length = n := by simp [zer]
theorem zer_byt (n : Nat) : Byt (zer n) := fun x hx => by have := (List.mem_replicate.1 hx).2; omega
def kyPlaces : Array (Nat × Nat) := #[(0, 32), (32, 16), (48, 12), (60, 16), (76, 1)]
theorem built_eq (parts : List (Nat × Value)) : Try.prog.built 27 parts = Instr.fill (kyPlaces[·]?) (kyL (zer 32) (zer 16) (zer 12) (zer 16) 0).toArray parts := by kernel_rfl
theorem kyL_over {S K I H : List Int} {p : Int} :
    (∀ X : List Int, X.length = S.length → ovl (kyL S K I H p) 0 (iv .u8 X) = kyL X K I H p) ∧
    (∀ X : List Int, S.length = 32 → X.length = K.length → ovl (kyL S K I H p) 32 (iv .u8 X) = kyL S X I H p) ∧
    (∀ X : List Int, S.length = 32 → K.length = 16 → X.length = I.length → ovl (kyL S K I H p) 48 (iv .u8 X) = kyL S K X H p) ∧
    (∀ X : List Int, S.length = 32 → K.length = 16 → I.length = 12 → X.length = H.length → ovl (kyL S K I H p) 60 (iv .u8 X) = kyL S K I X p) := by
  unfold kyL
  refine ⟨fun X h => ?_, fun X h1 h => ?_, fun X h1 h2 h => ?_, fun X h1 h2 h3 h => ?_⟩
  · exact over_at (A := []) rfl (by simp [iv_len, h])
  · exact over_at (by simp [iv_len, h1]) (by simp [iv_len, h])
  · rw [← List.append_assoc (iv .u8 S), over_at (by simp [iv_len, h1, h2]) (by simp [iv_len, h])]; simp
  · rw [← List.append_assoc (iv .u8 S), ← List.append_assoc (iv .u8 S ++ _), over_at (by simp [iv_len, h1, h2, h3]) (by simp [iv_len, h])]; simp
theorem built_all {S K I H : List Int} (h : KyOk S K I H) : Try.prog.built 27 [(0, .agg (cellsL .u8 S)), (1, .agg (cellsL .u8 K)), (2, .agg (cellsL .u8 I)), (3, .agg (cellsL .u8 H))] = some (kyL S K I H 0).toArray := by
  rw [built_eq]
  simp only [← iv_cells]
  have l0 : (kyL (zer 32) (zer 16) (zer 12) (zer 16) 0).length = 77 := kyL_len ⟨zer_len _, zer_len _, zer_len _, zer_len _, zer_byt _, zer_byt _, zer_byt _, zer_byt _⟩
  rw [fill_step (off := 0) (size := 32) _ rfl (by rw [iv_len, h.s]) (by rw [l0]; decide), kyL_over.1 S (by rw [h.s, zer_len])]
  have l1 : (kyL S (zer 16) (zer 12) (zer 16) 0).length = 77 := kyL_len ⟨h.s, zer_len _, zer_len _, zer_len _, h.bs, zer_byt _, zer_byt _, zer_byt _⟩
  rw [fill_step (off := 32) (size := 16) _ rfl (by rw [iv_len, h.k]) (by rw [l1]; decide), kyL_over.2.1 K h.s (by rw [h.k, zer_len])]
  have l2 : (kyL S K (zer 12) (zer 16) 0).length = 77 := kyL_len ⟨h.s, h.k, zer_len _, zer_len _, h.bs, h.bk, zer_byt _, zer_byt _⟩
  rw [fill_step (off := 48) (size := 12) _ rfl (by rw [iv_len, h.i]) (by rw [l2]; decide), kyL_over.2.2.1 I h.s h.k (by rw [h.i, zer_len])]
  have l3 : (kyL S K I (zer 16) 0).length = 77 := kyL_len ⟨h.s, h.k, h.i, zer_len _, h.bs, h.bk, h.bi, zer_byt _⟩
  rw [fill_step (off := 60) (size := 16) _ rfl (by rw [iv_len, h.h]) (by rw [l3]; decide), kyL_over.2.2.2 H h.s h.k h.i (by rw [h.h, zer_len])]
  rfl
theorem built_one {S : List Int} (hs : S.length = 32) : Try.prog.built 27 [(0, .agg (cellsL .u8 S))] = some (kyL S (zer 16) (zer 12) (zer 16) 0).toArray := by
  rw [built_eq]
  simp only [← iv_cells]
  have l0 : (kyL (zer 32) (zer 16) (zer 12) (zer 16) 0).length = 77 := kyL_len ⟨zer_len _, zer_len _, zer_len _, zer_len _, zer_byt _, zer_byt _, zer_byt _, zer_byt _⟩
  rw [fill_step (off := 0) (size := 32) _ rfl (by rw [iv_len, hs]) (by rw [l0]; decide), kyL_over.1 S (by rw [hs, zer_len])]
  rfl
theorem size_run {t : TypeId} {n : Nat} (h : (Try.prog.info? t).map (·.size) = some n) (w : World) : (sizeOf t).run Try.prog w = .ok n w := by
  cases hq : Try.prog.info? t with
  | none => simp [hq] at h
  | some i => simp [hq] at h; simp [sizeOf, typeInfo, hq, h]
theorem keys_fields : (Try.prog.fieldsOf 27).toList.map (fun f => (f.name != "_", f.type, f.offset)) = [(true, 22, 0), (true, 23, 32), (true, 24, 48), (true, 23, 60), (true, 25, 76)] := by kernel_rfl
theorem keys_fine : Try.prog.underlying 27 = some (.struct (Try.prog.fieldsOf 27)) := by kernel_rfl
theorem keys_held : Try.prog.stoodInHeld 27 = false := by kernel_rfl
theorem five {α : Type} {l : List α} (h : l.length = 5) : ∃ a b c d e, l = [a, b, c, d, e] := by
  match l, h with
  | [a, b, c, d, e], _ => exact ⟨a, b, c, d, e, rfl⟩
theorem keys_five : ∃ f0 f1 f2 f3 f4 : Field, (Try.prog.fieldsOf 27).toList = [f0, f1, f2, f3, f4] ∧ (f0.name ≠ "_" ∧ f0.type = 22 ∧ f0.offset = 0) ∧ (f1.name ≠ "_" ∧ f1.type = 23 ∧ f1.offset = 32) ∧ (f2.name ≠ "_" ∧ f2.type = 24 ∧ f2.offset = 48) ∧ (f3.name ≠ "_" ∧ f3.type = 23 ∧ f3.offset = 60) ∧ (f4.name ≠ "_" ∧ f4.type = 25 ∧ f4.offset = 76) := by
  have hf := keys_fields
  generalize (Try.prog.fieldsOf 27).toList = fs at hf ⊢
  have hl : fs.length = 5 := by have := congrArg List.length hf; rw [List.length_map] at this; exact this
  obtain ⟨f0, f1, f2, f3, f4, rfl⟩ := five hl
  simp only [List.map_cons, List.map_nil, List.cons.injEq, Prod.mk.injEq, and_true, bne_iff_ne] at hf
  exact ⟨f0, f1, f2, f3, f4, rfl, hf⟩
section
variable {S K I H : List Int} {p : Int}
theorem keys_p0 (h : KyOk S K I H) (w : World) : (part 22 (kyL S K I H p).toArray 0).run Try.prog w = .ok (.agg (cellsL .u8 S)) w := part_mid (A := []) w Try.underlying22 (size_run size32) rfl h.s
theorem keys_p1 (h : KyOk S K I H) (w : World) : (part 23 (kyL S K I H p).toArray 32).run Try.prog w = .ok (.agg (cellsL .u8 K)) w := part_mid w Try.underlying23 (size_run size16) (by rw [iv_len, h.s]) h.k
theorem keys_p2 (h : KyOk S K I H) (w : World) : (part 24 (kyL S K I H p).toArray 48).run Try.prog w = .ok (.agg (cellsL .u8 I)) w := by
  unfold kyL
  rw [← List.append_assoc (iv .u8 S)]
  exact part_mid w Try.underlying24 (size_run size12) (by simp [iv_len, h.s, h.k]) h.i
theorem keys_p3 (h : KyOk S K I H) (w : World) : (part 23 (kyL S K I H p).toArray 60).run Try.prog w = .ok (.agg (cellsL .u8 H)) w := by
  unfold kyL
  rw [← List.append_assoc (iv .u8 S), ← List.append_assoc (iv .u8 S ++ _)]
  exact part_mid w Try.underlying23 (size_run size16) (by simp [iv_len, h.s, h.k, h.i]) h.h
theorem keys_at76 (h : KyOk S K I H) : (kyL S K I H p)[76]? = some (.int .u64 p) := by
  unfold kyL
  rw [← List.append_assoc, ← List.append_assoc, ← List.append_assoc]
  have hl : (((iv .u8 S ++ iv .u8 K) ++ iv .u8 I) ++ iv .u8 H).length = 76 := by simp [iv_len, h.s, h.k, h.i, h.h]
  rw [List.getElem?_append_right (by rw [hl]; exact Nat.le_refl _), hl]
  rfl
theorem part_int {t : TypeId} {k : IntKind} {cs : List Value} {i : Nat} {v : Value} (ht : Try.prog.underlying t = some (.int k)) (hv : cs[i]? = some v) (w : World) : (part t cs.toArray i).run Try.prog w = .ok v w := by
  simp [part, isAgg, run_underlying ht, hv]
theorem keys_p4 (h : KyOk S K I H) (w : World) : (part 25 (kyL S K I H p).toArray 76).run Try.prog w = .ok (.int .u64 p) w := part_int Try.underlying25 (keys_at76 h) w
end
theorem eqF_cons {d : Nat} {xs ys : Array Value} {f : Field} {fs : List Field} {t : TypeId} {o : Nat} {x y : Value} {w : World} (hn : f.name ≠ "_") (ht : f.type = t) (ho : f.offset = o) (hx : (part t xs o).run Try.prog w = .ok x w) (hy : (part t ys o).run Try.prog w = .ok y w)
    (he : (Op.equalIn d t x y).run Try.prog w = .ok true w) (hr : (Op.eqFields d xs ys fs).run Try.prog w = .ok true w) : (Op.eqFields d xs ys (f :: fs)).run Try.prog w = .ok true w := by
  subst ht; subst ho
  simp only [Op.eqFields, hn, ne_eq, not_false_eq_true, if_true, Sem.run_bind, hx, hy, he, hr, Result.andThen_ok, Bool.not_true, Bool.false_eq_true, if_false]
theorem keys_eqF (d : Nat) {S K I H : List Int} {p : Int} (h : KyOk S K I H) (w : World) : (Op.eqFields (d + 2) (kyL S K I H p).toArray (kyL S K I H p).toArray (Try.prog.fieldsOf 27).toList).run Try.prog w = .ok true w := by
  obtain ⟨f0, f1, f2, f3, f4, hfs, ⟨n0, t0, o0⟩, ⟨n1, t1, o1⟩, ⟨n2, t2, o2⟩, ⟨n3, t3, o3⟩, n4, t4, o4⟩ := keys_five
  rw [hfs]
  refine eqF_cons n0 t0 o0 (keys_p0 h w) (keys_p0 h w) (eqIn_self d w Try.underlying22 Try.underlying5 elU8.size h.bs h.s) ?_
  refine eqF_cons n1 t1 o1 (keys_p1 h w) (keys_p1 h w) (eqIn_self d w Try.underlying23 Try.underlying5 elU8.size h.bk h.k) ?_
  refine eqF_cons n2 t2 o2 (keys_p2 h w) (keys_p2 h w) (eqIn_self d w Try.underlying24 Try.underlying5 elU8.size h.bi h.i) ?_
  refine eqF_cons n3 t3 o3 (keys_p3 h w) (keys_p3 h w) (eqIn_self d w Try.underlying23 Try.underlying5 elU8.size h.bh h.h) ?_
  refine eqF_cons n4 t4 o4 (keys_p4 h w) (keys_p4 h w) ?_ (by simp [Op.eqFields])
  rw [run_equalIn_int w (d + 1) 25 .u64 .u64 p p Try.underlying25]
  simp
/-- keys are as themselves -/
theorem keys_eqIn (d : Nat) {S K I H : List Int} {p : Int} (h : KyOk S K I H) (w : World) : (Op.equalIn (d + 3) 27 (kyV S K I H p) (kyV S K I H p)).run Try.prog w = .ok true w := by
  unfold kyV
  rw [run_equalIn_struct w (d + 2) _ _ _ keys_fine keys_held, keys_eqF d h w]
theorem eql_of_eqIn {t : TypeId} {xs ys : Array Value} {b : Bool} (h : ∀ d w, (Op.equalIn (d + 3) t (.agg xs) (.agg ys)).run Try.prog w = .ok b w) (w : World) : (binOp .eql t (.agg xs) (.agg ys)).run Try.prog w = .ok (.bool b) w := by
  rw [run_eql_struct, h 9997 w, Result.andThen_ok]
theorem eql_keys {S K I H : List Int} {p : Int} (h : KyOk S K I H) (w : World) : (binOp .eql 27 (kyV S K I H p) (kyV S K I H p)).run Try.prog w = .ok (.bool true) w :=
  eql_of_eqIn (fun d w => keys_eqIn d h w) w
end Go.Proofs.Ythpacdondnenmaa
namespace Go.Proofs.Ythpacdondnenmaa
open Go.RowKit
theorem labelL_len (S : List Int) (s : ByteArray) (C : List Int) {N : Nat} (h1 : 1 ≤ N) (h2 : N ≤ 8160) (h3 : s.size ≤ 249) (h4 : C.length ≤ 255) : (labelL S s C N).length = N := by
  rw [labelL_in S s C N (by omega)]; exact expL_len S _ h1 h2
theorem labelL_byt (S : List Int) (s : ByteArray) (C : List Int) (n : Int) : Byt (labelL S s C n) := by
  by_cases h : n < 1 ∨ 8160 < n ∨ 249 < s.size ∨ 255 < C.length
  · rw [labelL_out S s C n h]; exact Byt.nil
  · rw [labelL_in S s C n h]; exact expL_byt S _ n
def sKey : ByteArray := ⟨#[113, 117, 105, 99, 32, 107, 101, 121]⟩
def sIv : ByteArray := ⟨#[113, 117, 105, 99, 32, 105, 118]⟩
def sHp : ByteArray := ⟨#[113, 117, 105, 99, 32, 104, 112]⟩
def kKey (S : List Int) : List Int := labelL S sKey [] 16
def kIv (S : List Int) : List Int := labelL S sIv [] 12
def kHp (S : List Int) : List Int := labelL S sHp [] 16
def kSec (S : List Int) (s : ByteArray) : List Int := labelL S s [] 32
theorem kKey_len (S : List Int) : (kKey S).length = 16 := labelL_len (N := 16) S _ _ (by decide) (by decide) (by decide) (by decide)
theorem kIv_len (S : List Int) : (kIv S).length = 12 := labelL_len (N := 12) S _ _ (by decide) (by decide) (by decide) (by decide)
theorem kHp_len (S : List Int) : (kHp S).length = 16 := labelL_len (N := 16) S _ _ (by decide) (by decide) (by decide) (by decide)
theorem kSec_len (S : List Int) {s : ByteArray} (hs : s.size ≤ 249) : (kSec S s).length = 32 := labelL_len (N := 32) S _ _ (by decide) (by decide) hs (by decide)
theorem kKey_byt (S : List Int) : Byt (kKey S) := labelL_byt _ _ _ _
theorem kIv_byt (S : List Int) : Byt (kIv S) := labelL_byt _ _ _ _
theorem kHp_byt (S : List Int) : Byt (kHp S) := labelL_byt _ _ _ _
theorem kSec_byt (S : List Int) (s : ByteArray) : Byt (kSec S s) := labelL_byt _ _ _ _
theorem label_key (S : List Int) (w : World) (hS : S.length = 32) (hSb : Byt S) : Calls Try.prog 44 #[.agg (cellsL .u8 S), .string ⟨#[113, 117, 105, 99, 32, 107, 101, 121]⟩, .slice none 0 0, .int .i64 16] w (SliPost (kKey S) w) :=
  label_any S sKey none 0 [] 16 w hS hSb Rd.nil Byt.nil (by decide) (by decide)
theorem label_iv (S : List Int) (w : World) (hS : S.length = 32) (hSb : Byt S) : Calls Try.prog 44 #[.agg (cellsL .u8 S), .string ⟨#[113, 117, 105, 99, 32, 105, 118]⟩, .slice none 0 0, .int .i64 12] w (SliPost (kIv S) w) :=
  label_any S sIv none 0 [] 12 w hS hSb Rd.nil Byt.nil (by decide) (by decide)
theorem label_hp (S : List Int) (w : World) (hS : S.length = 32) (hSb : Byt S) : Calls Try.prog 44 #[.agg (cellsL .u8 S), .string ⟨#[113, 117, 105, 99, 32, 104, 112]⟩, .slice none 0 0, .int .i64 16] w (SliPost (kHp S) w) :=
  label_any S sHp none 0 [] 16 w hS hSb Rd.nil Byt.nil (by decide) (by decide)
theorem label_sec (S : List Int) (s : ByteArray) (w : World) (hS : S.length = 32) (hSb : Byt S) (hs : s.size ≤ 249) : Calls Try.prog 44 #[.agg (cellsL .u8 S), .string s, .slice none 0 0, .int .i64 32] w (SliPost (kSec S s) w) :=
  label_any S s none 0 [] 32 w hS hSb Rd.nil Byt.nil (by decide) (by omega)
theorem rlabel_key (S : List Int) (w : World) (hS : S.length = 32) (hSb : Byt S) : Calls Try.prog 48 #[.agg (cellsL .u8 S), .string ⟨#[113, 117, 105, 99, 32, 107, 101, 121]⟩, .slice none 0 0, .int .i64 16] w (SliPost (kKey S) w) :=
  rlabel_any S sKey none 0 [] 16 w hS hSb Rd.nil Byt.nil (by decide) (by decide)
theorem rlabel_iv (S : List Int) (w : World) (hS : S.length = 32) (hSb : Byt S) : Calls Try.prog 48 #[.agg (cellsL .u8 S), .string ⟨#[113, 117, 105, 99, 32, 105, 118]⟩, .slice none 0 0, .int .i64 12] w (SliF (kIv S) w) :=
  rlabel_anyF S sIv none 0 [] 12 w hS hSb Rd.nil Byt.nil (by decide) (by decide)
theorem rlabel_hp (S : List Int) (w : World) (hS : S.length = 32) (hSb : Byt S) : Calls Try.prog 48 #[.agg (cellsL .u8 S), .string ⟨#[113, 117, 105, 99, 32, 104, 112]⟩, .slice none 0 0, .int .i64 16] w (SliPost (kHp S) w) :=
  rlabel_any S sHp none 0 [] 16 w hS hSb Rd.nil Byt.nil (by decide) (by decide)
theorem rlabel_sec (S : List Int) (s : ByteArray) (w : World) (hS : S.length = 32) (hSb : Byt S) (hs : s.size ≤ 249) : Calls Try.prog 48 #[.agg (cellsL .u8 S), .string s, .slice none 0 0, .int .i64 32] w (SliPost (kSec S s) w) :=
  rlabel_any S s none 0 [] 32 w hS hSb Rd.nil Byt.nil (by decide) (by omega)
attribute [irreducible] kKey kIv kHp kSec
def ofV (S : List Int) : Value := kyV S (kKey S) (kIv S) (kHp S) 0
theorem zeroKeys : Try.zeroCells27.size = 77 := by kernel_rfl
theorem ofOk {S : List Int} (h : S.length = 32) (hb : Byt S) : KyOk S (kKey S) (kIv S) (kHp S) := ⟨h, kKey_len S, kIv_len S, kHp_len S, hb, kKey_byt S, kIv_byt S, kHp_byt S⟩
theorem keysRow : (match TypeDesc.struct (Try.prog.fieldsOf 27) with | .struct _ | .array _ _ => true | _ => false) = true := rfl
set_option maxRecDepth 100000 in
set_option maxHeartbeats 8000000 in
theorem of_any (S : List Int) (w : World) (hS : S.length = 32) (hSb : Byt S) : Calls Try.prog 17 #[.agg (cellsL .u8 S)] w (RetV (ofV S) w) := by
  have HS := Lib.hid hS
  have HSB := Lib.hid hSb
  clear hS hSb
  go_enter Try.func17, Try.ntmps17
  go_wp2_with fail
  have SA : Hid (Arr ((w.alloc (.cells (cellsL .u8 S) 22)).alloc (.cells Try.zeroCells27 27)) w.heap.size 22 .u8 S) := Lib.hid ((Arr.newAt rfl rfl).alloc _)
  have ZA : Hid (Blk ((w.alloc (.cells (cellsL .u8 S) 22)).alloc (.cells Try.zeroCells27 27)) (w.heap.size + 1) 27 Try.zeroCells27) := Lib.hid (by have := Blk.new (w.alloc (.cells (cellsL .u8 S) 22)) 27 Try.zeroCells27; simpa using this)
  have B2 : Hid (Below w.heap.size w ((w.alloc (.cells (cellsL .u8 S) 22)).alloc (.cells Try.zeroCells27 27))) := Lib.hid (((Below.refl _ _).alloc (Nat.le_refl _) _).alloc (by simp) _)
  generalize ((w.alloc (.cells (cellsL .u8 S) 22)).alloc (.cells Try.zeroCells27 27)) = w2 at *
  have HL1 : Hid (∀ r : BW w2.heap.size w2, (Instr.loadAt 22 (.pointer (some ⟨w.heap.size, 0, none⟩))).run Try.prog r.world = .ok (.agg (cellsL .u8 S)) r.world) := Lib.hid (fun r => arr_load (SA.out.below r.below SA.out.lt) Try.underlying22 size32 HS.out.symm)
  refine wp_region_mixOB w2.heap.size [([0, 1, 5, 9], 2), ([3, 4], 6), ([7, 8], 10), ([11, 12, 13], 14)] (by kernel_rfl) (by kernel_rfl) (by kernel_rfl) (by kernel_rfl) (by kernel_rfl) ?_
  try (rw [put_none])
  simp only [pickL, List.map_cons, List.map_nil, List.filterMap_cons, List.filterMap_nil, List.getElem?_cons_succ, List.getElem?_cons_zero]
  refine mixO_cons ?_
  show wpQuiet _ _ _ _ (_ :: _) _
  refine wpQuiet_loadV (o := ⟨some 3, _, _, _, _, _⟩) rfl _ rfl rfl (fun w' hw' => by obtain ⟨r, rfl⟩ := hw'; exact HL1.out r) ?_
  simp only [Act.put, List.setIfInBounds_toArray, List.set_cons_zero, List.set_cons_succ]
  show wpQuiet _ _ _ _ (_ :: _) _
  refine wpQuiet_loadV (o := ⟨some 4, _, _, _, _, _⟩) rfl _ rfl rfl (fun w' hw' => by obtain ⟨r, rfl⟩ := hw'; exact HL1.out r) ?_
  simp only [Act.put, List.setIfInBounds_toArray, List.set_cons_zero, List.set_cons_succ]
  show wpQuiet _ _ _ _ (_ :: _) _
  refine wpQuiet_loadV (o := ⟨some 8, _, _, _, _, _⟩) rfl _ rfl rfl (fun w' hw' => by obtain ⟨r, rfl⟩ := hw'; exact HL1.out r) ?_
  simp only [Act.put, List.setIfInBounds_toArray, List.set_cons_zero, List.set_cons_succ]
  show wpQuiet _ _ _ _ (_ :: _) _
  refine wpQuiet_loadV (o := ⟨some 12, _, _, _, _, _⟩) rfl _ rfl rfl (fun w' hw' => by obtain ⟨r, rfl⟩ := hw'; exact HL1.out r) ?_
  simp only [Act.put, List.setIfInBounds_toArray, List.set_cons_zero, List.set_cons_succ]
  refine wpQuiet_nil ?_
  show wpList _ _ _ [_] _ _
  go_wp2_with fail
  refine Calls.mono (label_key S _ HS.out HSB.out) ?_
  rintro e w3 ⟨A3, n3, c3, rfl, hn3, hc3, hr3, hb3⟩
  have B3 := Lib.hid ((Below.refl w2.heap.size w2).drew.trans hb3)
  have R3 := Lib.hid hr3
  have N3 : Hid (n3 = 16) := Lib.hid (by rw [hn3, kKey_len])
  clear hn3 hc3 hr3 hb3
  go_wp2_with fail
  refine MixO.narrowB B3.out B3.out.size ?_
  refine mixO_cons ?_
  show wpQuiet _ _ _ _ (_ :: _) _
  refine wpQuiet_arrayAt (o := ⟨some 6, _, _, _, _, _⟩) rfl _ rfl rfl (fun w' => arrayAt_run Try.underlying23 A3 c3 (by rw [N3.out]; exact Nat.le_refl _) w') ?_
  simp only [Act.put, List.setIfInBounds_toArray, List.set_cons_zero, List.set_cons_succ]
  show wpQuiet _ _ _ _ (_ :: _) _
  refine wpQuiet_loadV (o := ⟨some 7, _, _, _, _, _⟩) rfl _ rfl rfl (fun w' hw' => by obtain ⟨r, rfl⟩ := hw'; exact rd_loadArr (R3.out.below r.below (Nat.le_refl _)) Try.underlying23 size16 (by rw [kKey_len]; exact Nat.le_refl _) (by decide)) ?_
  simp only [Act.put, List.setIfInBounds_toArray, List.set_cons_zero, List.set_cons_succ]
  refine wpQuiet_nil ?_
  show wpList _ _ _ [_] _ _
  go_wp2_with fail
  refine Calls.mono (label_iv S _ HS.out HSB.out) ?_
  rintro e w4 ⟨A4, n4, c4, rfl, hn4, hc4, hr4, hb4⟩
  have B4 := Lib.hid hb4
  have R4 := Lib.hid hr4
  have N4 : Hid (n4 = 12) := Lib.hid (by rw [hn4, kIv_len])
  clear hn4 hc4 hr4 hb4
  go_wp2_with fail
  refine MixO.narrowB B4.out B4.out.size ?_
  refine mixO_cons ?_
  show wpQuiet _ _ _ _ (_ :: _) _
  refine wpQuiet_arrayAt (o := ⟨some 10, _, _, _, _, _⟩) rfl _ rfl rfl (fun w' => arrayAt_run Try.underlying24 A4 c4 (by rw [N4.out]; exact Nat.le_refl _) w') ?_
  simp only [Act.put, List.setIfInBounds_toArray, List.set_cons_zero, List.set_cons_succ]
  show wpQuiet _ _ _ _ (_ :: _) _
  refine wpQuiet_loadV (o := ⟨some 11, _, _, _, _, _⟩) rfl _ rfl rfl (fun w' hw' => by obtain ⟨r, rfl⟩ := hw'; exact rd_loadArr (R4.out.below r.below (Nat.le_refl _)) Try.underlying24 size12 (by rw [kIv_len]; exact Nat.le_refl _) (by decide)) ?_
  simp only [Act.put, List.setIfInBounds_toArray, List.set_cons_zero, List.set_cons_succ]
  refine wpQuiet_nil ?_
  show wpList _ _ _ [_] _ _
  go_wp2_with fail
  refine Calls.mono (label_hp S _ HS.out HSB.out) ?_
  rintro e w5 ⟨A5, n5, c5, rfl, hn5, hc5, hr5, hb5⟩
  have B5 := Lib.hid hb5
  have R5 := Lib.hid hr5
  have N5 : Hid (n5 = 16) := Lib.hid (by rw [hn5, kHp_len])
  clear hn5 hc5 hr5 hb5
  go_wp2_with fail
  refine MixO.narrowB B5.out B5.out.size ?_
  refine mixO_cons ?_
  show wpQuiet _ _ _ _ (_ :: _) _
  refine wpQuiet_arrayAt (o := ⟨some 14, _, _, _, _, _⟩) rfl _ rfl rfl (fun w' => arrayAt_run Try.underlying23 A5 c5 (by rw [N5.out]; exact Nat.le_refl _) w') ?_
  simp only [Act.put, List.setIfInBounds_toArray, List.set_cons_zero, List.set_cons_succ]
  show wpQuiet _ _ _ _ (_ :: _) _
  refine wpQuiet_loadV (o := ⟨some 15, _, _, _, _, _⟩) rfl _ rfl rfl (fun w' hw' => by obtain ⟨r, rfl⟩ := hw'; exact rd_loadArr (R5.out.below r.below (Nat.le_refl _)) Try.underlying23 size16 (by rw [kHp_len]; exact Nat.le_refl _) (by decide)) ?_
  simp only [Act.put, List.setIfInBounds_toArray, List.set_cons_zero, List.set_cons_succ]
  have HK := Lib.hid (List.take_of_length_le (i := 16) (l := kKey S) (by rw [kKey_len]; exact Nat.le_refl _))
  have HI := Lib.hid (List.take_of_length_le (i := 12) (l := kIv S) (by rw [kIv_len]; exact Nat.le_refl _))
  have HH := Lib.hid (List.take_of_length_le (i := 16) (l := kHp S) (by rw [kHp_len]; exact Nat.le_refl _))
  have HB : Hid (Try.prog.built 27 [(0, .agg (cellsL .u8 S)), (1, .agg (cellsL .u8 ((kKey S).take 16))), (2, .agg (cellsL .u8 ((kIv S).take 12))), (3, .agg (cellsL .u8 ((kHp S).take 16)))] = some (kyL S (kKey S) (kIv S) (kHp S) 0).toArray) := Lib.hid (by rw [HK.out, HI.out, HH.out]; exact built_all (ofOk HS.out HSB.out))
  show wpQuiet _ _ _ _ (_ :: _) _
  refine wpQuiet_buildV (o := ⟨some 16, _, _, _, _, _⟩) rfl _ rfl (HB.out) ?_
  simp only [Act.put, List.setIfInBounds_toArray, List.set_cons_zero, List.set_cons_succ]
  have B25 := Lib.hid ((B3.out.trans (B4.out.mono B3.out.size)).trans (B5.out.mono (Nat.le_trans B3.out.size B4.out.size)))
  have Z5 := Lib.hid (ZA.out.below B25.out ZA.out.lt)
  obtain ⟨w6, hs6, hz6, hg6⟩ := blk_storeAll (P := Try.prog) (ty := 27) (vs := kyL S (kKey S) (kIv S) (kHp S) 0) Z5.out (by rw [kyL_len (ofOk HS.out HSB.out), zeroKeys]) (kyL_one _ _ _ _ _) (by rw [kyL_len (ofOk HS.out HSB.out)]; exact sizeKeys)
  have S6 := Lib.hid hs6
  have Z6 := Lib.hid hz6
  have G6 := Lib.hid hg6
  clear hs6 hz6 hg6
  refine wpQuiet_nil ?_
  show wpList _ _ _ [_] _ _
  go_wp2_with ((with_reducible (show wpList _ _ _ (⟨none, .store 27 _ _, _, _, _, _⟩ :: _) _ _)); refine wpList_storeV (o := ⟨none, .store 27 _ _, _, _, _, _⟩) rfl _ _ rfl rfl rfl (S6.out) ?_)
  refine MixO.last ?_
  refine mixO_nil ?_
  refine wpQuiet_nil ?_
  refine NoPanic.normal ?_
  go_wp2_with fail
  refine ret_row rfl rfl Z6.out keys_fine rfl (by rw [List.size_toArray, kyL_len (ofOk HS.out HSB.out)]; exact sizeKeys) rfl ⟨rfl, ?_⟩
  have B6 := below_of_only G6.out (B := w.heap.size) (by omega) (Nat.le_trans B2.out.size B25.out.size)
  exact (B2.out.trans (B25.out.mono B2.out.size)).trans B6
set_option maxRecDepth 100000 in
set_option maxHeartbeats 8000000 in
theorem secret_any (S : List Int) (s : ByteArray) (w : World) (hS : S.length = 32) (hSb : Byt S) (hs : s.size ≤ 249) : Calls Try.prog 40 #[.agg (cellsL .u8 S), .string s] w (RetV (.agg (cellsL .u8 (kSec S s))) w) := by
  have HS := Lib.hid hS
  have HSB := Lib.hid hSb
  have HSS := Lib.hid hs
  clear hS hSb hs
  go_enter Try.func40, Try.ntmps40
  go_wp2_with ((with_reducible (show wpList _ _ _ (⟨some 5, .load _ _, _, _, _, _⟩ :: _) _ _)); refine wpList_loadV (o := ⟨some 5, .load _ _, _, _, _, _⟩) rfl _ rfl rfl (arr_load ((Arr.newAt rfl rfl).alloc _) Try.underlying22 size32 HS.out.symm) ?_)
  refine Calls.mono (label_sec S s _ HS.out HSB.out HSS.out) ?_
  rintro e w3 ⟨A3, n3, c3, rfl, hn3, hc3, hr3, hb3⟩
  have B3 : Hid (Below w.heap.size w w3) := Lib.hid ((((Below.refl _ _).alloc (Nat.le_refl _) _).alloc (by simp) _).trans (hb3.mono (by simp <;> omega)))
  have Z3 : Hid (Blk w3 (w.heap.size + 1) 22 (cellsL .u8 (zer 32))) := Lib.hid (blk_below_new hb3 (by simp) (by simp))
  have R3 := Lib.hid hr3
  have N3 : Hid (n3 = 32) := Lib.hid (by rw [hn3, kSec_len S HSS.out])
  have K3 : Hid ((kSec S s).length = 32) := Lib.hid (kSec_len S HSS.out)
  have T3 : Hid ((kSec S s).take 32 = kSec S s) := Lib.hid (List.take_of_length_le (by rw [K3.out]; exact Nat.le_refl _))
  clear hn3 hc3 hr3 hb3
  have hl8 : (Instr.loadAt 22 (.pointer A3)).run Try.prog w3 = .ok (.agg (cellsL .u8 (kSec S s))) w3 := by
    have := rd_loadArr R3.out Try.underlying22 size32 (by rw [K3.out]; exact Nat.le_refl _) (by decide)
    rwa [T3.out] at this
  have L8 := Lib.hid hl8
  clear hl8
  obtain ⟨w6, hs6, hz6, hg6⟩ := blk_storeAll (P := Try.prog) (ty := 22) (vs := iv .u8 (kSec S s)) Z3.out (by rw [iv_len, K3.out, cellsL_size, zer_len]) (iv_one _ _) (by rw [iv_len, K3.out]; exact size32)
  have S6 := Lib.hid hs6
  have Z6 := Lib.hid hz6
  have G6 := Lib.hid hg6
  clear hs6 hz6 hg6
  go_wp2_with (first
    | ((with_reducible (show wpList _ _ _ (⟨some 8, .sliceToArrayPointer _ _, _, _, _, _⟩ :: _) _ _)); refine wpList_arrayAt (o := ⟨some 8, .sliceToArrayPointer _ _, _, _, _, _⟩) rfl _ rfl rfl (arrayAt_run Try.underlying22 A3 c3 (by rw [N3.out]; exact Nat.le_refl _) _) ?_)
    | ((with_reducible (show wpList _ _ _ (⟨some 9, .load _ _, _, _, _, _⟩ :: _) _ _)); refine wpList_loadV (o := ⟨some 9, .load _ _, _, _, _, _⟩) rfl _ rfl rfl (L8.out) ?_)
    | ((with_reducible (show wpList _ _ _ (⟨none, .store 22 _ _, _, _, _, _⟩ :: _) _ _)); refine wpList_storeV (o := ⟨none, .store 22 _ _, _, _, _, _⟩) rfl _ _ rfl rfl rfl (S6.out) ?_))
  refine ret_row rfl rfl Z6.out Try.underlying22 rfl (by rw [List.size_toArray, iv_len, K3.out]; exact size32) rfl ⟨rfl, ?_⟩
  exact B3.out.trans (below_of_only G6.out (by omega) B3.out.size)
end Go.Proofs.Ythpacdondnenmaa
namespace Go.Proofs.Ythpacdondnenmaa
open Go.RowKit
section
variable {S K I H : List Int} {p : Int} {w : World} {g : Nat}
abbrev KyB (w : World) (g : Nat) (S K I H : List Int) (p : Int) : Prop := Blk w g 27 (kyL S K I H p).toArray
theorem kyL_2 (S K I H : List Int) (p : Int) : kyL S K I H p = (iv .u8 S ++ iv .u8 K) ++ (iv .u8 I ++ (iv .u8 H ++ [.int .u64 p])) := by unfold kyL; simp
theorem kyL_3 (S K I H : List Int) (p : Int) : kyL S K I H p = (iv .u8 S ++ iv .u8 K ++ iv .u8 I) ++ (iv .u8 H ++ [.int .u64 p]) := by unfold kyL; simp
theorem kyL_4 (S K I H : List Int) (p : Int) : kyL S K I H p = (iv .u8 S ++ iv .u8 K ++ iv .u8 I ++ iv .u8 H) ++ ([.int .u64 p] ++ []) := by unfold kyL; simp
theorem ky_load (h : KyOk S K I H) (b : KyB w g S K I H p) : (Instr.loadAt 27 (.pointer (some ⟨g, 0, none⟩))).run Try.prog w = .ok (kyV S K I H p) w :=
  blk_load b keys_fine rfl (by rw [List.size_toArray, kyL_len h]; exact sizeKeys)
theorem ky_load0 (h : KyOk S K I H) (b : KyB w g S K I H p) : (Instr.loadAt 22 (.pointer (some ⟨g, 0, none⟩))).run Try.prog w = .ok (.agg (cellsL .u8 S)) w :=
  blk_loadMid (A := []) (B := iv .u8 S) b rfl Try.underlying22 rfl (by rw [iv_len, h.s]; exact size32)
theorem ky_load1 (h : KyOk S K I H) (b : KyB w g S K I H p) : (Instr.loadAt 23 (.pointer (some ⟨g, 32, none⟩))).run Try.prog w = .ok (.agg (cellsL .u8 K)) w :=
  blk_loadMid (A := iv .u8 S) (B := iv .u8 K) b (by rw [iv_len, h.s]) Try.underlying23 rfl (by rw [iv_len, h.k]; exact size16)
theorem ky_load2 (h : KyOk S K I H) (b : KyB w g S K I H p) : (Instr.loadAt 24 (.pointer (some ⟨g, 48, none⟩))).run Try.prog w = .ok (.agg (cellsL .u8 I)) w :=
  blk_loadMid (B := iv .u8 I) (Blk.cast b (by rw [kyL_2])) (by simp [iv_len, h.s, h.k]) Try.underlying24 rfl (by rw [iv_len, h.i]; exact size12)
theorem ky_load3 (h : KyOk S K I H) (b : KyB w g S K I H p) : (Instr.loadAt 23 (.pointer (some ⟨g, 60, none⟩))).run Try.prog w = .ok (.agg (cellsL .u8 H)) w :=
  blk_loadMid (B := iv .u8 H) (Blk.cast b (by rw [kyL_3])) (by simp [iv_len, h.s, h.k, h.i]) Try.underlying23 rfl (by rw [iv_len, h.h]; exact size16)
theorem ky_cell76 (h : KyOk S K I H) (b : KyB w g S K I H p) : w.cell? ⟨g, 76, none⟩ = some (.int .u64 p) := by
  rw [Blk.cell b]; simpa using keys_at76 h
theorem ky_frozen (b : KyB w g S K I H p) (i : Nat) : w.frozen? ⟨g, i, none⟩ = false := Blk.frozen b i
theorem ky_store (h : KyOk S K I H) {old : Array Value} (b : Blk w g 27 old) (ho : old.size = 77) : ∃ w', (Instr.storeAt 27 (.pointer (some ⟨g, 0, none⟩)) (kyV S K I H p)).run Try.prog w = .ok () w' ∧ KyB w' g S K I H p ∧ w.grownBy w' (some g) :=
  blk_storeAll (P := Try.prog) (ty := 27) (vs := kyL S K I H p) b (by rw [kyL_len h, ho]) (kyL_one _ _ _ _ _) (by rw [kyL_len h]; exact sizeKeys)
theorem ky_storeK (h : KyOk S K I H) {X : List Int} (hX : X.length = 16) (b : KyB w g S K I H p) : ∃ w', (Instr.storeAt 23 (.pointer (some ⟨g, 32, none⟩)) (.agg (cellsL .u8 X))).run Try.prog w = .ok () w' ∧ KyB w' g S X I H p ∧ w.grownBy w' (some g) := by
  obtain ⟨w', h2, h3, h4⟩ := blk_storeMid (P := Try.prog) (ty := 23) (o := 32) (vs := iv .u8 X) b (by rw [iv_len, kyL_len h, hX]; decide) (iv_one _ _) (by rw [iv_len, hX]; exact size16)
  rw [kyL_over.2.1 X h.s (by rw [hX, h.k])] at h3
  exact ⟨w', h2, h3, h4⟩
theorem ky_storeH (h : KyOk S K I H) {X : List Int} (hX : X.length = 16) (b : KyB w g S K I H p) : ∃ w', (Instr.storeAt 23 (.pointer (some ⟨g, 60, none⟩)) (.agg (cellsL .u8 X))).run Try.prog w = .ok () w' ∧ KyB w' g S K I X p ∧ w.grownBy w' (some g) := by
  obtain ⟨w', h2, h3, h4⟩ := blk_storeMid (P := Try.prog) (ty := 23) (o := 60) (vs := iv .u8 X) b (by rw [iv_len, kyL_len h, hX]; decide) (iv_one _ _) (by rw [iv_len, hX]; exact size16)
  rw [kyL_over.2.2.2 X h.s h.k h.i (by rw [hX, h.h])] at h3
  exact ⟨w', h2, h3, h4⟩
theorem ky_setp (h : KyOk S K I H) (b : KyB w g S K I H p) (q : Int) : KyB (w.setCell ⟨g, 76, none⟩ (.int .u64 q)) g S K I H q := by
  refine Blk.cast (Blk.set_ b 76 (.int .u64 q)) ?_
  have hl : (iv .u8 S ++ iv .u8 K ++ iv .u8 I ++ iv .u8 H).length = 76 := by simp [iv_len, h.s, h.k, h.i, h.h]
  rw [List.setIfInBounds_toArray, kyL_4, kyL_4, List.set_append_right _ _ (by rw [hl]; exact Nat.le_refl _), hl]
  rfl
theorem ky_seti (h : KyOk S K I H) (b : KyB w g S K I H p) {i : Nat} (hi : i < 12) (x : Int) : KyB (w.setCell ⟨g, 48 + i, none⟩ (.int .u8 x)) g S K (I.set i x) H p := by
  refine Blk.cast (Blk.set_ b (48 + i) (.int .u8 x)) ?_
  have hl : (iv .u8 S ++ iv .u8 K).length = 48 := by simp [iv_len, h.s, h.k]
  rw [List.setIfInBounds_toArray, kyL_2, kyL_2, List.set_append_right _ _ (by rw [hl]; omega), hl, Nat.add_sub_cancel_left, List.set_append_left _ _ (by rw [iv_len, h.i]; exact hi), iv_set]
end
def sKu : ByteArray := ⟨#[113, 117, 105, 99, 32, 107, 117]⟩
def nextV (S H : List Int) (p : Int) : Value := kyV (kSec S sKu) (kKey (kSec S sKu)) (kIv (kSec S sKu)) H ((p + 1) % 18446744073709551616)
theorem secret_ku (S : List Int) (w : World) (hS : S.length = 32) (hSb : Byt S) : Calls Try.prog 40 #[.agg (cellsL .u8 S), .string ⟨#[113, 117, 105, 99, 32, 107, 117]⟩] w (RetV (.agg (cellsL .u8 (kSec S sKu))) w) := secret_any S sKu w hS hSb (by decide)
theorem ku_len (S : List Int) : (kSec S sKu).length = 32 := kSec_len S (by decide)
theorem ofNext {S H : List Int} (h : H.length = 16) (hb : Byt H) : KyOk (kSec S sKu) (kKey (kSec S sKu)) (kIv (kSec S sKu)) H := ⟨ku_len S, kKey_len _, kIv_len _, h, kSec_byt _ _, kKey_byt _, kIv_byt _, hb⟩
set_option maxRecDepth 100000 in
set_option maxHeartbeats 8000000 in
theorem next_any (S K I H : List Int) (p : Int) (w : World) (h : KyOk S K I H) (hp : 0 ≤ p ∧ p < 18446744073709551616) : Calls Try.prog 12 #[kyV S K I H p] w (RetV (nextV S H p) w) := by
  have HO := Lib.hid h
  have HZ := Lib.hid zeroKeys
  obtain ⟨hp0, hp1⟩ := hp
  clear h
  unfold kyV
  go_enter Try.func12, Try.ntmps12
  go_wp2_with ((with_reducible (show wpList _ _ _ (⟨some 5, .load _ _, _, _, _, _⟩ :: _) _ _)); refine wpList_loadV (o := ⟨some 5, .load _ _, _, _, _, _⟩) rfl _ rfl rfl (ky_load0 HO.out ((Blk.new _ _ _).alloc _)) ?_)
  refine Calls.mono (secret_ku S _ HO.out.s HO.out.bs) ?_
  rintro e w3 ⟨rfl, hb3⟩
  have B3 : Hid (Below w.heap.size w w3) := Lib.hid ((((Below.refl _ _).alloc (Nat.le_refl _) _).alloc (by simp) _).trans (hb3.mono (by simp <;> omega)))
  have Z3 : Hid (Blk w3 (w.heap.size + 1) 27 Try.zeroCells27) := Lib.hid (blk_below_new hb3 (by simp) (by simp))
  have K3 : Hid (KyB w3 w.heap.size S K I H p) := Lib.hid (((Blk.new _ _ _).alloc _).below hb3 (by simp <;> omega))
  clear hb3
  have HU := Lib.hid (ku_len S)
  have HUB := Lib.hid (kSec_byt S sKu)
  have HN := Lib.hid (ofNext (S := S) HO.out.h HO.out.bh)
  have HF := Lib.hid (ofOk HU.out HUB.out)
  have HVV : Hid (nextV S H p = kyV (kSec S sKu) (kKey (kSec S sKu)) (kIv (kSec S sKu)) H ((p + 1) % 18446744073709551616)) := Lib.hid rfl
  generalize nextV S H p = V at *
  generalize kSec S sKu = U at *
  go_wp2_with fail
  refine Calls.mono (of_any U _ HU.out HUB.out) ?_
  rintro e w4 ⟨rfl, hb4⟩
  have B4 := Lib.hid hb4
  clear hb4
  unfold ofV
  have Z4 := Lib.hid (Z3.out.below B4.out Z3.out.lt)
  have K4 := Lib.hid (Blk.below K3.out B4.out (Blk.lt K3.out))
  obtain ⟨w5, hs5, hk5, hg5⟩ := ky_store (p := 0) HF.out (Blk.new w4 27 Try.zeroCells27) HZ.out
  have S5 := Lib.hid hs5
  have K5 := Lib.hid hk5
  have B5 : Hid (Below w4.heap.size w4 w5) := Lib.hid (((Below.refl _ _).alloc (Nat.le_refl _) _).trans (below_of_only hg5 (Nat.le_refl _) (by simp)))
  have hgl : w4.heap.size < w5.heap.size := Blk.lt hk5
  clear hs5 hk5 hg5
  go_wp2_with ((with_reducible (show wpList _ _ _ (⟨none, .store 27 _ _, _, _, _, _⟩ :: _) _ _)); refine wpList_storeV (o := ⟨none, .store 27 _ _, _, _, _, _⟩) rfl _ _ rfl rfl rfl (S5.out) ?_)
  have KA := Lib.hid (Blk.below K4.out B5.out (Blk.lt K4.out))
  have hga : w.heap.size < w4.heap.size := Blk.lt K4.out
  have hgz : w.heap.size + 1 < w4.heap.size := Blk.lt Z4.out
  have hg3 : w3.heap.size ≤ w4.heap.size := B4.out.size
  generalize w4.heap.size = g at *
  have HC : ∀ r : BW g w5, r.world.cell? ⟨w.heap.size, 76, none⟩ = some (.int .u64 p) := fun r => ky_cell76 HO.out (Blk.below KA.out r.below hga)
  refine wp_region_mixOB g [([0, 1, 2, 3, 4, 5], 6), ([7], 8)] (by kernel_rfl) (by kernel_rfl) (by kernel_rfl) (by kernel_rfl) (by kernel_rfl) ?_
  try (rw [put_none])
  simp only [pickL, List.map_cons, List.map_nil, List.filterMap_cons, List.filterMap_nil, List.getElem?_cons_succ, List.getElem?_cons_zero]
  refine mixO_cons ?_
  show wpQuiet _ _ _ _ (_ :: _) _
  go_big_quiet_step (fail)
  show wpQuiet _ _ _ _ (_ :: _) _
  refine wpQuiet_loadV (o := ⟨some 9, _, _, _, _, _⟩) rfl _ rfl rfl (fun w' hw' => by obtain ⟨r, rfl⟩ := hw'; exact ky_load3 HO.out (Blk.below KA.out r.below hga)) ?_
  simp only [Act.put, List.setIfInBounds_toArray, List.set_cons_zero, List.set_cons_succ]
  repeat (show wpQuiet _ _ _ _ (_ :: _) _; go_big_quiet_step (fail))
  obtain ⟨w6, hs6, hk6, hg6⟩ := ky_storeH (w := w5.drew) HF.out HO.out.h K5.out
  have S6 := Lib.hid hs6
  have K6 := Lib.hid hk6
  have B6 := Lib.hid (below_of_only (B := g) hg6 (Nat.le_refl _) (Nat.le_of_lt hgl))
  have hgl6 : g < w6.heap.size := Blk.lt hk6
  clear hs6 hk6 hg6
  refine wpQuiet_nil ?_
  show wpList _ _ _ [_] _ _
  go_wp2_with ((with_reducible (show wpList _ _ _ (⟨none, .store 23 _ _, _, _, _, _⟩ :: _) _ _)); refine wpList_storeV (o := ⟨none, .store 23 _ _, _, _, _, _⟩) rfl _ _ rfl rfl rfl (S6.out) ?_)
  refine MixO.narrow (S' := fun w' => ∃ r : BW g w6, w' = r.world) (fun v hv => by obtain ⟨r, e⟩ := hv; exact ⟨BW.mk' ((Below.drew (Below.refl _ _)).trans (B6.out.trans r.below)), e⟩) ⟨BW.mk' (Below.refl _ _), rfl⟩ ?_
  refine mixO_cons ?_
  show wpQuiet _ _ _ _ (_ :: _) _
  go_big_quiet_step (fail)
  refine wpQuiet_nil ?_
  show wpList _ _ _ [_] _ _
  have c6 := ky_cell76 HN.out K6.out
  have f6 := ky_frozen K6.out 76
  go_wp2_with fail
  refine MixO.last ?_
  refine mixO_nil ?_
  refine wpQuiet_nil ?_
  refine NoPanic.normal ?_
  have K7 := Lib.hid (ky_setp HN.out K6.out (IntKind.u64.wrap (p + 1)))
  have B7 : Hid (Below g w4 (w6.setCell ⟨g, 76, none⟩ (.int .u64 (IntKind.u64.wrap (p + 1))))) := Lib.hid (((B5.out.trans (Below.drew (Below.refl _ _))).trans B6.out).setCell (Nat.le_refl _) _)
  clear c6 f6 HC
  generalize w6.setCell ⟨g, 76, none⟩ (.int .u64 (IntKind.u64.wrap (p + 1))) = w7 at *
  have HW : Hid (IntKind.u64.wrap (p + 1) = (p + 1) % 18446744073709551616) := Lib.hid (by simp [IntKind.wrap, IntKind.bits, IntKind.signed])
  rw [HW.out] at K7
  have Z7 := Lib.hid (Blk.below Z4.out B7.out hgz)
  have hl7 := ky_load HN.out K7.out
  rw [← HVV.out] at hl7
  have L7 := Lib.hid hl7
  obtain ⟨w8, hs8, hk8, hg8⟩ := ky_store (p := (p + 1) % 18446744073709551616) HN.out Z7.out HZ.out
  rw [← HVV.out] at hs8
  have S8 := Lib.hid hs8
  have K8 := Lib.hid hk8
  have B8 : Hid (Below w.heap.size w7 w8) := Lib.hid (below_of_only hg8 (by omega) (by have := Blk.lt Z7.out; omega))
  clear hl7 hs8 hk8 hg8
  go_wp2_with (first
    | ((with_reducible (show wpList _ _ _ (⟨some 15, .load _ _, _, _, _, _⟩ :: _) _ _)); refine wpList_loadV (o := ⟨some 15, .load _ _, _, _, _, _⟩) rfl _ rfl rfl (L7.out) ?_)
    | ((with_reducible (show wpList _ _ _ (⟨none, .store 27 _ _, _, _, _, _⟩ :: _) _ _)); refine wpList_storeV (o := ⟨none, .store 27 _ _, _, _, _, _⟩) rfl _ _ rfl rfl rfl (S8.out) ?_))
  refine ret_row rfl rfl K8.out keys_fine rfl (by rw [List.size_toArray, kyL_len HN.out]; exact sizeKeys) rfl ⟨by rw [HVV.out]; rfl, ?_⟩
  exact (((B3.out.trans (B4.out.mono B3.out.size)).trans (B7.out.mono (by have := B3.out.size; omega)))).trans B8.out
end Go.Proofs.Ythpacdondnenmaa
namespace Go.Proofs.Ythpacdondnenmaa
open Go.RowKit
def saltL : List Int := [56, 118, 44, 247, 245, 89, 52, 179, 77, 23, 154, 230, 164, 200, 12, 173, 204, 187, 127, 10]
theorem saltL_byt : Byt saltL := by intro x hx; simp [saltL] at hx; omega
def sCl : ByteArray := ⟨#[99, 108, 105, 101, 110, 116, 32, 105, 110]⟩
def sSe : ByteArray := ⟨#[115, 101, 114, 118, 101, 114, 32, 105, 110]⟩
theorem salt_any (w : World) : Calls Try.prog 46 #[] w (RetOwn 5 .u8 saltL w) := by
  go_enter Try.func46, Try.ntmps46
  go_wp2_with fail
  go_ret
  exact ⟨_, _, _, rfl, Own.litAt rfl rfl rfl (Nat.le_refl _) (by decide), (Below.refl _ _).alloc (Nat.le_refl _) _⟩
theorem results_row2 {fn : Func} {p q : Tmp} {ty tz : TypeId} {g g' : Nat} {a b : Value} (h : fn.results = #[.cell p ty, .cell q tz]) (tmps : Array Value) (w : World) (hp : tmps.getD p undef = .pointer (some ⟨g, 0, none⟩)) (hq : tmps.getD q undef = .pointer (some ⟨g', 0, none⟩))
    (h1 : (Instr.loadAt ty (.pointer (some ⟨g, 0, none⟩))).run Try.prog w = .ok a w) (h2 : (Instr.loadAt tz (.pointer (some ⟨g', 0, none⟩))).run Try.prog w = .ok b w) : (results fn tmps).run Try.prog w = .ok (.tuple #[a, b]) w := by
  have hp' : tmps[p]?.getD undef = .pointer (some ⟨g, 0, none⟩) := by simpa using hp
  have hq' : tmps[q]?.getD undef = .pointer (some ⟨g', 0, none⟩) := by simpa using hq
  simp only [Instr.loadAt, Instr.sureAddr, Sem.run_bind, Sem.run_pure, Result.andThen_ok] at h1 h2
  simp [results, h, hp', hq', asAddr, h1, h2]
theorem ret_row2 {fn : Func} {R : Ending → World → Prop} {c : Act} {w : World} {p q : Tmp} {ty tz : TypeId} {g g' : Nat} {a b : Value} (hf : fn.results = #[.cell p ty, .cell q tz]) (hp : c.tmps.getD p undef = .pointer (some ⟨g, 0, none⟩)) (hq : c.tmps.getD q undef = .pointer (some ⟨g', 0, none⟩))
    (h1 : (Instr.loadAt ty (.pointer (some ⟨g, 0, none⟩))).run Try.prog w = .ok a w) (h2 : (Instr.loadAt tz (.pointer (some ⟨g', 0, none⟩))).run Try.prog w = .ok b w) (hd : c.defers = []) (hR : R (.returned (.tuple #[a, b])) w) : bodyPost Try.prog fn R .ret c w :=
  bodyPost_ret (results_row2 hf c.tmps w hp hq h1 h2) hd hR
def iniV (C : List Int) (s : ByteArray) : Value := ofV (kSec (macL saltL C) s)
theorem secret_cl (S : List Int) (w : World) (hS : S.length = 32) (hSb : Byt S) : Calls Try.prog 40 #[.agg (cellsL .u8 S), .string ⟨#[99, 108, 105, 101, 110, 116, 32, 105, 110]⟩] w (RetV (.agg (cellsL .u8 (kSec S sCl))) w) := secret_any S sCl w hS hSb (by decide)
theorem secret_se (S : List Int) (w : World) (hS : S.length = 32) (hSb : Byt S) : Calls Try.prog 40 #[.agg (cellsL .u8 S), .string ⟨#[115, 101, 114, 118, 101, 114, 32, 105, 110]⟩] w (RetV (.agg (cellsL .u8 (kSec S sSe))) w) := secret_any S sSe w hS hSb (by decide)
set_option maxRecDepth 100000 in
set_option maxHeartbeats 8000000 in
theorem initial_any {m : Nat} (A : Option Addr) (c : Nat) (C : List Int) (w : World) (hm : C.length = m) (hr : Rd w.heap.size .u8 w A C) (hb : Byt C) (hcap : C.length ≤ c) (hl : C.length ≤ 1000000000) :
    Calls Try.prog 18 #[.slice A m c] w (RetV (.tuple #[iniV C sCl, iniV C sSe]) w) := by
  have HR := Lib.hid hr
  have HBY := Lib.hid hb
  have HM := Lib.hid hm
  have HZ := Lib.hid zeroKeys
  clear hr hb hm
  go_enter Try.func18, Try.ntmps18
  go_wp2_with fail
  refine Calls.mono (salt_any _) ?_
  rintro e w3 ⟨A3, n3, c3, rfl, ho3, hb3⟩
  have B3 : Hid (Below w.heap.size w w3) := Lib.hid ((((Below.refl _ _).alloc (Nat.le_refl _) _).alloc (by simp) _).trans (hb3.mono (by simp <;> omega)))
  have Z3 : Hid (Blk w3 (w.heap.size + 1) 27 Try.zeroCells27) := Lib.hid (blk_below_new hb3 (by simp) (by simp))
  have Y3 : Hid (Blk w3 w.heap.size 27 Try.zeroCells27) := Lib.hid (((Blk.new _ _ _).alloc _).below hb3 (by simp <;> omega))
  have O3 := Lib.hid ho3.rd
  have N3 := Lib.hid ho3.len
  have hc3 := ho3.cap
  have R3 := Lib.hid ((HR.out.below B3.out (Nat.le_refl _)).mono B3.out.size)
  clear ho3 hb3
  go_wp2_with fail
  refine Calls.mono (extract_at A3 c3 saltL A c C _ N3.out.symm HM.out O3.out saltL_byt (by rw [← N3.out]; exact hc3.1) (by decide) R3.out HBY.out hcap hl) ?_
  rintro e w4 ⟨rfl, hb4⟩
  have B4 := Lib.hid hb4
  have Z4 := Lib.hid (Blk.below Z3.out hb4 (Blk.lt Z3.out))
  have Y4 := Lib.hid (Blk.below Y3.out hb4 (Blk.lt Y3.out))
  have HX := Lib.hid (macL_len saltL C)
  have HXB := Lib.hid (macL_byt saltL C)
  have HV1 : Hid (iniV C sCl = ofV (kSec (macL saltL C) sCl)) := Lib.hid rfl
  have HV2 : Hid (iniV C sSe = ofV (kSec (macL saltL C) sSe)) := Lib.hid rfl
  clear hb4
  generalize macL saltL C = X at *
  generalize iniV C sCl = V1 at *
  generalize iniV C sSe = V2 at *
  go_wp2_with ((with_reducible (show wpList _ _ _ (⟨none, .store 22 _ _, _, _, _, _⟩ :: _) _ _)); refine wpList_storeArr (o := ⟨none, .store 22 _ _, _, _, _, _⟩) (g := w4.heap.size) (t := 22) (k := .u8) (xs := X) (n := 32) rfl _ _ rfl rfl rfl (Blk.new _ _ _) size32 (HX.out.symm) rfl ?_; intro w5 ha5 hg5; have HA5 := Lib.hid ha5; have HG5 := Lib.hid hg5; clear ha5 hg5)
  have B5 : Hid (Below w4.heap.size w4 w5) := Lib.hid (((Below.refl _ _).alloc (Nat.le_refl _) _).trans (below_of_only HG5.out (Nat.le_refl _) (by simp)))
  have Z5 := Lib.hid (Blk.below Z4.out B5.out (Blk.lt Z4.out))
  have Y5 := Lib.hid (Blk.below Y4.out B5.out (Blk.lt Y4.out))
  have hgz : w.heap.size + 1 < w4.heap.size := Blk.lt Z4.out
  have B05 := Lib.hid ((B3.out.trans (B4.out.mono B3.out.size)).trans (B5.out.mono (Nat.le_of_lt (Nat.lt_of_succ_lt hgz))))
  have hg5 : w4.heap.size < w5.heap.size := HA5.out.lt
  clear HG5 B5 Z4 Y4 B4 B3 Z3 Y3 O3 N3 hc3 R3
  generalize w4.heap.size = g at *
  refine wp_region_mixO (fun w' => Arr w' g 22 .u8 X) [([0, 3], 1), ([], 2), ([], 4), ([], 5), ([], 6), ([], 7)] (by kernel_rfl) (by kernel_rfl) (by kernel_rfl) (by kernel_rfl) (by kernel_rfl) HA5.out ?_
  try (rw [put_none])
  simp only [pickL, List.map_cons, List.map_nil, List.filterMap_cons, List.filterMap_nil, List.getElem?_cons_succ, List.getElem?_cons_zero]
  refine mixO_cons ?_
  show wpQuiet _ _ _ _ (_ :: _) _
  refine wpQuiet_loadV (o := ⟨some 8, _, _, _, _, _⟩) rfl _ rfl rfl (fun w' hw' => arr_load hw' Try.underlying22 size32 HX.out.symm) ?_
  simp only [Act.put, List.setIfInBounds_toArray, List.set_cons_zero, List.set_cons_succ]
  show wpQuiet _ _ _ _ (_ :: _) _
  refine wpQuiet_loadV (o := ⟨some 11, _, _, _, _, _⟩) rfl _ rfl rfl (fun w' hw' => arr_load hw' Try.underlying22 size32 HX.out.symm) ?_
  simp only [Act.put, List.setIfInBounds_toArray, List.set_cons_zero, List.set_cons_succ]
  refine wpQuiet_nil ?_
  show wpList _ _ _ [_] _ _
  go_wp2_with fail
  refine Calls.mono (secret_cl X _ HX.out HXB.out) ?_
  rintro e w6 ⟨rfl, hb6⟩
  have B6 := Lib.hid (((Below.refl w5.heap.size w5).drew).trans hb6)
  have A6 := Lib.hid (Arr.belowAll HA5.out B6.out)
  clear hb6
  go_wp2_with fail
  refine MixO.narrow (fun _ h => h) (A6.out) ?_
  refine mixO_cons ?_
  refine wpQuiet_nil ?_
  show wpList _ _ _ [_] _ _
  go_wp2_with fail
  refine Calls.mono (of_any (kSec X sCl) _ (kSec_len X (by decide)) (kSec_byt _ _)) ?_
  rintro e w7 ⟨rfl, hb7⟩
  have B7 := Lib.hid (B6.out.trans (hb7.mono B6.out.size))
  have A7 := Lib.hid (Arr.belowAll A6.out hb7)
  clear hb7
  go_wp2_with fail
  refine MixO.narrow (fun _ h => h) (A7.out) ?_
  refine mixO_cons ?_
  refine wpQuiet_nil ?_
  show wpList _ _ _ [_] _ _
  go_wp2_with fail
  refine Calls.mono (secret_se X _ HX.out HXB.out) ?_
  rintro e w8 ⟨rfl, hb8⟩
  have B8 := Lib.hid (B7.out.trans (hb8.mono B7.out.size))
  have A8 := Lib.hid (Arr.belowAll A7.out hb8)
  clear hb8
  go_wp2_with fail
  refine MixO.narrow (fun _ h => h) (A8.out) ?_
  refine mixO_cons ?_
  refine wpQuiet_nil ?_
  show wpList _ _ _ [_] _ _
  go_wp2_with fail
  refine Calls.mono (of_any (kSec X sSe) _ (kSec_len X (by decide)) (kSec_byt _ _)) ?_
  rintro e w9 ⟨rfl, hb9⟩
  have B9 := Lib.hid (B8.out.trans (hb9.mono B8.out.size))
  have A9 := Lib.hid (Arr.belowAll A8.out hb9)
  clear hb9
  rw [← HV1.out, ← HV2.out]
  have Z9 := Lib.hid (Blk.below Z5.out B9.out (Blk.lt Z5.out))
  have Y9 := Lib.hid (Blk.below Y5.out B9.out (Blk.lt Y5.out))
  have K1 := Lib.hid (ofOk (kSec_len X (s := sCl) (by decide)) (kSec_byt X sCl))
  have K2 := Lib.hid (ofOk (kSec_len X (s := sSe) (by decide)) (kSec_byt X sSe))
  obtain ⟨w10, hs10, hk10, hg10⟩ := ky_store (p := 0) K1.out Y9.out HZ.out
  have S10 : Hid ((Instr.storeAt 27 (.pointer (some ⟨w.heap.size, 0, none⟩)) V1).run Try.prog w9 = .ok () w10) := Lib.hid (by rw [HV1.out]; exact hs10)
  have A10 := Lib.hid (A9.out.grown hg10 (by simp; omega))
  have Z10 := Lib.hid (Blk.grown Z9.out hg10 (by simp))
  have B10 : Hid (Below w.heap.size w w10) := Lib.hid ((B05.out.trans (B9.out.mono B05.out.size)).trans (below_of_only hg10 (Nat.le_refl _) (Nat.le_of_lt (Blk.lt Y9.out))))
  obtain ⟨w11, hs11, hk11, hg11⟩ := ky_store (p := 0) K2.out Z10.out HZ.out
  have S11 : Hid ((Instr.storeAt 27 (.pointer (some ⟨w.heap.size + 1, 0, none⟩)) V2).run Try.prog w10 = .ok () w11) := Lib.hid (by rw [HV2.out]; exact hs11)
  have hl1 := ky_load K1.out (Blk.grown hk10 hg11 (by simp))
  have hl2 := ky_load K2.out hk11
  have L1 : Hid ((Instr.loadAt 27 (.pointer (some ⟨w.heap.size, 0, none⟩))).run Try.prog w11 = .ok V1 w11) := Lib.hid (by rw [HV1.out]; exact hl1)
  have L2 : Hid ((Instr.loadAt 27 (.pointer (some ⟨w.heap.size + 1, 0, none⟩))).run Try.prog w11 = .ok V2 w11) := Lib.hid (by rw [HV2.out]; exact hl2)
  have B11 := Lib.hid (B10.out.trans (below_of_only hg11 (Nat.le_succ _) B10.out.size))
  clear hs10 hk10 hg10 hs11 hk11 hg11 hl1 hl2
  go_wp2_with fail
  refine MixO.narrow (fun _ h => h) (A9.out) ?_
  refine mixO_cons ?_
  refine wpQuiet_nil ?_
  show wpList _ _ _ [_] _ _
  go_wp2_with ((with_reducible (show wpList _ _ _ (⟨none, .store 27 _ _, _, _, _, _⟩ :: _) _ _)); refine wpList_storeV (o := ⟨none, .store 27 _ _, _, _, _, _⟩) rfl _ _ rfl rfl rfl (S10.out) ?_)
  refine MixO.narrow (fun _ h => h) (A10.out) ?_
  refine mixO_cons ?_
  refine wpQuiet_nil ?_
  show wpList _ _ _ [_] _ _
  go_wp2_with ((with_reducible (show wpList _ _ _ (⟨none, .store 27 _ _, _, _, _, _⟩ :: _) _ _)); refine wpList_storeV (o := ⟨none, .store 27 _ _, _, _, _, _⟩) rfl _ _ rfl rfl rfl (S11.out) ?_)
  refine MixO.last ?_
  refine mixO_nil ?_
  refine wpQuiet_nil ?_
  refine NoPanic.normal ?_
  go_wp2_with fail
  exact ret_row2 rfl rfl rfl L1.out L2.out rfl ⟨rfl, B11.out⟩
end Go.Proofs.Ythpacdondnenmaa
namespace Go.Proofs.Ythpacdondnenmaa
open Go.RowKit

set_option maxRecDepth 100000 in
set_option maxHeartbeats 4000000 in
theorem kfirst_any (A : Option Addr) (c : Nat) (L : List Int) (w : World) (hL : L.length = 16) (hr : Rd w.heap.size .u8 w A L) :
    Calls Try.prog 47 #[.slice A 16 c, .int .i64 16] w (RetV (.agg (cellsL .u8 L)) w) := by
  have HL := Lib.hid hL
  have HR := Lib.hid hr
  clear hL hr
  obtain ⟨ad, rfl, hadb⟩ := HR.out.isSome (by rw [HL.out]; decide)
  go_enter Try.func47, Try.ntmps47
  go_wp2_with fail
  go_loopw [6] (fun i wr => ∃ k : Nat, k ≤ 16 ∧ i = .int .i64 k ∧ Hid (Arr wr (w.heap.size + 1) 23 .u8 (fil L k)) ∧ Hid (Blk wr w.heap.size 23 (cellsL .u8 (zer 16))) ∧ Hid (Below w.heap.size w wr)) (fun i _ => 16 - (intOf i).toNat)
  case atStart => exact ⟨0, by omega, rfl, Lib.hid (Arr.cast (Arr.newAt (xs := zer 16) (by simp) rfl) (by rw [fil_zero, HL.out]; rfl)), Lib.hid ((Blk.new _ _ _).alloc _), Lib.hid (((Below.refl _ _).alloc (Nat.le_refl _) _).alloc (by simp) _)⟩
  case round =>
    obtain ⟨k, hk, rfl, HA, HZ, HB⟩ := hrel
    have hfl : Hid ((fil L k).length = 16) := Lib.hid (by rw [fil_len, HL.out])
    by_cases hlt : k < 16
    · have c1 := (HR.out.below HB.out (Nat.le_refl _)).at_ (i := k) (by rw [HL.out]; exact hlt)
      have c0 := HA.out.cell (i := k) (by rw [hfl.out]; exact hlt)
      have c0' := HA.out.cellAdd (i := k) (by rw [hfl.out]; exact hlt)
      have f0 := HA.out.frozen k
      have f0' := HA.out.frozenAdd k
      have HMS := Lib.hid (fil_set (xs := L) (k := k) (by rw [HL.out]; exact hlt))
      generalize L.getD k 0 = x at *
      generalize (fil L k).getD k 0 = old at *
      go_wp2_with fail
      go_roundw
      case rel => exact ⟨k + 1, by omega, by go_num, Lib.hid (Arr.cast (HA.out.set k x) HMS.out), Lib.hid (Blk.far HZ.out (by simp) _), Lib.hid (HB.out.setCell (by simp) _)⟩
      case measure => simp [intOf]; omega
    · have hkn : k = 16 := by omega
      have HA2 : Hid (Arr wr (w.heap.size + 1) 23 .u8 L) := Lib.hid (Arr.cast HA.out (by rw [hkn]; have := fil_full L; rw [HL.out] at this; exact this))
      clear HA hkn hfl
      have L1 := Lib.hid (arr_load HA2.out Try.underlying23 size16 HL.out.symm)
      obtain ⟨w6, hs6, hz6, hg6⟩ := blk_storeAll (P := Try.prog) (ty := 23) (vs := iv .u8 L) HZ.out (by rw [iv_len, HL.out, cellsL_size, zer_len]) (iv_one _ _) (by rw [iv_len, HL.out]; exact size16)
      have S6 := Lib.hid hs6
      have Z6 := Lib.hid hz6
      have G6 := Lib.hid hg6
      clear hs6 hz6 hg6
      go_wp2_with (first
        | ((with_reducible (show wpList _ _ _ (⟨some 24, .load _ _, _, _, _, _⟩ :: _) _ _)); refine wpList_loadV (o := ⟨some 24, .load _ _, _, _, _, _⟩) rfl _ rfl rfl (L1.out) ?_)
        | ((with_reducible (show wpList _ _ _ (⟨none, .store 23 _ _, _, _, _, _⟩ :: _) _ _)); refine wpList_storeV (o := ⟨none, .store 23 _ _, _, _, _, _⟩) rfl _ _ rfl rfl rfl (S6.out) ?_))
      refine ret_row rfl rfl Z6.out Try.underlying23 rfl (by rw [List.size_toArray, iv_len, HL.out]; exact size16) rfl ⟨rfl, ?_⟩
      exact HB.out.trans (below_of_only G6.out (Nat.le_refl _) HB.out.size)

set_option maxRecDepth 100000 in
set_option maxHeartbeats 4000000 in
theorem kall_any (A : Option Addr) (c : Nat) (L : List Int) (w : World) (hL : L.length = 32) (hr : Rd w.heap.size .u8 w A L) :
    Calls Try.prog 49 #[.slice A 32 c] w (RetV (.agg (cellsL .u8 L)) w) := by
  have HL := Lib.hid hL
  have HR := Lib.hid hr
  clear hL hr
  obtain ⟨ad, rfl, hadb⟩ := HR.out.isSome (by rw [HL.out]; decide)
  go_enter Try.func49, Try.ntmps49
  go_wp2_with fail
  go_loopw [4] (fun i wr => ∃ k : Nat, k ≤ 32 ∧ i = .int .i64 k ∧ Hid (Arr wr (w.heap.size + 1) 22 .u8 (fil L k)) ∧ Hid (Blk wr w.heap.size 22 (cellsL .u8 (zer 32))) ∧ Hid (Below w.heap.size w wr)) (fun i _ => 32 - (intOf i).toNat)
  case atStart => exact ⟨0, by omega, rfl, Lib.hid (Arr.cast (Arr.newAt (xs := zer 32) (by simp) rfl) (by rw [fil_zero, HL.out]; rfl)), Lib.hid ((Blk.new _ _ _).alloc _), Lib.hid (((Below.refl _ _).alloc (Nat.le_refl _) _).alloc (by simp) _)⟩
  case round =>
    obtain ⟨k, hk, rfl, HA, HZ, HB⟩ := hrel
    have hfl : Hid ((fil L k).length = 32) := Lib.hid (by rw [fil_len, HL.out])
    by_cases hlt : k < 32
    · have c1 := (HR.out.below HB.out (Nat.le_refl _)).at_ (i := k) (by rw [HL.out]; exact hlt)
      have c0 := HA.out.cell (i := k) (by rw [hfl.out]; exact hlt)
      have c0' := HA.out.cellAdd (i := k) (by rw [hfl.out]; exact hlt)
      have f0 := HA.out.frozen k
      have f0' := HA.out.frozenAdd k
      have HMS := Lib.hid (fil_set (xs := L) (k := k) (by rw [HL.out]; exact hlt))
      generalize L.getD k 0 = x at *
      generalize (fil L k).getD k 0 = old at *
      go_wp2_with fail
      go_roundw
      case rel => exact ⟨k + 1, by omega, by go_num, Lib.hid (Arr.cast (HA.out.set k x) HMS.out), Lib.hid (Blk.far HZ.out (by simp) _), Lib.hid (HB.out.setCell (by simp) _)⟩
      case measure => simp [intOf]; omega
    · have hkn : k = 32 := by omega
      have HA2 : Hid (Arr wr (w.heap.size + 1) 22 .u8 L) := Lib.hid (Arr.cast HA.out (by rw [hkn]; have := fil_full L; rw [HL.out] at this; exact this))
      clear HA hkn hfl
      have L1 := Lib.hid (arr_load HA2.out Try.underlying22 size32 HL.out.symm)
      obtain ⟨w6, hs6, hz6, hg6⟩ := blk_storeAll (P := Try.prog) (ty := 22) (vs := iv .u8 L) HZ.out (by rw [iv_len, HL.out, cellsL_size, zer_len]) (iv_one _ _) (by rw [iv_len, HL.out]; exact size32)
      have S6 := Lib.hid hs6
      have Z6 := Lib.hid hz6
      have G6 := Lib.hid hg6
      clear hs6 hz6 hg6
      go_wp2_with (first
        | ((with_reducible (show wpList _ _ _ (⟨some 21, .load _ _, _, _, _, _⟩ :: _) _ _)); refine wpList_loadV (o := ⟨some 21, .load _ _, _, _, _, _⟩) rfl _ rfl rfl (L1.out) ?_)
        | ((with_reducible (show wpList _ _ _ (⟨none, .store 22 _ _, _, _, _, _⟩ :: _) _ _)); refine wpList_storeV (o := ⟨none, .store 22 _ _, _, _, _, _⟩) rfl _ _ rfl rfl rfl (S6.out) ?_))
      refine ret_row rfl rfl Z6.out Try.underlying22 rfl (by rw [List.size_toArray, iv_len, HL.out]; exact size32) rfl ⟨rfl, ?_⟩
      exact HB.out.trans (below_of_only G6.out (Nat.le_refl _) HB.out.size)

theorem blk_new_at {w : World} {cs : Array Value} {t : TypeId} {g : Nat} (hg : w.heap.size = g) : Blk (w.alloc (.cells cs t)) g t cs := by subst hg; exact Blk.new _ _ _
def tkkL (S C : List Int) : List Int := (macL S C).take 16
theorem tkkL_eq (S C : List Int) : tkkL S C = (macL S C).take 16 := rfl
theorem tkkL_len (S C : List Int) : (tkkL S C).length = 16 := by unfold tkkL; rw [List.length_take, macL_len]; rfl
theorem tkkL_byt (S C : List Int) : Byt (tkkL S C) := (macL_byt S C).take 16
attribute [irreducible] tkkL
theorem arrTok (A : Option Addr) (c : Nat) (w : World) : (Instr.arrayAt 55 (.slice A 16 c)).run Try.prog w = .ok (.pointer A) w := arrayAt_run Try.underlying55 A c (Nat.le_refl _) w
attribute [local go_sem] arrTok
theorem tok_load {w : World} {B g : Nat} {X T : List Int} (hX : X.length = 32) (hT : T = X.take 16) (h : Rd B .u8 w (some ⟨g, 0, none⟩) X) : Hid ((Instr.loadAt 55 (.pointer (some ⟨g, 0, none⟩))).run Try.prog w = .ok (.agg (cellsL .u8 T)) w) := Lib.hid (by
  have := rd_loadArr h Try.underlying55 sizeTok (by rw [hX]; decide) (by decide)
  rwa [← hT] at this)
theorem tok_store {w : World} {g : Nat} {T : List Int} (hT : T.length = 16) (h : Blk w g 55 (cellsL .u8 (zer 16))) : ∃ w', Hid ((Instr.storeAt 55 (.pointer (some ⟨g, 0, none⟩)) (.agg (cellsL .u8 T))).run Try.prog w = .ok () w') ∧ Hid (Blk w' g 55 (cellsL .u8 T)) ∧ Hid (w.grownBy w' (some g)) := by
  obtain ⟨w6, h1, h2, h3⟩ := blk_storeAll (P := Try.prog) (ty := 55) (vs := iv .u8 T) h (by rw [iv_len, hT, cellsL_size, zer_len]) (iv_one _ _) (by rw [iv_len, hT]; exact sizeTok)
  exact ⟨w6, Lib.hid h1, Lib.hid h2, Lib.hid h3⟩
set_option maxRecDepth 100000 in
set_option maxHeartbeats 8000000 in
theorem token_any (S : List Int) (A : Option Addr) (c : Nat) (C : List Int) (w : World) (hS : S.length = 32) (hSb : Byt S) (hr : Rd w.heap.size .u8 w A C) (hb : Byt C) (hcap : C.length ≤ c) (hl : C.length ≤ 1000000000) :
    Calls Try.prog 22 #[.agg (cellsL .u8 S), .slice A C.length c] w (RetV (.agg (cellsL .u8 (tkkL S C))) w) := by
  have HR := Lib.hid hr
  have HBY := Lib.hid hb
  have HS := Lib.hid hS
  have HSB := Lib.hid hSb
  clear hr hb hS hSb
  go_enter Try.func22, Try.ntmps22
  go_wp2_with fail
  refine Calls.mono (mac_at (some ⟨w.heap.size, 0, none⟩) 32 S _ _ [⟨A, c, C⟩] _ HS.out rfl ?_ HSB.out (by rw [HS.out]; exact Nat.le_refl _) (by rw [HS.out]; decide) ?_ ?_ ?_ (by simp)) ?_
  · exact ((((Arr.newAt (t := 22) rfl rfl).alloc _).alloc _).rd).mono (by simp <;> omega)
  · refine Txs.newAt (by simp) rfl ?_
    intro t ht
    rw [List.mem_singleton] at ht
    subst ht
    refine ⟨Rd.mono (B := w.heap.size) ?_ (by omega), hcap⟩
    exact (HR.out.alloc (Nat.le_refl _) _).alloc (by simp) _
  · intro t ht
    rw [List.mem_singleton] at ht
    subst ht
    exact HBY.out
  · rw [join_one]; exact hl
  rintro e w3 ⟨rfl, hb3⟩
  rw [join_one]
  have B3 : Hid (Below w.heap.size w w3) := Lib.hid (((((Below.refl _ _).alloc (Nat.le_refl _) _).alloc (by simp) _).alloc (by simp <;> omega) _).trans (hb3.mono (by simp <;> omega)))
  have Z3 : Hid (Blk w3 (w.heap.size + 1) 55 (cellsL .u8 (zer 16))) := Lib.hid (((blk_new_at (w := w.alloc (.cells (cellsL .u8 S) 22)) (by simp)).alloc _).below hb3 (by simp))
  have HX := Lib.hid (macL_len S C)
  have HT := Lib.hid (tkkL_eq S C)
  have HTL := Lib.hid (tkkL_len S C)
  clear hb3
  generalize macL S C = X at *
  generalize tkkL S C = T at *
  go_wp2_with (first
    | (((with_reducible (show wpList _ _ _ (⟨none, .store 22 _ _, _, _, _, _⟩ :: _) _ _)); refine wpList_storeArr (o := ⟨none, .store 22 _ _, _, _, _, _⟩) (g := w3.heap.size) (t := 22) (k := .u8) (xs := X) (n := 32) rfl _ _ rfl rfl rfl (Blk.new _ _ _) size32 (HX.out.symm) rfl ?_; intro w5 ha5 hg5; have HA5 := Lib.hid ha5; have HG5 := Lib.hid hg5; clear ha5 hg5); have Z5 : Hid (Blk w5 (w.heap.size + 1) 55 (cellsL .u8 (zer 16))) := Lib.hid ((Z3.out.alloc _).grown HG5.out (by have := Z3.out.lt; simp; omega)); have R5 := Lib.hid HA5.out.rd; have B5 := Lib.hid (((Below.refl w3.heap.size w3).alloc (Nat.le_refl _) _).trans (below_of_only HG5.out (Nat.le_refl _) (by simp))); have L12 := tok_load HX.out HT.out R5.out; obtain ⟨w6, hs6, hz6, hg6⟩ := tok_store HTL.out Z5.out; have B6 := Lib.hid (below_of_only hg6.out (B := w.heap.size) (by omega) (Nat.le_of_lt (Nat.lt_of_succ_lt (Blk.lt Z5.out)))))
    | ((with_reducible (show wpList _ _ _ (⟨some 12, .load _ _, _, _, _, _⟩ :: _) _ _)); refine wpList_loadV (o := ⟨some 12, .load _ _, _, _, _, _⟩) rfl _ rfl rfl (L12.out) ?_)
    | ((with_reducible (show wpList _ _ _ (⟨none, .store 55 _ _, _, _, _, _⟩ :: _) _ _)); refine wpList_storeV (o := ⟨none, .store 55 _ _, _, _, _, _⟩) rfl _ _ rfl rfl rfl (hs6.out) ?_))
  refine ret_row rfl rfl hz6.out Try.underlying55 rfl (by rw [cellsL_size, HTL.out]; exact sizeTok) rfl ⟨rfl, ?_⟩
  exact (B3.out.trans (B5.out.mono B3.out.size)).trans B6.out
set_option maxRecDepth 100000 in
set_option maxHeartbeats 8000000 in
theorem rtoken_any {m : Nat} (S : List Int) (A : Option Addr) (c : Nat) (C : List Int) (w : World) (hm : C.length = m) (hS : S.length = 32) (hSb : Byt S) (hr : Rd w.heap.size .u8 w A C) (hb : Byt C) (hl : C.length ≤ 1000000000) :
    Calls Try.prog 23 #[.agg (cellsL .u8 S), .slice A m c] w (RetV (.agg (cellsL .u8 (tkkL S C))) w) := by
  have HR := Lib.hid hr
  have HBY := Lib.hid hb
  have HS := Lib.hid hS
  have HSB := Lib.hid hSb
  have HM := Lib.hid hm
  clear hr hb hS hSb hm
  go_enter Try.func23, Try.ntmps23
  go_wp2_with fail
  go_loopw [5, 6] (fun v i wr => ∃ (k : Nat) (A5 : Option Addr) (c5 : Nat), k ≤ 32 ∧ i = .int .i64 k ∧ v = .slice A5 k c5 ∧ Hid (Own (w.heap.size + 2) 5 .u8 wr A5 k c5 (S.take k)) ∧ Hid (Arr wr w.heap.size 22 .u8 S) ∧ Hid (Blk wr (w.heap.size + 1) 55 (cellsL .u8 (zer 16))) ∧ Hid (Below w.heap.size w wr) ∧ w.heap.size + 2 ≤ wr.heap.size) (fun _ i _ => 32 - (intOf i).toNat)
  case atStart => exact ⟨0, none, 0, by omega, rfl, rfl, Lib.hid (by rw [List.take_zero]; exact Own.nil _ _ _ _), Lib.hid ((Arr.newAt rfl rfl).alloc _), Lib.hid (blk_new_at (by simp)), Lib.hid (((Below.refl _ _).alloc (Nat.le_refl _) _).alloc (by simp) _), by simp⟩
  case round =>
    obtain ⟨k, A5, c5, hk, rfl, rfl, HO, HA, HZ, HB, hsz⟩ := hrel
    by_cases hlt : k < 32
    · have c0 := HA.out.cell (i := k) (by rw [HS.out]; omega)
      have c0' := HA.out.cellAdd (i := k) (by rw [HS.out]; omega)
      have HTK := Lib.hid (take_snoc_getD (xs := S) (t := k) (by rw [HS.out]; omega))
      have HTL : Hid ((S.take k).length = k) := Lib.hid (by rw [List.length_take, HS.out]; omega)
      generalize S.getD k 0 = z at *
      go_wp2_with (at_builtin; refine wpList_app (o := ⟨some 19, _, _, _, _, _⟩) elU8 rfl _ _ rfl rfl rfl (HO.out.alloc _) (Rd.newAt (xs := [_]) rfl rfl) rfl ?_ ?_ ?_; (simp only [List.length_take, List.length_cons, List.length_nil]; omega); (simp <;> omega); intro A9 n9 c9 w9 q9; have H9 := Lib.hid q9.1; have B9 := Lib.hid (((Below.refl (w.heap.size + 2) wr).alloc hsz _).trans q9.2.2.1); have hn9 := Own.len_snoc q9.1 HTL.out; subst hn9; clear q9)
      go_roundw
      case rel => exact ⟨k + 1, A9, c9, by omega, by go_num, rfl, Lib.hid (by rw [HTK.out]; exact H9.out), Lib.hid (HA.out.below B9.out (by omega)), Lib.hid (HZ.out.below B9.out (by omega)), Lib.hid (HB.out.trans (B9.out.mono (by omega))), Nat.le_trans hsz B9.out.size⟩
      case measure => simp [intOf]; omega
    · have hk32 : k = 32 := by omega
      subst hk32
      have HO2 : Hid (Own (w.heap.size + 2) 5 .u8 wr A5 32 c5 S) := Lib.hid (by have h := HO.out; rwa [List.take_of_length_le (by rw [HS.out]; omega)] at h)
      have hgw := HB.out.size
      clear HO
      go_wp2_with fail
      refine Calls.mono (rmac_at A5 c5 S A c C _ HS.out HM.out HO2.out.rd HSB.out (by rw [HS.out]; decide) ((HR.out.below HB.out (Nat.le_refl _)).mono hgw) HBY.out hl) ?_
      rintro e w3 ⟨rfl, hb3⟩
      have Z3 := Lib.hid (HZ.out.below hb3 HZ.out.lt)
      have B3 := Lib.hid (HB.out.trans (hb3.mono hgw))
      have HX := Lib.hid (macL_len S C)
      have HT := Lib.hid (tkkL_eq S C)
      have HTL := Lib.hid (tkkL_len S C)
      clear hb3 HZ HB HO2 HA
      generalize macL S C = X at *
      generalize tkkL S C = T at *
      go_wp2_with ((with_reducible (show wpList _ _ _ (⟨none, .store 22 _ _, _, _, _, _⟩ :: _) _ _)); refine wpList_storeArr (o := ⟨none, .store 22 _ _, _, _, _, _⟩) (g := w3.heap.size) (t := 22) (k := .u8) (xs := X) (n := 32) rfl _ _ rfl rfl rfl (Blk.new _ _ _) size32 (HX.out.symm) rfl ?_; intro w5 ha5 hg5; have HA5 := Lib.hid ha5; have HG5 := Lib.hid hg5; clear ha5 hg5)
      have Z5 : Hid (Blk w5 (w.heap.size + 1) 55 (cellsL .u8 (zer 16))) := Lib.hid ((Z3.out.alloc _).grown HG5.out (by have := Z3.out.lt; simp; omega))
      have B5 := Lib.hid (((Below.refl w3.heap.size w3).alloc (Nat.le_refl _) _).trans (below_of_only HG5.out (Nat.le_refl _) (by simp)))
      have B05 := Lib.hid (B3.out.trans (B5.out.mono B3.out.size))
      have hgl := HA5.out.lt
      have hwl := Blk.lt Z3.out
      clear HG5 B5 B3 Z3
      generalize w3.heap.size = g at *
      obtain ⟨w7, rfl⟩ : ∃ w7, w7 = w5 := ⟨_, rfl⟩
      have hwg : w.heap.size ≤ w7.heap.size := B05.out.size
      have HTX : Hid (∀ k, k < 16 → X.getD k 0 = T.getD k 0) := Lib.hid (fun k hk => by rw [HT.out]; exact (getD_take hk).symm)
      go_loopw [9] (fun i wr => ∃ k : Nat, k ≤ 16 ∧ i = .int .i64 k ∧ Hid (Arr wr w7.heap.size 55 .u8 (fil T k)) ∧ Hid (Below w7.heap.size w7 wr)) (fun i _ => 16 - (intOf i).toNat)
      case atStart => exact ⟨0, by omega, rfl, Lib.hid (Arr.cast (Arr.newAt (xs := zer 16) rfl rfl) (by rw [fil_zero, HTL.out]; rfl)), Lib.hid ((Below.refl _ _).alloc (Nat.le_refl _) _)⟩
      case round =>
        obtain ⟨k, hk, rfl, HA, HB⟩ := hrel
        have hfl : Hid ((fil T k).length = 16) := Lib.hid (by rw [fil_len, HTL.out])
        by_cases hlt2 : k < 16
        · have c1 := (HA5.out.below HB.out hgl).cell (i := k) (by rw [HX.out]; omega)
          have c1' := (HA5.out.below HB.out hgl).cellAdd (i := k) (by rw [HX.out]; omega)
          rw [HTX.out k hlt2] at c1 c1'
          have c0 := HA.out.cell (i := k) (by rw [hfl.out]; exact hlt2)
          have c0' := HA.out.cellAdd (i := k) (by rw [hfl.out]; exact hlt2)
          have f0 := HA.out.frozen k
          have f0' := HA.out.frozenAdd k
          have HMS := Lib.hid (fil_set (xs := T) (k := k) (by rw [HTL.out]; exact hlt2))
          generalize T.getD k 0 = x at *
          generalize (fil T k).getD k 0 = old at *
          go_wp2_with fail
          go_roundw
          case rel => exact ⟨k + 1, by omega, by go_num, Lib.hid (Arr.cast (HA.out.set k x) HMS.out), Lib.hid (HB.out.setCell (by simp) _)⟩
          case measure => simp [intOf]; omega
        · have hkn : k = 16 := by omega
          have HA2 : Hid (Arr wr w7.heap.size 55 .u8 T) := Lib.hid (Arr.cast HA.out (by rw [hkn]; have := fil_full T; rw [HTL.out] at this; exact this))
          clear HA hkn hfl
          have L1 := Lib.hid (arr_load HA2.out Try.underlying55 sizeTok HTL.out.symm)
          obtain ⟨w6, hs6, hz6, hg6⟩ := tok_store HTL.out (Z5.out.below HB.out (Blk.lt Z5.out))
          go_wp2_with (first
            | ((with_reducible (show wpList _ _ _ (⟨some 32, .load _ _, _, _, _, _⟩ :: _) _ _)); refine wpList_loadV (o := ⟨some 32, .load _ _, _, _, _, _⟩) rfl _ rfl rfl (L1.out) ?_)
            | ((with_reducible (show wpList _ _ _ (⟨none, .store 55 _ _, _, _, _, _⟩ :: _) _ _)); refine wpList_storeV (o := ⟨none, .store 55 _ _, _, _, _, _⟩) rfl _ _ rfl rfl rfl (hs6.out) ?_))
          refine ret_row rfl rfl hz6.out Try.underlying55 rfl (by rw [cellsL_size, HTL.out]; exact sizeTok) rfl ⟨rfl, ?_⟩
          exact (B05.out.trans (HB.out.mono hwg)).trans (below_of_only hg6.out (by omega) (Nat.le_trans hwg HB.out.size))

end Go.Proofs.Ythpacdondnenmaa
namespace Go.Proofs.Ythpacdondnenmaa
open Go.RowKit
/-- the frame of the reference's Of: the secret, the result, the keys -/
def RO (w0 : World) (b : Nat) (S K I H : List Int) (w : World) : Prop := Arr w b 22 .u8 S ∧ Blk w (b + 1) 27 Try.zeroCells27 ∧ KyB w (b + 1 + 1) S K I H 0 ∧ Below b w0 w
theorem RO.below {w0 w w' : World} {b : Nat} {S K I H : List Int} (h : RO w0 b S K I H w) (hb : Below w.heap.size w w') : RO w0 b S K I H w' :=
  ⟨h.1.belowAll hb, h.2.1.below hb h.2.1.lt, Blk.below h.2.2.1 hb (Blk.lt h.2.2.1), h.2.2.2.trans (hb.mono (Nat.le_of_lt h.1.lt))⟩
theorem RO.put {w0 w w' : World} {b : Nat} {S K I H K' I' H' : List Int} (h : RO w0 b S K I H w) (hk : KyB w' (b + 1 + 1) S K' I' H' 0) (hg : w.grownBy w' (some (b + 1 + 1))) : RO w0 b S K' I' H' w' :=
  ⟨h.1.grown hg (by simp; omega), h.2.1.grown hg (by simp), hk, h.2.2.2.trans (below_of_only hg (by omega) (Nat.le_of_lt h.1.lt))⟩
theorem ro_okK {S H : List Int} (h : S.length = 32) (hb : Byt S) (hH : H.length = 16) (hHb : Byt H) : KyOk S (kKey S) (zer 12) H := ⟨h, kKey_len S, zer_len _, hH, hb, kKey_byt S, zer_byt _, hHb⟩
/-- the vector, filled up to k -/
theorem fil_byt {xs : List Int} (h : Byt xs) (k : Nat) : Byt (fil xs k) := by
  intro x hx
  obtain ⟨i, hi, rfl⟩ := List.mem_iff_getElem.1 hx
  rw [fil_len] at hi
  have e : (fil xs k)[i] = (fil xs k).getD i 0 := by simp [List.getD_eq_getElem?_getD, fil_len, hi]
  rw [e]
  rcases Nat.lt_or_ge k (xs.length + 1) with hk | hk
  · rcases Nat.lt_or_ge i k with g | g
    · rw [fil_get g (by omega)]; exact h.getD i
    · have : (fil xs k).getD i 0 = 0 := by
        unfold fil
        rw [List.getD_eq_getElem?_getD, List.getElem?_append_right (by simp; omega), List.getElem?_replicate]
        split <;> rfl
      rw [this]; exact ⟨by decide, by decide⟩
  · have : fil xs k = xs := by unfold fil; rw [List.take_of_length_le (by omega), show xs.length - k = 0 by omega]; simp
    rw [this]; exact h.getD i
theorem ky_cellI {S K I H : List Int} {p : Int} {w : World} {g i : Nat} (h : KyOk S K I H) (b : KyB w g S K I H p) (hi : i < 12) : w.cell? ⟨g, 48 + i, none⟩ = some (.int .u8 (I.getD i 0)) := by
  rw [Blk.cell b, kyL_2]
  have hl : (iv .u8 S ++ iv .u8 K).length = 48 := by simp [iv_len, h.s, h.k]
  rw [List.getElem?_toArray, List.getElem?_append_right (by rw [hl]; omega), hl, Nat.add_sub_cancel_left, List.getElem?_append_left (by rw [iv_len, h.i]; exact hi)]
  simp [iv, List.getElem?_map, List.getD_eq_getElem?_getD, List.getElem?_eq_getElem (show i < I.length by rw [h.i]; exact hi)]
theorem ro_okI {S I : List Int} (h : S.length = 32) (hb : Byt S) (hI : I.length = 12) (hIb : Byt I) : KyOk S (kKey S) I (kHp S) := ⟨h, kKey_len S, hI, kHp_len S, hb, kKey_byt S, hIb, kHp_byt S⟩
set_option maxRecDepth 100000 in
set_option maxHeartbeats 8000000 in
theorem rof_any (S : List Int) (w : World) (hS : S.length = 32) (hSb : Byt S) : Calls Try.prog 19 #[.agg (cellsL .u8 S)] w (RetV (ofV S) w) := by
  have HS := Lib.hid hS
  have HSB := Lib.hid hSb
  clear hS hSb
  have HB1 : Hid (Try.prog.built 27 [(0, .agg (cellsL .u8 S))] = some (kyL S (zer 16) (zer 12) (zer 16) 0).toArray) := Lib.hid (built_one HS.out)
  have HO0 : Hid (KyOk S (zer 16) (zer 12) (zer 16)) := Lib.hid ⟨HS.out, zer_len _, zer_len _, zer_len _, HSB.out, zer_byt _, zer_byt _, zer_byt _⟩
  have SA : Hid (Arr (((w.alloc (.cells (cellsL .u8 S) 22)).alloc (.cells Try.zeroCells27 27)).alloc (.cells Try.zeroCells27 27)) w.heap.size 22 .u8 S) := Lib.hid (((Arr.newAt rfl rfl).alloc _).alloc _)
  have ZA : Hid (Blk (((w.alloc (.cells (cellsL .u8 S) 22)).alloc (.cells Try.zeroCells27 27)).alloc (.cells Try.zeroCells27 27)) (w.heap.size + 1) 27 Try.zeroCells27) := Lib.hid ((blk_new_at (by simp)).alloc _)
  have ZB : Hid (Blk (((w.alloc (.cells (cellsL .u8 S) 22)).alloc (.cells Try.zeroCells27 27)).alloc (.cells Try.zeroCells27 27)) (w.heap.size + 1 + 1) 27 Try.zeroCells27) := Lib.hid (blk_new_at (by simp))
  obtain ⟨w3, hs3, hk3, hg3⟩ := ky_store (p := 0) HO0.out ZB.out zeroKeys
  have S3 := Lib.hid hs3
  have R3 : Hid (RO w w.heap.size S (zer 16) (zer 12) (zer 16) w3) := Lib.hid ⟨SA.out.grown hg3 (by simp; omega), ZA.out.grown hg3 (by simp), hk3, (((((Below.refl _ _).alloc (Nat.le_refl _) _).alloc (by simp) _).alloc (by simp <;> omega) _)).trans (below_of_only hg3 (by omega) (by simp <;> omega))⟩
  clear hs3 hk3 hg3
  go_enter Try.func19, Try.ntmps19
  go_wp2_with (first
    | ((with_reducible (show wpList _ _ _ (⟨some 6, .load _ _, _, _, _, _⟩ :: _) _ _)); refine wpList_loadV (o := ⟨some 6, .load _ _, _, _, _, _⟩) rfl _ rfl rfl (arr_load ((Arr.newAt rfl rfl).alloc _) Try.underlying22 size32 HS.out.symm) ?_)
    | ((with_reducible (show wpList _ _ _ (⟨some 7, _, _, _, _, _⟩ :: _) _ _)); refine wpList_buildV (o := ⟨some 7, _, _, _, _, _⟩) rfl _ rfl HB1.out ?_)
    | ((with_reducible (show wpList _ _ _ (⟨none, .store 27 _ _, _, _, _, _⟩ :: _) _ _)); refine wpList_storeV (o := ⟨none, .store 27 _ _, _, _, _, _⟩) rfl _ _ rfl rfl rfl (S3.out) ?_)
    | ((with_reducible (show wpList _ _ _ (⟨some 8, .load _ _, _, _, _, _⟩ :: _) _ _)); refine wpList_loadV (o := ⟨some 8, .load _ _, _, _, _, _⟩) rfl _ rfl rfl (arr_load R3.out.1 Try.underlying22 size32 HS.out.symm) ?_))
  refine Calls.mono (rlabel_key S _ HS.out HSB.out) ?_
  rintro e w4 ⟨A4, n4, c4, rfl, hn4, hc4, hr4, hb4⟩
  have R4 := Lib.hid (R3.out.below hb4)
  have L4 := Lib.hid hr4
  have HK := Lib.hid (kKey_len S)
  obtain rfl : n4 = 16 := by rw [hn4, kKey_len]
  clear hn4 hc4 hr4 hb4 S3 SA ZA ZB
  go_wp2_with fail
  refine Calls.mono (kfirst_any A4 c4 (kKey S) _ HK.out L4.out) ?_
  rintro e w5 ⟨rfl, hb5⟩
  have R5 := Lib.hid (R4.out.below hb5)
  obtain ⟨w6, hs6, hk6, hg6⟩ := ky_storeK HO0.out HK.out R5.out.2.2.1
  have S6 := Lib.hid hs6
  have R6 := Lib.hid (R5.out.put hk6 hg6)
  clear hb5 hs6 hk6 hg6
  go_wp2_with (first
    | ((with_reducible (show wpList _ _ _ (⟨none, .store 23 _ _, _, _, _, _⟩ :: _) _ _)); refine wpList_storeV (o := ⟨none, .store 23 _ _, _, _, _, _⟩) rfl _ _ rfl rfl rfl (S6.out) ?_)
    | ((with_reducible (show wpList _ _ _ (⟨some 12, .load _ _, _, _, _, _⟩ :: _) _ _)); refine wpList_loadV (o := ⟨some 12, .load _ _, _, _, _, _⟩) rfl _ rfl rfl (arr_load R6.out.1 Try.underlying22 size32 HS.out.symm) ?_))
  refine Calls.mono (rlabel_hp S _ HS.out HSB.out) ?_
  rintro e w7 ⟨A7, n7, c7, rfl, hn7, hc7, hr7, hb7⟩
  have R7 := Lib.hid (R6.out.below hb7)
  have L7 := Lib.hid hr7
  have HH := Lib.hid (kHp_len S)
  obtain rfl : n7 = 16 := by rw [hn7, kHp_len]
  clear hn7 hc7 hr7 hb7 S6
  go_wp2_with fail
  refine Calls.mono (kfirst_any A7 c7 (kHp S) _ HH.out L7.out) ?_
  rintro e w8 ⟨rfl, hb8⟩
  have R8 := Lib.hid (R7.out.below hb8)
  obtain ⟨w9, hs9, hk9, hg9⟩ := ky_storeH (ro_okK HS.out HSB.out (zer_len 16) (zer_byt 16)) HH.out R8.out.2.2.1
  have S9 := Lib.hid hs9
  have R9 := Lib.hid (R8.out.put hk9 hg9)
  clear hb8 hs9 hk9 hg9
  go_wp2_with (first
    | ((with_reducible (show wpList _ _ _ (⟨none, .store 23 _ _, _, _, _, _⟩ :: _) _ _)); refine wpList_storeV (o := ⟨none, .store 23 _ _, _, _, _, _⟩) rfl _ _ rfl rfl rfl (S9.out) ?_)
    | ((with_reducible (show wpList _ _ _ (⟨some 16, .load _ _, _, _, _, _⟩ :: _) _ _)); refine wpList_loadV (o := ⟨some 16, .load _ _, _, _, _, _⟩) rfl _ rfl rfl (arr_load R9.out.1 Try.underlying22 size32 HS.out.symm) ?_))
  refine Calls.mono (rlabel_iv S _ HS.out HSB.out) ?_
  rintro e wa ⟨Aa, na, ca, rfl, hna, hca, hra, hba, hfa⟩
  have Ra := Lib.hid (R9.out.below hba)
  have La := Lib.hid hra
  have HI := Lib.hid (kIv_len S)
  have HIB := Lib.hid (kIv_byt S)
  have HV : Hid (ofV S = kyV S (kKey S) (kIv S) (kHp S) 0) := Lib.hid rfl
  have HZ := Lib.hid zeroKeys
  obtain rfl : na = 12 := by rw [hna, kIv_len]
  obtain ⟨ad, rfl, hadb⟩ := La.out.isSome (by rw [HI.out]; decide)
  have hne : w.heap.size + 1 + 1 < ad.block := Nat.lt_of_lt_of_le (Blk.lt R9.out.2.2.1) (hfa ad rfl)
  clear hna hca hra hba S9 hfa
  generalize kIv S = I at *
  go_wp2_with fail
  go_loopw [5] (fun i wr => ∃ k : Nat, k ≤ 12 ∧ i = .int .i64 k ∧ Hid (RO w w.heap.size S (kKey S) (fil I k) (kHp S) wr) ∧ Hid (Rd wa.heap.size .u8 wr (some ad) I) ∧ Hid (wa.heap.size ≤ wr.heap.size)) (fun i _ => 12 - (intOf i).toNat)
  case atStart => exact ⟨0, by omega, rfl, Lib.hid (by rw [fil_zero, HI.out]; exact Ra.out), La, Lib.hid (Nat.le_refl _)⟩
  case round =>
    obtain ⟨k, hk, rfl, HR, HL, HG⟩ := hrel
    have hfl : Hid ((fil I k).length = 12) := Lib.hid (by rw [fil_len, HI.out])
    have HOK := Lib.hid (ro_okI HS.out HSB.out hfl.out (fil_byt HIB.out k))
    by_cases hlt : k < 12
    · have c1 := HL.out.at_ (i := k) (by rw [HI.out]; exact hlt)
      have c0 := ky_cellI HOK.out HR.out.2.2.1 hlt
      have f0 := ky_frozen HR.out.2.2.1 (48 + k)
      have HMS := Lib.hid (fil_set (xs := I) (k := k) (by rw [HI.out]; exact hlt))
      generalize I.getD k 0 = x at *
      have RN : Hid (RO w w.heap.size S (kKey S) ((fil I k).set k x) (kHp S) (wr.setCell ⟨w.heap.size + 1 + 1, 48 + k, none⟩ (.int .u8 x))) := Lib.hid (HR.out.put (ky_seti HOK.out HR.out.2.2.1 hlt x) (only_setCell (World.grownBy.refl _ _) (.inl rfl) _))
      have LN : Hid (Rd wa.heap.size .u8 (wr.setCell ⟨w.heap.size + 1 + 1, 48 + k, none⟩ (.int .u8 x)) (some ad) I) := Lib.hid (HL.out.far (only_setCell (World.grownBy.refl _ _) (.inl rfl) _) HG.out (fun ad' h => by cases h; simp; omega))
      rw [HMS.out] at RN
      generalize (fil I k).getD k 0 = old at *
      go_wp2_with fail
      go_roundw
      case rel => exact ⟨k + 1, by omega, by go_num, RN, LN, Lib.hid (by simpa using HG.out)⟩
      case measure => simp [intOf]; omega
    · have hkn : k = 12 := by omega
      have HE : Hid (fil I k = I) := Lib.hid (by rw [hkn]; have := fil_full I; rw [HI.out] at this; exact this)
      rw [HE.out] at HR HOK
      have L1 := Lib.hid (ky_load HOK.out HR.out.2.2.1)
      obtain ⟨wb, hsb, hkb, hgb⟩ := ky_store (p := 0) HOK.out HR.out.2.1 HZ.out
      have Sb := Lib.hid hsb
      have Kb := Lib.hid hkb
      have Bb := Lib.hid (HR.out.2.2.2.trans (below_of_only hgb (by omega) (Nat.le_of_lt HR.out.1.lt)))
      rw [← HV.out] at L1 Sb
      clear hkn HE hsb hkb hgb hfl
      generalize ofV S = V at *
      go_wp2_with (first
        | ((with_reducible (show wpList _ _ _ (⟨some 29, .load _ _, _, _, _, _⟩ :: _) _ _)); refine wpList_loadV (o := ⟨some 29, .load _ _, _, _, _, _⟩) rfl _ rfl rfl (L1.out) ?_)
        | ((with_reducible (show wpList _ _ _ (⟨none, .store 27 _ _, _, _, _, _⟩ :: _) _ _)); refine wpList_storeV (o := ⟨none, .store 27 _ _, _, _, _, _⟩) rfl _ _ rfl rfl rfl (Sb.out) ?_))
      refine ret_row rfl rfl Kb.out keys_fine rfl (by rw [List.size_toArray, kyL_len HOK.out]; exact sizeKeys) rfl ⟨by rw [HV.out]; rfl, Bb.out⟩
end Go.Proofs.Ythpacdondnenmaa
namespace Go.Proofs.Ythpacdondnenmaa
open Go.RowKit
theorem rlabel_ku (S : List Int) (w : World) (hS : S.length = 32) (hSb : Byt S) : Calls Try.prog 48 #[.agg (cellsL .u8 S), .string ⟨#[113, 117, 105, 99, 32, 107, 117]⟩, .slice none 0 0, .int .i64 32] w (SliPost (kSec S sKu) w) := rlabel_sec S sKu w hS hSb (by decide)
set_option maxRecDepth 100000 in
set_option maxHeartbeats 8000000 in
theorem rnext_any (S K I H : List Int) (p : Int) (w : World) (h : KyOk S K I H) (hp : 0 ≤ p ∧ p < 18446744073709551616) : Calls Try.prog 20 #[kyV S K I H p] w (RetV (nextV S H p) w) := by
  have HO := Lib.hid h
  have HZ := Lib.hid zeroKeys
  obtain ⟨hp0, hp1⟩ := hp
  clear h
  unfold kyV
  go_enter Try.func20, Try.ntmps20
  go_wp2_with ((with_reducible (show wpList _ _ _ (⟨some 5, .load _ _, _, _, _, _⟩ :: _) _ _)); refine wpList_loadV (o := ⟨some 5, .load _ _, _, _, _, _⟩) rfl _ rfl rfl (ky_load0 HO.out ((Blk.new _ _ _).alloc _)) ?_)
  refine Calls.mono (rlabel_ku S _ HO.out.s HO.out.bs) ?_
  rintro e w3 ⟨A3, n3, c3, rfl, hn3, hc3, hr3, hb3⟩
  have B3 : Hid (Below w.heap.size w w3) := Lib.hid ((((Below.refl _ _).alloc (Nat.le_refl _) _).alloc (by simp) _).trans (hb3.mono (by simp <;> omega)))
  have Z3 : Hid (Blk w3 (w.heap.size + 1) 27 Try.zeroCells27) := Lib.hid (blk_below_new hb3 (by simp) (by simp))
  have K3 : Hid (KyB w3 w.heap.size S K I H p) := Lib.hid (((Blk.new _ _ _).alloc _).below hb3 (by simp <;> omega))
  have HU := Lib.hid (ku_len S)
  have HUB := Lib.hid (kSec_byt S sKu)
  have R3 := Lib.hid hr3
  have HN := Lib.hid (ofNext (S := S) HO.out.h HO.out.bh)
  have HF := Lib.hid (ofOk HU.out HUB.out)
  have HVV : Hid (nextV S H p = kyV (kSec S sKu) (kKey (kSec S sKu)) (kIv (kSec S sKu)) H ((p + 1) % 18446744073709551616)) := Lib.hid rfl
  obtain rfl : n3 = 32 := by rw [hn3, ku_len]
  clear hn3 hc3 hr3 hb3
  generalize nextV S H p = V at *
  generalize kSec S sKu = U at *
  go_wp2_with fail
  refine Calls.mono (kall_any A3 c3 U _ HU.out R3.out) ?_
  rintro e w4 ⟨rfl, hb4⟩
  have B4 := Lib.hid hb4
  have Z4 := Lib.hid (Z3.out.below hb4 Z3.out.lt)
  have K4 := Lib.hid (Blk.below K3.out hb4 (Blk.lt K3.out))
  clear hb4 Z3 K3 R3
  go_wp2_with fail
  refine Calls.mono (rof_any U _ HU.out HUB.out) ?_
  rintro e w5 ⟨rfl, hb5⟩
  have B5 := Lib.hid (B4.out.trans (hb5.mono B4.out.size))
  have Z5 := Lib.hid (Z4.out.below hb5 Z4.out.lt)
  have K5 := Lib.hid (Blk.below K4.out hb5 (Blk.lt K4.out))
  clear hb5 Z4 K4 B4
  unfold ofV
  have hga : w.heap.size < w5.heap.size := Blk.lt K5.out
  have hgz : w.heap.size + 1 < w5.heap.size := Blk.lt Z5.out
  obtain ⟨w6, hs6, hk6, hg6⟩ := ky_store (p := 0) HF.out (Blk.new w5 27 Try.zeroCells27) HZ.out
  have S6 := Lib.hid hs6
  have KA := Lib.hid (Blk.grown (Blk.alloc K5.out _) hg6 (by simp; omega))
  have ZA := Lib.hid (Blk.grown (Blk.alloc Z5.out _) hg6 (by simp; omega))
  have B6 := Lib.hid (((Below.refl w5.heap.size w5).alloc (Nat.le_refl _) _).trans (below_of_only hg6 (Nat.le_refl _) (by simp)))
  obtain ⟨w7, hs7, hk7, hg7⟩ := ky_storeH HF.out HO.out.h hk6
  have S7 := Lib.hid hs7
  have K7 := Lib.hid hk7
  have L10 := Lib.hid (ky_load3 HO.out KA.out)
  have KB := Lib.hid (Blk.grown KA.out hg7 (by simp; omega))
  have ZB := Lib.hid (Blk.grown ZA.out hg7 (by simp; omega))
  have B7 := Lib.hid (B6.out.trans (below_of_only hg7 (Nat.le_refl _) B6.out.size))
  have c7 := ky_cell76 HO.out KB.out
  have c7' := ky_cell76 HN.out K7.out
  have f7 := ky_frozen K7.out 76
  have K8 := Lib.hid (ky_setp HN.out K7.out ((p + 1) % 18446744073709551616))
  have Z8 := Lib.hid (Blk.far (p := ⟨w5.heap.size, 76, none⟩) ZB.out (by simp; omega) (.int .u64 ((p + 1) % 18446744073709551616)))
  have B8 : Hid (Below w5.heap.size w5 (w7.setCell ⟨w5.heap.size, 76, none⟩ (.int .u64 ((p + 1) % 18446744073709551616)))) := Lib.hid (B7.out.setCell (Nat.le_refl _) _)
  have hl8 := ky_load HN.out K8.out
  rw [← HVV.out] at hl8
  have L8 := Lib.hid hl8
  obtain ⟨w9, hs9, hk9, hg9⟩ := ky_store (p := (p + 1) % 18446744073709551616) HN.out Z8.out HZ.out
  rw [← HVV.out] at hs9
  have S9 := Lib.hid hs9
  have K9 := Lib.hid hk9
  have B9 : Hid (Below w.heap.size w w9) := Lib.hid (((B3.out.trans (B5.out.mono B3.out.size)).trans (B8.out.mono (Nat.le_of_lt hga))).trans (below_of_only hg9 (by omega) (by have := Blk.lt Z8.out; omega)))
  clear hs6 hk6 hg6 hs7 hk7 hg7 hl8 hs9 hk9 hg9
  go_wp2_with (first
    | ((with_reducible (show wpList _ _ _ (⟨none, .store 27 _ _, _, _, _, _⟩ :: _) _ _)); refine wpList_storeV (o := ⟨none, .store 27 _ _, _, _, _, _⟩) rfl _ _ rfl rfl rfl (S6.out) ?_)
    | ((with_reducible (show wpList _ _ _ (⟨some 10, .load _ _, _, _, _, _⟩ :: _) _ _)); refine wpList_loadV (o := ⟨some 10, .load _ _, _, _, _, _⟩) rfl _ rfl rfl (L10.out) ?_)
    | ((with_reducible (show wpList _ _ _ (⟨none, .store 23 _ _, _, _, _, _⟩ :: _) _ _)); refine wpList_storeV (o := ⟨none, .store 23 _ _, _, _, _, _⟩) rfl _ _ rfl rfl rfl (S7.out) ?_)
    | ((with_reducible (show wpList _ _ _ (⟨some 16, .load _ _, _, _, _, _⟩ :: _) _ _)); refine wpList_loadV (o := ⟨some 16, .load _ _, _, _, _, _⟩) rfl _ rfl rfl (L8.out) ?_)
    | ((with_reducible (show wpList _ _ _ (⟨none, .store 27 _ _, _, _, _, _⟩ :: _) _ _)); refine wpList_storeV (o := ⟨none, .store 27 _ _, _, _, _, _⟩) rfl _ _ rfl rfl rfl (S9.out) ?_))
  refine ret_row rfl rfl K9.out keys_fine rfl (by rw [List.size_toArray, kyL_len HN.out]; exact sizeKeys) rfl ⟨by rw [HVV.out]; rfl, B9.out⟩
theorem rlabel_cl (S : List Int) (w : World) (hS : S.length = 32) (hSb : Byt S) : Calls Try.prog 48 #[.agg (cellsL .u8 S), .string ⟨#[99, 108, 105, 101, 110, 116, 32, 105, 110]⟩, .slice none 0 0, .int .i64 32] w (SliPost (kSec S sCl) w) := rlabel_sec S sCl w hS hSb (by decide)
theorem rlabel_se (S : List Int) (w : World) (hS : S.length = 32) (hSb : Byt S) : Calls Try.prog 48 #[.agg (cellsL .u8 S), .string ⟨#[115, 101, 114, 118, 101, 114, 32, 105, 110]⟩, .slice none 0 0, .int .i64 32] w (SliPost (kSec S sSe) w) := rlabel_sec S sSe w hS hSb (by decide)
def sideS (d : Int) : ByteArray := if d = 1 then sSe else sCl
theorem rlabel_side (d : Int) (hd : d = 0 ∨ d = 1) (S : List Int) (w : World) (hS : S.length = 32) (hSb : Byt S) : Calls Try.prog 48 #[.agg (cellsL .u8 S), .string (sideS d), .slice none 0 0, .int .i64 32] w (SliPost (kSec S (sideS d)) w) := by
  rcases hd with rfl | rfl
  · exact rlabel_cl S w hS hSb
  · exact rlabel_se S w hS hSb
theorem side_sz (d : Int) : (sideS d).size ≤ 249 := by unfold sideS; split <;> decide
set_option maxRecDepth 100000 in
set_option maxHeartbeats 8000000 in
theorem rinitial_any {m : Nat} (d : Int) (hd : d = 0 ∨ d = 1) (A : Option Addr) (c : Nat) (C : List Int) (w : World) (hm : C.length = m) (hr : Rd w.heap.size .u8 w A C) (hb : Byt C) (hl : C.length ≤ 1000000000) :
    Calls Try.prog 21 #[.slice A m c, .int .i64 d] w (RetV (iniV C (sideS d)) w) := by
  have HR := Lib.hid hr
  have HBY := Lib.hid hb
  have HM := Lib.hid hm
  have HZ := Lib.hid zeroKeys
  have HD := Lib.hid hd
  have hs : sideS d = if d = 1 then ⟨#[115, 101, 114, 118, 101, 114, 32, 105, 110]⟩ else ⟨#[99, 108, 105, 101, 110, 116, 32, 105, 110]⟩ := rfl
  have HSI := Lib.hid hs
  clear hr hb hm hs
  go_enter Try.func21, Try.ntmps21
  go_wp2_with fail
  refine Calls.mono (rmac_at (some ⟨w.heap.size + 1, 0, none⟩) 20 saltL A c C _ rfl HM.out ?_ saltL_byt (by decide) ((HR.out.alloc (Nat.le_refl _) _).alloc (by simp) _ |>.mono (by simp <;> omega)) HBY.out hl) ?_
  · exact (Rd.newAt (e := 5) (by simp) rfl).mono (by simp)
  rintro e w3 ⟨rfl, hb3⟩
  have B3 : Hid (Below w.heap.size w w3) := Lib.hid ((((Below.refl _ _).alloc (Nat.le_refl _) _).alloc (by simp) _).trans (hb3.mono (by simp <;> omega)))
  have Z3 : Hid (Blk w3 w.heap.size 27 Try.zeroCells27) := Lib.hid (((Blk.new _ _ _).alloc _).below hb3 (by simp <;> omega))
  have HX := Lib.hid (macL_len saltL C)
  have HXB := Lib.hid (macL_byt saltL C)
  have HV : Hid (iniV C (sideS d) = ofV (kSec (macL saltL C) (sideS d))) := Lib.hid rfl
  have HSZ := Lib.hid (side_sz d)
  clear hb3
  generalize macL saltL C = X at *
  generalize iniV C (sideS d) = V at *
  have side : ∀ s : ByteArray, (sideS d = s) → V = ofV (kSec X s) := fun s h => by rw [← h]; exact HV.out
  have HK0 := Lib.hid (kSec_len X (s := sCl) (by decide))
  have HK1 := Lib.hid (kSec_len X (s := sSe) (by decide))
  rcases HD.out with rfl | rfl
  · have HW : Hid (V = ofV (kSec X sCl)) := Lib.hid (side sCl rfl)
    clear side HV HSI HSZ
    go_wp2_with (first
      | (((with_reducible (show wpList _ _ _ (⟨none, .store 22 _ _, _, _, _, _⟩ :: _) _ _)); refine wpList_storeArr (o := ⟨none, .store 22 _ _, _, _, _, _⟩) (g := w3.heap.size) (t := 22) (k := .u8) (xs := X) (n := 32) rfl _ _ rfl rfl rfl (Blk.new _ _ _) size32 (HX.out.symm) rfl ?_; intro w4 ha4 hg4; have HA4 := Lib.hid ha4; have HG4 := Lib.hid hg4; clear ha4 hg4); have Z4 := Lib.hid ((Z3.out.alloc _).grown HG4.out (by have := Z3.out.lt; simp; omega)); have B4 := Lib.hid (B3.out.trans ((((Below.refl w3.heap.size w3).alloc (Nat.le_refl _) _).trans (below_of_only HG4.out (Nat.le_refl _) (by simp))).mono B3.out.size)))
      | ((with_reducible (show wpList _ _ _ (⟨some 14, .load _ _, _, _, _, _⟩ :: _) _ _)); refine wpList_loadV (o := ⟨some 14, .load _ _, _, _, _, _⟩) rfl _ rfl rfl (arr_load HA4.out Try.underlying22 size32 HX.out.symm) ?_))
    refine Calls.mono (rlabel_cl X _ HX.out HXB.out) ?_
    rintro e w5 ⟨A5, n5, c5, rfl, hn5, hc5, hr5, hb5⟩
    obtain rfl : n5 = 32 := by rw [hn5, HK0.out]
    have R5 := Lib.hid hr5
    have Z5 := Lib.hid (Z4.out.below hb5 (Blk.lt Z4.out))
    have B5 := Lib.hid (B4.out.trans (hb5.mono B4.out.size))
    clear hn5 hc5 hr5 hb5 Z4 B4 HA4 HG4
    go_wp2_with fail
    refine Calls.mono (kall_any A5 c5 _ _ HK0.out R5.out) ?_
    rintro e w6 ⟨rfl, hb6⟩
    have Z6 := Lib.hid (Z5.out.below hb6 (Blk.lt Z5.out))
    have B6 := Lib.hid (B5.out.trans (hb6.mono B5.out.size))
    clear hb6
    go_wp2_with fail
    refine Calls.mono (rof_any _ _ HK0.out (kSec_byt _ _)) ?_
    rintro e w7 ⟨rfl, hb7⟩
    have Z7 := Lib.hid (Z6.out.below hb7 (Blk.lt Z6.out))
    have B7 := Lib.hid (B6.out.trans (hb7.mono B6.out.size))
    have K1 := Lib.hid (ofOk HK0.out (kSec_byt X sCl))
    obtain ⟨w8, hs8, hk8, hg8⟩ := ky_store (p := 0) K1.out Z7.out HZ.out
    have S8 : Hid ((Instr.storeAt 27 (.pointer (some ⟨w.heap.size, 0, none⟩)) V).run Try.prog w7 = .ok () w8) := Lib.hid (by rw [HW.out]; exact hs8)
    have K8 := Lib.hid hk8
    have B8 := Lib.hid (B7.out.trans (below_of_only hg8 (Nat.le_refl _) B7.out.size))
    clear hb7 hs8 hk8 hg8
    rw [← HW.out]
    go_wp2_with ((with_reducible (show wpList _ _ _ (⟨none, .store 27 _ _, _, _, _, _⟩ :: _) _ _)); refine wpList_storeV (o := ⟨none, .store 27 _ _, _, _, _, _⟩) rfl _ _ rfl rfl rfl (S8.out) ?_)
    refine ret_row rfl rfl K8.out keys_fine rfl (by rw [List.size_toArray, kyL_len K1.out]; exact sizeKeys) rfl ⟨by rw [HW.out]; rfl, B8.out⟩
  · have HW : Hid (V = ofV (kSec X sSe)) := Lib.hid (side sSe rfl)
    clear side HV HSI HSZ
    go_wp2_with (first
      | (((with_reducible (show wpList _ _ _ (⟨none, .store 22 _ _, _, _, _, _⟩ :: _) _ _)); refine wpList_storeArr (o := ⟨none, .store 22 _ _, _, _, _, _⟩) (g := w3.heap.size) (t := 22) (k := .u8) (xs := X) (n := 32) rfl _ _ rfl rfl rfl (Blk.new _ _ _) size32 (HX.out.symm) rfl ?_; intro w4 ha4 hg4; have HA4 := Lib.hid ha4; have HG4 := Lib.hid hg4; clear ha4 hg4); have Z4 := Lib.hid ((Z3.out.alloc _).grown HG4.out (by have := Z3.out.lt; simp; omega)); have B4 := Lib.hid (B3.out.trans ((((Below.refl w3.heap.size w3).alloc (Nat.le_refl _) _).trans (below_of_only HG4.out (Nat.le_refl _) (by simp))).mono B3.out.size)))
      | ((with_reducible (show wpList _ _ _ (⟨some 14, .load _ _, _, _, _, _⟩ :: _) _ _)); refine wpList_loadV (o := ⟨some 14, .load _ _, _, _, _, _⟩) rfl _ rfl rfl (arr_load HA4.out Try.underlying22 size32 HX.out.symm) ?_))
    refine Calls.mono (rlabel_se X _ HX.out HXB.out) ?_
    rintro e w5 ⟨A5, n5, c5, rfl, hn5, hc5, hr5, hb5⟩
    obtain rfl : n5 = 32 := by rw [hn5, HK1.out]
    have R5 := Lib.hid hr5
    have Z5 := Lib.hid (Z4.out.below hb5 (Blk.lt Z4.out))
    have B5 := Lib.hid (B4.out.trans (hb5.mono B4.out.size))
    clear hn5 hc5 hr5 hb5 Z4 B4 HA4 HG4
    go_wp2_with fail
    refine Calls.mono (kall_any A5 c5 _ _ HK1.out R5.out) ?_
    rintro e w6 ⟨rfl, hb6⟩
    have Z6 := Lib.hid (Z5.out.below hb6 (Blk.lt Z5.out))
    have B6 := Lib.hid (B5.out.trans (hb6.mono B5.out.size))
    clear hb6
    go_wp2_with fail
    refine Calls.mono (rof_any _ _ HK1.out (kSec_byt _ _)) ?_
    rintro e w7 ⟨rfl, hb7⟩
    have Z7 := Lib.hid (Z6.out.below hb7 (Blk.lt Z6.out))
    have B7 := Lib.hid (B6.out.trans (hb7.mono B6.out.size))
    have K1 := Lib.hid (ofOk HK1.out (kSec_byt X sSe))
    obtain ⟨w8, hs8, hk8, hg8⟩ := ky_store (p := 0) K1.out Z7.out HZ.out
    have S8 : Hid ((Instr.storeAt 27 (.pointer (some ⟨w.heap.size, 0, none⟩)) V).run Try.prog w7 = .ok () w8) := Lib.hid (by rw [HW.out]; exact hs8)
    have K8 := Lib.hid hk8
    have B8 := Lib.hid (B7.out.trans (below_of_only hg8 (Nat.le_refl _) B7.out.size))
    clear hb7 hs8 hk8 hg8
    rw [← HW.out]
    go_wp2_with ((with_reducible (show wpList _ _ _ (⟨none, .store 27 _ _, _, _, _, _⟩ :: _) _ _)); refine wpList_storeV (o := ⟨none, .store 27 _ _, _, _, _, _⟩) rfl _ _ rfl rfl rfl (S8.out) ?_)
    refine ret_row rfl rfl K8.out keys_fine rfl (by rw [List.size_toArray, kyL_len K1.out]; exact sizeKeys) rfl ⟨by rw [HW.out]; rfl, B8.out⟩
end Go.Proofs.Ythpacdondnenmaa
namespace Go.Proofs.Ythpacdondnenmaa
open Go.RowKit
def idK : List Int := [131, 148, 200, 240, 62, 81, 87, 8]
def exX : List Int := [125, 181, 223, 6, 231, 166, 158, 67, 36, 150, 173, 237, 176, 8, 81, 146, 53, 149, 34, 21, 150, 174, 42, 233, 251, 129, 21, 193, 233, 237, 10, 68]
def exC : List Int := [192, 12, 241, 81, 202, 91, 224, 117, 237, 14, 191, 181, 200, 3, 35, 196, 45, 107, 125, 182, 120, 129, 40, 154, 244, 0, 143, 31, 108, 53, 122, 234]
def exS : List Int := [60, 25, 152, 40, 253, 19, 158, 253, 33, 108, 21, 90, 216, 68, 204, 129, 251, 130, 250, 141, 116, 70, 250, 125, 120, 190, 128, 58, 205, 218, 149, 27]
theorem ex_mac : macL saltL idK = exX := by decide +kernel
theorem ex_sec1 : kSec exX sCl = exC := by decide +kernel
theorem ex_sec2 : kSec exX sSe = exS := by decide +kernel
def exCKey : List Int := [31, 54, 150, 19, 221, 118, 213, 70, 119, 48, 239, 203, 227, 177, 162, 45]
theorem exCKey_eq : kKey exC = exCKey := by decide +kernel
theorem exCKey_str : strOfNums exCKey = ⟨#[31, 54, 150, 19, 221, 118, 213, 70, 119, 48, 239, 203, 227, 177, 162, 45]⟩ := by kernel_rfl
theorem exCKey_len : exCKey.length = 16 := rfl
def exCIv : List Int := [250, 4, 75, 47, 66, 163, 253, 59, 70, 251, 37, 92]
theorem exCIv_eq : kIv exC = exCIv := by decide +kernel
theorem exCIv_str : strOfNums exCIv = ⟨#[250, 4, 75, 47, 66, 163, 253, 59, 70, 251, 37, 92]⟩ := by kernel_rfl
theorem exCIv_len : exCIv.length = 12 := rfl
def exCHp : List Int := [159, 80, 68, 158, 4, 160, 232, 16, 40, 58, 30, 153, 51, 173, 237, 210]
theorem exCHp_eq : kHp exC = exCHp := by decide +kernel
theorem exCHp_str : strOfNums exCHp = ⟨#[159, 80, 68, 158, 4, 160, 232, 16, 40, 58, 30, 153, 51, 173, 237, 210]⟩ := by kernel_rfl
theorem exCHp_len : exCHp.length = 16 := rfl
def exSKey : List Int := [207, 58, 83, 49, 101, 60, 54, 76, 136, 240, 243, 121, 182, 6, 126, 55]
theorem exSKey_eq : kKey exS = exSKey := by decide +kernel
theorem exSKey_str : strOfNums exSKey = ⟨#[207, 58, 83, 49, 101, 60, 54, 76, 136, 240, 243, 121, 182, 6, 126, 55]⟩ := by kernel_rfl
theorem exSKey_len : exSKey.length = 16 := rfl
def exSIv : List Int := [10, 193, 73, 60, 161, 144, 88, 83, 176, 187, 160, 62]
theorem exSIv_eq : kIv exS = exSIv := by decide +kernel
theorem exSIv_str : strOfNums exSIv = ⟨#[10, 193, 73, 60, 161, 144, 88, 83, 176, 187, 160, 62]⟩ := by kernel_rfl
theorem exSIv_len : exSIv.length = 12 := rfl
def exSHp : List Int := [194, 6, 184, 217, 185, 240, 243, 118, 68, 67, 11, 73, 14, 234, 163, 20]
theorem exSHp_eq : kHp exS = exSHp := by decide +kernel
theorem exSHp_str : strOfNums exSHp = ⟨#[194, 6, 184, 217, 185, 240, 243, 118, 68, 67, 11, 73, 14, 234, 163, 20]⟩ := by kernel_rfl
theorem exSHp_len : exSHp.length = 16 := rfl
theorem ini_c : iniV idK sCl = kyV exC exCKey exCIv exCHp 0 := by unfold iniV ofV; rw [ex_mac, ex_sec1, exCKey_eq, exCIv_eq, exCHp_eq]
theorem ini_s : iniV idK sSe = kyV exS exSKey exSIv exSHp 0 := by unfold iniV ofV; rw [ex_mac, ex_sec2, exSKey_eq, exSIv_eq, exSHp_eq]
theorem exC_ok : KyOk exC exCKey exCIv exCHp := by
  have h := ofOk (S := exC) rfl (by rw [← ex_sec1]; exact kSec_byt _ _)
  rwa [exCKey_eq, exCIv_eq, exCHp_eq] at h
theorem exS_ok : KyOk exS exSKey exSIv exSHp := by
  have h := ofOk (S := exS) rfl (by rw [← ex_sec2]; exact kSec_byt _ _)
  rwa [exSKey_eq, exSIv_eq, exSHp_eq] at h
theorem idK_byt : Byt idK := by intro x hx; simp [idK] at hx; omega
attribute [irreducible] exX exC exS exCKey exCIv exCHp exSKey exSIv exSHp
end Go.Proofs.Ythpacdondnenmaa
namespace Go.Proofs.Ythpacdondnenmaa
open Go.RowKit
section
variable {S K I H : List Int} {p : Int} {w : World} {g : Nat}
theorem ky_rdK (h : KyOk S K I H) (b : KyB w g S K I H p) : Rd w.heap.size .u8 w (some ⟨g, 32, none⟩) K := blk_rd (A := iv .u8 S) b (by rw [iv_len, h.s])
theorem ky_rdI (h : KyOk S K I H) (b : KyB w g S K I H p) : Rd w.heap.size .u8 w (some ⟨g, 48, none⟩) I := blk_rd (A := iv .u8 S ++ iv .u8 K) (Blk.cast b (by rw [kyL_2])) (by simp [iv_len, h.s, h.k])
theorem ky_rdH (h : KyOk S K I H) (b : KyB w g S K I H p) : Rd w.heap.size .u8 w (some ⟨g, 60, none⟩) H := blk_rd (A := iv .u8 S ++ iv .u8 K ++ iv .u8 I) (Blk.cast b (by rw [kyL_3])) (by simp [iv_len, h.s, h.k, h.i])
end
set_option maxRecDepth 100000 in
set_option maxHeartbeats 4000000 in
theorem known10_any (w : World) : Calls Try.prog 6 #[] w fun e w' => e = .returned (.bool true) ∧ Below w.heap.size w w' := by
  have HZ := Lib.hid zeroKeys
  go_enter Try.func6, Try.ntmps6
  go_wp2_with fail
  refine Calls.mono (initial_any (some ⟨w.heap.size, 0, none⟩) 8 idK _ rfl ((Rd.newAt (e := 5) rfl rfl).mono (by simp)) idK_byt (by decide) (by decide)) ?_
  rintro e w1 ⟨rfl, hb1⟩
  have B1 := Lib.hid (((Below.refl _ _).alloc (Nat.le_refl _) _).trans (hb1.mono (by simp)))
  have KC := Lib.hid exC_ok
  have KS := Lib.hid exS_ok
  have h1 := ini_c
  have h2 := ini_s
  have I1 := Lib.hid h1
  have I2 := Lib.hid h2
  clear h1 h2 hb1
  generalize iniV idK sCl = V1 at *
  generalize iniV idK sSe = V2 at *
  have ZA : Hid (Blk ((w1.alloc (.cells Try.zeroCells27 27)).alloc (.cells Try.zeroCells27 27)) w1.heap.size 27 Try.zeroCells27) := Lib.hid ((Blk.new _ _ _).alloc _)
  have ZB : Hid (Blk ((w1.alloc (.cells Try.zeroCells27 27)).alloc (.cells Try.zeroCells27 27)) (w1.heap.size + 1) 27 Try.zeroCells27) := Lib.hid (blk_new_at (by simp))
  obtain ⟨w2, hs2, hk2, hg2⟩ := ky_store (p := 0) KC.out ZA.out HZ.out
  have S2 := Lib.hid hs2
  rw [← I1.out] at S2
  have Z2 := Lib.hid (Blk.grown ZB.out hg2 (by simp))
  obtain ⟨w3, hs3, hk3, hg3⟩ := ky_store (p := 0) KS.out Z2.out HZ.out
  have S3 := Lib.hid hs3
  rw [← I2.out] at S3
  have K2 := Lib.hid (Blk.grown hk2 hg3 (by simp))
  have K3 := Lib.hid hk3
  have B3 : Hid (Below w.heap.size w w3) := Lib.hid (((B1.out.trans ((((Below.refl w1.heap.size w1).alloc (Nat.le_refl _) _).alloc (by simp) _).mono B1.out.size)).trans (below_of_only hg2 B1.out.size (by have := B1.out.size; simp; omega))).trans (below_of_only hg3 (by have := B1.out.size; omega) (by have := B1.out.size; have := hg2.size; simp at this; omega)))
  clear hs2 hk2 hg2 hs3 hk3 hg3
  have v1 := conv_n (ky_rdK KC.out K2.out) exCKey_len 16
  have v2 := conv_n (ky_rdI KC.out K2.out) exCIv_len 12
  have v3 := conv_n (ky_rdH KC.out K2.out) exCHp_len 16
  have v4 := conv_n (ky_rdK KS.out K3.out) exSKey_len 16
  have v5 := conv_n (ky_rdI KS.out K3.out) exSIv_len 12
  have v6 := conv_n (ky_rdH KS.out K3.out) exSHp_len 16
  rw [exCKey_str] at v1
  rw [exCIv_str] at v2
  rw [exCHp_str] at v3
  rw [exSKey_str] at v4
  rw [exSIv_str] at v5
  rw [exSHp_str] at v6
  go_wp2_with (first
    | ((with_reducible (show wpList _ _ _ (⟨none, .store 27 _ _, _, _, _, _⟩ :: _) _ _)); refine wpList_storeV (o := ⟨none, .store 27 _ _, _, _, _, _⟩) rfl _ _ rfl rfl rfl S2.out ?_)
    | ((with_reducible (show wpList _ _ _ (⟨none, .store 27 _ _, _, _, _, _⟩ :: _) _ _)); refine wpList_storeV (o := ⟨none, .store 27 _ _, _, _, _, _⟩) rfl _ _ rfl rfl rfl S3.out ?_))
  go_ret
  exact ⟨rfl, B3.out⟩
end Go.Proofs.Ythpacdondnenmaa
