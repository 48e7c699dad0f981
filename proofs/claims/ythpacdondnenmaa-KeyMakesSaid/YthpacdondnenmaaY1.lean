/- A connection's keys as one block of 77 cells: built, compared, its fields. Conditions: as each theorem states them. -/
import Derived.Test.YthpacdondnenmaaK10
import Derived.Test.YthpacdondnenmaaK7
import Derived.Test.YthpacdondnenmaaAM
namespace Go.Proofs.Ythpacdondnenmaa
open Go.RowKit
theorem size16 : (Try.prog.info? 23).map (·.size) = some 16 := by kernel_rfl
theorem size12 : (Try.prog.info? 24).map (·.size) = some 12 := by kernel_rfl
theorem sizeTok : (Try.prog.info? 55).map (·.size) = some 16 := by kernel_rfl
theorem sizeKeys : (Try.prog.info? 27).map (·.size) = some 77 := by kernel_rfl
/-- the cells of keys: secret, key, iv, hp, phase -/
def kyL (S K I H : List Int) (p : Int) : List Value := iv .u8 S ++ (iv .u8 K ++ (iv .u8 I ++ (iv .u8 H ++ [.int .u64 p])))
def kyV (S K I H : List Int) (p : Int) : Value := .agg (kyL S K I H p).toArray
structure KyOk (S K I H : List Int) : Prop where
  s : S.length = 32
  k : K.length = 16
  i : I.length = 12
  h : H.length = 16
  bs : Byt S
  bk : Byt K
  bi : Byt I
  bh : Byt H
theorem kyL_len {S K I H : List Int} {p : Int} (h : KyOk S K I H) : (kyL S K I H p).length = 77 := by
  unfold kyL
  simp [iv_len, h.s, h.k, h.i, h.h]
theorem kyL_one (S K I H : List Int) (p : Int) : ∀ v ∈ kyL S K I H p, v.oneCell' = true := fun v hv => by
  unfold kyL at hv
  simp only [List.mem_append, List.mem_singleton] at hv
  rcases hv with hv | hv | hv | hv | hv
  · exact iv_one _ _ v hv
  · exact iv_one _ _ v hv
  · exact iv_one _ _ v hv
  · exact iv_one _ _ v hv
  · subst hv; rfl
def zer (n : Nat) : List Int := List.replicate n 0
theorem zer_len (n : Nat) : (zer n).length = n := by simp [zer]
theorem zer_byt (n : Nat) : Byt (zer n) := fun x hx => by have := (List.mem_replicate.1 hx).2; omega
def kyPlaces : Array (Nat × Nat) := #[(0, 32), (32, 16), (48, 12), (60, 16), (76, 1)]
theorem built_eq (parts : List (Nat × Value)) : Try.prog.built 27 parts = Instr.fill (kyPlaces[·]?) (kyL (zer 32) (zer 16) (zer 12) (zer 16) 0).toArray parts := by kernel_rfl
theorem kyL_over {S K I H : List Int} {p : Int} :
    (∀ X : List Int, X.length = S.length → ovl (kyL S K I H p) 0 (iv .u8 X) = kyL X K I H p) ∧
    (∀ X : List Int, S.length = 32 → X.length = K.length → ovl (kyL S K I H p) 32 (iv .u8 X) = kyL S X I H p) ∧
    (∀ X : List Int, S.length = 32 → K.length = 16 → X.length = I.length → ovl (kyL S K I H p) 48 (iv .u8 X) = kyL S K X H p) ∧
    (∀ X : List Int, S.length = 32 → K.length = 16 → I.length = 12 → X.length = H.length → ovl (kyL S K I H p) 60 (iv .u8 X) = kyL S K I X p) := by
  unfold kyL
  refine ⟨fun X h => ?_, fun X h1 h => ?_, fun X h1 h2 h => ?_, fun X h1 h2 h3 h => ?_⟩
  · exact over_at (A := []) rfl (by simp [iv_len, h])
  · exact over_at (by simp [iv_len, h1]) (by simp [iv_len, h])
  · rw [← List.append_assoc (iv .u8 S), over_at (by simp [iv_len, h1, h2]) (by simp [iv_len, h])]; simp
  · rw [← List.append_assoc (iv .u8 S), ← List.append_assoc (iv .u8 S ++ _), over_at (by simp [iv_len, h1, h2, h3]) (by simp [iv_len, h])]; simp
theorem built_all {S K I H : List Int} (h : KyOk S K I H) : Try.prog.built 27 [(0, .agg (cellsL .u8 S)), (1, .agg (cellsL .u8 K)), (2, .agg (cellsL .u8 I)), (3, .agg (cellsL .u8 H))] = some (kyL S K I H 0).toArray := by
  rw [built_eq]
  simp only [← iv_cells]
  have l0 : (kyL (zer 32) (zer 16) (zer 12) (zer 16) 0).length = 77 := kyL_len ⟨zer_len _, zer_len _, zer_len _, zer_len _, zer_byt _, zer_byt _, zer_byt _, zer_byt _⟩
  rw [fill_step (off := 0) (size := 32) _ rfl (by rw [iv_len, h.s]) (by rw [l0]; decide), kyL_over.1 S (by rw [h.s, zer_len])]
  have l1 : (kyL S (zer 16) (zer 12) (zer 16) 0).length = 77 := kyL_len ⟨h.s, zer_len _, zer_len _, zer_len _, h.bs, zer_byt _, zer_byt _, zer_byt _⟩
  rw [fill_step (off := 32) (size := 16) _ rfl (by rw [iv_len, h.k]) (by rw [l1]; decide), kyL_over.2.1 K h.s (by rw [h.k, zer_len])]
  have l2 : (kyL S K (zer 12) (zer 16) 0).length = 77 := kyL_len ⟨h.s, h.k, zer_len _, zer_len _, h.bs, h.bk, zer_byt _, zer_byt _⟩
  rw [fill_step (off := 48) (size := 12) _ rfl (by rw [iv_len, h.i]) (by rw [l2]; decide), kyL_over.2.2.1 I h.s h.k (by rw [h.i, zer_len])]
  have l3 : (kyL S K I (zer 16) 0).length = 77 := kyL_len ⟨h.s, h.k, h.i, zer_len _, h.bs, h.bk, h.bi, zer_byt _⟩
  rw [fill_step (off := 60) (size := 16) _ rfl (by rw [iv_len, h.h]) (by rw [l3]; decide), kyL_over.2.2.2 H h.s h.k h.i (by rw [h.h, zer_len])]
  rfl
theorem built_one {S : List Int} (hs : S.length = 32) : Try.prog.built 27 [(0, .agg (cellsL .u8 S))] = some (kyL S (zer 16) (zer 12) (zer 16) 0).toArray := by
  rw [built_eq]
  simp only [← iv_cells]
  have l0 : (kyL (zer 32) (zer 16) (zer 12) (zer 16) 0).length = 77 := kyL_len ⟨zer_len _, zer_len _, zer_len _, zer_len _, zer_byt _, zer_byt _, zer_byt _, zer_byt _⟩
  rw [fill_step (off := 0) (size := 32) _ rfl (by rw [iv_len, hs]) (by rw [l0]; decide), kyL_over.1 S (by rw [hs, zer_len])]
  rfl
theorem size_run {t : TypeId} {n : Nat} (h : (Try.prog.info? t).map (·.size) = some n) (w : World) : (sizeOf t).run Try.prog w = .ok n w := by
  cases hq : Try.prog.info? t with
  | none => simp [hq] at h
  | some i => simp [hq] at h; simp [sizeOf, typeInfo, hq, h]
theorem keys_fields : (Try.prog.fieldsOf 27).toList.map (fun f => (f.name != "_", f.type, f.offset)) = [(true, 22, 0), (true, 23, 32), (true, 24, 48), (true, 23, 60), (true, 25, 76)] := by kernel_rfl
theorem keys_fine : Try.prog.underlying 27 = some (.struct (Try.prog.fieldsOf 27)) := by kernel_rfl
theorem keys_held : Try.prog.stoodInHeld 27 = false := by kernel_rfl
theorem five {α : Type} {l : List α} (h : l.length = 5) : ∃ a b c d e, l = [a, b, c, d, e] := by
  match l, h with
  | [a, b, c, d, e], _ => exact ⟨a, b, c, d, e, rfl⟩
theorem keys_five : ∃ f0 f1 f2 f3 f4 : Field, (Try.prog.fieldsOf 27).toList = [f0, f1, f2, f3, f4] ∧ (f0.name ≠ "_" ∧ f0.type = 22 ∧ f0.offset = 0) ∧ (f1.name ≠ "_" ∧ f1.type = 23 ∧ f1.offset = 32) ∧ (f2.name ≠ "_" ∧ f2.type = 24 ∧ f2.offset = 48) ∧ (f3.name ≠ "_" ∧ f3.type = 23 ∧ f3.offset = 60) ∧ (f4.name ≠ "_" ∧ f4.type = 25 ∧ f4.offset = 76) := by
  have hf := keys_fields
  generalize (Try.prog.fieldsOf 27).toList = fs at hf ⊢
  have hl : fs.length = 5 := by have := congrArg List.length hf; rw [List.length_map] at this; exact this
  obtain ⟨f0, f1, f2, f3, f4, rfl⟩ := five hl
  simp only [List.map_cons, List.map_nil, List.cons.injEq, Prod.mk.injEq, and_true, bne_iff_ne] at hf
  exact ⟨f0, f1, f2, f3, f4, rfl, hf⟩
section
variable {S K I H : List Int} {p : Int}
theorem keys_p0 (h : KyOk S K I H) (w : World) : (part 22 (kyL S K I H p).toArray 0).run Try.prog w = .ok (.agg (cellsL .u8 S)) w := part_mid (A := []) w Try.underlying22 (size_run size32) rfl h.s
theorem keys_p1 (h : KyOk S K I H) (w : World) : (part 23 (kyL S K I H p).toArray 32).run Try.prog w = .ok (.agg (cellsL .u8 K)) w := part_mid w Try.underlying23 (size_run size16) (by rw [iv_len, h.s]) h.k
theorem keys_p2 (h : KyOk S K I H) (w : World) : (part 24 (kyL S K I H p).toArray 48).run Try.prog w = .ok (.agg (cellsL .u8 I)) w := by
  unfold kyL
  rw [← List.append_assoc (iv .u8 S)]
  exact part_mid w Try.underlying24 (size_run size12) (by simp [iv_len, h.s, h.k]) h.i
theorem keys_p3 (h : KyOk S K I H) (w : World) : (part 23 (kyL S K I H p).toArray 60).run Try.prog w = .ok (.agg (cellsL .u8 H)) w := by
  unfold kyL
  rw [← List.append_assoc (iv .u8 S), ← List.append_assoc (iv .u8 S ++ _)]
  exact part_mid w Try.underlying23 (size_run size16) (by simp [iv_len, h.s, h.k, h.i]) h.h
theorem keys_at76 (h : KyOk S K I H) : (kyL S K I H p)[76]? = some (.int .u64 p) := by
  unfold kyL
  rw [← List.append_assoc, ← List.append_assoc, ← List.append_assoc]
  have hl : (((iv .u8 S ++ iv .u8 K) ++ iv .u8 I) ++ iv .u8 H).length = 76 := by simp [iv_len, h.s, h.k, h.i, h.h]
  rw [List.getElem?_append_right (by rw [hl]; exact Nat.le_refl _), hl]
  rfl
theorem part_int {t : TypeId} {k : IntKind} {cs : List Value} {i : Nat} {v : Value} (ht : Try.prog.underlying t = some (.int k)) (hv : cs[i]? = some v) (w : World) : (part t cs.toArray i).run Try.prog w = .ok v w := by
  simp [part, isAgg, run_underlying ht, hv]
theorem keys_p4 (h : KyOk S K I H) (w : World) : (part 25 (kyL S K I H p).toArray 76).run Try.prog w = .ok (.int .u64 p) w := part_int Try.underlying25 (keys_at76 h) w
end
theorem eqF_cons {d : Nat} {xs ys : Array Value} {f : Field} {fs : List Field} {t : TypeId} {o : Nat} {x y : Value} {w : World} (hn : f.name ≠ "_") (ht : f.type = t) (ho : f.offset = o) (hx : (part t xs o).run Try.prog w = .ok x w) (hy : (part t ys o).run Try.prog w = .ok y w)
    (he : (Op.equalIn d t x y).run Try.prog w = .ok true w) (hr : (Op.eqFields d xs ys fs).run Try.prog w = .ok true w) : (Op.eqFields d xs ys (f :: fs)).run Try.prog w = .ok true w := by
  subst ht; subst ho
  simp only [Op.eqFields, hn, ne_eq, not_false_eq_true, if_true, Sem.run_bind, hx, hy, he, hr, Result.andThen_ok, Bool.not_true, Bool.false_eq_true, if_false]
theorem keys_eqF (d : Nat) {S K I H : List Int} {p : Int} (h : KyOk S K I H) (w : World) : (Op.eqFields (d + 2) (kyL S K I H p).toArray (kyL S K I H p).toArray (Try.prog.fieldsOf 27).toList).run Try.prog w = .ok true w := by
  obtain ⟨f0, f1, f2, f3, f4, hfs, ⟨n0, t0, o0⟩, ⟨n1, t1, o1⟩, ⟨n2, t2, o2⟩, ⟨n3, t3, o3⟩, n4, t4, o4⟩ := keys_five
  rw [hfs]
  refine eqF_cons n0 t0 o0 (keys_p0 h w) (keys_p0 h w) (eqIn_self d w Try.underlying22 Try.underlying5 elU8.size h.bs h.s) ?_
  refine eqF_cons n1 t1 o1 (keys_p1 h w) (keys_p1 h w) (eqIn_self d w Try.underlying23 Try.underlying5 elU8.size h.bk h.k) ?_
  refine eqF_cons n2 t2 o2 (keys_p2 h w) (keys_p2 h w) (eqIn_self d w Try.underlying24 Try.underlying5 elU8.size h.bi h.i) ?_
  refine eqF_cons n3 t3 o3 (keys_p3 h w) (keys_p3 h w) (eqIn_self d w Try.underlying23 Try.underlying5 elU8.size h.bh h.h) ?_
  refine eqF_cons n4 t4 o4 (keys_p4 h w) (keys_p4 h w) ?_ (by simp [Op.eqFields])
  rw [run_equalIn_int w (d + 1) 25 .u64 .u64 p p Try.underlying25]
  simp
/-- keys are as themselves -/
theorem keys_eqIn (d : Nat) {S K I H : List Int} {p : Int} (h : KyOk S K I H) (w : World) : (Op.equalIn (d + 3) 27 (kyV S K I H p) (kyV S K I H p)).run Try.prog w = .ok true w := by
  unfold kyV
  rw [run_equalIn_struct w (d + 2) _ _ _ keys_fine keys_held, keys_eqF d h w]
theorem eql_of_eqIn {t : TypeId} {xs ys : Array Value} {b : Bool} (h : ∀ d w, (Op.equalIn (d + 3) t (.agg xs) (.agg ys)).run Try.prog w = .ok b w) (w : World) : (binOp .eql t (.agg xs) (.agg ys)).run Try.prog w = .ok (.bool b) w := by
  rw [run_eql_struct, h 9997 w, Result.andThen_ok]
theorem eql_keys {S K I H : List Int} {p : Int} (h : KyOk S K I H) (w : World) : (binOp .eql 27 (kyV S K I H p) (kyV S K I H p)).run Try.prog w = .ok (.bool true) w :=
  eql_of_eqIn (fun d w => keys_eqIn d h w) w
end Go.Proofs.Ythpacdondnenmaa
