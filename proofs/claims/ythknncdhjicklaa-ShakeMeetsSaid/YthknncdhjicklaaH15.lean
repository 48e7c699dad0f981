/- Layer 21: words: a message's body as a slice; what is said, appended. Conditions: as each theorem states them. -/
import Derived.Test.YthknncdhjicklaaH14
namespace Go.Proofs.Ythknncdhjicklaa
open Go.RowKit
theorem slice_lhB {P : Program} {t e : TypeId} {k : IntKind} {bytes : Nat} {B : Nat} {w : World} {A : Option Addr} {xs : List Int} {c n : Nat} (E : ElT P t e k bytes) (hr : Rd B k w A xs) (hn : xs.length = n) (hc : n ≤ c) (l h : Int) (m : Nat) (h0 : 0 ≤ l) (h1 : l ≤ h) (h2 : h ≤ n) (hm : (m : Int) = h - l) :
    ∃ A' c', m ≤ c' ∧ Rd B k w A' ((xs.drop l.toNat).take m) ∧ (∀ ad', A' = some ad' → ∃ ad, A = some ad ∧ ad'.block = ad.block) ∧
      ∀ (w : World) (kl kh : IntKind), (Instr.sliceAt t (.slice A n c) (some (.int kl l)) (some (.int kh h)) none).run P w = .ok (.slice A' m c') w := by
  subst hn
  refine ⟨_, c - l.toNat, by omega, hr.cut l.toNat m c (by omega) hc, fun ad' q => ?_, fun w kl kh => ?_⟩
  · split at q
    · exact ⟨ad', q, rfl⟩
    · rcases A with _ | ad
      · cases q
      · simp only [Option.map_some, Option.some.injEq] at q
        exact ⟨ad, rfl, by rw [← q, block_of_add]⟩
  · rw [run_sliceAt_slice _ _ _ _ _ _ (by rw [E.elem]; exact E.ht), run_slice_lh _ _ _ _ _ (by rw [E.elem]; exact E.ht) kl kh l h h0 h1 (by omega), E.elem, E.size]
    simp [Result.andThen, sliced, show h.toNat - l.toNat = m by omega]
theorem infoSd : (Try.prog.info? 31).map (fun i => (i.zero, i.size, i.bytes)) = some (some (.agg #[.int .u8 0, .slice none 0 0]), 2, 32) := by kernel_rfl
theorem sizeSd : (Try.prog.info? 31).map (·.size) = some 2 := by kernel_rfl
theorem SX.Ok.fr {w w' : World} {x : SX} (h : x.Ok w) (hb : Below w.heap.size w w' ∨ ∃ b cs, w.grownBy w' (some b) ∧ Blk w b 31 cs) : x.Ok w' := by
  rcases hb with hb | ⟨b, cs, hg, hk⟩
  · exact h.below hb
  · exact h.grown hg (hk.notT (by decide))
theorem ShB.fr {g : Nat} {w w' : World} {p : PS} {vp vq v0 v1 vt : Value} (h : ShB g w p vp vq v0 v1 vt) (hb : Below w.heap.size w w' ∨ ∃ b cs, w.grownBy w' (some b) ∧ Blk w b 31 cs) : ShB g w' p vp vq v0 v1 vt := by
  rcases hb with hb | ⟨b, cs, hg, hk⟩
  · exact h.below hb
  · exact h.grown hg hk (Blk.ne_ hk h.blk (by decide)) (by decide)
theorem SdR.form {B : Nat} {w : World} {v : Value} {l : List SX} (h : SdR B w v l) : ∃ A c, v = .slice A l.length c ∧ Reads w w.heap.size 2 A l.length (vsS l) := by
  obtain ⟨A, c, e, _⟩ := own_form h.1
  subst e
  exact ⟨A, c, rfl, Reads.of_own h.1⟩
theorem wpList_appS {w : World} {ops : Array Oper} {rest : List Oper} {o : Oper} {a : Act} {Q : Exit → Act → World → Prop} {B B2 m c2 : Nat} {v : Value} {A2 : Option Addr} {ts us : List SX} (hgd : o.guard = none) (s x : Operand)
    (ho : o.op = .call { callee := .builtin .append, args := #[s, x], argTypes := #[29, 29] }) (hs : a.eval s = v) (hx : a.eval x = .slice A2 m c2) (hO : SdR B w v ts) (hr : SdR B2 w (.slice A2 m c2) us)
    (hl : ts.length + us.length ≤ 1000000) (hB : B ≤ w.heap.size) (h : ∀ v' w', SdR B w' v' (ts ++ us) → (Below w.heap.size w w' ∨ ∃ b cs, w.grownBy w' (some b) ∧ Blk w b 31 cs) → Below B w w' → wpList Try.prog ops Q rest (a.put o.dst v') w') : wpList Try.prog ops Q (o :: rest) a w := by
  obtain ⟨A', c', e, hrd⟩ := hr.form
  injection e with e1 e2 e3
  subst e1 e2 e3
  obtain ⟨i, hi, hz, hsz, hby⟩ := info_parts infoSd
  refine wpList_append_any w hgd s x _ ho B 31 i _ 2 32 Try.underlying29 hi hz hsz hby rfl (by decide) _ _ _ hs hO.1 w.heap.size A2 us.length c2 _ hx hrd vsS_one (by unfold maxLen; omega) (by omega) hB ?_
  intro v' w' h1 h2 _
  have hfr := row_block hO.1 h2
  refine h v' w' ⟨by rw [List.length_append, vsS_app]; exact h1, fun y hy => ?_⟩ hfr (below_own hO.1 h2 hB)
  rcases List.mem_append.1 hy with hy | hy
  · exact (hO.2 y hy).fr hfr
  · exact (hr.2 y hy).fr hfr
theorem grown_low {a b c : World} {row : Option Nat} (h : a.grownBy b row) (hb : Below a.heap.size b c) : a.grownBy c row :=
  ⟨hb.os.trans h.os, hb.tape.trans h.tape, hb.output.trans h.output, Nat.le_trans h.size hb.size, fun i hi hne => (hb.block i hi).trans (h.block i hi hne)⟩
theorem answer_k (g : Nat) (p : PS) (vp vq v0 v1 vt : Value) (A : Option Addr) (n c : Nat) (b : List Int) (A2 : Option Addr) (k c2 : Nat) (body : List Int) (w : World) (h : ShB g w p vp vq v0 v1 vt) (hr : RdF g w A b) (hn : b.length = n) (hb : Byt b) (hr2 : RdF g w A2 body) (hn2 : body.length = k) (hk : k = 32) (hb2 : Byt body) (hl : n ≤ 100000) (ht : p.tr.length ≤ 100000) :
    Calls Try.prog 17 #[.pointer (some ⟨g, 0, none⟩), .slice A n c, .slice A2 k c2] w fun e w' => e = .returned (.tuple #[.slice none 0 0, .int .i64 0]) ∧ (∃ vt', ShB g w' (p.answer b body) vp vq v0 v1 vt') ∧ w.grownBy w' (some g) := by
  subst hk; exact answer_any g p vp vq v0 v1 vt A n c b A2 c2 body w h hr hn hb hr2 hn2 hb2 hl ht
theorem client_k (g : Nat) (p : PS) (vp vq v0 v1 vt : Value) (A : Option Addr) (n c : Nat) (A2 : Option Addr) (k c2 : Nat) (body : List Int) (w : World) (h : ShB g w p vp vq v0 v1 vt) (hr2 : Rd w.heap.size .u8 w A2 body) (hk : k = 32) (hbd : body = proL p.c0 p.tr) (ht : p.tr.length ≤ 100000) :
    Calls Try.prog 16 #[.pointer (some ⟨g, 0, none⟩), .slice A n c, .slice A2 k c2] w fun e w' => e = .returned (.tuple #[.slice none 0 0, .int .i64 0]) ∧ ShB g w' { p with st := 100 } vp vq v0 v1 vt ∧ w.grownBy w' (some g) := by
  subst hk; exact client_any g p vp vq v0 v1 vt A n c A2 c2 body w h hr2 hbd ht
end Go.Proofs.Ythknncdhjicklaa
