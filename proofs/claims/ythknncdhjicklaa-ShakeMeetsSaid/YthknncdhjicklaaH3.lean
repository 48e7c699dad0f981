/- Layer 21: a handshake's fields in memory, read and put anew. Conditions: as each theorem states them. -/
import Derived.Test.YthknncdhjicklaaH2
namespace Go.Proofs.Ythknncdhjicklaa
open Go.RowKit
section
variable {g : Nat} {w : World} {p : PS} {vp vq v0 v1 vt : Value}
theorem ShB.at_psk (h : ShB g w p vp vq v0 v1 vt) : Blk w g 43 (([Value.bool p.sv, Value.int .u8 p.st]) ++ (b8 p.psk ++ (b8 p.rnd ++ (b8 p.peer ++ ([vp, vq, v0, v1, vt] ++ (b8 p.c0 ++ (b8 p.c1 ++ (b8 p.a0 ++ (b8 p.a1))))))))).toArray := h.blk.cast (by simp [shV])
theorem ShB.ld_psk (h : ShB g w p vp vq v0 v1 vt) : (Instr.loadAt 22 (.pointer (some ⟨g, 2, none⟩))).run Try.prog w = .ok (.agg (cellsL .u8 p.psk)) w := sh_ld h.at_psk rfl h.ok.psk
theorem ShB.rd_psk (h : ShB g w p vp vq v0 v1 vt) : Rd w.heap.size .u8 w (some ⟨g, 2, none⟩) p.psk := sh_rd h.at_psk rfl
theorem ShB.st_psk (h : ShB g w p vp vq v0 v1 vt) (y : List Int) (hy : y.length = 32) (hb : Byt y) : ∃ w', (Instr.storeAt 22 (.pointer (some ⟨g, 2, none⟩)) (.agg (cellsL .u8 y))).run Try.prog w = .ok () w' ∧ ShB g w' { p with psk := y } vp vq v0 v1 vt ∧ w.grownBy w' (some g) := by
  obtain ⟨w', h1, h2, h3⟩ := sh_st (o := 2) h.at_psk rfl h.ok.psk hy
  refine ⟨w', h1, h.turn h3 (h2.cast (by simp [shV])) h.par h.pp h.i0 h.i1 h.tr ?_, h3⟩
  exact { h.ok with psk := hy, bpsk := hb }
theorem ShB.at_rnd (h : ShB g w p vp vq v0 v1 vt) : Blk w g 43 (([Value.bool p.sv, Value.int .u8 p.st] ++ b8 p.psk) ++ (b8 p.rnd ++ (b8 p.peer ++ ([vp, vq, v0, v1, vt] ++ (b8 p.c0 ++ (b8 p.c1 ++ (b8 p.a0 ++ (b8 p.a1)))))))).toArray := h.blk.cast (by simp [shV])
theorem ShB.ld_rnd (h : ShB g w p vp vq v0 v1 vt) : (Instr.loadAt 22 (.pointer (some ⟨g, 34, none⟩))).run Try.prog w = .ok (.agg (cellsL .u8 p.rnd)) w := sh_ld h.at_rnd (by have k := h.ok; simp [b8_len, k.psk]) h.ok.rnd
theorem ShB.rd_rnd (h : ShB g w p vp vq v0 v1 vt) : Rd w.heap.size .u8 w (some ⟨g, 34, none⟩) p.rnd := sh_rd h.at_rnd (by have k := h.ok; simp [b8_len, k.psk])
theorem ShB.st_rnd (h : ShB g w p vp vq v0 v1 vt) (y : List Int) (hy : y.length = 32) (hb : Byt y) : ∃ w', (Instr.storeAt 22 (.pointer (some ⟨g, 34, none⟩)) (.agg (cellsL .u8 y))).run Try.prog w = .ok () w' ∧ ShB g w' { p with rnd := y } vp vq v0 v1 vt ∧ w.grownBy w' (some g) := by
  obtain ⟨w', h1, h2, h3⟩ := sh_st (o := 34) h.at_rnd (by have k := h.ok; simp [b8_len, k.psk]) h.ok.rnd hy
  refine ⟨w', h1, h.turn h3 (h2.cast (by simp [shV])) h.par h.pp h.i0 h.i1 h.tr ?_, h3⟩
  exact { h.ok with rnd := hy, brnd := hb }
theorem ShB.at_peer (h : ShB g w p vp vq v0 v1 vt) : Blk w g 43 (([Value.bool p.sv, Value.int .u8 p.st] ++ b8 p.psk ++ b8 p.rnd) ++ (b8 p.peer ++ ([vp, vq, v0, v1, vt] ++ (b8 p.c0 ++ (b8 p.c1 ++ (b8 p.a0 ++ (b8 p.a1))))))).toArray := h.blk.cast (by simp [shV])
theorem ShB.ld_peer (h : ShB g w p vp vq v0 v1 vt) : (Instr.loadAt 22 (.pointer (some ⟨g, 66, none⟩))).run Try.prog w = .ok (.agg (cellsL .u8 p.peer)) w := sh_ld h.at_peer (by have k := h.ok; simp [b8_len, k.psk, k.rnd]) h.ok.peer
theorem ShB.rd_peer (h : ShB g w p vp vq v0 v1 vt) : Rd w.heap.size .u8 w (some ⟨g, 66, none⟩) p.peer := sh_rd h.at_peer (by have k := h.ok; simp [b8_len, k.psk, k.rnd])
theorem ShB.st_peer (h : ShB g w p vp vq v0 v1 vt) (y : List Int) (hy : y.length = 32) (hb : Byt y) : ∃ w', (Instr.storeAt 22 (.pointer (some ⟨g, 66, none⟩)) (.agg (cellsL .u8 y))).run Try.prog w = .ok () w' ∧ ShB g w' { p with peer := y } vp vq v0 v1 vt ∧ w.grownBy w' (some g) := by
  obtain ⟨w', h1, h2, h3⟩ := sh_st (o := 66) h.at_peer (by have k := h.ok; simp [b8_len, k.psk, k.rnd]) h.ok.peer hy
  refine ⟨w', h1, h.turn h3 (h2.cast (by simp [shV])) h.par h.pp h.i0 h.i1 h.tr ?_, h3⟩
  exact { h.ok with peer := hy, bpeer := hb }
theorem ShB.at_c0 (h : ShB g w p vp vq v0 v1 vt) : Blk w g 43 (([Value.bool p.sv, Value.int .u8 p.st] ++ b8 p.psk ++ b8 p.rnd ++ b8 p.peer ++ [vp, vq, v0, v1, vt]) ++ (b8 p.c0 ++ (b8 p.c1 ++ (b8 p.a0 ++ (b8 p.a1))))).toArray := h.blk.cast (by simp [shV])
theorem ShB.ld_c0 (h : ShB g w p vp vq v0 v1 vt) : (Instr.loadAt 22 (.pointer (some ⟨g, 103, none⟩))).run Try.prog w = .ok (.agg (cellsL .u8 p.c0)) w := sh_ld h.at_c0 (by have k := h.ok; simp [b8_len, k.psk, k.rnd, k.peer]) h.ok.c0
theorem ShB.rd_c0 (h : ShB g w p vp vq v0 v1 vt) : Rd w.heap.size .u8 w (some ⟨g, 103, none⟩) p.c0 := sh_rd h.at_c0 (by have k := h.ok; simp [b8_len, k.psk, k.rnd, k.peer])
theorem ShB.st_c0 (h : ShB g w p vp vq v0 v1 vt) (y : List Int) (hy : y.length = 32) (hb : Byt y) : ∃ w', (Instr.storeAt 22 (.pointer (some ⟨g, 103, none⟩)) (.agg (cellsL .u8 y))).run Try.prog w = .ok () w' ∧ ShB g w' { p with c0 := y } vp vq v0 v1 vt ∧ w.grownBy w' (some g) := by
  obtain ⟨w', h1, h2, h3⟩ := sh_st (o := 103) h.at_c0 (by have k := h.ok; simp [b8_len, k.psk, k.rnd, k.peer]) h.ok.c0 hy
  refine ⟨w', h1, h.turn h3 (h2.cast (by simp [shV])) h.par h.pp h.i0 h.i1 h.tr ?_, h3⟩
  exact { h.ok with c0 := hy, bc0 := hb }
theorem ShB.at_c1 (h : ShB g w p vp vq v0 v1 vt) : Blk w g 43 (([Value.bool p.sv, Value.int .u8 p.st] ++ b8 p.psk ++ b8 p.rnd ++ b8 p.peer ++ [vp, vq, v0, v1, vt] ++ b8 p.c0) ++ (b8 p.c1 ++ (b8 p.a0 ++ (b8 p.a1)))).toArray := h.blk.cast (by simp [shV])
theorem ShB.ld_c1 (h : ShB g w p vp vq v0 v1 vt) : (Instr.loadAt 22 (.pointer (some ⟨g, 135, none⟩))).run Try.prog w = .ok (.agg (cellsL .u8 p.c1)) w := sh_ld h.at_c1 (by have k := h.ok; simp [b8_len, k.psk, k.rnd, k.peer, k.c0]) h.ok.c1
theorem ShB.rd_c1 (h : ShB g w p vp vq v0 v1 vt) : Rd w.heap.size .u8 w (some ⟨g, 135, none⟩) p.c1 := sh_rd h.at_c1 (by have k := h.ok; simp [b8_len, k.psk, k.rnd, k.peer, k.c0])
theorem ShB.st_c1 (h : ShB g w p vp vq v0 v1 vt) (y : List Int) (hy : y.length = 32) (hb : Byt y) : ∃ w', (Instr.storeAt 22 (.pointer (some ⟨g, 135, none⟩)) (.agg (cellsL .u8 y))).run Try.prog w = .ok () w' ∧ ShB g w' { p with c1 := y } vp vq v0 v1 vt ∧ w.grownBy w' (some g) := by
  obtain ⟨w', h1, h2, h3⟩ := sh_st (o := 135) h.at_c1 (by have k := h.ok; simp [b8_len, k.psk, k.rnd, k.peer, k.c0]) h.ok.c1 hy
  refine ⟨w', h1, h.turn h3 (h2.cast (by simp [shV])) h.par h.pp h.i0 h.i1 h.tr ?_, h3⟩
  exact { h.ok with c1 := hy, bc1 := hb }
theorem ShB.at_a0 (h : ShB g w p vp vq v0 v1 vt) : Blk w g 43 (([Value.bool p.sv, Value.int .u8 p.st] ++ b8 p.psk ++ b8 p.rnd ++ b8 p.peer ++ [vp, vq, v0, v1, vt] ++ b8 p.c0 ++ b8 p.c1) ++ (b8 p.a0 ++ (b8 p.a1))).toArray := h.blk.cast (by simp [shV])
theorem ShB.ld_a0 (h : ShB g w p vp vq v0 v1 vt) : (Instr.loadAt 22 (.pointer (some ⟨g, 167, none⟩))).run Try.prog w = .ok (.agg (cellsL .u8 p.a0)) w := sh_ld h.at_a0 (by have k := h.ok; simp [b8_len, k.psk, k.rnd, k.peer, k.c0, k.c1]) h.ok.a0
theorem ShB.rd_a0 (h : ShB g w p vp vq v0 v1 vt) : Rd w.heap.size .u8 w (some ⟨g, 167, none⟩) p.a0 := sh_rd h.at_a0 (by have k := h.ok; simp [b8_len, k.psk, k.rnd, k.peer, k.c0, k.c1])
theorem ShB.st_a0 (h : ShB g w p vp vq v0 v1 vt) (y : List Int) (hy : y.length = 32) (hb : Byt y) : ∃ w', (Instr.storeAt 22 (.pointer (some ⟨g, 167, none⟩)) (.agg (cellsL .u8 y))).run Try.prog w = .ok () w' ∧ ShB g w' { p with a0 := y } vp vq v0 v1 vt ∧ w.grownBy w' (some g) := by
  obtain ⟨w', h1, h2, h3⟩ := sh_st (o := 167) h.at_a0 (by have k := h.ok; simp [b8_len, k.psk, k.rnd, k.peer, k.c0, k.c1]) h.ok.a0 hy
  refine ⟨w', h1, h.turn h3 (h2.cast (by simp [shV])) h.par h.pp h.i0 h.i1 h.tr ?_, h3⟩
  exact { h.ok with a0 := hy, ba0 := hb }
theorem ShB.at_a1 (h : ShB g w p vp vq v0 v1 vt) : Blk w g 43 (([Value.bool p.sv, Value.int .u8 p.st] ++ b8 p.psk ++ b8 p.rnd ++ b8 p.peer ++ [vp, vq, v0, v1, vt] ++ b8 p.c0 ++ b8 p.c1 ++ b8 p.a0) ++ (b8 p.a1 ++ ([]))).toArray := h.blk.cast (by simp [shV])
theorem ShB.ld_a1 (h : ShB g w p vp vq v0 v1 vt) : (Instr.loadAt 22 (.pointer (some ⟨g, 199, none⟩))).run Try.prog w = .ok (.agg (cellsL .u8 p.a1)) w := sh_ld h.at_a1 (by have k := h.ok; simp [b8_len, k.psk, k.rnd, k.peer, k.c0, k.c1, k.a0]) h.ok.a1
theorem ShB.rd_a1 (h : ShB g w p vp vq v0 v1 vt) : Rd w.heap.size .u8 w (some ⟨g, 199, none⟩) p.a1 := sh_rd h.at_a1 (by have k := h.ok; simp [b8_len, k.psk, k.rnd, k.peer, k.c0, k.c1, k.a0])
theorem ShB.st_a1 (h : ShB g w p vp vq v0 v1 vt) (y : List Int) (hy : y.length = 32) (hb : Byt y) : ∃ w', (Instr.storeAt 22 (.pointer (some ⟨g, 199, none⟩)) (.agg (cellsL .u8 y))).run Try.prog w = .ok () w' ∧ ShB g w' { p with a1 := y } vp vq v0 v1 vt ∧ w.grownBy w' (some g) := by
  obtain ⟨w', h1, h2, h3⟩ := sh_st (o := 199) h.at_a1 (by have k := h.ok; simp [b8_len, k.psk, k.rnd, k.peer, k.c0, k.c1, k.a0]) h.ok.a1 hy
  refine ⟨w', h1, h.turn h3 (h2.cast (by simp [shV])) h.par h.pp h.i0 h.i1 h.tr ?_, h3⟩
  exact { h.ok with a1 := hy, ba1 := hb }
theorem ShB.set_st (h : ShB g w p vp vq v0 v1 vt) (x : Int) : ShB g (w.setCell ⟨g, 1, none⟩ (.int .u8 x)) { p with st := x } vp vq v0 v1 vt := by
  have h1 : Blk w g 43 ([Value.bool p.sv] ++ (.int .u8 p.st :: (shV p vp vq v0 v1 vt).drop 2)).toArray := h.blk.cast (by simp [shV])
  exact h.turn (only_setCell (World.grownBy.refl _ _) (.inl rfl) _) ((sh_one (v := .int .u8 x) h1 rfl).cast (by simp [shV])) h.par h.pp h.i0 h.i1 h.tr { h.ok with }
theorem ShB.set_par (h : ShB g w p vp vq v0 v1 vt) {v : Value} {L : List Int} (hv : SlT w v L) (hb : Byt L) : ShB g (w.setCell ⟨g, 98, none⟩ v) { p with par := L } v vq v0 v1 vt := by
  have h1 : Blk w g 43 (([Value.bool p.sv, Value.int .u8 p.st] ++ b8 p.psk ++ b8 p.rnd ++ b8 p.peer) ++ (vp :: ([vq, v0, v1, vt] ++ (b8 p.c0 ++ (b8 p.c1 ++ (b8 p.a0 ++ b8 p.a1)))))).toArray := h.blk.cast (by simp [shV])
  exact h.turn (only_setCell (World.grownBy.refl _ _) (.inl rfl) _) ((sh_one (v := v) h1 (by have k := h.ok; simp [b8_len, k.psk, k.rnd, k.peer])).cast (by simp [shV])) hv h.pp h.i0 h.i1 h.tr { h.ok with bpar := hb }
theorem ShB.set_pp (h : ShB g w p vp vq v0 v1 vt) {v : Value} {L : List Int} (hv : SlT w v L) (hb : Byt L) : ShB g (w.setCell ⟨g, 99, none⟩ v) { p with pp := L } vp v v0 v1 vt := by
  have h1 : Blk w g 43 (([Value.bool p.sv, Value.int .u8 p.st] ++ b8 p.psk ++ b8 p.rnd ++ b8 p.peer ++ [vp]) ++ (vq :: ([v0, v1, vt] ++ (b8 p.c0 ++ (b8 p.c1 ++ (b8 p.a0 ++ b8 p.a1)))))).toArray := h.blk.cast (by simp [shV])
  exact h.turn (only_setCell (World.grownBy.refl _ _) (.inl rfl) _) ((sh_one (v := v) h1 (by have k := h.ok; simp [b8_len, k.psk, k.rnd, k.peer])).cast (by simp [shV])) h.par hv h.i0 h.i1 h.tr { h.ok with bpp := hb }
theorem ShB.set_i0 (h : ShB g w p vp vq v0 v1 vt) {v : Value} {L : List Int} (hv : SlT w v L) (hb : Byt L) : ShB g (w.setCell ⟨g, 100, none⟩ v) { p with i0 := L } vp vq v v1 vt := by
  have h1 : Blk w g 43 (([Value.bool p.sv, Value.int .u8 p.st] ++ b8 p.psk ++ b8 p.rnd ++ b8 p.peer ++ [vp, vq]) ++ (v0 :: ([v1, vt] ++ (b8 p.c0 ++ (b8 p.c1 ++ (b8 p.a0 ++ b8 p.a1)))))).toArray := h.blk.cast (by simp [shV])
  exact h.turn (only_setCell (World.grownBy.refl _ _) (.inl rfl) _) ((sh_one (v := v) h1 (by have k := h.ok; simp [b8_len, k.psk, k.rnd, k.peer])).cast (by simp [shV])) h.par h.pp hv h.i1 h.tr { h.ok with bi0 := hb }
theorem ShB.set_i1 (h : ShB g w p vp vq v0 v1 vt) {v : Value} {L : List Int} (hv : SlT w v L) (hb : Byt L) : ShB g (w.setCell ⟨g, 101, none⟩ v) { p with i1 := L } vp vq v0 v vt := by
  have h1 : Blk w g 43 (([Value.bool p.sv, Value.int .u8 p.st] ++ b8 p.psk ++ b8 p.rnd ++ b8 p.peer ++ [vp, vq, v0]) ++ (v1 :: ([vt] ++ (b8 p.c0 ++ (b8 p.c1 ++ (b8 p.a0 ++ b8 p.a1)))))).toArray := h.blk.cast (by simp [shV])
  exact h.turn (only_setCell (World.grownBy.refl _ _) (.inl rfl) _) ((sh_one (v := v) h1 (by have k := h.ok; simp [b8_len, k.psk, k.rnd, k.peer])).cast (by simp [shV])) h.par h.pp h.i0 hv h.tr { h.ok with bi1 := hb }
theorem ShB.set_tr (h : ShB g w p vp vq v0 v1 vt) {v : Value} {L : List Int} (hv : SlT w v L) (hb : Byt L) : ShB g (w.setCell ⟨g, 102, none⟩ v) { p with tr := L } vp vq v0 v1 v := by
  have h1 : Blk w g 43 (([Value.bool p.sv, Value.int .u8 p.st] ++ b8 p.psk ++ b8 p.rnd ++ b8 p.peer ++ [vp, vq, v0, v1]) ++ (vt :: ([] ++ (b8 p.c0 ++ (b8 p.c1 ++ (b8 p.a0 ++ b8 p.a1)))))).toArray := h.blk.cast (by simp [shV])
  exact h.turn (only_setCell (World.grownBy.refl _ _) (.inl rfl) _) ((sh_one (v := v) h1 (by have k := h.ok; simp [b8_len, k.psk, k.rnd, k.peer])).cast (by simp [shV])) h.par h.pp h.i0 h.i1 hv { h.ok with btr := hb }
/-- what was said, both sides' -/
theorem ShB.ld_in (h : ShB g w p vp vq v0 v1 vt) : (Instr.loadAt 38 (.pointer (some ⟨g, 100, none⟩))).run Try.prog w = .ok (.agg #[v0, v1]) w := by
  have h1 : Blk w g 43 (([Value.bool p.sv, Value.int .u8 p.st] ++ b8 p.psk ++ b8 p.rnd ++ b8 p.peer ++ [vp, vq]) ++ ([v0, v1] ++ ([vt] ++ (b8 p.c0 ++ (b8 p.c1 ++ (b8 p.a0 ++ b8 p.a1)))))).toArray := h.blk.cast (by simp [shV])
  exact blk_loadMid (P := Try.prog) h1 (by have k := h.ok; simp [b8_len, k.psk, k.rnd, k.peer]) Try.underlying38 rfl (by kernel_rfl)
end
end Go.Proofs.Ythknncdhjicklaa
