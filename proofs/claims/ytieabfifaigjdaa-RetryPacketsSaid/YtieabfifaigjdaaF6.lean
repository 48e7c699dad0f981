/- Layer 33: a keeper in memory; contracts of New, mac, Make. Conditions: as each theorem states them. -/
import Derived.Test.YtieabfifaigjdaaF5
import Derived.Test.YtieabfifaigjdaaJK
namespace Go.Proofs.Ytieabfifaigjdaa
open Go.RowKit
def kpZ : List Value := iv .u8 (nul 32) ++ [.int .u64 0]
def kpV (sec : List Int) (life : Int) : List Value := iv .u8 sec ++ [.int .u64 life]
theorem kp_eq (parts : List (Nat × Value)) : Try.prog.built 61 parts = Instr.fill ((#[(0, 32), (32, 1)] : Array (Nat × Nat))[·]?) kpZ.toArray parts := by kernel_rfl
theorem kp_built {sec : List Int} (h : sec.length = 32) (life : Int) : Try.prog.built 61 [(0, .agg (cellsL .u8 sec)), (1, .int .u64 life)] = some (kpV sec life).toArray := by
  rw [kp_eq]
  simp only [← iv_cells]
  rw [fill_step (off := 0) (size := 32) _ rfl (by rw [iv_len, h]) (by simp [kpZ, iv_len, nul_len])]
  have e1 : ovl kpZ 0 (iv .u8 sec) = iv .u8 sec ++ [.int .u64 0] := by
    have := over_at (A := []) (B := iv .u8 (nul 32)) (C := [.int .u64 0]) (vs := iv .u8 sec) (o := 0) rfl (by rw [iv_len, iv_len, h, nul_len])
    simpa [kpZ] using this
  have ha : ∀ rest, Instr.fill ((#[(0, 32), (32, 1)] : Array (Nat × Nat))[·]?) (iv .u8 sec ++ [Value.int .u64 0]).toArray ((1, Value.int .u64 life) :: rest) = Instr.fill ((#[(0, 32), (32, 1)] : Array (Nat × Nat))[·]?) (iv .u8 sec ++ [Value.int .u64 0]).toArray ((1, .agg (#[Value.int .u64 life] : Array Value)) :: rest) := fun rest => fill_agg _ _ _ _ _
  rw [e1, ha, show (#[Value.int .u64 life] : Array Value) = ([Value.int .u64 life]).toArray from rfl, fill_step (off := 32) (size := 1) _ rfl rfl (by simp [iv_len, h])]
  have e2 : ovl (iv .u8 sec ++ [Value.int .u64 0]) 32 [Value.int .u64 life] = kpV sec life := by
    have := over_at (A := iv .u8 sec) (B := [Value.int .u64 0]) (C := []) (vs := [Value.int .u64 life]) (o := 32) (by rw [iv_len, h]) rfl
    simpa [kpV] using this
  rw [e2, Instr.fill]
/-- a keeper -/
def Kp (w : World) (g : Nat) (sec : List Int) (life : Int) : Prop := Blk w g 61 (kpV sec life).toArray
theorem Kp.rd {w : World} {g : Nat} {sec : List Int} {life : Int} (h : Kp w g sec life) : Rd w.heap.size .u8 w (some ⟨g, 0, none⟩) sec := fun i hi => by
  refine ⟨_, rfl, Blk.lt h, ?_⟩
  rw [add_zero_addr, Blk.cell h i]
  have : (kpV sec life)[i]? = some (.int .u8 (sec.getD i 0)) := by
    unfold kpV
    rw [List.getElem?_append_left (by rw [iv_len]; exact hi)]
    unfold iv
    rw [List.getElem?_map, List.getElem?_eq_getElem hi, List.getD_eq_getElem?_getD, List.getElem?_eq_getElem hi]
    rfl
  simpa using this
theorem Kp.life {w : World} {g : Nat} {sec : List Int} {life : Int} (h : Kp w g sec life) (hs : sec.length = 32) : w.cell? ⟨g, 32, none⟩ = some (.int .u64 life) := by
  rw [Blk.cell h 32]
  have : (kpV sec life)[32]? = some (.int .u64 life) := by
    unfold kpV
    rw [List.getElem?_append_right (by rw [iv_len, hs]; exact Nat.le_refl _), iv_len, hs]
    rfl
  simpa using this
theorem size35 : (Try.prog.info? 35).map (·.size) = some 32 := by kernel_rfl
set_option maxRecDepth 100000 in
set_option maxHeartbeats 2000000 in
theorem new_any (sec : List Int) (life : Int) (w : World) (hs : sec.length = 32) :
    Calls Try.prog 13 #[.agg (cellsL .u8 sec), .int .u64 life] w fun e w' => ∃ g, e = .returned (.pointer (some ⟨g, 0, none⟩)) ∧ Kp w' g sec life ∧ w.heap.size ≤ g ∧ Below w.heap.size w w' := by
  have KB := Lib.hid (kp_built hs life)
  have Z0 : Hid (Arr (w.alloc (.cells (cellsL .u8 sec) 35)) w.heap.size 35 .u8 sec) := Lib.hid (Arr.newAt rfl rfl)
  have HS := Lib.hid hs
  clear hs
  go_enter Try.func13, Try.ntmps13
  go_wp2_with (first
    | ((with_reducible (show wpList _ _ _ (⟨some 5, .load _ _, _, _, _, _⟩ :: _) _ _)); refine wpList_loadV (o := ⟨some 5, .load _ _, _, _, _, _⟩) rfl _ rfl rfl (arr_load Z0.out Try.underlying35 size35 HS.out.symm) ?_)
    | ((with_reducible (show wpList _ _ _ (⟨some 7, .build _ _, _, _, _, _⟩ :: _) _ _)); refine wpList_buildV (o := ⟨some 7, .build _ _, _, _, _, _⟩) rfl _ rfl KB.out ?_))
  go_ret
  refine ⟨w.heap.size + 1, rfl, ?_, by omega, ((Below.refl _ _).alloc (Nat.le_refl _) _).alloc (by simp) _⟩
  have h := Blk.new (w.alloc (.cells (cellsL .u8 sec) 35)) 61 (kpV sec life).toArray
  rw [World.size_alloc] at h
  exact h
end Go.Proofs.Ytieabfifaigjdaa
