/- Layer 21: the four messages of one key, fed piece by piece. Conditions: as each theorem states them. -/
import Derived.Test.YthknncdhjicklaaH23
namespace Go.Proofs.Ythknncdhjicklaa
open Go.RowKit
/-- one key, two random arrays, two parameters -/
structure Key (psk cr sr cp sp : List Int) : Prop where
  lpsk : psk.length = 32
  lcr : cr.length = 32
  lsr : sr.length = 32
  lcp : cp.length ≤ 1000
  lsp : sp.length ≤ 1000
  bpsk : Byt psk
  bcr : Byt cr
  bsr : Byt sr
  bcp : Byt cp
  bsp : Byt sp
theorem byt_append {a b : List Int} (h1 : Byt a) (h2 : Byt b) : Byt (a ++ b) := fun x hx => by
  rcases List.mem_append.1 hx with q | q
  · exact h1 x q
  · exact h2 x q
theorem FedPost.whole {g : Nat} {w' : World} {e : Ending} {M : List Int} {L : List (Int × List Int)} {p1 p2 : PS} (h : FedPost g w' e (([] : List Int) ++ M = M) L p1 p2) : ∃ v l B, e = .returned (.tuple #[v, .int .i64 0]) ∧ SdR B w' v l ∧ l.map SX.e = L ∧ ShM g w' p1 := by
  rcases h with ⟨_, h⟩ | ⟨h, _⟩
  · exact h
  · exact absurd (List.nil_append M) h
section
variable {psk cr sr cp sp : List Int}
theorem Key.bhel (K : Key psk cr sr cp sp) : Byt (mHel cr cp) := msgL_byt (by omega) (byt_append K.bcr K.bcp)
theorem Key.bans (K : Key psk cr sr cp sp) : Byt (mAns sr) := msgL_byt (by omega) K.bsr
theorem Key.bfin (K : Key psk cr sr cp sp) : Byt (mFin psk cr sr cp sp) := msgL_byt (by omega) (byt_append K.bsp (proL_byt _ _))
theorem Key.blas (_K : Key psk cr sr cp sp) : Byt (mLas psk cr sr cp sp) := msgL_byt (by omega) (proL_byt _ _)
theorem Key.fed {M P Y : List Int} (hM : Byt M) (hpre : ∃ j, P ++ Y = M.take j) : Byt Y := by
  obtain ⟨j, hj⟩ := hpre
  intro x hx
  exact hM x (List.mem_of_mem_take (hj ▸ List.mem_append_right P hx))
theorem key_h (K : Key psk cr sr cp sp) (g : Nat) (P Y : List Int) (A : Option Addr) (n c : Nat) (w : World) (h : ShM g w { PS.new true psk sr sp with i0 := P }) (hr : Rd w.heap.size .u8 w A Y) (hn : Y.length = n) (hpre : ∃ j, P ++ Y = (mHel cr cp).take j) :
    Calls Try.prog 7 #[.pointer (some ⟨g, 0, none⟩), .int .u8 0, .slice A n c] w fun e w' => w.grownBy w' (some g) ∧ FedPost g w' e (P ++ Y = mHel cr cp) [(0, mAns sr), (1, mFin psk cr sr cp sp)] (pS1 psk cr sr cp sp) { PS.new true psk sr sp with i0 := P ++ Y } := by
  have hl := hel_len (cp := cp) K.lcr
  have := step_h g (PS.new true psk sr sp) P Y (mHel cr cp) A n c w h rfl rfl rfl hr hn (Key.fed K.bhel hpre) hpre (msg_siz _ _ (by have := K.lcr; have := K.lcp; rw [List.length_append]; omega)) (msg_head _ _) (by show (0:Nat) ≤ _; omega) (by omega) (by have := K.lcp; omega) K.lsp
  rw [show ({ PS.new true psk sr sp with i0 := [] } : PS) = PS.new true psk sr sp from rfl, hello_eq K.lcr, hfin_eq K.lcr] at this
  exact this
theorem key_a (K : Key psk cr sr cp sp) (g : Nat) (P Y : List Int) (A : Option Addr) (n c : Nat) (w : World) (h : ShM g w { pC1 psk cr cp with i0 := P }) (hr : Rd w.heap.size .u8 w A Y) (hn : Y.length = n) (hpre : ∃ j, P ++ Y = (mAns sr).take j) :
    Calls Try.prog 7 #[.pointer (some ⟨g, 0, none⟩), .int .u8 0, .slice A n c] w fun e w' => w.grownBy w' (some g) ∧ FedPost g w' e (P ++ Y = mAns sr) [] (pC2 psk cr sr cp) { pC1 psk cr cp with i0 := P ++ Y } := by
  have hl := ans_len K.lsr
  have hh := hel_len (cp := cp) K.lcr
  have := step_a g (pC1 psk cr cp) P Y (mAns sr) A n c w h rfl rfl rfl hr hn (Key.fed K.bans hpre) hpre (msg_siz _ _ (by have := K.lsr; omega)) (msg_head _ _) (by show (mHel cr cp).length ≤ _; have := K.lcp; omega) hl
  rw [show ({ pC1 psk cr cp with i0 := [] } : PS) = pC1 psk cr cp from rfl, answer_eq] at this
  exact this
theorem key_f (K : Key psk cr sr cp sp) (g : Nat) (P Y : List Int) (A : Option Addr) (n c : Nat) (w : World) (h : ShM g w { pC2 psk cr sr cp with i1 := P }) (hr : Rd w.heap.size .u8 w A Y) (hn : Y.length = n) (hpre : ∃ j, P ++ Y = (mFin psk cr sr cp sp).take j) :
    Calls Try.prog 7 #[.pointer (some ⟨g, 0, none⟩), .int .u8 1, .slice A n c] w fun e w' => w.grownBy w' (some g) ∧ FedPost g w' e (P ++ Y = mFin psk cr sr cp sp) [(1, mLas psk cr sr cp sp)] (pC3 psk cr sr cp sp) { pC2 psk cr sr cp with i1 := P ++ Y } := by
  have hl := fin_len (psk := psk) (cr := cr) (sr := sr) (cp := cp) (sp := sp)
  have ht := two_len (cp := cp) K.lcr K.lsr
  have hsp := K.lsp
  have hcp := K.lcp
  have := step_f g (pC2 psk cr sr cp) P Y (mFin psk cr sr cp sp) A n c w h rfl rfl rfl hr hn (Key.fed K.bfin hpre) hpre (by omega) (by omega) (msg_siz _ _ (by rw [List.length_append, proL_len]; omega)) (msg_head _ _) (by show (tTwo cr sr cp).length ≤ _; omega) sp hsp K.bsp fin_body
  rw [show ({ pC2 psk cr sr cp with i1 := [] } : PS) = pC2 psk cr sr cp from rfl, finish_eq, las_eq] at this
  exact this
theorem key_c (K : Key psk cr sr cp sp) (g : Nat) (P Y : List Int) (A : Option Addr) (n c : Nat) (w : World) (h : ShM g w { pS1 psk cr sr cp sp with i1 := P }) (hr : Rd w.heap.size .u8 w A Y) (hn : Y.length = n) (hpre : ∃ j, P ++ Y = (mLas psk cr sr cp sp).take j) :
    Calls Try.prog 7 #[.pointer (some ⟨g, 0, none⟩), .int .u8 1, .slice A n c] w fun e w' => w.grownBy w' (some g) ∧ FedPost g w' e (P ++ Y = mLas psk cr sr cp sp) [] { pS1 psk cr sr cp sp with st := 100 } { pS1 psk cr sr cp sp with i1 := P ++ Y } := by
  have hl := las_len (psk := psk) (cr := cr) (sr := sr) (cp := cp) (sp := sp)
  have ht := thr_len (psk := psk) (cp := cp) (sp := sp) K.lcr K.lsr
  have hsp := K.lsp
  have hcp := K.lcp
  exact step_c g (pS1 psk cr sr cp sp) P Y (mLas psk cr sr cp sp) A n c w h rfl rfl rfl hr hn (Key.fed K.blas hpre) hpre (by omega) (by omega) (msg_siz _ _ (by rw [proL_len]; omega)) (msg_head _ _) (by show (tThr psk cr sr cp sp).length ≤ _; omega) las_body
end
end Go.Proofs.Ythknncdhjicklaa
