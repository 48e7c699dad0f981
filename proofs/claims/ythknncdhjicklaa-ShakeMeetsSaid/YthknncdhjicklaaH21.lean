/- Layer 21: the two sides of one key, as plain states. Conditions: as each theorem states them. -/
import Derived.Test.YthknncdhjicklaaH20
namespace Go.Proofs.Ythknncdhjicklaa
open Go.RowKit
theorem msg_drop (k : Int) (b : List Int) : (msgL k b).drop 4 = b := by rw [msgL_eq]; rfl
theorem msg_head (k : Int) (b : List Int) : (msgL k b).getD 0 0 = k := by rw [msgL_eq]; rfl
theorem msg_siz (k : Int) (b : List Int) (h : b.length < 16777216) : sizL (msgL k b) = (msgL k b).length := by
  have e1 : (msgL k b).getD 1 0 = (b.length : Int) / 65536 % 256 := by rw [msgL_eq]; rfl
  have e2 : (msgL k b).getD 2 0 = (b.length : Int) / 256 % 256 := by rw [msgL_eq]; rfl
  have e3 : (msgL k b).getD 3 0 = (b.length : Int) % 256 := by rw [msgL_eq]; rfl
  unfold sizL
  rw [e1, e2, e3, msgL_len, if_neg (by omega)]
  push_cast
  omega
section
variable (psk cr sr cp sp : List Int)
def mHel : List Int := msgL 1 (cr ++ cp)
def mAns : List Int := msgL 2 sr
def tTwo : List Int := mHel cr cp ++ mAns sr
def sA0 : List Int := secL (hsL psk cr sr) sSh (shaL (tTwo cr sr cp))
def sC0 : List Int := secL (hsL psk cr sr) sCh (shaL (tTwo cr sr cp))
def mFin : List Int := msgL 20 (sp ++ proL (sA0 psk cr sr cp) (tTwo cr sr cp ++ sp))
def tThr : List Int := tTwo cr sr cp ++ mFin psk cr sr cp sp
def sC1 : List Int := secL (masL (hsL psk cr sr)) sCa (shaL (tThr psk cr sr cp sp))
def sA1 : List Int := secL (masL (hsL psk cr sr)) sSa (shaL (tThr psk cr sr cp sp))
def mLas : List Int := msgL 20 (proL (sC0 psk cr sr cp) (tThr psk cr sr cp sp))
def pS1 : PS := ⟨true, 3, psk, sr, cr, sp, cp, [], [], tThr psk cr sr cp sp, sC0 psk cr sr cp, sC1 psk cr sr cp sp, sA0 psk cr sr cp, sA1 psk cr sr cp sp⟩
def pC1 : PS := ⟨false, 1, psk, cr, zer 32, cp, [], [], [], mHel cr cp, zer 32, zer 32, zer 32, zer 32⟩
def pC2 : PS := ⟨false, 2, psk, cr, sr, cp, [], [], [], tTwo cr sr cp, sC0 psk cr sr cp, zer 32, sA0 psk cr sr cp, zer 32⟩
def pC3 : PS := ⟨false, 100, psk, cr, sr, cp, sp, [], [], tThr psk cr sr cp sp, sC0 psk cr sr cp, sC1 psk cr sr cp sp, sA0 psk cr sr cp, sA1 psk cr sr cp sp⟩
theorem start_eq : (PS.new false psk cr cp).start = pC1 psk cr cp := rfl
variable {psk cr sr cp sp}
theorem hel_parts (hc : cr.length = 32) : ((mHel cr cp).drop 4).take 32 = cr ∧ ((mHel cr cp).drop 4).drop 32 = cp := by
  unfold mHel
  rw [msg_drop, ← hc, List.take_left, List.drop_left]
  exact ⟨rfl, rfl⟩
theorem hello1_eq (hc : cr.length = 32) : PS.hello1 (PS.new true psk sr sp) (mHel cr cp) ((mHel cr cp).drop 4) = ⟨true, 0, psk, sr, cr, sp, cp, [], [], tTwo cr sr cp, sC0 psk cr sr cp, zer 32, sA0 psk cr sr cp, zer 32⟩ := by
  unfold PS.hello1
  rw [(hel_parts hc).1, (hel_parts hc).2]
  rfl
theorem hfin_eq (hc : cr.length = 32) : PS.hfin (PS.new true psk sr sp) (mHel cr cp) ((mHel cr cp).drop 4) = mFin psk cr sr cp sp := by
  unfold PS.hfin
  rw [hello1_eq hc]
  rfl
theorem hello_eq (hc : cr.length = 32) : PS.hello (PS.new true psk sr sp) (mHel cr cp) ((mHel cr cp).drop 4) = pS1 psk cr sr cp sp := by
  unfold PS.hello
  rw [hello1_eq hc, hfin_eq hc]
  rfl
theorem answer_eq : PS.answer (pC1 psk cr cp) (mAns sr) ((mAns sr).drop 4) = pC2 psk cr sr cp := by
  unfold mAns
  rw [msg_drop]
  rfl
theorem fin_body : (mFin psk cr sr cp sp).drop 4 = sp ++ proL (pC2 psk cr sr cp).a0 ((pC2 psk cr sr cp).tr ++ sp) := by
  unfold mFin
  rw [msg_drop]
  rfl
theorem finish_eq : PS.finish (pC2 psk cr sr cp) (mFin psk cr sr cp sp) sp = pC3 psk cr sr cp sp := rfl
theorem las_eq : msgL 20 (proL (pC2 psk cr sr cp).c0 ((pC2 psk cr sr cp).tr ++ mFin psk cr sr cp sp)) = mLas psk cr sr cp sp := rfl
theorem las_body : (mLas psk cr sr cp sp).drop 4 = proL (pS1 psk cr sr cp sp).c0 (pS1 psk cr sr cp sp).tr := by
  unfold mLas
  rw [msg_drop]
  rfl
theorem hel_len (hc : cr.length = 32) : (mHel cr cp).length = cp.length + 36 := by unfold mHel; rw [msgL_len, List.length_append, hc]; omega
theorem ans_len (hs : sr.length = 32) : (mAns sr).length = 36 := by unfold mAns; rw [msgL_len, hs]
theorem fin_len : (mFin psk cr sr cp sp).length = sp.length + 36 := by unfold mFin; rw [msgL_len, List.length_append, proL_len]
theorem las_len : (mLas psk cr sr cp sp).length = 36 := by unfold mLas; rw [msgL_len, proL_len]
theorem two_len (hc : cr.length = 32) (hs : sr.length = 32) : (tTwo cr sr cp).length = cp.length + 72 := by unfold tTwo; rw [List.length_append, hel_len hc, ans_len hs]
theorem thr_len (hc : cr.length = 32) (hs : sr.length = 32) : (tThr psk cr sr cp sp).length = cp.length + sp.length + 108 := by unfold tThr; rw [List.length_append, two_len hc hs, fin_len]; omega
end
end Go.Proofs.Ythknncdhjicklaa
