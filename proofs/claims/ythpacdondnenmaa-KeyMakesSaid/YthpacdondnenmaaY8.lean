/- The first keys of the document's example, by value. Conditions: none. -/
import Derived.Test.YthpacdondnenmaaY7
namespace Go.Proofs.Ythpacdondnenmaa
open Go.RowKit
def idK : List Int := [131, 148, 200, 240, 62, 81, 87, 8]
def exX : List Int := [125, 181, 223, 6, 231, 166, 158, 67, 36, 150, 173, 237, 176, 8, 81, 146, 53, 149, 34, 21, 150, 174, 42, 233, 251, 129, 21, 193, 233, 237, 10, 68]
def exC : List Int := [192, 12, 241, 81, 202, 91, 224, 117, 237, 14, 191, 181, 200, 3, 35, 196, 45, 107, 125, 182, 120, 129, 40, 154, 244, 0, 143, 31, 108, 53, 122, 234]
def exS : List Int := [60, 25, 152, 40, 253, 19, 158, 253, 33, 108, 21, 90, 216, 68, 204, 129, 251, 130, 250, 141, 116, 70, 250, 125, 120, 190, 128, 58, 205, 218, 149, 27]
theorem ex_mac : macL saltL idK = exX := by decide +kernel
theorem ex_sec1 : kSec exX sCl = exC := by decide +kernel
theorem ex_sec2 : kSec exX sSe = exS := by decide +kernel
def exCKey : List Int := [31, 54, 150, 19, 221, 118, 213, 70, 119, 48, 239, 203, 227, 177, 162, 45]
theorem exCKey_eq : kKey exC = exCKey := by decide +kernel
theorem exCKey_str : strOfNums exCKey = ⟨#[31, 54, 150, 19, 221, 118, 213, 70, 119, 48, 239, 203, 227, 177, 162, 45]⟩ := by kernel_rfl
theorem exCKey_len : exCKey.length = 16 := rfl
def exCIv : List Int := [250, 4, 75, 47, 66, 163, 253, 59, 70, 251, 37, 92]
theorem exCIv_eq : kIv exC = exCIv := by decide +kernel
theorem exCIv_str : strOfNums exCIv = ⟨#[250, 4, 75, 47, 66, 163, 253, 59, 70, 251, 37, 92]⟩ := by kernel_rfl
theorem exCIv_len : exCIv.length = 12 := rfl
def exCHp : List Int := [159, 80, 68, 158, 4, 160, 232, 16, 40, 58, 30, 153, 51, 173, 237, 210]
theorem exCHp_eq : kHp exC = exCHp := by decide +kernel
theorem exCHp_str : strOfNums exCHp = ⟨#[159, 80, 68, 158, 4, 160, 232, 16, 40, 58, 30, 153, 51, 173, 237, 210]⟩ := by kernel_rfl
theorem exCHp_len : exCHp.length = 16 := rfl
def exSKey : List Int := [207, 58, 83, 49, 101, 60, 54, 76, 136, 240, 243, 121, 182, 6, 126, 55]
theorem exSKey_eq : kKey exS = exSKey := by decide +kernel
theorem exSKey_str : strOfNums exSKey = ⟨#[207, 58, 83, 49, 101, 60, 54, 76, 136, 240, 243, 121, 182, 6, 126, 55]⟩ := by kernel_rfl
theorem exSKey_len : exSKey.length = 16 := rfl
def exSIv : List Int := [10, 193, 73, 60, 161, 144, 88, 83, 176, 187, 160, 62]
theorem exSIv_eq : kIv exS = exSIv := by decide +kernel
theorem exSIv_str : strOfNums exSIv = ⟨#[10, 193, 73, 60, 161, 144, 88, 83, 176, 187, 160, 62]⟩ := by kernel_rfl
theorem exSIv_len : exSIv.length = 12 := rfl
def exSHp : List Int := [194, 6, 184, 217, 185, 240, 243, 118, 68, 67, 11, 73, 14, 234, 163, 20]
theorem exSHp_eq : kHp exS = exSHp := by decide +kernel
theorem exSHp_str : strOfNums exSHp = ⟨#[194, 6, 184, 217, 185, 240, 243, 118, 68, 67, 11, 73, 14, 234, 163, 20]⟩ := by kernel_rfl
theorem exSHp_len : exSHp.length = 16 := rfl
theorem ini_c : iniV idK sCl = kyV exC exCKey exCIv exCHp 0 := by unfold iniV ofV; rw [ex_mac, ex_sec1, exCKey_eq, exCIv_eq, exCHp_eq]
theorem ini_s : iniV idK sSe = kyV exS exSKey exSIv exSHp 0 := by unfold iniV ofV; rw [ex_mac, ex_sec2, exSKey_eq, exSIv_eq, exSHp_eq]
theorem exC_ok : KyOk exC exCKey exCIv exCHp := by
  have h := ofOk (S := exC) rfl (by rw [← ex_sec1]; exact kSec_byt _ _)
  rwa [exCKey_eq, exCIv_eq, exCHp_eq] at h
theorem exS_ok : KyOk exS exSKey exSIv exSHp := by
  have h := ofOk (S := exS) rfl (by rw [← ex_sec2]; exact kSec_byt _ _)
  rwa [exSKey_eq, exSIv_eq, exSHp_eq] at h
theorem idK_byt : Byt idK := by intro x hx; simp [idK] at hx; omega
attribute [irreducible] exX exC exS exCKey exCIv exCHp exSKey exSIv exSHp
end Go.Proofs.Ythpacdondnenmaa
