/- a part of the proof -/
import Derived.Test.YtgmbiahkameikaaGreatDoorEngF
import Derived.Test.YtgmbiahkameikaaGreatDoorUsed
import Derived.KernelRfl
set_option maxRecDepth 100000
namespace Go.Eng
open Go Go.Proofs

noncomputable def LO : Oracle := orO (atomO Tryz.prog) (orO (libO 68 ansContains) (orO (libO 44 ansCut) (libO 67 ansIndexByte)))

theorem ctr68 (vs : List Value) (c : Value) (h : ansContains vs = some c) : PlainCtr Tryz.prog 68 vs c := by
  intro w m hm
  unfold ansContains at h
  split at h
  · rename_i s sub
    split at h
    · rename_i hs
      cases h
      exact (Tryz.strings_Contains s sub m w hs hm).mono fun e w' ⟨h1, h2⟩ => ⟨h1, 0, by rw [h2]; rfl⟩
    · cases h
  · cases h
theorem ctr44 (vs : List Value) (c : Value) (h : ansCut vs = some c) : PlainCtr Tryz.prog 44 vs c := by
  intro w m hm
  unfold ansCut at h
  split at h
  · rename_i s sub
    split at h
    · rename_i hs
      cases h
      exact Tryz.strings_Cut s sub m w hs hm
    · cases h
  · cases h
theorem ctr67 (vs : List Value) (c : Value) (h : ansIndexByte vs = some c) : PlainCtr Tryz.prog 67 vs c := by
  intro w m hm
  unfold ansIndexByte at h
  split at h
  · rename_i s c'
    cases h
    exact (Tryz.strings_IndexByte s c' w).mono fun e w' ⟨h1, h2⟩ => ⟨h1, 0, by rw [h2]; rfl⟩
  · cases h

theorem LO_ok : OracleOK Tryz.prog LO :=
  orO_ok (atomO_ok _) (orO_ok (libO_ok (by kernel_rfl) ctr68) (orO_ok (libO_ok (by kernel_rfl) ctr44) (libO_ok (by kernel_rfl) ctr67)))

noncomputable def R0 : Oracle := orO LO (runO Tryz.prog LO 1000000 50 [38, 140, 39])
theorem R0_ok : OracleOK Tryz.prog R0 := orO_ok LO_ok (runO_ok LO_ok _ _ _)
noncomputable def R1 : Oracle := orO R0 (readO Tryz.prog R0 1000000 50 [42])
theorem R1_ok : OracleOK Tryz.prog R1 := orO_ok R0_ok (readO_ok R0_ok _ _ _)
noncomputable def N0 : Oracle := orO R1 (newO Tryz.prog R1 1000000 [56, 57])
theorem N0_ok : OracleOK Tryz.prog N0 := orO_ok R1_ok (newO_ok R1_ok _ _)
noncomputable def N1 : Oracle := deepO Tryz.prog N0 1000000 [32] 3
theorem N1_ok : OracleOK Tryz.prog N1 := deepO_ok N0_ok _ _ _
noncomputable def G1 : Oracle := orO N1 (runO Tryz.prog N1 1000000 50 [19, 18])
theorem G1_ok : OracleOK Tryz.prog G1 := orO_ok N1_ok (runO_ok N1_ok _ _ _)

def text1 : ByteArray := ⟨#[97, 58, 10, 32, 32, 98, 58, 32, 91, 120, 44, 32, 34, 121, 32, 122, 34, 93, 32, 35, 32, 108, 105, 115, 116, 10, 99, 58, 32, 53, 115, 10]⟩
def text2 : ByteArray := ⟨#[97, 58, 32, 49, 10, 98, 10]⟩
def ans1 : AV := (.tu [(.ag [(.d (.p (.int .u8 (0)))), (.d (.p (.string ⟨#[]⟩))), (.d (.p (.slice none 0 0))), (.d (.sl 2 5 (tab2 [[(.p (.string ⟨#[97]⟩)), (.p (.int .u8 (0))), (.p (.string ⟨#[]⟩)), (.p (.slice none 0 0)), (.sl 1 5 (tab2 [[(.p (.string ⟨#[98]⟩)), (.p (.int .u8 (2))), (.p (.string ⟨#[]⟩)), (.sl 2 1 (tab2 [[(.p (.string ⟨#[120]⟩))], [(.p (.string ⟨#[121, 32, 122]⟩))]])), (.p (.slice none 0 0))]]))], [(.p (.string ⟨#[99]⟩)), (.p (.int .u8 (1))), (.p (.string ⟨#[53, 115]⟩)), (.p (.slice none 0 0)), (.p (.slice none 0 0))]])))]), (.d (.p (.int .i64 (0)))), (.d (.p (.int .i64 (0))))])
def ans2 : AV := (.tu [(.ag [(.d (.p (.int .u8 (0)))), (.d (.p (.string ⟨#[]⟩))), (.d (.p (.slice none 0 0))), (.d (.p (.slice none 0 0)))]), (.d (.p (.int .i64 (15)))), (.d (.p (.int .i64 (2))))])
theorem parse2 : reckon Tryz.prog LO 1000000 50 16 [.d (.p (.string text2))] = some ans2 := by kernel_rfl
end Go.Eng
