/- a part of the proof -/
import Derived.Test.YtgmbiahkameikaaGreatDoorLivesA
set_option maxRecDepth 100000
namespace Go.Eng
open Go Go.Proofs
theorem parse1 : reckon Tryz.prog LO 1000000 50 16 [.d (.p (.string text1))] = some ans1 := by kernel_rfl

/-- An answer to one text. -/
def textO (f0 : FuncId) (s : ByteArray) (v : AV) : Oracle := fun f args _ =>
  if f = f0 then
    match args with
    | [.d (.p (.string t))] => if t = s then some (.pure v) else none
    | _ => none
  else none
theorem textO_ok {P : Program} {f0 : FuncId} {s : ByteArray} {v : AV} (h : ∀ H, CtrTo P f0 [.d (.p (.string s))] H v H) : OracleOK P (textO f0 s v) := by
  intro f args H r hr
  unfold textO at hr
  split at hr
  · rename_i e
    subst e
    split at hr
    · split at hr
      · rename_i e
        subst e
        cases hr
        exact fun X => h _
      · cases hr
    · cases hr
  · cases hr

noncomputable def G2 : Oracle := orO (orO (textO 16 text1 ans1) (textO 16 text2 ans2)) G1
theorem G2_ok : OracleOK Tryz.prog G2 :=
  orO_ok (orO_ok (textO_ok fun H => reckon_ok LO_ok (by kernel_rfl) rfl parse1 H) (textO_ok fun H => reckon_ok LO_ok (by kernel_rfl) rfl parse2 H)) G1_ok
end Go.Eng
