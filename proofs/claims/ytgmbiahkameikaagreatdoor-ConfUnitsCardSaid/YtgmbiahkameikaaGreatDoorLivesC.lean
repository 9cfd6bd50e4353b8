/- a part of the proof -/
import Derived.Test.YtgmbiahkameikaaGreatDoorLivesB
set_option maxRecDepth 100000
namespace Go.Eng
open Go Go.Proofs
theorem lives_run : reckon Tryz.prog G2 1000000 50 14 [] = some (.d (.p (.bool true))) := by kernel_rfl
theorem lives_ctr (H : AHeap) : CtrTo Tryz.prog 14 [] H (.d (.p (.bool true))) H := reckon_ok G2_ok (by kernel_rfl) rfl lives_run H
end Go.Eng
