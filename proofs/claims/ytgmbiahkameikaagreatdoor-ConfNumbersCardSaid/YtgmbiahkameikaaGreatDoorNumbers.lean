/- WHAT IS PROVED: penstocklaw12.ConfNumbers returns true for every text, and leaves its argument as it was. CONDITIONS: those of the given row and card (ConfNumbersCardSaid): the package-level variables that it lists hold what the program's text lays. -/
import Derived.Test.YtgmbiahkameikaaGreatDoorNums
import Derived.Test.YtgmbiahkameikaaGreatDoorClose
import Derived.SizedLaws
import Derived.Test.YtgmbiahkameikaaGreatDoorCards
import Derived.Test.YtgmbiahkameikaaGreatDoorTie
set_option linter.unusedVariables false
set_option maxRecDepth 100000
namespace Go.Proofs.YtgmbiahkameikaaGreatDoor
open Go.ChangeMaps (open_string shut_string)
open Go Go.Eng Go.Proofs Go.ChangeShapes Go.WideShapes Go.ChangeAt Go.RowKit

theorem run3 (s : ByteArray) : goF Tryz.prog ON 1000 [true, true, true, true] [] (.run [enterA Tryz.prog 3 [.d (.p (.string s))] .normal] []) =
    ([(decide (s.size ≤ 281474976710656), true), (decide (s.size ≤ 281474976710656), true), (unitN tabM s == unitN tabM s, true), (unitE tabM s == unitE tabM s, true), (unitN tabB s == unitN tabB s, true)],
     some (.ret (.d (.p (.bool (unitE tabB s == unitE tabB s)))) [])) := by kernel_rfl

theorem numbers_ctr (s : ByteArray) (hs : s.size ≤ 281474976710656) (H : AHeap) : CtrOK Tryz.prog 3 [.d (.p (.string s))] H (.pure (.d (.p (.bool true)))) := by
  refine pure_ctr (by kernel_rfl) rfl (wayF ON_ok 1000 _ _ (run3 s) ⟨by simpa using hs, by simpa using hs, by simp, by simp, by simp, trivial⟩ (ends_ret ?_)) H
  rw [show (unitE tabB s == unitE tabB s) = true by simp]
  exact frz_dp _ _

theorem numbers_contract (H : Type) (enc : TypeId × Value → H) (W : World) (base : Nat) (args : Array Value) (ds gs : List (DataW H)) (before : List MemPlace)
    (hval : ∀ (j : Nat) t v, Tryz.f3.params[j]? = some t → args[j]? = some v → Value.okWide Tryz.prog W .any base t v)
    (hW : DataW.Whole enc Tryz.prog Tryz.f3.params.toList Rows.confNumbersSpec.vars false W args.toList ds gs before) (hlib : LibW W)
    (hreach : (DataW.weightsEach Tryz.prog (Tryz.f3.params.toList ++ (OpenSpec.ofChange Rows.confNumbersSpec).bare.plain.varTypes Tryz.prog) (ds ++ gs)).all (· ≤ reachBytes) = true) :
    Calls Tryz.prog 3 args W fun e W' => ∃ v, e = .returned v ∧ Rows.confNumbersSpec.post enc Tryz.prog Tryz.f3 false true false false W args v W' := by
  have hW' := hW
  obtain ⟨p, q, hA0, hV, rfl, hfz, hnd⟩ := hW
  have hA : DataW.TrodAll enc Tryz.prog W 0 (fun _ => true) true Tryz.f3.params.toList args.toList ds p := hA0
  rw [Tryz.params3] at hA hval hreach
  obtain ⟨v0, d0, rfl, rfl, h0⟩ := trodAll_one hA
  obtain ⟨rfl, rfl⟩ := trodVars_none hV
  obtain ⟨s, rfl, rfl, rfl, hmax⟩ := open_string Tryz.underlying9 (hval 0 9 v0 rfl rfl) h0
  have hs := sized_string hreach (j := 0) (t := 9) rfl rfl
  have hs' : s.size ≤ 281474976710656 := by
    have e : s.data.toList.length = s.size := by rw [Array.length_toList]; rfl
    have : reachBytes = 140737488351232 := by decide
    omega
  simp only [List.append_nil] at hW'
  refine (top_calls (by kernel_rfl) (numbers_ctr s hs' []) hlib (RepL.one (.d _ _ (.p _)))).mono ?_
  rintro e W' ⟨c, g', rfl, hc, hb⟩
  obtain rfl := p_inv hc
  refine ⟨_, rfl, _, [], _, [], _, [], hW', trodAll_mk1 (shut_bool Tryz.underlying4 _), trodAll_mk1 (shut_string Tryz.underlying9 hmax), rfl, hb.frame _, fun h => by cases h⟩

/-- A world for the witness: the settled one, the listed variables holding what their initialisers lay. -/
theorem laid_met (os : Os) (args : Array Value) : laidMetH Tryz.prog Rows.confNumbersRow.laid ((World.laidAll Tryz.prog os Rows.confNumbersRow.laid).forCall (fun _ _ => 0) ⟨#[], args, []⟩).memory := by
  rw [MakeChecks.laidMetH_plain _ _ _ (by kernel_rfl)]
  exact laidMet_laidAll _ (by kernel_rfl) (by kernel_rfl)

theorem reads3 (os : Os) {H : Type} (enc : TypeId × Value → H) : ∃ places, DataW.whole enc Tryz.prog ((World.laidAll Tryz.prog os Rows.confNumbersRow.laid).forCall (fun _ _ => 0) ⟨#[], #[.string .empty], []⟩).memory Tryz.f3.params.toList Rows.confNumbersSpec.vars false #[Value.string .empty].toList 8 = some ([.lit (.string [])], [], places) :=
  ⟨[], by kernel_rfl⟩

theorem shapedW (os : Os) (args : Array Value) : ((World.laidAll Tryz.prog os Rows.confNumbersRow.laid).forCall (fun _ _ => 0) ⟨#[], args, []⟩).Shaped Tryz.prog :=
  World.shaped_of_ZipB (by kernel_rfl) (by kernel_rfl)

theorem lifted (os : Os) (started : os.Started) (H : Type) (enc : TypeId × Value → H) (F : Stop.Interp) :
    ReturnsInHanded {} Tryz.checked os 3 .any ((OpenSpec.ofChange Rows.confNumbersSpec).preRow enc Tryz.prog Tryz.f3 Rows.confNumbersRow.domain false Rows.confNumbersRow.laid) (((OpenSpec.ofChange Rows.confNumbersSpec).at F).post enc Tryz.prog Tryz.f3 false true false false) := by
  obtain ⟨places, hx⟩ := reads3 os enc
  refine returnsInHanded_of_row (C := Tryz.checked) (s := OpenSpec.ofChange Rows.confNumbersSpec) own started (by kernel_rfl) Tryz.func3
    (witness_row_at (enc := enc) (C := Tryz.checked) false (World.laidAll Tryz.prog os Rows.confNumbersRow.laid) #[.string .empty] (World.laidAll_os _ _ _) (by kernel_rfl) (by kernel_rfl) (by kernel_rfl)
      (OpenSpec.preRow_of_cond 8 hx (by kernel_rfl) (fun k hk => by cases hk) (by kernel_rfl) (laid_met os _))) ?_
  intro W base args ds gs before hval hW _ _ hreach hL hsh _
  refine numbers_contract H enc W base args ds gs before hval hW ?_ hreach
  rw [MakeChecks.laidMetH_plain _ _ _ (by kernel_rfl)] at hL
  exact libW hsh hL ⟨_, _, _, rfl⟩

theorem said : Rows.ConfNumbersSaid :=
  OpenClaim.holds_of_cond 3 Tryz.f3 rfl rfl rfl rfl rfl rfl rfl ⟨rfl, rfl, rfl, rfl, rfl⟩ rfl rfl rfl rfl rfl (by kernel_rfl) Tryz.func3 (by kernel_rfl)
    (of_decide_eq_true (by kernel_rfl)) (by unfold Func.isWrapper; first | (rw [if_pos (by decide +kernel)]; kernel_rfl) | (rw [if_neg (by decide +kernel)]; exact ⟨rfl, rfl⟩))
    (fun os started H enc _ F => by rw [OpenClaim.pre_eq_preRow]; exact lifted os started H enc F)

/-- No parameter wants a stand-in; the program's own looks are what the card says. -/
theorem plainC (f : FuncId) (fn : Func) (hf : Tryz.pinned.checked.prog.funcNamed "penstock/penstocklaw12.ConfNumbers" = some f) (hfn : Tryz.pinned.checked.prog.funcs[f]? = some fn) :
    true = Tryz.pinned.checked.prog.looks [] ∧ ∀ (j : Nat) t, fn.params[j]? = some t → Tryz.pinned.checked.prog.wantsStandIn t = false := by
  obtain rfl : f = 3 := Option.some.inj ((show Tryz.prog.funcNamed "penstock/penstocklaw12.ConfNumbers" = some 3 by kernel_rfl).symm.trans hf) |>.symm
  obtain rfl : fn = Tryz.f3 := (Option.some.inj (Tryz.func3.symm.trans hfn)).symm
  refine ⟨by kernel_rfl, fun j t ht => ?_⟩
  rw [Tryz.params3] at ht
  obtain rfl : t = 9 := by simpa using Array.mem_of_getElem? ht
  exact (show Tryz.prog.wantsStandIn 9 = false by kernel_rfl)

theorem numbers_holds : Rows.ConfNumbersCardSaid :=
  Claim7.holds_tied_plain_at .later [] _ _ _ _ said (fun _ h => by cases h) (by kernel_rfl) (fun _ h => by cases h) confNumbers_row_tie rfl ⟨rfl, rfl⟩ (by kernel_rfl) rfl plainC (by kernel_rfl)

end Go.Proofs.YtgmbiahkameikaaGreatDoor
