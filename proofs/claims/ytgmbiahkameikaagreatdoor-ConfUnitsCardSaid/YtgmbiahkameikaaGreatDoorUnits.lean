/- WHAT IS PROVED: penstocklaw12.ConfUnits returns true for every number and text, and leaves its arguments as they were. CONDITIONS: those of the given row and card (ConfUnitsCardSaid): the package-level variables that it lists hold what the program's text lays. -/
import Derived.Test.YtgmbiahkameikaaGreatDoorDigits
import Derived.Test.YtgmbiahkameikaaGreatDoorClose
import Derived.SizedLaws
import Derived.Test.YtgmbiahkameikaaGreatDoorCards
import Derived.Test.YtgmbiahkameikaaGreatDoorTie
set_option linter.unusedVariables false
set_option maxRecDepth 100000
namespace Go.Proofs.YtgmbiahkameikaaGreatDoor
open Go.ChangeMaps (open_string shut_string)
open Go Go.Eng Go.Proofs Go.ChangeShapes Go.WideShapes Go.ChangeAt Go.RowKit

theorem units_contract (H : Type) (enc : TypeId × Value → H) (W : World) (base : Nat) (args : Array Value) (ds gs : List (DataW H)) (before : List MemPlace)
    (hval : ∀ (j : Nat) t v, Tryz.f8.params[j]? = some t → args[j]? = some v → Value.okWide Tryz.prog W .any base t v)
    (hW : DataW.Whole enc Tryz.prog Tryz.f8.params.toList Rows.confUnitsSpec.vars false W args.toList ds gs before) (hlib : LibW W)
    (hreach : (DataW.weightsEach Tryz.prog (Tryz.f8.params.toList ++ (OpenSpec.ofChange Rows.confUnitsSpec).bare.plain.varTypes Tryz.prog) (ds ++ gs)).all (· ≤ reachBytes) = true) :
    Calls Tryz.prog 8 args W fun e W' => ∃ v, e = .returned v ∧ Rows.confUnitsSpec.post enc Tryz.prog Tryz.f8 false true false false W args v W' := by
  have hW' := hW
  obtain ⟨p, q, hA0, hV, rfl, hfz, hnd⟩ := hW
  have hA : DataW.TrodAll enc Tryz.prog W 0 (fun _ => true) true Tryz.f8.params.toList args.toList ds p := hA0
  rw [Tryz.params8] at hA hval hreach
  obtain ⟨v0, v1, d0, d1, p0, p1, rfl, rfl, rfl, h0, h1⟩ := trodAll_two hA
  obtain ⟨rfl, rfl⟩ := trodVars_none hV
  obtain ⟨m, rfl, rfl, rfl, hwf⟩ := open_int Tryz.underlying47 (hval 0 47 v0 rfl rfl) h0
  obtain ⟨s, rfl, rfl, rfl, hmax⟩ := open_string Tryz.underlying9 (hval 1 9 v1 rfl rfl) h1
  have hm : 0 ≤ m ∧ m < 65536 := by
    have : (Lit.int .u16 m).wf = true := hwf
    have h0 : IntKind.min .u16 = 0 := by decide
    have h1 : IntKind.max .u16 = 65535 := by decide
    simp only [Lit.wf, Bool.and_eq_true, decide_eq_true_eq, h0, h1] at this
    omega
  obtain ⟨n, rfl⟩ : ∃ n : Nat, m = (n : Int) := ⟨m.toNat, by omega⟩
  simp only [List.append_nil] at hW'
  refine (top_calls (by kernel_rfl) (units_ctr n (by omega) s []) hlib (RepL.cons (.d _ _ (.p _)) (RepL.one (.d _ _ (.p _))))).mono ?_
  rintro e W' ⟨c, g', rfl, hc, hb⟩
  obtain rfl := p_inv hc
  refine ⟨_, rfl, _, [], _, [], _, [], hW', trodAll_mk1 (shut_bool Tryz.underlying4 _), trodAll_mk2 (shut_int Tryz.underlying47 hwf) (shut_string Tryz.underlying9 hmax), rfl, hb.frame _, fun h => by cases h⟩

/-- A world for the witness: the settled one, the listed variables holding what their initialisers lay. -/
theorem laid_met (os : Os) (args : Array Value) : laidMetH Tryz.prog Rows.confUnitsRow.laid ((World.laidAll Tryz.prog os Rows.confUnitsRow.laid).forCall (fun _ _ => 0) ⟨#[], args, []⟩).memory := by
  rw [MakeChecks.laidMetH_plain _ _ _ (by kernel_rfl)]
  exact laidMet_laidAll _ (by kernel_rfl) (by kernel_rfl)

theorem reads8 (os : Os) {H : Type} (enc : TypeId × Value → H) : ∃ places, DataW.whole enc Tryz.prog ((World.laidAll Tryz.prog os Rows.confUnitsRow.laid).forCall (fun _ _ => 0) ⟨#[], #[.int .u16 0, .string .empty], []⟩).memory Tryz.f8.params.toList Rows.confUnitsSpec.vars false #[Value.int .u16 0, .string .empty].toList 8 = some ([.lit (.int .u16 0), .lit (.string [])], [], places) :=
  ⟨[], by kernel_rfl⟩

theorem shapedW (os : Os) (args : Array Value) : ((World.laidAll Tryz.prog os Rows.confUnitsRow.laid).forCall (fun _ _ => 0) ⟨#[], args, []⟩).Shaped Tryz.prog :=
  World.shaped_of_ZipB (by kernel_rfl) (by kernel_rfl)

theorem lifted (os : Os) (started : os.Started) (H : Type) (enc : TypeId × Value → H) (F : Stop.Interp) :
    ReturnsInHanded {} Tryz.checked os 8 .any ((OpenSpec.ofChange Rows.confUnitsSpec).preRow enc Tryz.prog Tryz.f8 Rows.confUnitsRow.domain false Rows.confUnitsRow.laid) (((OpenSpec.ofChange Rows.confUnitsSpec).at F).post enc Tryz.prog Tryz.f8 false true false false) := by
  obtain ⟨places, hx⟩ := reads8 os enc
  refine returnsInHanded_of_row (C := Tryz.checked) (s := OpenSpec.ofChange Rows.confUnitsSpec) own started (by kernel_rfl) Tryz.func8
    (witness_row_at (enc := enc) (C := Tryz.checked) false (World.laidAll Tryz.prog os Rows.confUnitsRow.laid) #[.int .u16 0, .string .empty] (World.laidAll_os _ _ _) (by kernel_rfl) (by kernel_rfl) (by kernel_rfl)
      (OpenSpec.preRow_of_cond 8 hx (by kernel_rfl) (fun k hk => by cases hk) (by kernel_rfl) (laid_met os _))) ?_
  intro W base args ds gs before hval hW _ _ hreach hL hsh _
  refine units_contract H enc W base args ds gs before hval hW ?_ hreach
  rw [MakeChecks.laidMetH_plain _ _ _ (by kernel_rfl)] at hL
  exact libW hsh hL ⟨_, _, _, rfl⟩

theorem said : Rows.ConfUnitsSaid :=
  OpenClaim.holds_of_cond 8 Tryz.f8 rfl rfl rfl rfl rfl rfl rfl ⟨rfl, rfl, rfl, rfl, rfl⟩ rfl rfl rfl rfl rfl (by kernel_rfl) Tryz.func8 (by kernel_rfl)
    (of_decide_eq_true (by kernel_rfl)) (by unfold Func.isWrapper; first | (rw [if_pos (by decide +kernel)]; kernel_rfl) | (rw [if_neg (by decide +kernel)]; exact ⟨rfl, rfl⟩))
    (fun os started H enc _ F => by rw [OpenClaim.pre_eq_preRow]; exact lifted os started H enc F)

/-- No parameter wants a stand-in; the program's own looks are what the card says. -/
theorem plainC (f : FuncId) (fn : Func) (hf : Tryz.pinned.checked.prog.funcNamed "penstock/penstocklaw12.ConfUnits" = some f) (hfn : Tryz.pinned.checked.prog.funcs[f]? = some fn) :
    true = Tryz.pinned.checked.prog.looks [] ∧ ∀ (j : Nat) t, fn.params[j]? = some t → Tryz.pinned.checked.prog.wantsStandIn t = false := by
  obtain rfl : f = 8 := Option.some.inj ((show Tryz.prog.funcNamed "penstock/penstocklaw12.ConfUnits" = some 8 by kernel_rfl).symm.trans hf) |>.symm
  obtain rfl : fn = Tryz.f8 := (Option.some.inj (Tryz.func8.symm.trans hfn)).symm
  refine ⟨by kernel_rfl, fun j t ht => ?_⟩
  rw [Tryz.params8] at ht
  obtain rfl | rfl : t = 47 ∨ t = 9 := by simpa using Array.mem_of_getElem? ht
  · exact (show Tryz.prog.wantsStandIn 47 = false by kernel_rfl)
  · exact (show Tryz.prog.wantsStandIn 9 = false by kernel_rfl)

theorem units_holds : Rows.ConfUnitsCardSaid :=
  Claim7.holds_tied_plain_at .later [] _ _ _ _ said (fun _ h => by cases h) (by kernel_rfl) (fun _ h => by cases h) confUnits_row_tie rfl ⟨rfl, rfl⟩ (by kernel_rfl) rfl plainC (by kernel_rfl)

end Go.Proofs.YtgmbiahkameikaaGreatDoor
