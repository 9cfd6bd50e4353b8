/- Law 12: from the engine to the row: what the first world gives; the answer's post; the witness' world. -/
import Derived.Test.YtgmbiahkameikaaGreatDoorLivesA
import Derived.Test.YtgmbiahkameikaaGreatDoorEngF
import Derived.ProofKit
import Derived.OpenShut
import Derived.Deep.DeepHandedRow
import Derived.Lay
import Derived.Stop.LaidErr
import Derived.LaidMore
import Derived.LaidLaws
import Derived.Test.YtgmbiahkameikaaGreatDoorRows
set_option linter.unusedVariables false
set_option maxRecDepth 100000
namespace Go.Eng
open Go Go.Proofs Go.ChangeShapes Go.WideShapes Go.ChangeAt Go.RowKit
open Go.Proofs.YtgmbiahkameikaaGreatDoor

theorem star173 : "*" ++ "errors.errorString" = "*errors.errorString" := by decide
theorem row173 (u : TypeId) (h : Tryz.prog.typeName? 3 u = some "*errors.errorString") : u = 173 :=
  typeName_ptr_named (nm := "errors.errorString") (by rw [star173]; kernel_rfl) (by kernel_rfl) (by decide) u (by rw [star173]; exact h)

/-- The first world, for the engine: all that lies there stays as it is. -/
noncomputable def immW (W : World) (b o : Nat) : Option Value :=
  match W.cell? ⟨b, o, none⟩ with
  | some v => if v.oneCell' then some v else none
  | none => none
noncomputable def ghW (W : World) : Gh := { imm := immW W, mu := fun _ => 0, cap := fun _ => 0, bs := fun _ => 0, n := 0 }

theorem immW_of {W : World} {b o : Nat} {v : Value} (h : W.cell? ⟨b, o, none⟩ = some v) (h1 : v.oneCell' = true) : immW W b o = some v := by
  unfold immW; rw [h]; simp only []; rw [if_pos h1]

theorem stW {W : World} (h : LibW W) : St (ghW W) [] W := by
  refine ⟨rfl, ?_, fun i o h => by simp at h, fun i o h => by simp at h, fun i j oi oj h => by simp at h, fun i o h => by simp at h, ?_⟩
  · intro b o v hv
    have hv : immW W b o = some v := hv
    unfold immW at hv
    split at hv
    · rename_i u hu
      split at hv
      · rename_i h1; cases hv; exact ⟨hu, h1⟩
      · cases hv
    · cases hv
  · obtain ⟨⟨m, hm⟩, he⟩ := h
    refine ⟨⟨m, immW_of hm rfl⟩, fun b hb => ?_⟩
    obtain ⟨v, hv, hk⟩ := he b hb
    exact ⟨v, immW_of hv (by rcases hk with rfl | ⟨t, p, rfl⟩ <;> rfl), hk⟩

/-- A call at the first world, by its contract. -/
theorem top_calls {f : FuncId} {args : List AV} {cargs : Array Value} {W : World} {v : AV} (hb : hasBody Tryz.prog f = true) (hctr : CtrOK Tryz.prog f args [] (.pure v)) (hlib : LibW W) (hrep : RepL (ghW W) args cargs) :
    Calls Tryz.prog f cargs W fun e W' => ∃ c g', e = .returned c ∧ ARep g' v c ∧ Below W.heap.size W W' := by
  have h := hctr [] (ghW W) W cargs (stW hlib) hrep
  rcases h with ⟨_, h⟩ | ⟨c, w', h1, _⟩
  · refine h.mono ?_
    rintro e W' ⟨c, g', rfl, _, _, hr, hext⟩
    refine ⟨c, g', rfl, hr, ⟨hext.os, hext.tape, hext.output, hext.size, fun k hk => hext.block k hk ?_⟩⟩
    rintro ⟨i, o, h, _⟩
    simp at h
  · rw [run_callFunc hb] at h1
    cases h1

/-- What the library's variables hold at the first world. -/
theorem libW {W : World} {laid : List (String × DataW Unit)} (hsh : W.ShapedOpen Tryz.prog) (hL : laidMet Tryz.prog laid W)
    (hlaid : ∃ r1 r2 r3, laid = r1 :: r2 :: r3 :: ("unicode/utf8.acceptRanges", Rows.laid_unicode_utf8_acceptRanges) :: ("strconv.ErrRange", Rows.laid_strconv_ErrRange) :: ("strconv.ErrSyntax", Rows.laid_strconv_ErrSyntax) :: [("unicode/utf8.first", Rows.laid_unicode_utf8_first)]) : LibW W := by
  obtain ⟨r1, r2, r3, rfl⟩ := hlaid
  obtain ⟨a1, s1, hv1, _⟩ := laid_sentinel (g := 1) hL.tail.tail.tail.tail (by kernel_rfl) (by kernel_rfl) Tryz.underlying83 row173 Tryz.underlying173 Tryz.underlying175 rfl rfl Tryz.underlying9 (by kernel_rfl) (by kernel_rfl)
  obtain ⟨a0, s0, hv0, _⟩ := laid_sentinel (g := 0) hL.tail.tail.tail.tail.tail (by kernel_rfl) (by kernel_rfl) Tryz.underlying83 row173 Tryz.underlying173 Tryz.underlying175 rfl rfl Tryz.underlying9 (by kernel_rfl) (by kernel_rfl)
  refine ⟨Go.Proofs.cell_of_shapedOpen_int (zero := #[.int .i64 0]) (t := 3) hsh (of_decide_eq_true (by kernel_rfl)) (by kernel_rfl) rfl (by kernel_rfl) (by kernel_rfl) Tryz.underlying3, fun b hb => ?_⟩
  have h01 : b = 0 ∨ b = 1 := by simpa [GE] using hb
  rcases h01 with rfl | rfl
  · exact ⟨_, by simpa using World.var?_cell (show Tryz.prog.globalNamed "strconv.ErrSyntax" = some 0 by kernel_rfl) hv0 0, .inr ⟨_, _, rfl⟩⟩
  · exact ⟨_, by simpa using World.var?_cell (show Tryz.prog.globalNamed "strconv.ErrRange" = some 1 by kernel_rfl) hv1 0, .inr ⟨_, _, rfl⟩⟩

theorem own : ownKnob Tryz.prog.godebug = none := by kernel_rfl

end Go.Eng
