/- The row of CellKnown: for every input it answers true, and the input reads as it did. -/
import Derived.Test.YtnpgjobaibnknaaRows
import Derived.Test.YtnpgjobaibnknaaKlCKnown
import Derived.Test.YtnpgjobaibnknaaRtR
namespace Go.Proofs.Ytnpgjobaibnknaa
open Go.ChangeShapes Go.WideShapes Go.ChangeMaps Go.RowKit Go.Rt

theorem cellKnown_own : ownKnob Try.prog.godebug = none := by kernel_rfl
theorem cellKnown_laid : laidOutB Try.prog = true := by kernel_rfl

set_option maxRecDepth 100000 in
theorem cellKnown_lifted (os : Os) (started : os.Started) (H : Type) (enc : TypeId × Value → H) :
    ReturnsInHanded {} Try.checked os 13 .any (Rows.cellKnownSpec.pre6 enc Try.prog Try.f13 Rows.cellKnownRow.domain false) (Rows.cellKnownSpec.post enc Try.prog Try.f13 false true false false) := by
  refine returnsInHanded_of_change (C := Try.checked) cellKnown_own started (by kernel_rfl) Try.func13
    (ChangeSpec.witness6 (enc := enc) (C := Try.checked) false ⟨#[], #[], []⟩ 8 (by kernel_rfl) (by kernel_rfl) (by kernel_rfl) (by kernel_rfl)) ?_
  intro W base args ds gs before hval0 hW _ _
  have hval : ∀ (j : Nat) t v, Try.f13.params[j]? = some t → args[j]? = some v → Value.okWide Try.prog W .any base t v := hval0
  have hW' := hW
  obtain ⟨p, q, hA0, hV, rfl, _, _⟩ := hW
  have hA : DataW.TrodAll enc Try.prog W 0 (fun _ => true) true Try.f13.params.toList args.toList ds p := hA0
  rw [Try.params13] at hA hval
  obtain ⟨rfl, rfl⟩ := trodVars_none hV
  obtain ⟨ha, rfl, rfl⟩ := trodAll_nil hA
  obtain rfl : args = #[] := by cases args; simp_all
  refine (lawCellKnown_any).mono fun e W' ⟨he, hw⟩ => ?_
  subst he
  exact ⟨_, rfl, post_law (tB := 4) hW' rfl rfl (by kernel_rfl) Try.underlying4 cellKnown_laid (by rw [Try.params13]; decide +kernel) hw.bel⟩

theorem cellKnown_holds : Rows.CellKnownSaid :=
  OpenClaim.holds_of_wide 13 Try.f13 rfl rfl rfl rfl rfl rfl rfl ⟨rfl, rfl, rfl, rfl, rfl⟩ rfl rfl rfl rfl rfl (by kernel_rfl) Try.func13 (by kernel_rfl)
    (of_decide_eq_true (by kernel_rfl)) (by unfold Func.isWrapper; rw [if_neg (of_decide_eq_false (by kernel_rfl))]; exact ⟨rfl, rfl⟩)
    (fun os started H enc _ => cellKnown_lifted os started H enc)
#print axioms cellKnown_holds
end Go.Proofs.Ytnpgjobaibnknaa
