/- The row of CodeKnown: it answers true. -/
import Derived.Test.YtflcmhmbmippfaaRows
import Derived.Test.YtflcmhmbmippfaaClKnown
import Derived.Test.YtflcmhmbmippfaaRtR
namespace Go.Proofs.Ytflcmhmbmippfaa
open Go.ChangeShapes Go.WideShapes Go.ChangeMaps Go.RowKit Go.Rt

theorem cknown_own : ownKnob Try.prog.godebug = none := by kernel_rfl
theorem cknown_laid : laidOutB Try.prog = true := by kernel_rfl

set_option maxRecDepth 100000 in
theorem cknown_lifted (os : Os) (started : os.Started) (H : Type) (enc : TypeId × Value → H) :
    ReturnsInHanded {} Try.checked os 5 .any (Rows.codeKnownSpec.pre6 enc Try.prog Try.f5 Rows.codeKnownRow.domain false) (Rows.codeKnownSpec.post enc Try.prog Try.f5 false true false false) := by
  refine returnsInHanded_of_change (C := Try.checked) cknown_own started (by kernel_rfl) Try.func5
    (ChangeSpec.witness6 (enc := enc) (C := Try.checked) false ⟨#[], #[], []⟩ 8 (by kernel_rfl) (by kernel_rfl) (by kernel_rfl) (by kernel_rfl)) ?_
  intro W base args ds gs before _ hW _ _
  have hW' := hW
  obtain ⟨p, q, hA0, hV, rfl, _, _⟩ := hW
  have hA : DataW.TrodAll enc Try.prog W 0 (fun _ => true) true Try.f5.params.toList args.toList ds p := hA0
  rw [Try.params5] at hA
  obtain ⟨rfl, rfl⟩ := trodVars_none hV
  obtain ⟨ha, rfl, rfl⟩ := trodAll_nil hA
  obtain rfl : args = #[] := by cases args; simp_all
  refine (iknown_any (Sat.start W)).mono fun e W' ⟨he, hw⟩ => ?_
  subst he
  exact ⟨_, rfl, post_law (tB := 4) hW' rfl rfl (by kernel_rfl) Try.underlying4 cknown_laid (by rw [Try.params5]; decide +kernel) hw.bel⟩

theorem codeKnown_holds : Rows.CodeKnownSaid :=
  OpenClaim.holds_of_wide 5 Try.f5 rfl rfl rfl rfl rfl rfl rfl ⟨rfl, rfl, rfl, rfl, rfl⟩ rfl rfl rfl rfl rfl (by kernel_rfl) Try.func5 (by kernel_rfl)
    (of_decide_eq_true (by kernel_rfl)) (by unfold Func.isWrapper; rw [if_neg (of_decide_eq_false (by kernel_rfl))]; exact ⟨rfl, rfl⟩)
    (fun os started H enc _ => cknown_lifted os started H enc)
#print axioms codeKnown_holds
end Go.Proofs.Ytflcmhmbmippfaa
