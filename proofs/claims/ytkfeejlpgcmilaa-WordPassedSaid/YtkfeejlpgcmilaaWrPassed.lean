/- The row of WordPassed: for every input it answers true, and the input reads as it did. -/
import Derived.Test.YtkfeejlpgcmilaaRows
import Derived.Test.YtkfeejlpgcmilaaWlPassed
import Derived.Test.YtkfeejlpgcmilaaWoD
import Derived.Test.YtkfeejlpgcmilaaRtR
namespace Go.Proofs.Ytkfeejlpgcmilaa
open Go.ChangeShapes Go.WideShapes Go.ChangeMaps Go.RowKit Go.Rt

theorem passed_own : ownKnob Try.prog.godebug = none := by kernel_rfl
theorem passed_laid : laidOutB Try.prog = true := by kernel_rfl

set_option maxRecDepth 100000 in
theorem passed_lifted (os : Os) (started : os.Started) (H : Type) (enc : TypeId × Value → H) :
    ReturnsInHanded {} Try.checked os 9 .any (Rows.wordPassedSpec.pre6 enc Try.prog Try.f9 Rows.wordPassedRow.domain false) (Rows.wordPassedSpec.post enc Try.prog Try.f9 false true false false) := by
  refine returnsInHanded_of_change (C := Try.checked) passed_own started (by kernel_rfl) Try.func9
    (ChangeSpec.witness6 (enc := enc) (C := Try.checked) false ⟨#[], #[.slice none 0 0, .slice none 0 0], []⟩ 8 (by kernel_rfl) (by kernel_rfl) (by kernel_rfl) (by kernel_rfl)) ?_
  intro W base args ds gs before hval0 hW _ _
  have hval : ∀ (j : Nat) t v, Try.f9.params[j]? = some t → args[j]? = some v → Value.okWide Try.prog W .any base t v := hval0
  have hW' := hW
  obtain ⟨p, q, hA0, hV, rfl, _, _⟩ := hW
  have hA : DataW.TrodAll enc Try.prog W 0 (fun _ => true) true Try.f9.params.toList args.toList ds p := hA0
  rw [Try.params9] at hA hval
  obtain ⟨rfl, rfl⟩ := trodVars_none hV
  obtain ⟨v0, v1, d0, d1, p0, p1, rfl, rfl, rfl, h0, h1⟩ := trodAll_two hA
  obtain ⟨a0, l0, c0, rfl⟩ := okWide_slice Try.underlying28 (hval 0 28 v0 rfl rfl)
  obtain ⟨a1, l1, c1, rfl⟩ := okWide_slice Try.underlying62 (hval 1 62 v1 rfl rfl)
  obtain ⟨f0, hf0⟩ := h0
  obtain ⟨f1, hf1⟩ := h1
  obtain ⟨A0, k0, bs, hv0, hc0, _, hr0⟩ := open_bytes hf0
  obtain ⟨A1, k1, qs, hv1, _, hr1⟩ := open_asks hf1
  rw [hv0, hv1] at hW' ⊢
  refine (lawPassed_any A0 k0 bs hc0 A1 k1 qs hr0 hr1).mono fun e W' ⟨he, hw⟩ => ?_
  subst he
  exact ⟨_, rfl, post_law (tB := 4) hW' rfl rfl (by kernel_rfl) Try.underlying4 passed_laid (by rw [Try.params9]; decide +kernel) hw.bel⟩

theorem wordPassed_holds : Rows.WordPassedSaid :=
  OpenClaim.holds_of_wide 9 Try.f9 rfl rfl rfl rfl rfl rfl rfl ⟨rfl, rfl, rfl, rfl, rfl⟩ rfl rfl rfl rfl rfl (by kernel_rfl) Try.func9 (by kernel_rfl)
    (of_decide_eq_true (by kernel_rfl)) (by unfold Func.isWrapper; rw [if_neg (of_decide_eq_false (by kernel_rfl))]; exact ⟨rfl, rfl⟩)
    (fun os started H enc _ => passed_lifted os started H enc)
#print axioms wordPassed_holds
end Go.Proofs.Ytkfeejlpgcmilaa
