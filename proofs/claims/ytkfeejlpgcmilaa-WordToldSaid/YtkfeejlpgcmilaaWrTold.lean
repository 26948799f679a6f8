/- The row of WordTold: for every input it answers true, and the input reads as it did. -/
import Derived.Test.YtkfeejlpgcmilaaRows
import Derived.Test.YtkfeejlpgcmilaaWlTold
import Derived.Test.YtkfeejlpgcmilaaRtR
namespace Go.Proofs.Ytkfeejlpgcmilaa
open Go.ChangeShapes Go.WideShapes Go.ChangeMaps Go.RowKit Go.Rt

theorem told_own : ownKnob Try.prog.godebug = none := by kernel_rfl
theorem told_laid : laidOutB Try.prog = true := by kernel_rfl

set_option maxRecDepth 100000 in
theorem told_lifted (os : Os) (started : os.Started) (H : Type) (enc : TypeId × Value → H) :
    ReturnsInHanded {} Try.checked os 10 .any (Rows.wordToldSpec.pre6 enc Try.prog Try.f10 Rows.wordToldRow.domain false) (Rows.wordToldSpec.post enc Try.prog Try.f10 false true false false) := by
  refine returnsInHanded_of_change_sized (C := Try.checked) told_own started (by kernel_rfl) Try.func10
    (ChangeSpec.witness6 (enc := enc) (C := Try.checked) false ⟨#[], #[.slice none 0 0, .slice none 0 0], []⟩ 8 (by kernel_rfl) (by kernel_rfl) (by kernel_rfl) (by kernel_rfl)) ?_
  intro W base args ds gs before hval0 hW _ hsz _
  have hval : ∀ (j : Nat) t v, Try.f10.params[j]? = some t → args[j]? = some v → Value.okWide Try.prog W .any base t v := hval0
  have hW' := hW
  obtain ⟨p, q, hA0, hV, rfl, _, _⟩ := hW
  have hA : DataW.TrodAll enc Try.prog W 0 (fun _ => true) true Try.f10.params.toList args.toList ds p := hA0
  rw [Try.params10] at hA hval
  obtain ⟨rfl, rfl⟩ := trodVars_none hV
  obtain ⟨v0, v1, d0, d1, p0, p1, rfl, rfl, rfl, h0, h1⟩ := trodAll_two hA
  obtain ⟨a0, l0, c0, rfl⟩ := okWide_slice Try.underlying22 (hval 0 22 v0 rfl rfl)
  obtain ⟨f0, hf0⟩ := h0
  obtain ⟨A0, k0, x0, hv0, hq0, hr0, hk0, hw0⟩ := open_things hf0
  have hB0 : ∀ x ∈ x0, x.s.size ≤ 140737488355328 := fun x hx => by
    have hsz' : (DataW.weightsEach Try.prog (Try.f10.params.toList ++ Rows.wordToldSpec.plain.varTypes Try.prog) ([d0, d1] ++ [])).all (· ≤ reachBytes) = true := hsz
    have h1 := List.all_eq_true.1 hsz' _ (DataW.weights_mem_each (j := 0) (t := 22) (d := d0) (by rw [Try.params10]; rfl) rfl _ (hw0 x hx))
    have h2 : x.s.size ≤ reachBytes := by simpa using h1
    exact Nat.le_trans h2 (by decide)
  obtain ⟨a1, l1, c1, rfl⟩ := okWide_slice Try.underlying22 (hval 1 22 v1 rfl rfl)
  obtain ⟨f1, hf1⟩ := h1
  obtain ⟨A1, k1, x1, hv1, hq1, hr1, hk1, hw1⟩ := open_things hf1
  have hB1 : ∀ x ∈ x1, x.s.size ≤ 140737488355328 := fun x hx => by
    have hsz' : (DataW.weightsEach Try.prog (Try.f10.params.toList ++ Rows.wordToldSpec.plain.varTypes Try.prog) ([d0, d1] ++ [])).all (· ≤ reachBytes) = true := hsz
    have h1 := List.all_eq_true.1 hsz' _ (DataW.weights_mem_each (j := 1) (t := 22) (d := d1) (by rw [Try.params10]; rfl) rfl _ (hw1 x hx))
    have h2 : x.s.size ≤ reachBytes := by simpa using h1
    exact Nat.le_trans h2 (by decide)
  rw [hv0, hv1] at hW' ⊢
  refine (lawTold_any A0 k0 x0 hq0 hB0 hr0 A1 k1 x1 hq1 hB1 hr1).mono fun e W' ⟨he, hw⟩ => ?_
  subst he
  exact ⟨_, rfl, post_law (tB := 4) hW' rfl rfl (by kernel_rfl) Try.underlying4 told_laid (by rw [Try.params10]; decide +kernel) hw.bel⟩

theorem wordTold_holds : Rows.WordToldSaid :=
  OpenClaim.holds_of_wide 10 Try.f10 rfl rfl rfl rfl rfl rfl rfl ⟨rfl, rfl, rfl, rfl, rfl⟩ rfl rfl rfl rfl rfl (by kernel_rfl) Try.func10 (by kernel_rfl)
    (of_decide_eq_true (by kernel_rfl)) (by unfold Func.isWrapper; rw [if_neg (of_decide_eq_false (by kernel_rfl))]; exact ⟨rfl, rfl⟩)
    (fun os started H enc _ => told_lifted os started H enc)
#print axioms wordTold_holds
end Go.Proofs.Ytkfeejlpgcmilaa
