/- The row of WordNobody: for every input it answers true, and the input reads as it did. -/
import Derived.Test.YtkfeejlpgcmilaaRows
import Derived.Test.YtkfeejlpgcmilaaWlNobody
import Derived.Test.YtkfeejlpgcmilaaWoC
import Derived.Test.YtkfeejlpgcmilaaRtR
namespace Go.Proofs.Ytkfeejlpgcmilaa
open Go.ChangeShapes Go.WideShapes Go.ChangeMaps Go.RowKit Go.Rt

theorem nobody_own : ownKnob Try.prog.godebug = none := by kernel_rfl
theorem nobody_laid : laidOutB Try.prog = true := by kernel_rfl

set_option maxRecDepth 100000 in
theorem nobody_lifted (os : Os) (started : os.Started) (H : Type) (enc : TypeId × Value → H) :
    ReturnsInHanded {} Try.checked os 8 .any (Rows.wordNobodySpec.pre6 enc Try.prog Try.f8 Rows.wordNobodyRow.domain false) (Rows.wordNobodySpec.post enc Try.prog Try.f8 false true false false) := by
  refine returnsInHanded_of_change_sized (C := Try.checked) nobody_own started (by kernel_rfl) Try.func8
    (ChangeSpec.witness6 (enc := enc) (C := Try.checked) false ⟨#[], #[.agg #[.int .i64 0, .int .i64 0, .string ⟨#[]⟩, .int .u8 0, .int .u8 0, .int .u8 0, .int .u8 0, .int .u8 0, .int .u8 0, .int .u8 0, .int .u8 0, .int .u8 0, .int .u8 0, .int .u8 0, .int .u8 0, .int .u8 0, .int .u8 0, .int .u8 0, .int .u8 0, .int .u8 0, .int .u8 0, .int .u8 0, .int .u8 0, .int .u8 0, .int .u8 0, .int .u8 0, .int .u8 0, .int .u8 0, .int .u8 0, .int .u8 0, .int .u8 0, .int .u8 0, .int .u8 0, .int .u8 0, .int .u8 0], .agg #[.int .i64 0, .int .i64 0, .int .i64 0]], []⟩ 8 (by kernel_rfl) (by kernel_rfl) (by kernel_rfl) (by kernel_rfl)) ?_
  intro W base args ds gs before hval0 hW _ hsz _
  have hval : ∀ (j : Nat) t v, Try.f8.params[j]? = some t → args[j]? = some v → Value.okWide Try.prog W .any base t v := hval0
  have hW' := hW
  obtain ⟨p, q, hA0, hV, rfl, _, _⟩ := hW
  have hA : DataW.TrodAll enc Try.prog W 0 (fun _ => true) true Try.f8.params.toList args.toList ds p := hA0
  rw [Try.params8] at hA hval
  obtain ⟨rfl, rfl⟩ := trodVars_none hV
  obtain ⟨v0, v1, d0, d1, p0, p1, rfl, rfl, rfl, h0, h1⟩ := trodAll_two hA
  obtain ⟨f0, hf0⟩ := h0
  obtain ⟨x0, hq0, hv0, hk0, hw0⟩ := thing_of_trod hf0
  replace hv0 := agg_of_cells hv0 (by have := x0.cs_len; simp [Th.cs, hq0.d])
  have hB0 : x0.s.size ≤ 140737488355328 := by
    have hsz' : (DataW.weightsEach Try.prog (Try.f8.params.toList ++ Rows.wordNobodySpec.plain.varTypes Try.prog) ([d0, d1] ++ [])).all (· ≤ reachBytes) = true := hsz
    have h1 := List.all_eq_true.1 hsz' _ (DataW.weights_mem_each (j := 0) (t := 35) (d := d0) (by rw [Try.params8]; rfl) rfl _ hw0)
    have h2 : x0.s.size ≤ reachBytes := by simpa using h1
    exact Nat.le_trans h2 (by decide)
  obtain ⟨f1, hf1⟩ := h1
  obtain ⟨x1, hq1, hv1⟩ := ask_of_trod hf1
  replace hv1 := agg_of_cells hv1 (by simp [Qn.cs])
  rw [hv0, hv1] at hW' ⊢
  refine (lawNobody_any x0 hq0.d hB0 x1).mono fun e W' ⟨he, hw⟩ => ?_
  subst he
  exact ⟨_, rfl, post_law (tB := 4) hW' rfl rfl (by kernel_rfl) Try.underlying4 nobody_laid (by rw [Try.params8]; decide +kernel) hw.bel⟩

theorem wordNobody_holds : Rows.WordNobodySaid :=
  OpenClaim.holds_of_wide 8 Try.f8 rfl rfl rfl rfl rfl rfl rfl ⟨rfl, rfl, rfl, rfl, rfl⟩ rfl rfl rfl rfl rfl (by kernel_rfl) Try.func8 (by kernel_rfl)
    (of_decide_eq_true (by kernel_rfl)) (by unfold Func.isWrapper; rw [if_neg (of_decide_eq_false (by kernel_rfl))]; exact ⟨rfl, rfl⟩)
    (fun os started H enc _ => nobody_lifted os started H enc)
#print axioms wordNobody_holds
end Go.Proofs.Ytkfeejlpgcmilaa
