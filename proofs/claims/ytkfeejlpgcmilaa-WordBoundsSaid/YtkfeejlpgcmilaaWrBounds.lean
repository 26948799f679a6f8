/- The row of WordBounds: for every input it answers true, and the input reads as it did. -/
import Derived.Test.YtkfeejlpgcmilaaRows
import Derived.Test.YtkfeejlpgcmilaaWlBounds
import Derived.Test.YtkfeejlpgcmilaaWoD
import Derived.Test.YtkfeejlpgcmilaaRtR
namespace Go.Proofs.Ytkfeejlpgcmilaa
open Go.ChangeShapes Go.WideShapes Go.ChangeMaps Go.RowKit Go.Rt

theorem bounds_own : ownKnob Try.prog.godebug = none := by kernel_rfl
theorem bounds_laid : laidOutB Try.prog = true := by kernel_rfl

set_option maxRecDepth 100000 in
theorem bounds_lifted (os : Os) (started : os.Started) (H : Type) (enc : TypeId × Value → H) :
    ReturnsInHanded {} Try.checked os 11 .any (Rows.wordBoundsSpec.pre6 enc Try.prog Try.f11 Rows.wordBoundsRow.domain false) (Rows.wordBoundsSpec.post enc Try.prog Try.f11 false true false false) := by
  refine returnsInHanded_of_change (C := Try.checked) bounds_own started (by kernel_rfl) Try.func11
    (ChangeSpec.witness6 (enc := enc) (C := Try.checked) false ⟨#[], #[.int .i64 0, .int .i64 0, .int .i64 0, .string ⟨#[]⟩, .slice none 0 0], []⟩ 8 (by kernel_rfl) (by kernel_rfl) (by kernel_rfl) (by kernel_rfl)) ?_
  intro W base args ds gs before hval0 hW _ _
  have hval : ∀ (j : Nat) t v, Try.f11.params[j]? = some t → args[j]? = some v → Value.okWide Try.prog W .any base t v := hval0
  have hW' := hW
  obtain ⟨p, q, hA0, hV, rfl, _, _⟩ := hW
  have hA : DataW.TrodAll enc Try.prog W 0 (fun _ => true) true Try.f11.params.toList args.toList ds p := hA0
  rw [Try.params11] at hA hval
  obtain ⟨rfl, rfl⟩ := trodVars_none hV
  obtain ⟨v0, v1, v2, v3, v4, d0, d1, d2, d3, d4, p0, p1, p2, p3, p4, rfl, rfl, rfl, h0, h1, h2, h3, h4⟩ := trodAll_five hA
  obtain ⟨x0, rfl, rfl, rfl, wf0⟩ := open_int Try.underlying3 (hval 0 3 v0 rfl rfl) h0
  have w0 := wf_i64 wf0
  obtain ⟨x1, rfl, rfl, rfl, wf1⟩ := open_int Try.underlying3 (hval 1 3 v1 rfl rfl) h1
  have w1 := wf_i64 wf1
  obtain ⟨x2, rfl, rfl, rfl, wf2⟩ := open_int Try.underlying3 (hval 2 3 v2 rfl rfl) h2
  have w2 := wf_i64 wf2
  obtain ⟨s3, rfl, rfl, rfl, w3⟩ := open_string Try.underlying9 (hval 3 9 v3 rfl rfl) h3
  obtain ⟨x3, rfl⟩ : ∃ L : List UInt8, s3 = ⟨L.toArray⟩ := ⟨s3.data.toList, rfl⟩
  have z3 : x3.length ≤ maxLen := by simpa [ByteArray.size] using w3
  obtain ⟨a4, l4, c4, rfl⟩ := okWide_slice Try.underlying62 (hval 4 62 v4 rfl rfl)
  obtain ⟨f4, hf4⟩ := h4
  obtain ⟨A4, k4, x4, hv4, hq4, hr4⟩ := open_asks hf4
  rw [hv4] at hW' ⊢
  refine (lawBounds_any x0 x1 x2 w0 x3 z3 A4 k4 x4 hr4).mono fun e W' ⟨he, hw⟩ => ?_
  subst he
  exact ⟨_, rfl, post_law (tB := 4) hW' rfl rfl (by kernel_rfl) Try.underlying4 bounds_laid (by rw [Try.params11]; decide +kernel) hw.bel⟩

theorem wordBounds_holds : Rows.WordBoundsSaid :=
  OpenClaim.holds_of_wide 11 Try.f11 rfl rfl rfl rfl rfl rfl rfl ⟨rfl, rfl, rfl, rfl, rfl⟩ rfl rfl rfl rfl rfl (by kernel_rfl) Try.func11 (by kernel_rfl)
    (of_decide_eq_true (by kernel_rfl)) (by unfold Func.isWrapper; rw [if_neg (of_decide_eq_false (by kernel_rfl))]; exact ⟨rfl, rfl⟩)
    (fun os started H enc _ => bounds_lifted os started H enc)
#print axioms wordBounds_holds
end Go.Proofs.Ytkfeejlpgcmilaa
