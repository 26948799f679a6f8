/- The row of CellParts: for every input it answers true, and the input reads as it did. -/
import Derived.Test.YtnpgjobaibnknaaRows
import Derived.Test.YtnpgjobaibnknaaKlCParts
import Derived.Test.YtnpgjobaibnknaaKoZ
import Derived.Test.YtnpgjobaibnknaaRtR
namespace Go.Proofs.Ytnpgjobaibnknaa
open Go.ChangeShapes Go.WideShapes Go.ChangeMaps Go.RowKit Go.Rt

theorem cellParts_own : ownKnob Try.prog.godebug = none := by kernel_rfl
theorem cellParts_laid : laidOutB Try.prog = true := by kernel_rfl

set_option maxRecDepth 100000 in
theorem cellParts_lifted (os : Os) (started : os.Started) (H : Type) (enc : TypeId × Value → H) :
    ReturnsInHanded {} Try.checked os 10 .any (Rows.cellPartsSpec.pre6 enc Try.prog Try.f10 Rows.cellPartsRow.domain false) (Rows.cellPartsSpec.post enc Try.prog Try.f10 false true false false) := by
  refine returnsInHanded_of_change (C := Try.checked) cellParts_own started (by kernel_rfl) Try.func10
    (ChangeSpec.witness6 (enc := enc) (C := Try.checked) false ⟨#[], #[.slice none 0 0, .agg #[.string ⟨#[]⟩, .string ⟨#[]⟩], .string ⟨#[]⟩, .int .i64 0], []⟩ 8 (by kernel_rfl) (by kernel_rfl) (by kernel_rfl) (by kernel_rfl)) ?_
  intro W base args ds gs before hval0 hW _ _
  have hval : ∀ (j : Nat) t v, Try.f10.params[j]? = some t → args[j]? = some v → Value.okWide Try.prog W .any base t v := hval0
  have hW' := hW
  obtain ⟨p, q, hA0, hV, rfl, _, _⟩ := hW
  have hA : DataW.TrodAll enc Try.prog W 0 (fun _ => true) true Try.f10.params.toList args.toList ds p := hA0
  rw [Try.params10] at hA hval
  obtain ⟨rfl, rfl⟩ := trodVars_none hV
  obtain ⟨v0, v1, v2, v3, d0, d1, d2, d3, p0, p1, p2, p3, rfl, rfl, rfl, h0, h1, h2, h3⟩ := trodAll_four hA
  obtain ⟨a0, l0, c0, rfl⟩ := okWide_slice Try.underlying40 (hval 0 40 v0 rfl rfl)
  obtain ⟨f0, hf0⟩ := h0
  obtain ⟨A0, k0, x0, hv0, hc0, hq0, hr0⟩ := open_pairs hf0
  obtain ⟨f1, hf1⟩ := h1
  obtain ⟨x1, hq1, hv1⟩ := sp_of_trod hf1
  replace hv1 := agg_of_cells hv1 (by simp [Sp.cs])
  obtain ⟨s2, rfl, rfl, rfl, w2⟩ := open_string Try.underlying9 (hval 2 9 v2 rfl rfl) h2
  obtain ⟨x2, rfl⟩ : ∃ L : List UInt8, s2 = ⟨L.toArray⟩ := ⟨s2.data.toList, rfl⟩
  have z2 : x2.length ≤ maxLen := by simpa [ByteArray.size] using w2
  obtain ⟨x3, rfl, rfl, rfl, wf3⟩ := open_int Try.underlying3 (hval 3 3 v3 rfl rfl) h3
  have w3 := wf_i64' wf3
  rw [hv0, hv1] at hW' ⊢
  refine (lawCellParts_any A0 k0 x0 hc0 hr0 x1 x2 x3).mono fun e W' ⟨he, hw⟩ => ?_
  subst he
  exact ⟨_, rfl, post_law (tB := 4) hW' rfl rfl (by kernel_rfl) Try.underlying4 cellParts_laid (by rw [Try.params10]; decide +kernel) hw.bel⟩

theorem cellParts_holds : Rows.CellPartsSaid :=
  OpenClaim.holds_of_wide 10 Try.f10 rfl rfl rfl rfl rfl rfl rfl ⟨rfl, rfl, rfl, rfl, rfl⟩ rfl rfl rfl rfl rfl (by kernel_rfl) Try.func10 (by kernel_rfl)
    (of_decide_eq_true (by kernel_rfl)) (by unfold Func.isWrapper; rw [if_neg (of_decide_eq_false (by kernel_rfl))]; exact ⟨rfl, rfl⟩)
    (fun os started H enc _ => cellParts_lifted os started H enc)
#print axioms cellParts_holds
end Go.Proofs.Ytnpgjobaibnknaa
