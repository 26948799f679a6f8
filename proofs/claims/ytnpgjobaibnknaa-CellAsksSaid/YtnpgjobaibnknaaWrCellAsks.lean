/- The row of CellAsks: for every input it answers true, and the input reads as it did. -/
import Derived.Test.YtnpgjobaibnknaaRows
import Derived.Test.YtnpgjobaibnknaaKlCAsks
import Derived.Test.YtnpgjobaibnknaaKoZ
import Derived.Test.YtnpgjobaibnknaaRtR
namespace Go.Proofs.Ytnpgjobaibnknaa
open Go.ChangeShapes Go.WideShapes Go.ChangeMaps Go.RowKit Go.Rt

theorem cellAsks_own : ownKnob Try.prog.godebug = none := by kernel_rfl
theorem cellAsks_laid : laidOutB Try.prog = true := by kernel_rfl

set_option maxRecDepth 100000 in
theorem cellAsks_lifted (os : Os) (started : os.Started) (H : Type) (enc : TypeId × Value → H) :
    ReturnsInHanded {} Try.checked os 9 .any (Rows.cellAsksSpec.pre6 enc Try.prog Try.f9 Rows.cellAsksRow.domain false) (Rows.cellAsksSpec.post enc Try.prog Try.f9 false true false false) := by
  refine returnsInHanded_of_change (C := Try.checked) cellAsks_own started (by kernel_rfl) Try.func9
    (ChangeSpec.witness6 (enc := enc) (C := Try.checked) false ⟨#[], #[.slice none 0 0, .string ⟨#[]⟩, .agg #[.string ⟨#[]⟩, .string ⟨#[]⟩], .int .i64 0], []⟩ 8 (by kernel_rfl) (by kernel_rfl) (by kernel_rfl) (by kernel_rfl)) ?_
  intro W base args ds gs before hval0 hW _ _
  have hval : ∀ (j : Nat) t v, Try.f9.params[j]? = some t → args[j]? = some v → Value.okWide Try.prog W .any base t v := hval0
  have hW' := hW
  obtain ⟨p, q, hA0, hV, rfl, _, _⟩ := hW
  have hA : DataW.TrodAll enc Try.prog W 0 (fun _ => true) true Try.f9.params.toList args.toList ds p := hA0
  rw [Try.params9] at hA hval
  obtain ⟨rfl, rfl⟩ := trodVars_none hV
  obtain ⟨v0, v1, v2, v3, d0, d1, d2, d3, p0, p1, p2, p3, rfl, rfl, rfl, h0, h1, h2, h3⟩ := trodAll_four hA
  obtain ⟨a0, l0, c0, rfl⟩ := okWide_slice Try.underlying40 (hval 0 40 v0 rfl rfl)
  obtain ⟨f0, hf0⟩ := h0
  obtain ⟨A0, k0, x0, hv0, hc0, hq0, hr0⟩ := open_pairs hf0
  obtain ⟨s1, rfl, rfl, rfl, w1⟩ := open_string Try.underlying9 (hval 1 9 v1 rfl rfl) h1
  obtain ⟨x1, rfl⟩ : ∃ L : List UInt8, s1 = ⟨L.toArray⟩ := ⟨s1.data.toList, rfl⟩
  have z1 : x1.length ≤ maxLen := by simpa [ByteArray.size] using w1
  obtain ⟨f2, hf2⟩ := h2
  obtain ⟨x2, hq2, hv2⟩ := sp_of_trod hf2
  replace hv2 := agg_of_cells hv2 (by simp [Sp.cs])
  obtain ⟨x3, rfl, rfl, rfl, wf3⟩ := open_int Try.underlying3 (hval 3 3 v3 rfl rfl) h3
  have w3 := wf_i64' wf3
  rw [hv0, hv2] at hW' ⊢
  refine (lawCellAsks_any A0 k0 x0 hc0 hr0 x1 x2 x3).mono fun e W' ⟨he, hw⟩ => ?_
  subst he
  exact ⟨_, rfl, post_law (tB := 4) hW' rfl rfl (by kernel_rfl) Try.underlying4 cellAsks_laid (by rw [Try.params9]; decide +kernel) hw.bel⟩

theorem cellAsks_holds : Rows.CellAsksSaid :=
  OpenClaim.holds_of_wide 9 Try.f9 rfl rfl rfl rfl rfl rfl rfl ⟨rfl, rfl, rfl, rfl, rfl⟩ rfl rfl rfl rfl rfl (by kernel_rfl) Try.func9 (by kernel_rfl)
    (of_decide_eq_true (by kernel_rfl)) (by unfold Func.isWrapper; rw [if_neg (of_decide_eq_false (by kernel_rfl))]; exact ⟨rfl, rfl⟩)
    (fun os started H enc _ => cellAsks_lifted os started H enc)
#print axioms cellAsks_holds
end Go.Proofs.Ytnpgjobaibnknaa
