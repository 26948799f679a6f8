/- The row of CellWrites: for every input it answers true, and the input reads as it did. -/
import Derived.Test.YtnpgjobaibnknaaRows
import Derived.Test.YtnpgjobaibnknaaKlCWrites
import Derived.Test.YtnpgjobaibnknaaKoZ
import Derived.Test.YtnpgjobaibnknaaRtR
namespace Go.Proofs.Ytnpgjobaibnknaa
open Go.ChangeShapes Go.WideShapes Go.ChangeMaps Go.RowKit Go.Rt

theorem cellWrites_own : ownKnob Try.prog.godebug = none := by kernel_rfl
theorem cellWrites_laid : laidOutB Try.prog = true := by kernel_rfl

set_option maxRecDepth 100000 in
theorem cellWrites_lifted (os : Os) (started : os.Started) (H : Type) (enc : TypeId × Value → H) :
    ReturnsInHanded {} Try.checked os 8 .any (Rows.cellWritesSpec.pre6 enc Try.prog Try.f8 Rows.cellWritesRow.domain false) (Rows.cellWritesSpec.post enc Try.prog Try.f8 false true false false) := by
  refine returnsInHanded_of_change (C := Try.checked) cellWrites_own started (by kernel_rfl) Try.func8
    (ChangeSpec.witness6 (enc := enc) (C := Try.checked) false ⟨#[], #[.slice none 0 0, .slice none 0 0, .string ⟨#[]⟩], []⟩ 8 (by kernel_rfl) (by kernel_rfl) (by kernel_rfl) (by kernel_rfl)) ?_
  intro W base args ds gs before hval0 hW _ _
  have hval : ∀ (j : Nat) t v, Try.f8.params[j]? = some t → args[j]? = some v → Value.okWide Try.prog W .any base t v := hval0
  have hW' := hW
  obtain ⟨p, q, hA0, hV, rfl, _, _⟩ := hW
  have hA : DataW.TrodAll enc Try.prog W 0 (fun _ => true) true Try.f8.params.toList args.toList ds p := hA0
  rw [Try.params8] at hA hval
  obtain ⟨rfl, rfl⟩ := trodVars_none hV
  obtain ⟨v0, v1, v2, d0, d1, d2, p0, p1, p2, rfl, rfl, rfl, h0, h1, h2⟩ := trodAll_three hA
  obtain ⟨a0, l0, c0, rfl⟩ := okWide_slice Try.underlying40 (hval 0 40 v0 rfl rfl)
  obtain ⟨f0, hf0⟩ := h0
  obtain ⟨A0, k0, x0, hv0, hc0, hq0, hr0⟩ := open_pairs hf0
  obtain ⟨a1, l1, c1, rfl⟩ := okWide_slice Try.underlying41 (hval 1 41 v1 rfl rfl)
  obtain ⟨f1, hf1⟩ := h1
  obtain ⟨A1, k1, x1, hv1, hc1, hq1, hr1⟩ := open_writes hf1
  obtain ⟨s2, rfl, rfl, rfl, w2⟩ := open_string Try.underlying9 (hval 2 9 v2 rfl rfl) h2
  obtain ⟨x2, rfl⟩ : ∃ L : List UInt8, s2 = ⟨L.toArray⟩ := ⟨s2.data.toList, rfl⟩
  have z2 : x2.length ≤ maxLen := by simpa [ByteArray.size] using w2
  rw [hv0, hv1] at hW' ⊢
  refine (lawCellWrites_any A0 k0 x0 hc0 hr0 A1 k1 x1 hc1 hr1 x2).mono fun e W' ⟨he, hw⟩ => ?_
  subst he
  exact ⟨_, rfl, post_law (tB := 4) hW' rfl rfl (by kernel_rfl) Try.underlying4 cellWrites_laid (by rw [Try.params8]; decide +kernel) hw.bel⟩

theorem cellWrites_holds : Rows.CellWritesSaid :=
  OpenClaim.holds_of_wide 8 Try.f8 rfl rfl rfl rfl rfl rfl rfl ⟨rfl, rfl, rfl, rfl, rfl⟩ rfl rfl rfl rfl rfl (by kernel_rfl) Try.func8 (by kernel_rfl)
    (of_decide_eq_true (by kernel_rfl)) (by unfold Func.isWrapper; rw [if_neg (of_decide_eq_false (by kernel_rfl))]; exact ⟨rfl, rfl⟩)
    (fun os started H enc _ => cellWrites_lifted os started H enc)
#print axioms cellWrites_holds
end Go.Proofs.Ytnpgjobaibnknaa
