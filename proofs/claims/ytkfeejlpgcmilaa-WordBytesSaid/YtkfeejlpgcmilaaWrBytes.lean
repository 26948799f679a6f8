/- The row of WordBytes: for every input it answers true, and the input reads as it did. -/
import Derived.Test.YtkfeejlpgcmilaaRows
import Derived.Test.YtkfeejlpgcmilaaWlBytes
import Derived.Test.YtkfeejlpgcmilaaRtR
namespace Go.Proofs.Ytkfeejlpgcmilaa
open Go.ChangeShapes Go.WideShapes Go.ChangeMaps Go.RowKit Go.Rt

theorem bytes_own : ownKnob Try.prog.godebug = none := by kernel_rfl
theorem bytes_laid : laidOutB Try.prog = true := by kernel_rfl

set_option maxRecDepth 100000 in
theorem bytes_lifted (os : Os) (started : os.Started) (H : Type) (enc : TypeId × Value → H) :
    ReturnsInHanded {} Try.checked os 3 .any (Rows.wordBytesSpec.pre6 enc Try.prog Try.f3 Rows.wordBytesRow.domain false) (Rows.wordBytesSpec.post enc Try.prog Try.f3 false true false false) := by
  refine returnsInHanded_of_change_sized (C := Try.checked) bytes_own started (by kernel_rfl) Try.func3
    (ChangeSpec.witness6 (enc := enc) (C := Try.checked) false ⟨#[], #[.slice none 0 0], []⟩ 8 (by kernel_rfl) (by kernel_rfl) (by kernel_rfl) (by kernel_rfl)) ?_
  intro W base args ds gs before hval0 hW _ hsz _
  have hval : ∀ (j : Nat) t v, Try.f3.params[j]? = some t → args[j]? = some v → Value.okWide Try.prog W .any base t v := hval0
  have hW' := hW
  obtain ⟨p, q, hA0, hV, rfl, _, _⟩ := hW
  have hA : DataW.TrodAll enc Try.prog W 0 (fun _ => true) true Try.f3.params.toList args.toList ds p := hA0
  rw [Try.params3] at hA hval
  obtain ⟨rfl, rfl⟩ := trodVars_none hV
  obtain ⟨v0, d0, rfl, rfl, h0⟩ := trodAll_one hA
  obtain ⟨a0, l0, c0, rfl⟩ := okWide_slice Try.underlying22 (hval 0 22 v0 rfl rfl)
  obtain ⟨fuel, hf⟩ := h0
  obtain ⟨A, c, ts, hv, hcame, hr, _, hw⟩ := open_things hf
  rw [hv]
  have hB : ∀ x ∈ ts, x.s.size ≤ 140737488355328 := fun x hx => by
    have hsz' : (DataW.weightsEach Try.prog (Try.f3.params.toList ++ Rows.wordBytesSpec.plain.varTypes Try.prog) ([d0] ++ [])).all (· ≤ reachBytes) = true := hsz
    have h1 := List.all_eq_true.1 hsz' _ (DataW.weights_mem_each (j := 0) (t := 22) (d := d0) (by rw [Try.params3]; rfl) rfl _ (hw x hx))
    have h2 : x.s.size ≤ reachBytes := by simpa using h1
    exact Nat.le_trans h2 (by decide)
  rw [hv] at hW'
  refine (lawBytes_any A c ts hcame hB hr).mono fun e W' ⟨he, hw⟩ => ?_
  subst he
  exact ⟨_, rfl, post_law (tB := 4) hW' rfl rfl (by kernel_rfl) Try.underlying4 bytes_laid (by rw [Try.params3]; decide +kernel) hw.bel⟩

theorem wordBytes_holds : Rows.WordBytesSaid :=
  OpenClaim.holds_of_wide 3 Try.f3 rfl rfl rfl rfl rfl rfl rfl ⟨rfl, rfl, rfl, rfl, rfl⟩ rfl rfl rfl rfl rfl (by kernel_rfl) Try.func3 (by kernel_rfl)
    (of_decide_eq_true (by kernel_rfl)) (by unfold Func.isWrapper; rw [if_neg (of_decide_eq_false (by kernel_rfl))]; exact ⟨rfl, rfl⟩)
    (fun os started H enc _ => bytes_lifted os started H enc)
#print axioms wordBytes_holds
end Go.Proofs.Ytkfeejlpgcmilaa
