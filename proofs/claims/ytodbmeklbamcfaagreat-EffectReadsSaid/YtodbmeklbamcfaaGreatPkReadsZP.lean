/- The row WrEffectReads: for every input the law answers true, and the input reads as it did; ahead of it the texts . -/
import Derived.Test.YtodbmeklbamcfaaGreatRows
import Derived.Test.YtodbmeklbamcfaaGreatPkReadsZO
import Derived.Test.YtodbmeklbamcfaaGreatPkReadsX
import Derived.Test.YtodbmeklbamcfaaGreatPkReadsA
import Derived.Test.YtodbmeklbamcfaaGreatPkReadsB
import Derived.Test.YtodbmeklbamcfaaGreatPkReadsC
import Derived.Test.YtodbmeklbamcfaaGreatPkReadsD
import Derived.Test.YtodbmeklbamcfaaGreatPkReadsE
import Derived.Test.YtodbmeklbamcfaaGreatPkReadsF
import Derived.Test.YtodbmeklbamcfaaGreatPkReadsG
import Derived.Test.YtodbmeklbamcfaaGreatPkReadsH
import Derived.Test.YtodbmeklbamcfaaGreatPkReadsI
import Derived.Test.YtodbmeklbamcfaaGreatPkReadsJ
import Derived.Test.YtodbmeklbamcfaaGreatPkReadsK
import Derived.Test.YtodbmeklbamcfaaGreatPkReadsL
import Derived.Test.YtodbmeklbamcfaaGreatPkReadsM
import Derived.Test.YtodbmeklbamcfaaGreatPkReadsN
import Derived.Test.YtodbmeklbamcfaaGreatPkReadsO
import Derived.Test.YtodbmeklbamcfaaGreatPkReadsP
import Derived.Test.YtodbmeklbamcfaaGreatPkReadsQ
import Derived.Test.YtodbmeklbamcfaaGreatPkReadsR
import Derived.Test.YtodbmeklbamcfaaGreatPkReadsS
import Derived.Test.YtodbmeklbamcfaaGreatPkReadsT
import Derived.Test.YtodbmeklbamcfaaGreatPkReadsU
import Derived.Test.YtodbmeklbamcfaaGreatPkReadsV
import Derived.Test.YtodbmeklbamcfaaGreatPkReadsW
import Derived.Test.YtodbmeklbamcfaaGreatPkReadsY
import Derived.Test.YtodbmeklbamcfaaGreatPkReadsZA
import Derived.Test.YtodbmeklbamcfaaGreatPkReadsZB
import Derived.Test.YtodbmeklbamcfaaGreatPkReadsZC
import Derived.Test.YtodbmeklbamcfaaGreatPkReadsZD
import Derived.Test.YtodbmeklbamcfaaGreatPkReadsZE
import Derived.Test.YtodbmeklbamcfaaGreatPkReadsZF
import Derived.Test.YtodbmeklbamcfaaGreatPkReadsZG
import Derived.Test.YtodbmeklbamcfaaGreatPkReadsZH
import Derived.Test.YtodbmeklbamcfaaGreatPkReadsZI
import Derived.Test.YtodbmeklbamcfaaGreatPkReadsZJ
import Derived.Test.YtodbmeklbamcfaaGreatPkReadsZK
import Derived.Test.YtodbmeklbamcfaaGreatPkReadsZL
import Derived.Test.YtodbmeklbamcfaaGreatPkReadsZM
import Derived.Test.YtodbmeklbamcfaaGreatPkReadsZN
/- The row of EffectReads: for every input it answers true, and the input reads as it did. -/
namespace Go.Proofs.YtodbmeklbamcfaaGreat
open Go.ChangeShapes Go.WideShapes Go.ChangeMaps Go.RowKit Go.Rt

theorem effectReads_own : ownKnob Tryz.prog.godebug = none := by kernel_rfl
theorem effectReads_laid : laidOutB Tryz.prog = true := by kernel_rfl

set_option maxRecDepth 100000 in
theorem effectReads_lifted (os : Os) (started : os.Started) (H : Type) (enc : TypeId × Value → H) :
    ReturnsInHanded {} Tryz.checked os 4 .any (Rows.effectReadsSpec.pre6 enc Tryz.prog Tryz.f4 Rows.effectReadsRow.domain false) (Rows.effectReadsSpec.post enc Tryz.prog Tryz.f4 false true false false) := by
  refine returnsInHanded_of_change (C := Tryz.checked) effectReads_own started (by kernel_rfl) Tryz.func4
    (ChangeSpec.witness6 (enc := enc) (C := Tryz.checked) false ⟨#[], #[.slice none 0 0], []⟩ 8 (by kernel_rfl) (by kernel_rfl) (by kernel_rfl) (by kernel_rfl)) ?_
  intro W base args ds gs before hval0 hW _ _
  have hval : ∀ (j : Nat) t v, Tryz.f4.params[j]? = some t → args[j]? = some v → Value.okWide Tryz.prog W .any base t v := hval0
  have hW' := hW
  obtain ⟨p, q, hA0, hV, rfl, _, _⟩ := hW
  have hA : DataW.TrodAll enc Tryz.prog W 0 (fun _ => true) true Tryz.f4.params.toList args.toList ds p := hA0
  rw [Tryz.params4] at hA hval
  obtain ⟨rfl, rfl⟩ := trodVars_none hV
  obtain ⟨v0, d0, rfl, rfl, h0⟩ := trodAll_one hA
  obtain ⟨a0, l0, c0, rfl⟩ := okWide_slice Tryz.underlying30 (hval 0 30 v0 rfl rfl)
  obtain ⟨f0, hf0⟩ := h0
  obtain ⟨A0, k0, x0, hv0, hc0, hr0⟩ := open_bsl hf0
  rw [hv0] at hW' ⊢
  refine (lawEffectReads_any A0 k0 x0 hc0 hr0).mono fun e W' ⟨he, hw⟩ => ?_
  subst he
  exact ⟨_, rfl, post_law (tB := 4) hW' rfl rfl (by kernel_rfl) Tryz.underlying4 effectReads_laid (by rw [Tryz.params4]; decide +kernel) hw.bel⟩

theorem effectReads_holds : Rows.EffectReadsSaid :=
  OpenClaim.holds_of_wide 4 Tryz.f4 rfl rfl rfl rfl rfl rfl rfl ⟨rfl, rfl, rfl, rfl, rfl⟩ rfl rfl rfl rfl rfl (by kernel_rfl) Tryz.func4 (by kernel_rfl)
    (of_decide_eq_true (by kernel_rfl)) (by unfold Func.isWrapper; rw [if_neg (of_decide_eq_false (by kernel_rfl))]; exact ⟨rfl, rfl⟩)
    (fun os started H enc _ => effectReads_lifted os started H enc)
#print axioms effectReads_holds
end Go.Proofs.YtodbmeklbamcfaaGreat
