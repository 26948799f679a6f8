/- The row WrEffectKnown: for every input the law answers true, and the input reads as it did; ahead of it the texts . -/
import Derived.Test.YtodbmeklbamcfaaGreatRows
import Derived.Test.YtodbmeklbamcfaaGreatPkKnownZK
import Derived.Test.YtodbmeklbamcfaaGreatPkKnownA
import Derived.Test.YtodbmeklbamcfaaGreatPkKnownB
import Derived.Test.YtodbmeklbamcfaaGreatPkKnownC
import Derived.Test.YtodbmeklbamcfaaGreatPkKnownD
import Derived.Test.YtodbmeklbamcfaaGreatPkKnownE
import Derived.Test.YtodbmeklbamcfaaGreatPkKnownF
import Derived.Test.YtodbmeklbamcfaaGreatPkKnownG
import Derived.Test.YtodbmeklbamcfaaGreatPkKnownH
import Derived.Test.YtodbmeklbamcfaaGreatPkKnownI
import Derived.Test.YtodbmeklbamcfaaGreatPkKnownJ
import Derived.Test.YtodbmeklbamcfaaGreatPkKnownK
import Derived.Test.YtodbmeklbamcfaaGreatPkKnownL
import Derived.Test.YtodbmeklbamcfaaGreatPkKnownM
import Derived.Test.YtodbmeklbamcfaaGreatPkKnownN
import Derived.Test.YtodbmeklbamcfaaGreatPkKnownO
import Derived.Test.YtodbmeklbamcfaaGreatPkKnownP
import Derived.Test.YtodbmeklbamcfaaGreatPkKnownQ
import Derived.Test.YtodbmeklbamcfaaGreatPkKnownR
import Derived.Test.YtodbmeklbamcfaaGreatPkKnownS
import Derived.Test.YtodbmeklbamcfaaGreatPkKnownT
import Derived.Test.YtodbmeklbamcfaaGreatPkKnownU
import Derived.Test.YtodbmeklbamcfaaGreatPkKnownV
import Derived.Test.YtodbmeklbamcfaaGreatPkKnownW
import Derived.Test.YtodbmeklbamcfaaGreatPkKnownX
import Derived.Test.YtodbmeklbamcfaaGreatPkKnownY
import Derived.Test.YtodbmeklbamcfaaGreatPkKnownZA
import Derived.Test.YtodbmeklbamcfaaGreatPkKnownZB
import Derived.Test.YtodbmeklbamcfaaGreatPkKnownZC
import Derived.Test.YtodbmeklbamcfaaGreatPkKnownZD
import Derived.Test.YtodbmeklbamcfaaGreatPkKnownZE
import Derived.Test.YtodbmeklbamcfaaGreatPkKnownZF
import Derived.Test.YtodbmeklbamcfaaGreatPkKnownZG
import Derived.Test.YtodbmeklbamcfaaGreatPkKnownZH
import Derived.Test.YtodbmeklbamcfaaGreatPkKnownZI
import Derived.Test.YtodbmeklbamcfaaGreatPkKnownZJ
/- The row of EffectKnown: for every input it answers true, and the input reads as it did. -/
namespace Go.Proofs.YtodbmeklbamcfaaGreat
open Go.ChangeShapes Go.WideShapes Go.ChangeMaps Go.RowKit Go.Rt

theorem effectKnown_own : ownKnob Tryz.prog.godebug = none := by kernel_rfl
theorem effectKnown_laid : laidOutB Tryz.prog = true := by kernel_rfl

set_option maxRecDepth 100000 in
theorem effectKnown_lifted (os : Os) (started : os.Started) (H : Type) (enc : TypeId × Value → H) :
    ReturnsInHanded {} Tryz.checked os 6 .any (Rows.effectKnownSpec.pre6 enc Tryz.prog Tryz.f6 Rows.effectKnownRow.domain false) (Rows.effectKnownSpec.post enc Tryz.prog Tryz.f6 false true false false) := by
  refine returnsInHanded_of_change (C := Tryz.checked) effectKnown_own started (by kernel_rfl) Tryz.func6
    (ChangeSpec.witness6 (enc := enc) (C := Tryz.checked) false ⟨#[], #[], []⟩ 8 (by kernel_rfl) (by kernel_rfl) (by kernel_rfl) (by kernel_rfl)) ?_
  intro W base args ds gs before hval0 hW _ _
  have hval : ∀ (j : Nat) t v, Tryz.f6.params[j]? = some t → args[j]? = some v → Value.okWide Tryz.prog W .any base t v := hval0
  have hW' := hW
  obtain ⟨p, q, hA0, hV, rfl, _, _⟩ := hW
  have hA : DataW.TrodAll enc Tryz.prog W 0 (fun _ => true) true Tryz.f6.params.toList args.toList ds p := hA0
  rw [Tryz.params6] at hA hval
  obtain ⟨rfl, rfl⟩ := trodVars_none hV
  obtain ⟨ha, rfl, rfl⟩ := trodAll_nil hA
  obtain rfl : args = #[] := by cases args; simp_all
  refine (lawEffectKnown_any).mono fun e W' ⟨he, hw⟩ => ?_
  subst he
  exact ⟨_, rfl, post_law (tB := 4) hW' rfl rfl (by kernel_rfl) Tryz.underlying4 effectKnown_laid (by rw [Tryz.params6]; decide +kernel) hw.bel⟩

theorem effectKnown_holds : Rows.EffectKnownSaid :=
  OpenClaim.holds_of_wide 6 Tryz.f6 rfl rfl rfl rfl rfl rfl rfl ⟨rfl, rfl, rfl, rfl, rfl⟩ rfl rfl rfl rfl rfl (by kernel_rfl) Tryz.func6 (by kernel_rfl)
    (of_decide_eq_true (by kernel_rfl)) (by unfold Func.isWrapper; rw [if_neg (of_decide_eq_false (by kernel_rfl))]; exact ⟨rfl, rfl⟩)
    (fun os started H enc _ => effectKnown_lifted os started H enc)
#print axioms effectKnown_holds
end Go.Proofs.YtodbmeklbamcfaaGreat
