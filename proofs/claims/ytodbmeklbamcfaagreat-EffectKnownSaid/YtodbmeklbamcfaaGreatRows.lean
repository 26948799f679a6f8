/-
  No cell of these rows narrows 'for every input' (looked for: loops, veiled, ifaces, maps, wideKeys, modest, calm, conditions, laid).
  DERIVED. THE GIVEN ROWS OF THIS SEAT. 10 by the template 'for every input the law returns true; each argument reads behind the call as it read before'; 0 by the template 'total and deterministic' (their statements: YtodbmeklbamcfaaGreatTotals.lean).
  GIVEN WITH THE SEED: the statements are not yours to turn. If you find one false, say at which input.
  Laid BY PROGRAM, IN A SANDBOX (cutbox-rows.mjs): the forced cells as the released guide's own fill.sh prints them over the translation 4c4fdd98e7933cc8… (all of the seat's roots in one cut). By AI agents, Wed Nov 11 2026. No macro, syntax, notation, axiom, sorry.
-/
import Derived.Test.YtodbmeklbamcfaaGreatChecked
import GoSem.Claim
import GoSem.ClaimJoined
import GoSem.ClaimMapViews
import Derived.JoinedTies
import Derived.KernelRfl
namespace Go.Proofs.YtodbmeklbamcfaaGreat
/- THE CELL 'sum', in the pinned program and in every row, IS THE sha256 OF THE DUMP (.gsa) THAT YtodbmeklbamcfaaGreatProg.lean LOADS. Nothing in Lean hashes anything: it is a label: what it is worth is what the hold of that sum in a sandbox is worth. -/
noncomputable def Tryz.pinned : Pinned := { name := "ytodbmeklbamcfaagreat", sum := "4c4fdd98e7933cc8773338e23ea240aac3537761855c239d2cfa2fe5255a6820", checked := Tryz.checked }
namespace Rows
def none {H : Type} : Left H := { results := [], args := [] }

/-- 'retconlaw09.EffectWrites': WHATEVER THE INPUT: true; the input reads as it did. -/
def effectWritesSpec : ChangeSpec := { name := "effectWrites", fn := fun _ => fun
  | [d1, d2] => { results := [.lit (.bool true)], args := [d1, d2] }
  | _ => none }
def effectWritesRow : OpenClaim := { program := "ytodbmeklbamcfaagreat", sum := "4c4fdd98e7933cc8773338e23ea240aac3537761855c239d2cfa2fe5255a6820", func := "retcon/retconlaw09.EffectWrites", spec := "effectWrites", unfollowed := true, recurses := true, apart := false }
def EffectWritesSaid : Prop := effectWritesRow.holds Tryz.pinned (OpenSpec.ofChange effectWritesSpec)

/-- ITS FALSE NEIGHBOUR: 'it returns false'. Refute it at one input. -/
def effectWritesWrong : ChangeSpec := { name := "effectWrites", fn := fun _ => fun
  | [d1, d2] => { results := [.lit (.bool false)], args := [d1, d2] }
  | _ => none }
def EffectWritesWrongFalsely : Prop := effectWritesRow.holds Tryz.pinned (OpenSpec.ofChange effectWritesWrong)

/-- 'retconlaw09.EffectReads': WHATEVER THE INPUT: true; the input reads as it did. -/
def effectReadsSpec : ChangeSpec := { name := "effectReads", fn := fun _ => fun
  | [d] => { results := [.lit (.bool true)], args := [d] }
  | _ => none }
def effectReadsRow : OpenClaim := { program := "ytodbmeklbamcfaagreat", sum := "4c4fdd98e7933cc8773338e23ea240aac3537761855c239d2cfa2fe5255a6820", func := "retcon/retconlaw09.EffectReads", spec := "effectReads", unfollowed := true, recurses := true, apart := false }
def EffectReadsSaid : Prop := effectReadsRow.holds Tryz.pinned (OpenSpec.ofChange effectReadsSpec)

/-- ITS FALSE NEIGHBOUR: 'it returns false'. Refute it at one input. -/
def effectReadsWrong : ChangeSpec := { name := "effectReads", fn := fun _ => fun
  | [d] => { results := [.lit (.bool false)], args := [d] }
  | _ => none }
def EffectReadsWrongFalsely : Prop := effectReadsRow.holds Tryz.pinned (OpenSpec.ofChange effectReadsWrong)

/-- 'retconlaw09.EffectBack': WHATEVER THE INPUT: true; the input reads as it did. -/
def effectBackSpec : ChangeSpec := { name := "effectBack", fn := fun _ => fun
  | [d1, d2] => { results := [.lit (.bool true)], args := [d1, d2] }
  | _ => none }
def effectBackRow : OpenClaim := { program := "ytodbmeklbamcfaagreat", sum := "4c4fdd98e7933cc8773338e23ea240aac3537761855c239d2cfa2fe5255a6820", func := "retcon/retconlaw09.EffectBack", spec := "effectBack", unfollowed := true, recurses := true, apart := false }
def EffectBackSaid : Prop := effectBackRow.holds Tryz.pinned (OpenSpec.ofChange effectBackSpec)

/-- ITS FALSE NEIGHBOUR: 'it returns false'. Refute it at one input. -/
def effectBackWrong : ChangeSpec := { name := "effectBack", fn := fun _ => fun
  | [d1, d2] => { results := [.lit (.bool false)], args := [d1, d2] }
  | _ => none }
def EffectBackWrongFalsely : Prop := effectBackRow.holds Tryz.pinned (OpenSpec.ofChange effectBackWrong)

/-- 'retconlaw09.EffectKnown': WHATEVER THE INPUT: true; the input reads as it did. -/
def effectKnownSpec : ChangeSpec := { name := "effectKnown", fn := fun _ => fun
  | [] => { results := [.lit (.bool true)], args := [] }
  | _ => none }
def effectKnownRow : OpenClaim := { program := "ytodbmeklbamcfaagreat", sum := "4c4fdd98e7933cc8773338e23ea240aac3537761855c239d2cfa2fe5255a6820", func := "retcon/retconlaw09.EffectKnown", spec := "effectKnown", unfollowed := true, recurses := true, apart := false }
def EffectKnownSaid : Prop := effectKnownRow.holds Tryz.pinned (OpenSpec.ofChange effectKnownSpec)

/-- ITS FALSE NEIGHBOUR: 'it returns false'. Refute it at one input. -/
def effectKnownWrong : ChangeSpec := { name := "effectKnown", fn := fun _ => fun
  | [] => { results := [.lit (.bool false)], args := [] }
  | _ => none }
def EffectKnownWrongFalsely : Prop := effectKnownRow.holds Tryz.pinned (OpenSpec.ofChange effectKnownWrong)

/-- 'retconlaw08.ExecRuns': WHATEVER THE INPUT: true; the input reads as it did. -/
def execRunsSpec : ChangeSpec := { name := "execRuns", fn := fun _ => fun
  | [d1, d2] => { results := [.lit (.bool true)], args := [d1, d2] }
  | _ => none }
def execRunsRow : OpenClaim := { program := "ytodbmeklbamcfaagreat", sum := "4c4fdd98e7933cc8773338e23ea240aac3537761855c239d2cfa2fe5255a6820", func := "retcon/retconlaw08.ExecRuns", spec := "execRuns", unfollowed := true, recurses := true, apart := false }
def ExecRunsSaid : Prop := execRunsRow.holds Tryz.pinned (OpenSpec.ofChange execRunsSpec)

/-- ITS FALSE NEIGHBOUR: 'it returns false'. Refute it at one input. -/
def execRunsWrong : ChangeSpec := { name := "execRuns", fn := fun _ => fun
  | [d1, d2] => { results := [.lit (.bool false)], args := [d1, d2] }
  | _ => none }
def ExecRunsWrongFalsely : Prop := execRunsRow.holds Tryz.pinned (OpenSpec.ofChange execRunsWrong)

/-- 'retconlaw08.ExecOnly': WHATEVER THE INPUT: true; the input reads as it did. -/
def execOnlySpec : ChangeSpec := { name := "execOnly", fn := fun _ => fun
  | [d1, d2] => { results := [.lit (.bool true)], args := [d1, d2] }
  | _ => none }
def execOnlyRow : OpenClaim := { program := "ytodbmeklbamcfaagreat", sum := "4c4fdd98e7933cc8773338e23ea240aac3537761855c239d2cfa2fe5255a6820", func := "retcon/retconlaw08.ExecOnly", spec := "execOnly", unfollowed := true, recurses := true, apart := false }
def ExecOnlySaid : Prop := execOnlyRow.holds Tryz.pinned (OpenSpec.ofChange execOnlySpec)

/-- ITS FALSE NEIGHBOUR: 'it returns false'. Refute it at one input. -/
def execOnlyWrong : ChangeSpec := { name := "execOnly", fn := fun _ => fun
  | [d1, d2] => { results := [.lit (.bool false)], args := [d1, d2] }
  | _ => none }
def ExecOnlyWrongFalsely : Prop := execOnlyRow.holds Tryz.pinned (OpenSpec.ofChange execOnlyWrong)

/-- 'retconlaw08.ExecKnown': WHATEVER THE INPUT: true; the input reads as it did. -/
def execKnownSpec : ChangeSpec := { name := "execKnown", fn := fun _ => fun
  | [] => { results := [.lit (.bool true)], args := [] }
  | _ => none }
def execKnownRow : OpenClaim := { program := "ytodbmeklbamcfaagreat", sum := "4c4fdd98e7933cc8773338e23ea240aac3537761855c239d2cfa2fe5255a6820", func := "retcon/retconlaw08.ExecKnown", spec := "execKnown", unfollowed := true, recurses := true, apart := false }
def ExecKnownSaid : Prop := execKnownRow.holds Tryz.pinned (OpenSpec.ofChange execKnownSpec)

/-- ITS FALSE NEIGHBOUR: 'it returns false'. Refute it at one input. -/
def execKnownWrong : ChangeSpec := { name := "execKnown", fn := fun _ => fun
  | [] => { results := [.lit (.bool false)], args := [] }
  | _ => none }
def ExecKnownWrongFalsely : Prop := execKnownRow.holds Tryz.pinned (OpenSpec.ofChange execKnownWrong)

/-- 'retconlaw08.ExecBounds': WHATEVER THE INPUT: true; the input reads as it did. -/
def execBoundsSpec : ChangeSpec := { name := "execBounds", fn := fun _ => fun
  | [d1, d2] => { results := [.lit (.bool true)], args := [d1, d2] }
  | _ => none }
def execBoundsRow : OpenClaim := { program := "ytodbmeklbamcfaagreat", sum := "4c4fdd98e7933cc8773338e23ea240aac3537761855c239d2cfa2fe5255a6820", func := "retcon/retconlaw08.ExecBounds", spec := "execBounds", unfollowed := true, recurses := true, apart := false }
def ExecBoundsSaid : Prop := execBoundsRow.holds Tryz.pinned (OpenSpec.ofChange execBoundsSpec)

/-- ITS FALSE NEIGHBOUR: 'it returns false'. Refute it at one input. -/
def execBoundsWrong : ChangeSpec := { name := "execBounds", fn := fun _ => fun
  | [d1, d2] => { results := [.lit (.bool false)], args := [d1, d2] }
  | _ => none }
def ExecBoundsWrongFalsely : Prop := execBoundsRow.holds Tryz.pinned (OpenSpec.ofChange execBoundsWrong)

/-- 'retconlaw08.ExecSame': WHATEVER THE INPUT: true; the input reads as it did. -/
def execSameSpec : ChangeSpec := { name := "execSame", fn := fun _ => fun
  | [d1, d2, d3] => { results := [.lit (.bool true)], args := [d1, d2, d3] }
  | _ => none }
def execSameRow : OpenClaim := { program := "ytodbmeklbamcfaagreat", sum := "4c4fdd98e7933cc8773338e23ea240aac3537761855c239d2cfa2fe5255a6820", func := "retcon/retconlaw08.ExecSame", spec := "execSame", unfollowed := true, recurses := true, apart := false }
def ExecSameSaid : Prop := execSameRow.holds Tryz.pinned (OpenSpec.ofChange execSameSpec)

/-- ITS FALSE NEIGHBOUR: 'it returns false'. Refute it at one input. -/
def execSameWrong : ChangeSpec := { name := "execSame", fn := fun _ => fun
  | [d1, d2, d3] => { results := [.lit (.bool false)], args := [d1, d2, d3] }
  | _ => none }
def ExecSameWrongFalsely : Prop := execSameRow.holds Tryz.pinned (OpenSpec.ofChange execSameWrong)

/-- 'retconlaw09.EffectRun': WHATEVER THE INPUT: true; the input reads as it did. -/
def effectRunSpec : ChangeSpec := { name := "effectRun", fn := fun _ => fun
  | [d1, d2, d3] => { results := [.lit (.bool true)], args := [d1, d2, d3] }
  | _ => none }
def effectRunRow : OpenClaim := { program := "ytodbmeklbamcfaagreat", sum := "4c4fdd98e7933cc8773338e23ea240aac3537761855c239d2cfa2fe5255a6820", func := "retcon/retconlaw09.EffectRun", spec := "effectRun", unfollowed := true, recurses := true, apart := false }
def EffectRunSaid : Prop := effectRunRow.holds Tryz.pinned (OpenSpec.ofChange effectRunSpec)

/-- ITS FALSE NEIGHBOUR: 'it returns false'. Refute it at one input. -/
def effectRunWrong : ChangeSpec := { name := "effectRun", fn := fun _ => fun
  | [d1, d2, d3] => { results := [.lit (.bool false)], args := [d1, d2, d3] }
  | _ => none }
def EffectRunWrongFalsely : Prop := effectRunRow.holds Tryz.pinned (OpenSpec.ofChange effectRunWrong)

/- THE SECOND FORM. 'bulk': how many values and letters a reading holds, each counted each time it is reached (what is shared counts as often as it is met; a slice's spare places count too). A statement '..UptoSaid' is the law's where the arguments, and the package variables that the reading takes, are together of bulk at most 1048576: NARROWER than '..Said'. Prove '..Said' where nothing that the law and all that it calls make is longer than what came in: it says more and counts as full. Else prove '..UptoSaid'. A law counts once. -/
mutual
def uptoBulk {H : Type} : DataW H → Nat
  | .lit (.string bytes) => bytes.length + 1
  | .lit _ => 1
  | .nil => 1
  | .ptr d => uptoBulk d + 1
  | .slice elems spare => uptoBulkAll elems + uptoBulkAll spare + 1
  | .agg parts => uptoBulkAll parts + 1
  | .iface _ d => uptoBulk d + 1
  | .map entries => uptoBulkEntries entries + 1
  | .held _ => 1
def uptoBulkAll {H : Type} : List (DataW H) → Nat
  | [] => 0
  | d :: r => uptoBulk d + uptoBulkAll r
def uptoBulkEntries {H : Type} : List (Lit × DataW H) → Nat
  | [] => 0
  | x :: r => uptoBulkEntry x + uptoBulkEntries r
def uptoBulkEntry {H : Type} : Lit × DataW H → Nat
  | (.string bytes, d) => bytes.length + uptoBulk d + 1
  | (_, d) => uptoBulk d + 1
 end
def uptoSmall : (H : Type) → List (DataW H) → Bool := fun _ ds => decide (uptoBulkAll ds ≤ 1048576)
def OpenSpec.upto (s : _root_.Go.ChangeSpec) : _root_.Go.OpenSpec := { _root_.Go.OpenSpec.ofChange s with cond := some uptoSmall }

/-- 'retconlaw09.EffectWrites', WHERE WHAT IT READS IS OF BULK AT MOST 1048576: true; the input reads as it did. -/
def effectWritesUptoRow : OpenClaim := { program := "ytodbmeklbamcfaagreat", sum := "4c4fdd98e7933cc8773338e23ea240aac3537761855c239d2cfa2fe5255a6820", func := "retcon/retconlaw09.EffectWrites", spec := "effectWrites", unfollowed := true, recurses := true, apart := false, narrowed := true }
def EffectWritesUptoSaid : Prop := effectWritesUptoRow.holds Tryz.pinned (OpenSpec.upto effectWritesSpec)

/-- 'retconlaw09.EffectReads', WHERE WHAT IT READS IS OF BULK AT MOST 1048576: true; the input reads as it did. -/
def effectReadsUptoRow : OpenClaim := { program := "ytodbmeklbamcfaagreat", sum := "4c4fdd98e7933cc8773338e23ea240aac3537761855c239d2cfa2fe5255a6820", func := "retcon/retconlaw09.EffectReads", spec := "effectReads", unfollowed := true, recurses := true, apart := false, narrowed := true }
def EffectReadsUptoSaid : Prop := effectReadsUptoRow.holds Tryz.pinned (OpenSpec.upto effectReadsSpec)

/-- 'retconlaw09.EffectBack', WHERE WHAT IT READS IS OF BULK AT MOST 1048576: true; the input reads as it did. -/
def effectBackUptoRow : OpenClaim := { program := "ytodbmeklbamcfaagreat", sum := "4c4fdd98e7933cc8773338e23ea240aac3537761855c239d2cfa2fe5255a6820", func := "retcon/retconlaw09.EffectBack", spec := "effectBack", unfollowed := true, recurses := true, apart := false, narrowed := true }
def EffectBackUptoSaid : Prop := effectBackUptoRow.holds Tryz.pinned (OpenSpec.upto effectBackSpec)

/-- 'retconlaw09.EffectKnown', WHERE WHAT IT READS IS OF BULK AT MOST 1048576: true; the input reads as it did. -/
def effectKnownUptoRow : OpenClaim := { program := "ytodbmeklbamcfaagreat", sum := "4c4fdd98e7933cc8773338e23ea240aac3537761855c239d2cfa2fe5255a6820", func := "retcon/retconlaw09.EffectKnown", spec := "effectKnown", unfollowed := true, recurses := true, apart := false, narrowed := true }
def EffectKnownUptoSaid : Prop := effectKnownUptoRow.holds Tryz.pinned (OpenSpec.upto effectKnownSpec)

/-- 'retconlaw08.ExecRuns', WHERE WHAT IT READS IS OF BULK AT MOST 1048576: true; the input reads as it did. -/
def execRunsUptoRow : OpenClaim := { program := "ytodbmeklbamcfaagreat", sum := "4c4fdd98e7933cc8773338e23ea240aac3537761855c239d2cfa2fe5255a6820", func := "retcon/retconlaw08.ExecRuns", spec := "execRuns", unfollowed := true, recurses := true, apart := false, narrowed := true }
def ExecRunsUptoSaid : Prop := execRunsUptoRow.holds Tryz.pinned (OpenSpec.upto execRunsSpec)

/-- 'retconlaw08.ExecOnly', WHERE WHAT IT READS IS OF BULK AT MOST 1048576: true; the input reads as it did. -/
def execOnlyUptoRow : OpenClaim := { program := "ytodbmeklbamcfaagreat", sum := "4c4fdd98e7933cc8773338e23ea240aac3537761855c239d2cfa2fe5255a6820", func := "retcon/retconlaw08.ExecOnly", spec := "execOnly", unfollowed := true, recurses := true, apart := false, narrowed := true }
def ExecOnlyUptoSaid : Prop := execOnlyUptoRow.holds Tryz.pinned (OpenSpec.upto execOnlySpec)

/-- 'retconlaw08.ExecKnown', WHERE WHAT IT READS IS OF BULK AT MOST 1048576: true; the input reads as it did. -/
def execKnownUptoRow : OpenClaim := { program := "ytodbmeklbamcfaagreat", sum := "4c4fdd98e7933cc8773338e23ea240aac3537761855c239d2cfa2fe5255a6820", func := "retcon/retconlaw08.ExecKnown", spec := "execKnown", unfollowed := true, recurses := true, apart := false, narrowed := true }
def ExecKnownUptoSaid : Prop := execKnownUptoRow.holds Tryz.pinned (OpenSpec.upto execKnownSpec)

/-- 'retconlaw08.ExecBounds', WHERE WHAT IT READS IS OF BULK AT MOST 1048576: true; the input reads as it did. -/
def execBoundsUptoRow : OpenClaim := { program := "ytodbmeklbamcfaagreat", sum := "4c4fdd98e7933cc8773338e23ea240aac3537761855c239d2cfa2fe5255a6820", func := "retcon/retconlaw08.ExecBounds", spec := "execBounds", unfollowed := true, recurses := true, apart := false, narrowed := true }
def ExecBoundsUptoSaid : Prop := execBoundsUptoRow.holds Tryz.pinned (OpenSpec.upto execBoundsSpec)

/-- 'retconlaw08.ExecSame', WHERE WHAT IT READS IS OF BULK AT MOST 1048576: true; the input reads as it did. -/
def execSameUptoRow : OpenClaim := { program := "ytodbmeklbamcfaagreat", sum := "4c4fdd98e7933cc8773338e23ea240aac3537761855c239d2cfa2fe5255a6820", func := "retcon/retconlaw08.ExecSame", spec := "execSame", unfollowed := true, recurses := true, apart := false, narrowed := true }
def ExecSameUptoSaid : Prop := execSameUptoRow.holds Tryz.pinned (OpenSpec.upto execSameSpec)

/-- 'retconlaw09.EffectRun', WHERE WHAT IT READS IS OF BULK AT MOST 1048576: true; the input reads as it did. -/
def effectRunUptoRow : OpenClaim := { program := "ytodbmeklbamcfaagreat", sum := "4c4fdd98e7933cc8773338e23ea240aac3537761855c239d2cfa2fe5255a6820", func := "retcon/retconlaw09.EffectRun", spec := "effectRun", unfollowed := true, recurses := true, apart := false, narrowed := true }
def EffectRunUptoSaid : Prop := effectRunUptoRow.holds Tryz.pinned (OpenSpec.upto effectRunSpec)

end Rows
end Go.Proofs.YtodbmeklbamcfaaGreat
