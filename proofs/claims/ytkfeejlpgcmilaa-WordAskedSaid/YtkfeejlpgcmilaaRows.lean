/-
  No cell of these rows narrows 'for every input' (looked for: loops, veiled, ifaces, maps, wideKeys, modest, calm, conditions, laid).
  DERIVED. THE GIVEN ROWS OF THIS SEAT. 9 by the template 'for every input the law returns true; each argument reads behind the call as it read before'; 0 by the template 'total and deterministic' (their statements: YtkfeejlpgcmilaaTotals.lean).
  GIVEN WITH THE SEED: the statements are not yours to turn. If you find one false, say at which input.
  Laid BY PROGRAM, IN A SANDBOX (cutbox-rows.mjs): the forced cells as the released guide's own fill.sh prints them over the translation 6313feb8b956f2db… (all of the seat's roots in one cut). By AI agents, Wed Nov 11 2026. No macro, syntax, notation, axiom, sorry.
-/
import Derived.Test.YtkfeejlpgcmilaaChecked
import GoSem.Claim
import GoSem.ClaimJoined
import GoSem.ClaimMapViews
import Derived.JoinedTies
import Derived.KernelRfl
namespace Go.Proofs.Ytkfeejlpgcmilaa
/- THE CELL 'sum', in the pinned program and in every row, IS THE sha256 OF THE DUMP (.gsa) THAT YtkfeejlpgcmilaaProg.lean LOADS. Nothing in Lean hashes anything: it is a label: what it is worth is what the hold of that sum in a sandbox is worth. -/
noncomputable def Try.pinned : Pinned := { name := "ytkfeejlpgcmilaa", sum := "6313feb8b956f2db642d2220e194d528a173d09a1e25d657333c567d7aa587fa", checked := Try.checked }
namespace Rows
def none {H : Type} : Left H := { results := [], args := [] }

/-- 'retconlaw01.WordBytes': WHATEVER THE INPUT: true; the input reads as it did. -/
def wordBytesSpec : ChangeSpec := { name := "wordBytes", fn := fun _ => fun
  | [d] => { results := [.lit (.bool true)], args := [d] }
  | _ => none }
def wordBytesRow : OpenClaim := { program := "ytkfeejlpgcmilaa", sum := "6313feb8b956f2db642d2220e194d528a173d09a1e25d657333c567d7aa587fa", func := "retcon/retconlaw01.WordBytes", spec := "wordBytes", unfollowed := true, recurses := true, apart := false }
def WordBytesSaid : Prop := wordBytesRow.holds Try.pinned (OpenSpec.ofChange wordBytesSpec)

/-- ITS FALSE NEIGHBOUR: 'it returns false'. Refute it at one input. -/
def wordBytesWrong : ChangeSpec := { name := "wordBytes", fn := fun _ => fun
  | [d] => { results := [.lit (.bool false)], args := [d] }
  | _ => none }
def WordBytesWrongFalsely : Prop := wordBytesRow.holds Try.pinned (OpenSpec.ofChange wordBytesWrong)

/-- 'retconlaw01.WordRegisters': WHATEVER THE INPUT: true; the input reads as it did. -/
def wordRegistersSpec : ChangeSpec := { name := "wordRegisters", fn := fun _ => fun
  | [d1, d2] => { results := [.lit (.bool true)], args := [d1, d2] }
  | _ => none }
def wordRegistersRow : OpenClaim := { program := "ytkfeejlpgcmilaa", sum := "6313feb8b956f2db642d2220e194d528a173d09a1e25d657333c567d7aa587fa", func := "retcon/retconlaw01.WordRegisters", spec := "wordRegisters", unfollowed := true, recurses := true, apart := false }
def WordRegistersSaid : Prop := wordRegistersRow.holds Try.pinned (OpenSpec.ofChange wordRegistersSpec)

/-- ITS FALSE NEIGHBOUR: 'it returns false'. Refute it at one input. -/
def wordRegistersWrong : ChangeSpec := { name := "wordRegisters", fn := fun _ => fun
  | [d1, d2] => { results := [.lit (.bool false)], args := [d1, d2] }
  | _ => none }
def WordRegistersWrongFalsely : Prop := wordRegistersRow.holds Try.pinned (OpenSpec.ofChange wordRegistersWrong)

/-- 'retconlaw01.WordEight': WHATEVER THE INPUT: true; the input reads as it did. -/
def wordEightSpec : ChangeSpec := { name := "wordEight", fn := fun _ => fun
  | [d1, d2, d3, d4] => { results := [.lit (.bool true)], args := [d1, d2, d3, d4] }
  | _ => none }
def wordEightRow : OpenClaim := { program := "ytkfeejlpgcmilaa", sum := "6313feb8b956f2db642d2220e194d528a173d09a1e25d657333c567d7aa587fa", func := "retcon/retconlaw01.WordEight", spec := "wordEight", unfollowed := true, recurses := true, apart := false }
def WordEightSaid : Prop := wordEightRow.holds Try.pinned (OpenSpec.ofChange wordEightSpec)

/-- ITS FALSE NEIGHBOUR: 'it returns false'. Refute it at one input. -/
def wordEightWrong : ChangeSpec := { name := "wordEight", fn := fun _ => fun
  | [d1, d2, d3, d4] => { results := [.lit (.bool false)], args := [d1, d2, d3, d4] }
  | _ => none }
def WordEightWrongFalsely : Prop := wordEightRow.holds Try.pinned (OpenSpec.ofChange wordEightWrong)

/-- 'retconlaw01.WordKnown': WHATEVER THE INPUT: true; the input reads as it did. -/
def wordKnownSpec : ChangeSpec := { name := "wordKnown", fn := fun _ => fun
  | [] => { results := [.lit (.bool true)], args := [] }
  | _ => none }
def wordKnownRow : OpenClaim := { program := "ytkfeejlpgcmilaa", sum := "6313feb8b956f2db642d2220e194d528a173d09a1e25d657333c567d7aa587fa", func := "retcon/retconlaw01.WordKnown", spec := "wordKnown", unfollowed := true, recurses := true, apart := false }
def WordKnownSaid : Prop := wordKnownRow.holds Try.pinned (OpenSpec.ofChange wordKnownSpec)

/-- ITS FALSE NEIGHBOUR: 'it returns false'. Refute it at one input. -/
def wordKnownWrong : ChangeSpec := { name := "wordKnown", fn := fun _ => fun
  | [] => { results := [.lit (.bool false)], args := [] }
  | _ => none }
def WordKnownWrongFalsely : Prop := wordKnownRow.holds Try.pinned (OpenSpec.ofChange wordKnownWrong)

/-- 'retconlaw01.WordAsked': WHATEVER THE INPUT: true; the input reads as it did. -/
def wordAskedSpec : ChangeSpec := { name := "wordAsked", fn := fun _ => fun
  | [d1, d2] => { results := [.lit (.bool true)], args := [d1, d2] }
  | _ => none }
def wordAskedRow : OpenClaim := { program := "ytkfeejlpgcmilaa", sum := "6313feb8b956f2db642d2220e194d528a173d09a1e25d657333c567d7aa587fa", func := "retcon/retconlaw01.WordAsked", spec := "wordAsked", unfollowed := true, recurses := true, apart := false }
def WordAskedSaid : Prop := wordAskedRow.holds Try.pinned (OpenSpec.ofChange wordAskedSpec)

/-- ITS FALSE NEIGHBOUR: 'it returns false'. Refute it at one input. -/
def wordAskedWrong : ChangeSpec := { name := "wordAsked", fn := fun _ => fun
  | [d1, d2] => { results := [.lit (.bool false)], args := [d1, d2] }
  | _ => none }
def WordAskedWrongFalsely : Prop := wordAskedRow.holds Try.pinned (OpenSpec.ofChange wordAskedWrong)

/-- 'retconlaw01.WordNobody': WHATEVER THE INPUT: true; the input reads as it did. -/
def wordNobodySpec : ChangeSpec := { name := "wordNobody", fn := fun _ => fun
  | [d1, d2] => { results := [.lit (.bool true)], args := [d1, d2] }
  | _ => none }
def wordNobodyRow : OpenClaim := { program := "ytkfeejlpgcmilaa", sum := "6313feb8b956f2db642d2220e194d528a173d09a1e25d657333c567d7aa587fa", func := "retcon/retconlaw01.WordNobody", spec := "wordNobody", unfollowed := true, recurses := true, apart := false }
def WordNobodySaid : Prop := wordNobodyRow.holds Try.pinned (OpenSpec.ofChange wordNobodySpec)

/-- ITS FALSE NEIGHBOUR: 'it returns false'. Refute it at one input. -/
def wordNobodyWrong : ChangeSpec := { name := "wordNobody", fn := fun _ => fun
  | [d1, d2] => { results := [.lit (.bool false)], args := [d1, d2] }
  | _ => none }
def WordNobodyWrongFalsely : Prop := wordNobodyRow.holds Try.pinned (OpenSpec.ofChange wordNobodyWrong)

/-- 'retconlaw01.WordPassed': WHATEVER THE INPUT: true; the input reads as it did. -/
def wordPassedSpec : ChangeSpec := { name := "wordPassed", fn := fun _ => fun
  | [d1, d2] => { results := [.lit (.bool true)], args := [d1, d2] }
  | _ => none }
def wordPassedRow : OpenClaim := { program := "ytkfeejlpgcmilaa", sum := "6313feb8b956f2db642d2220e194d528a173d09a1e25d657333c567d7aa587fa", func := "retcon/retconlaw01.WordPassed", spec := "wordPassed", unfollowed := true, recurses := true, apart := false }
def WordPassedSaid : Prop := wordPassedRow.holds Try.pinned (OpenSpec.ofChange wordPassedSpec)

/-- ITS FALSE NEIGHBOUR: 'it returns false'. Refute it at one input. -/
def wordPassedWrong : ChangeSpec := { name := "wordPassed", fn := fun _ => fun
  | [d1, d2] => { results := [.lit (.bool false)], args := [d1, d2] }
  | _ => none }
def WordPassedWrongFalsely : Prop := wordPassedRow.holds Try.pinned (OpenSpec.ofChange wordPassedWrong)

/-- 'retconlaw01.WordTold': WHATEVER THE INPUT: true; the input reads as it did. -/
def wordToldSpec : ChangeSpec := { name := "wordTold", fn := fun _ => fun
  | [d1, d2] => { results := [.lit (.bool true)], args := [d1, d2] }
  | _ => none }
def wordToldRow : OpenClaim := { program := "ytkfeejlpgcmilaa", sum := "6313feb8b956f2db642d2220e194d528a173d09a1e25d657333c567d7aa587fa", func := "retcon/retconlaw01.WordTold", spec := "wordTold", unfollowed := true, recurses := true, apart := false }
def WordToldSaid : Prop := wordToldRow.holds Try.pinned (OpenSpec.ofChange wordToldSpec)

/-- ITS FALSE NEIGHBOUR: 'it returns false'. Refute it at one input. -/
def wordToldWrong : ChangeSpec := { name := "wordTold", fn := fun _ => fun
  | [d1, d2] => { results := [.lit (.bool false)], args := [d1, d2] }
  | _ => none }
def WordToldWrongFalsely : Prop := wordToldRow.holds Try.pinned (OpenSpec.ofChange wordToldWrong)

/-- 'retconlaw01.WordBounds': WHATEVER THE INPUT: true; the input reads as it did. -/
def wordBoundsSpec : ChangeSpec := { name := "wordBounds", fn := fun _ => fun
  | [d1, d2, d3, d4, d5] => { results := [.lit (.bool true)], args := [d1, d2, d3, d4, d5] }
  | _ => none }
def wordBoundsRow : OpenClaim := { program := "ytkfeejlpgcmilaa", sum := "6313feb8b956f2db642d2220e194d528a173d09a1e25d657333c567d7aa587fa", func := "retcon/retconlaw01.WordBounds", spec := "wordBounds", unfollowed := true, recurses := true, apart := false }
def WordBoundsSaid : Prop := wordBoundsRow.holds Try.pinned (OpenSpec.ofChange wordBoundsSpec)

/-- ITS FALSE NEIGHBOUR: 'it returns false'. Refute it at one input. -/
def wordBoundsWrong : ChangeSpec := { name := "wordBounds", fn := fun _ => fun
  | [d1, d2, d3, d4, d5] => { results := [.lit (.bool false)], args := [d1, d2, d3, d4, d5] }
  | _ => none }
def WordBoundsWrongFalsely : Prop := wordBoundsRow.holds Try.pinned (OpenSpec.ofChange wordBoundsWrong)

/- THE SECOND FORM. 'bulk': how many values and letters a reading holds, each counted each time it is reached (what is shared counts as often as it is met; a slice's spare places count too). A statement '..UptoSaid' is the law's where the arguments, and the package variables that the reading takes, are together of bulk at most 1048576: NARROWER than '..Said'. Prove '..Said' where nothing that the law and all that it calls make is longer than what came in: it says more and counts as full. Else prove '..UptoSaid'. A law counts once. -/
mutual
def uptoBulk {H : Type} : DataW H → Nat
  | .lit (.string bytes) => bytes.length + 1
  | .lit _ => 1
  | .nil => 1
  | .ptr d => uptoBulk d + 1
  | .slice elems spare => uptoBulkAll elems + uptoBulkAll spare + 1
  | .agg parts => uptoBulkAll parts + 1
  | .iface _ d => uptoBulk d + 1
  | .map entries => uptoBulkEntries entries + 1
  | .held _ => 1
def uptoBulkAll {H : Type} : List (DataW H) → Nat
  | [] => 0
  | d :: r => uptoBulk d + uptoBulkAll r
def uptoBulkEntries {H : Type} : List (Lit × DataW H) → Nat
  | [] => 0
  | x :: r => uptoBulkEntry x + uptoBulkEntries r
def uptoBulkEntry {H : Type} : Lit × DataW H → Nat
  | (.string bytes, d) => bytes.length + uptoBulk d + 1
  | (_, d) => uptoBulk d + 1
 end
def uptoSmall : (H : Type) → List (DataW H) → Bool := fun _ ds => decide (uptoBulkAll ds ≤ 1048576)
def OpenSpec.upto (s : _root_.Go.ChangeSpec) : _root_.Go.OpenSpec := { _root_.Go.OpenSpec.ofChange s with cond := some uptoSmall }

/-- 'retconlaw01.WordBytes', WHERE WHAT IT READS IS OF BULK AT MOST 1048576: true; the input reads as it did. -/
def wordBytesUptoRow : OpenClaim := { program := "ytkfeejlpgcmilaa", sum := "6313feb8b956f2db642d2220e194d528a173d09a1e25d657333c567d7aa587fa", func := "retcon/retconlaw01.WordBytes", spec := "wordBytes", unfollowed := true, recurses := true, apart := false, narrowed := true }
def WordBytesUptoSaid : Prop := wordBytesUptoRow.holds Try.pinned (OpenSpec.upto wordBytesSpec)

/-- 'retconlaw01.WordRegisters', WHERE WHAT IT READS IS OF BULK AT MOST 1048576: true; the input reads as it did. -/
def wordRegistersUptoRow : OpenClaim := { program := "ytkfeejlpgcmilaa", sum := "6313feb8b956f2db642d2220e194d528a173d09a1e25d657333c567d7aa587fa", func := "retcon/retconlaw01.WordRegisters", spec := "wordRegisters", unfollowed := true, recurses := true, apart := false, narrowed := true }
def WordRegistersUptoSaid : Prop := wordRegistersUptoRow.holds Try.pinned (OpenSpec.upto wordRegistersSpec)

/-- 'retconlaw01.WordEight', WHERE WHAT IT READS IS OF BULK AT MOST 1048576: true; the input reads as it did. -/
def wordEightUptoRow : OpenClaim := { program := "ytkfeejlpgcmilaa", sum := "6313feb8b956f2db642d2220e194d528a173d09a1e25d657333c567d7aa587fa", func := "retcon/retconlaw01.WordEight", spec := "wordEight", unfollowed := true, recurses := true, apart := false, narrowed := true }
def WordEightUptoSaid : Prop := wordEightUptoRow.holds Try.pinned (OpenSpec.upto wordEightSpec)

/-- 'retconlaw01.WordKnown', WHERE WHAT IT READS IS OF BULK AT MOST 1048576: true; the input reads as it did. -/
def wordKnownUptoRow : OpenClaim := { program := "ytkfeejlpgcmilaa", sum := "6313feb8b956f2db642d2220e194d528a173d09a1e25d657333c567d7aa587fa", func := "retcon/retconlaw01.WordKnown", spec := "wordKnown", unfollowed := true, recurses := true, apart := false, narrowed := true }
def WordKnownUptoSaid : Prop := wordKnownUptoRow.holds Try.pinned (OpenSpec.upto wordKnownSpec)

/-- 'retconlaw01.WordAsked', WHERE WHAT IT READS IS OF BULK AT MOST 1048576: true; the input reads as it did. -/
def wordAskedUptoRow : OpenClaim := { program := "ytkfeejlpgcmilaa", sum := "6313feb8b956f2db642d2220e194d528a173d09a1e25d657333c567d7aa587fa", func := "retcon/retconlaw01.WordAsked", spec := "wordAsked", unfollowed := true, recurses := true, apart := false, narrowed := true }
def WordAskedUptoSaid : Prop := wordAskedUptoRow.holds Try.pinned (OpenSpec.upto wordAskedSpec)

/-- 'retconlaw01.WordNobody', WHERE WHAT IT READS IS OF BULK AT MOST 1048576: true; the input reads as it did. -/
def wordNobodyUptoRow : OpenClaim := { program := "ytkfeejlpgcmilaa", sum := "6313feb8b956f2db642d2220e194d528a173d09a1e25d657333c567d7aa587fa", func := "retcon/retconlaw01.WordNobody", spec := "wordNobody", unfollowed := true, recurses := true, apart := false, narrowed := true }
def WordNobodyUptoSaid : Prop := wordNobodyUptoRow.holds Try.pinned (OpenSpec.upto wordNobodySpec)

/-- 'retconlaw01.WordPassed', WHERE WHAT IT READS IS OF BULK AT MOST 1048576: true; the input reads as it did. -/
def wordPassedUptoRow : OpenClaim := { program := "ytkfeejlpgcmilaa", sum := "6313feb8b956f2db642d2220e194d528a173d09a1e25d657333c567d7aa587fa", func := "retcon/retconlaw01.WordPassed", spec := "wordPassed", unfollowed := true, recurses := true, apart := false, narrowed := true }
def WordPassedUptoSaid : Prop := wordPassedUptoRow.holds Try.pinned (OpenSpec.upto wordPassedSpec)

/-- 'retconlaw01.WordTold', WHERE WHAT IT READS IS OF BULK AT MOST 1048576: true; the input reads as it did. -/
def wordToldUptoRow : OpenClaim := { program := "ytkfeejlpgcmilaa", sum := "6313feb8b956f2db642d2220e194d528a173d09a1e25d657333c567d7aa587fa", func := "retcon/retconlaw01.WordTold", spec := "wordTold", unfollowed := true, recurses := true, apart := false, narrowed := true }
def WordToldUptoSaid : Prop := wordToldUptoRow.holds Try.pinned (OpenSpec.upto wordToldSpec)

/-- 'retconlaw01.WordBounds', WHERE WHAT IT READS IS OF BULK AT MOST 1048576: true; the input reads as it did. -/
def wordBoundsUptoRow : OpenClaim := { program := "ytkfeejlpgcmilaa", sum := "6313feb8b956f2db642d2220e194d528a173d09a1e25d657333c567d7aa587fa", func := "retcon/retconlaw01.WordBounds", spec := "wordBounds", unfollowed := true, recurses := true, apart := false, narrowed := true }
def WordBoundsUptoSaid : Prop := wordBoundsUptoRow.holds Try.pinned (OpenSpec.upto wordBoundsSpec)

end Rows
end Go.Proofs.Ytkfeejlpgcmilaa
