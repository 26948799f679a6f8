/-
  No cell of these rows narrows 'for every input' (looked for: loops, veiled, ifaces, maps, wideKeys, modest, calm, conditions, laid).
  DERIVED. THE GIVEN ROWS OF THIS SEAT. 12 by the template 'for every input the law returns true; each argument reads behind the call as it read before'; 0 by the template 'total and deterministic' (their statements: YtnpgjobaibnknaaTotals.lean).
  GIVEN WITH THE SEED: the statements are not yours to turn. If you find one false, say at which input.
  Laid BY PROGRAM, IN A SANDBOX (cutbox-rows.mjs): the forced cells as the released guide's own fill.sh prints them over the translation 7f5f87562d4970f8… (all of the seat's roots in one cut). By AI agents, Wed Nov 11 2026. No macro, syntax, notation, axiom, sorry.
-/
import Derived.Test.YtnpgjobaibnknaaChecked
import GoSem.Claim
import GoSem.ClaimJoined
import GoSem.ClaimMapViews
import Derived.JoinedTies
import Derived.KernelRfl
namespace Go.Proofs.Ytnpgjobaibnknaa
/- THE CELL 'sum', in the pinned program and in every row, IS THE sha256 OF THE DUMP (.gsa) THAT YtnpgjobaibnknaaProg.lean LOADS. Nothing in Lean hashes anything: it is a label: what it is worth is what the hold of that sum in a sandbox is worth. -/
noncomputable def Try.pinned : Pinned := { name := "ytnpgjobaibnknaa", sum := "7f5f87562d4970f817c964c2c64ed169a267aec99ce4eb128e141c5727926069", checked := Try.checked }
namespace Rows
def none {H : Type} : Left H := { results := [], args := [] }

/-- 'retconlaw04.KeysSorted': WHATEVER THE INPUT: true; the input reads as it did. -/
def keysSortedSpec : ChangeSpec := { name := "keysSorted", fn := fun _ => fun
  | [d1, d2] => { results := [.lit (.bool true)], args := [d1, d2] }
  | _ => none }
def keysSortedRow : OpenClaim := { program := "ytnpgjobaibnknaa", sum := "7f5f87562d4970f817c964c2c64ed169a267aec99ce4eb128e141c5727926069", func := "retcon/retconlaw04.KeysSorted", spec := "keysSorted", unfollowed := true, recurses := true, apart := false }
def KeysSortedSaid : Prop := keysSortedRow.holds Try.pinned (OpenSpec.ofChange keysSortedSpec)

/-- ITS FALSE NEIGHBOUR: 'it returns false'. Refute it at one input. -/
def keysSortedWrong : ChangeSpec := { name := "keysSorted", fn := fun _ => fun
  | [d1, d2] => { results := [.lit (.bool false)], args := [d1, d2] }
  | _ => none }
def KeysSortedWrongFalsely : Prop := keysSortedRow.holds Try.pinned (OpenSpec.ofChange keysSortedWrong)

/-- 'retconlaw04.KeysSets': WHATEVER THE INPUT: true; the input reads as it did. -/
def keysSetsSpec : ChangeSpec := { name := "keysSets", fn := fun _ => fun
  | [d1, d2, d3] => { results := [.lit (.bool true)], args := [d1, d2, d3] }
  | _ => none }
def keysSetsRow : OpenClaim := { program := "ytnpgjobaibnknaa", sum := "7f5f87562d4970f817c964c2c64ed169a267aec99ce4eb128e141c5727926069", func := "retcon/retconlaw04.KeysSets", spec := "keysSets", unfollowed := true, recurses := true, apart := false }
def KeysSetsSaid : Prop := keysSetsRow.holds Try.pinned (OpenSpec.ofChange keysSetsSpec)

/-- ITS FALSE NEIGHBOUR: 'it returns false'. Refute it at one input. -/
def keysSetsWrong : ChangeSpec := { name := "keysSets", fn := fun _ => fun
  | [d1, d2, d3] => { results := [.lit (.bool false)], args := [d1, d2, d3] }
  | _ => none }
def KeysSetsWrongFalsely : Prop := keysSetsRow.holds Try.pinned (OpenSpec.ofChange keysSetsWrong)

/-- 'retconlaw04.KeysParts': WHATEVER THE INPUT: true; the input reads as it did. -/
def keysPartsSpec : ChangeSpec := { name := "keysParts", fn := fun _ => fun
  | [d1, d2, d3] => { results := [.lit (.bool true)], args := [d1, d2, d3] }
  | _ => none }
def keysPartsRow : OpenClaim := { program := "ytnpgjobaibnknaa", sum := "7f5f87562d4970f817c964c2c64ed169a267aec99ce4eb128e141c5727926069", func := "retcon/retconlaw04.KeysParts", spec := "keysParts", unfollowed := true, recurses := true, apart := false }
def KeysPartsSaid : Prop := keysPartsRow.holds Try.pinned (OpenSpec.ofChange keysPartsSpec)

/-- ITS FALSE NEIGHBOUR: 'it returns false'. Refute it at one input. -/
def keysPartsWrong : ChangeSpec := { name := "keysParts", fn := fun _ => fun
  | [d1, d2, d3] => { results := [.lit (.bool false)], args := [d1, d2, d3] }
  | _ => none }
def KeysPartsWrongFalsely : Prop := keysPartsRow.holds Try.pinned (OpenSpec.ofChange keysPartsWrong)

/-- 'retconlaw04.KeysMeets': WHATEVER THE INPUT: true; the input reads as it did. -/
def keysMeetsSpec : ChangeSpec := { name := "keysMeets", fn := fun _ => fun
  | [d1, d2, d3] => { results := [.lit (.bool true)], args := [d1, d2, d3] }
  | _ => none }
def keysMeetsRow : OpenClaim := { program := "ytnpgjobaibnknaa", sum := "7f5f87562d4970f817c964c2c64ed169a267aec99ce4eb128e141c5727926069", func := "retcon/retconlaw04.KeysMeets", spec := "keysMeets", unfollowed := true, recurses := true, apart := false }
def KeysMeetsSaid : Prop := keysMeetsRow.holds Try.pinned (OpenSpec.ofChange keysMeetsSpec)

/-- ITS FALSE NEIGHBOUR: 'it returns false'. Refute it at one input. -/
def keysMeetsWrong : ChangeSpec := { name := "keysMeets", fn := fun _ => fun
  | [d1, d2, d3] => { results := [.lit (.bool false)], args := [d1, d2, d3] }
  | _ => none }
def KeysMeetsWrongFalsely : Prop := keysMeetsRow.holds Try.pinned (OpenSpec.ofChange keysMeetsWrong)

/-- 'retconlaw04.KeysMet': WHATEVER THE INPUT: true; the input reads as it did. -/
def keysMetSpec : ChangeSpec := { name := "keysMet", fn := fun _ => fun
  | [d1, d2, d3, d4] => { results := [.lit (.bool true)], args := [d1, d2, d3, d4] }
  | _ => none }
def keysMetRow : OpenClaim := { program := "ytnpgjobaibnknaa", sum := "7f5f87562d4970f817c964c2c64ed169a267aec99ce4eb128e141c5727926069", func := "retcon/retconlaw04.KeysMet", spec := "keysMet", unfollowed := true, recurses := true, apart := false }
def KeysMetSaid : Prop := keysMetRow.holds Try.pinned (OpenSpec.ofChange keysMetSpec)

/-- ITS FALSE NEIGHBOUR: 'it returns false'. Refute it at one input. -/
def keysMetWrong : ChangeSpec := { name := "keysMet", fn := fun _ => fun
  | [d1, d2, d3, d4] => { results := [.lit (.bool false)], args := [d1, d2, d3, d4] }
  | _ => none }
def KeysMetWrongFalsely : Prop := keysMetRow.holds Try.pinned (OpenSpec.ofChange keysMetWrong)

/-- 'retconlaw07.CellWrites': WHATEVER THE INPUT: true; the input reads as it did. -/
def cellWritesSpec : ChangeSpec := { name := "cellWrites", fn := fun _ => fun
  | [d1, d2, d3] => { results := [.lit (.bool true)], args := [d1, d2, d3] }
  | _ => none }
def cellWritesRow : OpenClaim := { program := "ytnpgjobaibnknaa", sum := "7f5f87562d4970f817c964c2c64ed169a267aec99ce4eb128e141c5727926069", func := "retcon/retconlaw07.CellWrites", spec := "cellWrites", unfollowed := true, recurses := true, apart := false }
def CellWritesSaid : Prop := cellWritesRow.holds Try.pinned (OpenSpec.ofChange cellWritesSpec)

/-- ITS FALSE NEIGHBOUR: 'it returns false'. Refute it at one input. -/
def cellWritesWrong : ChangeSpec := { name := "cellWrites", fn := fun _ => fun
  | [d1, d2, d3] => { results := [.lit (.bool false)], args := [d1, d2, d3] }
  | _ => none }
def CellWritesWrongFalsely : Prop := cellWritesRow.holds Try.pinned (OpenSpec.ofChange cellWritesWrong)

/-- 'retconlaw07.CellAsks': WHATEVER THE INPUT: true; the input reads as it did. -/
def cellAsksSpec : ChangeSpec := { name := "cellAsks", fn := fun _ => fun
  | [d1, d2, d3, d4] => { results := [.lit (.bool true)], args := [d1, d2, d3, d4] }
  | _ => none }
def cellAsksRow : OpenClaim := { program := "ytnpgjobaibnknaa", sum := "7f5f87562d4970f817c964c2c64ed169a267aec99ce4eb128e141c5727926069", func := "retcon/retconlaw07.CellAsks", spec := "cellAsks", unfollowed := true, recurses := true, apart := false }
def CellAsksSaid : Prop := cellAsksRow.holds Try.pinned (OpenSpec.ofChange cellAsksSpec)

/-- ITS FALSE NEIGHBOUR: 'it returns false'. Refute it at one input. -/
def cellAsksWrong : ChangeSpec := { name := "cellAsks", fn := fun _ => fun
  | [d1, d2, d3, d4] => { results := [.lit (.bool false)], args := [d1, d2, d3, d4] }
  | _ => none }
def CellAsksWrongFalsely : Prop := cellAsksRow.holds Try.pinned (OpenSpec.ofChange cellAsksWrong)

/-- 'retconlaw07.CellParts': WHATEVER THE INPUT: true; the input reads as it did. -/
def cellPartsSpec : ChangeSpec := { name := "cellParts", fn := fun _ => fun
  | [d1, d2, d3, d4] => { results := [.lit (.bool true)], args := [d1, d2, d3, d4] }
  | _ => none }
def cellPartsRow : OpenClaim := { program := "ytnpgjobaibnknaa", sum := "7f5f87562d4970f817c964c2c64ed169a267aec99ce4eb128e141c5727926069", func := "retcon/retconlaw07.CellParts", spec := "cellParts", unfollowed := true, recurses := true, apart := false }
def CellPartsSaid : Prop := cellPartsRow.holds Try.pinned (OpenSpec.ofChange cellPartsSpec)

/-- ITS FALSE NEIGHBOUR: 'it returns false'. Refute it at one input. -/
def cellPartsWrong : ChangeSpec := { name := "cellParts", fn := fun _ => fun
  | [d1, d2, d3, d4] => { results := [.lit (.bool false)], args := [d1, d2, d3, d4] }
  | _ => none }
def CellPartsWrongFalsely : Prop := cellPartsRow.holds Try.pinned (OpenSpec.ofChange cellPartsWrong)

/-- 'retconlaw04.KeysKnown': WHATEVER THE INPUT: true; the input reads as it did. -/
def keysKnownSpec : ChangeSpec := { name := "keysKnown", fn := fun _ => fun
  | [] => { results := [.lit (.bool true)], args := [] }
  | _ => none }
def keysKnownRow : OpenClaim := { program := "ytnpgjobaibnknaa", sum := "7f5f87562d4970f817c964c2c64ed169a267aec99ce4eb128e141c5727926069", func := "retcon/retconlaw04.KeysKnown", spec := "keysKnown", unfollowed := true, recurses := true, apart := false }
def KeysKnownSaid : Prop := keysKnownRow.holds Try.pinned (OpenSpec.ofChange keysKnownSpec)

/-- ITS FALSE NEIGHBOUR: 'it returns false'. Refute it at one input. -/
def keysKnownWrong : ChangeSpec := { name := "keysKnown", fn := fun _ => fun
  | [] => { results := [.lit (.bool false)], args := [] }
  | _ => none }
def KeysKnownWrongFalsely : Prop := keysKnownRow.holds Try.pinned (OpenSpec.ofChange keysKnownWrong)

/-- 'retconlaw07.CellTurns': WHATEVER THE INPUT: true; the input reads as it did. -/
def cellTurnsSpec : ChangeSpec := { name := "cellTurns", fn := fun _ => fun
  | [d1, d2, d3] => { results := [.lit (.bool true)], args := [d1, d2, d3] }
  | _ => none }
def cellTurnsRow : OpenClaim := { program := "ytnpgjobaibnknaa", sum := "7f5f87562d4970f817c964c2c64ed169a267aec99ce4eb128e141c5727926069", func := "retcon/retconlaw07.CellTurns", spec := "cellTurns", unfollowed := true, recurses := true, apart := false }
def CellTurnsSaid : Prop := cellTurnsRow.holds Try.pinned (OpenSpec.ofChange cellTurnsSpec)

/-- ITS FALSE NEIGHBOUR: 'it returns false'. Refute it at one input. -/
def cellTurnsWrong : ChangeSpec := { name := "cellTurns", fn := fun _ => fun
  | [d1, d2, d3] => { results := [.lit (.bool false)], args := [d1, d2, d3] }
  | _ => none }
def CellTurnsWrongFalsely : Prop := cellTurnsRow.holds Try.pinned (OpenSpec.ofChange cellTurnsWrong)

/-- 'retconlaw07.CellKnown': WHATEVER THE INPUT: true; the input reads as it did. -/
def cellKnownSpec : ChangeSpec := { name := "cellKnown", fn := fun _ => fun
  | [] => { results := [.lit (.bool true)], args := [] }
  | _ => none }
def cellKnownRow : OpenClaim := { program := "ytnpgjobaibnknaa", sum := "7f5f87562d4970f817c964c2c64ed169a267aec99ce4eb128e141c5727926069", func := "retcon/retconlaw07.CellKnown", spec := "cellKnown", unfollowed := true, recurses := true, apart := false }
def CellKnownSaid : Prop := cellKnownRow.holds Try.pinned (OpenSpec.ofChange cellKnownSpec)

/-- ITS FALSE NEIGHBOUR: 'it returns false'. Refute it at one input. -/
def cellKnownWrong : ChangeSpec := { name := "cellKnown", fn := fun _ => fun
  | [] => { results := [.lit (.bool false)], args := [] }
  | _ => none }
def CellKnownWrongFalsely : Prop := cellKnownRow.holds Try.pinned (OpenSpec.ofChange cellKnownWrong)

/-- 'retconlaw07.CellLeads': WHATEVER THE INPUT: true; the input reads as it did. -/
def cellLeadsSpec : ChangeSpec := { name := "cellLeads", fn := fun _ => fun
  | [d1, d2, d3] => { results := [.lit (.bool true)], args := [d1, d2, d3] }
  | _ => none }
def cellLeadsRow : OpenClaim := { program := "ytnpgjobaibnknaa", sum := "7f5f87562d4970f817c964c2c64ed169a267aec99ce4eb128e141c5727926069", func := "retcon/retconlaw07.CellLeads", spec := "cellLeads", unfollowed := true, recurses := true, apart := false }
def CellLeadsSaid : Prop := cellLeadsRow.holds Try.pinned (OpenSpec.ofChange cellLeadsSpec)

/-- ITS FALSE NEIGHBOUR: 'it returns false'. Refute it at one input. -/
def cellLeadsWrong : ChangeSpec := { name := "cellLeads", fn := fun _ => fun
  | [d1, d2, d3] => { results := [.lit (.bool false)], args := [d1, d2, d3] }
  | _ => none }
def CellLeadsWrongFalsely : Prop := cellLeadsRow.holds Try.pinned (OpenSpec.ofChange cellLeadsWrong)

/- THE SECOND FORM. 'bulk': how many values and letters a reading holds, each counted each time it is reached (what is shared counts as often as it is met; a slice's spare places count too). A statement '..UptoSaid' is the law's where the arguments, and the package variables that the reading takes, are together of bulk at most 1048576: NARROWER than '..Said'. Prove '..Said' where nothing that the law and all that it calls make is longer than what came in: it says more and counts as full. Else prove '..UptoSaid'. A law counts once. -/
mutual
def uptoBulk {H : Type} : DataW H → Nat
  | .lit (.string bytes) => bytes.length + 1
  | .lit _ => 1
  | .nil => 1
  | .ptr d => uptoBulk d + 1
  | .slice elems spare => uptoBulkAll elems + uptoBulkAll spare + 1
  | .agg parts => uptoBulkAll parts + 1
  | .iface _ d => uptoBulk d + 1
  | .map entries => uptoBulkEntries entries + 1
  | .held _ => 1
def uptoBulkAll {H : Type} : List (DataW H) → Nat
  | [] => 0
  | d :: r => uptoBulk d + uptoBulkAll r
def uptoBulkEntries {H : Type} : List (Lit × DataW H) → Nat
  | [] => 0
  | x :: r => uptoBulkEntry x + uptoBulkEntries r
def uptoBulkEntry {H : Type} : Lit × DataW H → Nat
  | (.string bytes, d) => bytes.length + uptoBulk d + 1
  | (_, d) => uptoBulk d + 1
 end
def uptoSmall : (H : Type) → List (DataW H) → Bool := fun _ ds => decide (uptoBulkAll ds ≤ 1048576)
def OpenSpec.upto (s : _root_.Go.ChangeSpec) : _root_.Go.OpenSpec := { _root_.Go.OpenSpec.ofChange s with cond := some uptoSmall }

/-- 'retconlaw04.KeysSorted', WHERE WHAT IT READS IS OF BULK AT MOST 1048576: true; the input reads as it did. -/
def keysSortedUptoRow : OpenClaim := { program := "ytnpgjobaibnknaa", sum := "7f5f87562d4970f817c964c2c64ed169a267aec99ce4eb128e141c5727926069", func := "retcon/retconlaw04.KeysSorted", spec := "keysSorted", unfollowed := true, recurses := true, apart := false, narrowed := true }
def KeysSortedUptoSaid : Prop := keysSortedUptoRow.holds Try.pinned (OpenSpec.upto keysSortedSpec)

/-- 'retconlaw04.KeysSets', WHERE WHAT IT READS IS OF BULK AT MOST 1048576: true; the input reads as it did. -/
def keysSetsUptoRow : OpenClaim := { program := "ytnpgjobaibnknaa", sum := "7f5f87562d4970f817c964c2c64ed169a267aec99ce4eb128e141c5727926069", func := "retcon/retconlaw04.KeysSets", spec := "keysSets", unfollowed := true, recurses := true, apart := false, narrowed := true }
def KeysSetsUptoSaid : Prop := keysSetsUptoRow.holds Try.pinned (OpenSpec.upto keysSetsSpec)

/-- 'retconlaw04.KeysParts', WHERE WHAT IT READS IS OF BULK AT MOST 1048576: true; the input reads as it did. -/
def keysPartsUptoRow : OpenClaim := { program := "ytnpgjobaibnknaa", sum := "7f5f87562d4970f817c964c2c64ed169a267aec99ce4eb128e141c5727926069", func := "retcon/retconlaw04.KeysParts", spec := "keysParts", unfollowed := true, recurses := true, apart := false, narrowed := true }
def KeysPartsUptoSaid : Prop := keysPartsUptoRow.holds Try.pinned (OpenSpec.upto keysPartsSpec)

/-- 'retconlaw04.KeysMeets', WHERE WHAT IT READS IS OF BULK AT MOST 1048576: true; the input reads as it did. -/
def keysMeetsUptoRow : OpenClaim := { program := "ytnpgjobaibnknaa", sum := "7f5f87562d4970f817c964c2c64ed169a267aec99ce4eb128e141c5727926069", func := "retcon/retconlaw04.KeysMeets", spec := "keysMeets", unfollowed := true, recurses := true, apart := false, narrowed := true }
def KeysMeetsUptoSaid : Prop := keysMeetsUptoRow.holds Try.pinned (OpenSpec.upto keysMeetsSpec)

/-- 'retconlaw04.KeysMet', WHERE WHAT IT READS IS OF BULK AT MOST 1048576: true; the input reads as it did. -/
def keysMetUptoRow : OpenClaim := { program := "ytnpgjobaibnknaa", sum := "7f5f87562d4970f817c964c2c64ed169a267aec99ce4eb128e141c5727926069", func := "retcon/retconlaw04.KeysMet", spec := "keysMet", unfollowed := true, recurses := true, apart := false, narrowed := true }
def KeysMetUptoSaid : Prop := keysMetUptoRow.holds Try.pinned (OpenSpec.upto keysMetSpec)

/-- 'retconlaw07.CellWrites', WHERE WHAT IT READS IS OF BULK AT MOST 1048576: true; the input reads as it did. -/
def cellWritesUptoRow : OpenClaim := { program := "ytnpgjobaibnknaa", sum := "7f5f87562d4970f817c964c2c64ed169a267aec99ce4eb128e141c5727926069", func := "retcon/retconlaw07.CellWrites", spec := "cellWrites", unfollowed := true, recurses := true, apart := false, narrowed := true }
def CellWritesUptoSaid : Prop := cellWritesUptoRow.holds Try.pinned (OpenSpec.upto cellWritesSpec)

/-- 'retconlaw07.CellAsks', WHERE WHAT IT READS IS OF BULK AT MOST 1048576: true; the input reads as it did. -/
def cellAsksUptoRow : OpenClaim := { program := "ytnpgjobaibnknaa", sum := "7f5f87562d4970f817c964c2c64ed169a267aec99ce4eb128e141c5727926069", func := "retcon/retconlaw07.CellAsks", spec := "cellAsks", unfollowed := true, recurses := true, apart := false, narrowed := true }
def CellAsksUptoSaid : Prop := cellAsksUptoRow.holds Try.pinned (OpenSpec.upto cellAsksSpec)

/-- 'retconlaw07.CellParts', WHERE WHAT IT READS IS OF BULK AT MOST 1048576: true; the input reads as it did. -/
def cellPartsUptoRow : OpenClaim := { program := "ytnpgjobaibnknaa", sum := "7f5f87562d4970f817c964c2c64ed169a267aec99ce4eb128e141c5727926069", func := "retcon/retconlaw07.CellParts", spec := "cellParts", unfollowed := true, recurses := true, apart := false, narrowed := true }
def CellPartsUptoSaid : Prop := cellPartsUptoRow.holds Try.pinned (OpenSpec.upto cellPartsSpec)

/-- 'retconlaw04.KeysKnown', WHERE WHAT IT READS IS OF BULK AT MOST 1048576: true; the input reads as it did. -/
def keysKnownUptoRow : OpenClaim := { program := "ytnpgjobaibnknaa", sum := "7f5f87562d4970f817c964c2c64ed169a267aec99ce4eb128e141c5727926069", func := "retcon/retconlaw04.KeysKnown", spec := "keysKnown", unfollowed := true, recurses := true, apart := false, narrowed := true }
def KeysKnownUptoSaid : Prop := keysKnownUptoRow.holds Try.pinned (OpenSpec.upto keysKnownSpec)

/-- 'retconlaw07.CellTurns', WHERE WHAT IT READS IS OF BULK AT MOST 1048576: true; the input reads as it did. -/
def cellTurnsUptoRow : OpenClaim := { program := "ytnpgjobaibnknaa", sum := "7f5f87562d4970f817c964c2c64ed169a267aec99ce4eb128e141c5727926069", func := "retcon/retconlaw07.CellTurns", spec := "cellTurns", unfollowed := true, recurses := true, apart := false, narrowed := true }
def CellTurnsUptoSaid : Prop := cellTurnsUptoRow.holds Try.pinned (OpenSpec.upto cellTurnsSpec)

/-- 'retconlaw07.CellKnown', WHERE WHAT IT READS IS OF BULK AT MOST 1048576: true; the input reads as it did. -/
def cellKnownUptoRow : OpenClaim := { program := "ytnpgjobaibnknaa", sum := "7f5f87562d4970f817c964c2c64ed169a267aec99ce4eb128e141c5727926069", func := "retcon/retconlaw07.CellKnown", spec := "cellKnown", unfollowed := true, recurses := true, apart := false, narrowed := true }
def CellKnownUptoSaid : Prop := cellKnownUptoRow.holds Try.pinned (OpenSpec.upto cellKnownSpec)

/-- 'retconlaw07.CellLeads', WHERE WHAT IT READS IS OF BULK AT MOST 1048576: true; the input reads as it did. -/
def cellLeadsUptoRow : OpenClaim := { program := "ytnpgjobaibnknaa", sum := "7f5f87562d4970f817c964c2c64ed169a267aec99ce4eb128e141c5727926069", func := "retcon/retconlaw07.CellLeads", spec := "cellLeads", unfollowed := true, recurses := true, apart := false, narrowed := true }
def CellLeadsUptoSaid : Prop := cellLeadsUptoRow.holds Try.pinned (OpenSpec.upto cellLeadsSpec)

end Rows
end Go.Proofs.Ytnpgjobaibnknaa
