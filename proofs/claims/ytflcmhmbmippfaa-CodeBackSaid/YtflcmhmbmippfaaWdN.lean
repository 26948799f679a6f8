/- Package word's reader: ID. -/
import Derived.Test.YtflcmhmbmippfaaWdM
import Derived.Test.YtflcmhmbmippfaaRtD
import Derived.Deep.RegionHeld3
import Derived.Laws.Rows
namespace Go.Proofs.Ytflcmhmbmippfaa
open Go.RowKit Go.Rt

/-- What an ID asked for comes to: its 32 bytes, or a fault. -/
def idAt (bs : List UInt8) (pl : Nat) : Option (List UInt8) := if 32 ≤ bs.length - pl then some ((bs.drop pl).take 32) else none

structure ToldI where
  d : List UInt8
  pl : Nat
  fe : Int
  fa : Int
def toldID (bs : List UInt8) (pl : Nat) (fe fa : Int) : ToldI :=
  if fe = 0 then (if 32 ≤ bs.length - pl then ⟨(bs.drop pl).take 32, pl + 32, 0, 0⟩ else ⟨noID, pl, 4, bs.length⟩) else ⟨noID, pl, fe, fa⟩
theorem toldID_len (bs : List UInt8) (pl : Nat) (fe fa : Int) : (toldID bs pl fe fa).d.length = 32 := by
  unfold toldID
  split
  · split
    · simp only [List.length_take, List.length_drop]; omega
    · rfl
  · rfl

end Go.Proofs.Ytflcmhmbmippfaa
