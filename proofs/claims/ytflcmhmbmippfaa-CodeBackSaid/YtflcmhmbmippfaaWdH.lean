/- The laws' own helpers over package word: a thing is written. -/
import Derived.Test.YtflcmhmbmippfaaWdG
import Derived.Test.YtflcmhmbmippfaaRtC
namespace Go.Proofs.Ytflcmhmbmippfaa
open Go.RowKit Go.Rt

/-- A thing: its kind, its number, its text, its ID. -/
structure Th where
  k : Int
  n : Int
  s : ByteArray
  d : List UInt8
structure Th.Ok (x : Th) : Prop where
  n : x.n ≤ 9223372036854775807
  s : x.s.size ≤ 1000000000
  d : x.d.length = 32
def Th.cs (x : Th) : List Value := .int .i64 x.k :: .int .i64 x.n :: .string x.s :: x.d.map B
def Th.v (x : Th) : Value := .agg x.cs.toArray
def Th.put (x : Th) (bs : List UInt8) : List UInt8 :=
  if x.k = 0 then wrInt x.n bs else if x.k = 1 then bs ++ sev x.s.size ++ x.s.data.toList else if x.k = 2 then bs ++ x.d else bs
def Th.bad (x : Th) : Bool := decide (x.k = 0) && decide (x.n < 0)

end Go.Proofs.Ytflcmhmbmippfaa
