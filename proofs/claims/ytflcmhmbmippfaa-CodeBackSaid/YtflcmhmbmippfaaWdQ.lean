/- The laws' own helper over package word: one thing is asked. -/
import Derived.Test.YtflcmhmbmippfaaWdN
import Derived.Test.YtflcmhmbmippfaaWdI
import Derived.Laws.Rows
namespace Go.Proofs.Ytflcmhmbmippfaa
open Go.RowKit Go.Rt

theorem th_one (x : Th) : ∀ u ∈ x.cs, u.oneCell' = true := by
  intro u hu
  simp only [Th.cs, List.mem_cons] at hu
  rcases hu with rfl | rfl | rfl | hu
  · rfl
  · rfl
  · rfl
  · exact B_one _ u hu

/-- What is asked for: its kind, its least and its greatest number. -/
structure Qn where
  k : Int
  low : Int
  n : Int
def Qn.cs (x : Qn) : List Value := [.int .i64 x.k, .int .i64 x.low, .int .i64 x.n]
def Qn.v (x : Qn) : Value := .agg x.cs.toArray
/-- What is told and what the reader becomes. -/
structure ToldA where
  x : Th
  pl : Nat
  fe : Int
  fa : Int
def toldA (bs : List UInt8) (pl : Nat) (fe fa : Int) (q : Qn) : ToldA :=
  if q.k = 0 then ⟨⟨0, (toldInt bs pl fe fa q.low q.n 5).n, ⟨#[]⟩, noID⟩, (toldInt bs pl fe fa q.low q.n 5).pl, (toldInt bs pl fe fa q.low q.n 5).fe, (toldInt bs pl fe fa q.low q.n 5).fa⟩
  else if q.k = 1 then ⟨⟨0, (toldInt bs pl fe fa 0 q.n 3).n, ⟨#[]⟩, noID⟩, (toldInt bs pl fe fa 0 q.n 3).pl, (toldInt bs pl fe fa 0 q.n 3).fe, (toldInt bs pl fe fa 0 q.n 3).fa⟩
  else if q.k = 2 then ⟨⟨1, 0, ⟨(toldTxt bs pl fe fa q.n).s.toArray⟩, noID⟩, (toldTxt bs pl fe fa q.n).pl, (toldTxt bs pl fe fa q.n).fe, (toldTxt bs pl fe fa q.n).fa⟩
  else if q.k = 3 then ⟨⟨2, 0, ⟨#[]⟩, (toldID bs pl fe fa).d⟩, (toldID bs pl fe fa).pl, (toldID bs pl fe fa).fe, (toldID bs pl fe fa).fa⟩
  else ⟨⟨3, 0, ⟨#[]⟩, noID⟩, pl, fe, fa⟩

end Go.Proofs.Ytflcmhmbmippfaa
