/- A pack of texts: KdE -/
import Derived.Test.YtodbmeklbamcfaaGreatPkKnownW
import Derived.Test.YtodbmeklbamcfaaGreatPkKnownH
/- Lists of keys, one behind the other; the set of either. -/
namespace Go.Proofs.YtodbmeklbamcfaaGreat
open Go.RowKit Go.Rt

/-- A list of texts as a slice's value; lists, one behind the other. -/
abbrev tsV (p : Option Addr × Nat × List Str) : Value := .slice p.1 p.2.2.length p.2.1
def catT (ps : List (Option Addr × Nat × List Str)) : List Str := ps.flatMap (·.2.2)
theorem catT_append (a b : List (Option Addr × Nat × List Str)) : catT (a ++ b) = catT a ++ catT b := by simp [catT]

end Go.Proofs.YtodbmeklbamcfaaGreat
