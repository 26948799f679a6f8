/- A pack of texts: KgC -/
import Derived.Test.YtodbmeklbamcfaaGreatPkKnownZC
import Derived.Test.YtodbmeklbamcfaaGreatPkKnownP
/- As which bytes effects are told; how they are read. No program in sight. -/
namespace Go.Proofs.YtodbmeklbamcfaaGreat

def txtE (s : Str) : List UInt8 := sev s.length ++ s
def spE (s : Sp) : List UInt8 := txtE s.lo ++ txtE s.hi
def wtE (w : Wt) : List UInt8 := txtE w.k ++ if w.d then sev 1 else sev 0 ++ txtE w.v
def bytesX (x : Ef) : List UInt8 := sev x.why.toNat ++ (sev x.steps.toNat ++ (sev x.rs.length ++ (x.rs.flatMap txtE ++ (sev x.ss.length ++ (x.ss.flatMap spE ++ (sev x.ws.length ++ x.ws.flatMap wtE))))))
def bytesE (x : Ef) : List UInt8 × Int := if checkX x = 0 then (bytesX x, 0) else ([], checkX x)
end Go.Proofs.YtodbmeklbamcfaaGreat
