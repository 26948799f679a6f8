/- A pack of texts: KgD -/
import Derived.Test.YtodbmeklbamcfaaGreatPkReadsZJ
import Derived.Test.YtodbmeklbamcfaaGreatPkReadsZF
import Derived.Test.YtodbmeklbamcfaaGreatPkReadsU
import Derived.Test.YtodbmeklbamcfaaGreatPkReadsT
/- How effects are read out of bytes. No program in sight. -/
namespace Go.Proofs.YtodbmeklbamcfaaGreat

def rdI (bs : List UInt8) (low high above : Int) (s : RS) : Int × RS := ((toldInt bs s.pl s.fe s.fa low high above).n, ⟨(toldInt bs s.pl s.fe s.fa low high above).pl, (toldInt bs s.pl s.fe s.fa low high above).fe, (toldInt bs s.pl s.fe s.fa low high above).fa⟩)
def rdT (bs : List UInt8) (high : Int) (s : RS) : Str × RS := ((toldTxt bs s.pl s.fe s.fa high).s, ⟨(toldTxt bs s.pl s.fe s.fa high).pl, (toldTxt bs s.pl s.fe s.fa high).fe, (toldTxt bs s.pl s.fe s.fa high).fa⟩)
def rdSp (bs : List UInt8) (s : RS) : Sp × RS := (⟨(rdT bs 64 s).1, (rdT bs 64 (rdT bs 64 s).2).1⟩, (rdT bs 64 (rdT bs 64 s).2).2)
def rdW (bs : List UInt8) (s : RS) : Wt × RS :=
  if (rdI bs 0 1 5 (rdT bs 32 s).2).1 = 1 then (⟨(rdT bs 32 s).1, [], true⟩, (rdI bs 0 1 5 (rdT bs 32 s).2).2)
  else (⟨(rdT bs 32 s).1, (rdT bs 64 (rdI bs 0 1 5 (rdT bs 32 s).2).2).1, false⟩, (rdT bs 64 (rdI bs 0 1 5 (rdT bs 32 s).2).2).2)
theorem rdI_stuck (bs : List UInt8) (low high above : Int) (s : RS) (h : s.fe ≠ 0) : (rdI bs low high above s).2 = s := by unfold rdI toldInt; rw [if_neg h]
theorem rdT_stuck (bs : List UInt8) (high : Int) (s : RS) (h : s.fe ≠ 0) : (rdT bs high s).2 = s := by unfold rdT toldTxt; rw [if_neg h]
theorem rdSp_stuck (bs : List UInt8) (s : RS) (h : s.fe ≠ 0) : (rdSp bs s).2 = s := by
  show (rdT bs 64 (rdT bs 64 s).2).2 = s
  rw [rdT_stuck bs 64 s h, rdT_stuck bs 64 s h]
theorem rdW_stuck (bs : List UInt8) (s : RS) (h : s.fe ≠ 0) : (rdW bs s).2 = s := by
  unfold rdW
  rw [rdT_stuck bs 32 s h, rdI_stuck bs 0 1 5 s h]
  split
  · rfl
  · exact rdT_stuck bs 64 s h
def RS.Fine (bs : List UInt8) (s : RS) : Prop := s.pl ≤ bs.length ∧ (s.fe = 0 → s.fa = 0)
theorem rdI_fine (bs : List UInt8) (low high above : Int) (ha : above ≠ 0) (s : RS) (h : s.Fine bs) : (rdI bs low high above s).2.Fine bs := iv_int bs s.pl s.fe s.fa low high above ha h.1 h.2
theorem rdT_fine (bs : List UInt8) (high : Int) (s : RS) (h : s.Fine bs) : (rdT bs high s).2.Fine bs := iv_txt bs s.pl s.fe s.fa high h.1 h.2
theorem rdSp_fine (bs : List UInt8) (s : RS) (h : s.Fine bs) : (rdSp bs s).2.Fine bs := rdT_fine bs 64 _ (rdT_fine bs 64 s h)
theorem rdW_fine (bs : List UInt8) (s : RS) (h : s.Fine bs) : (rdW bs s).2.Fine bs := by
  unfold rdW
  split
  · exact rdI_fine bs 0 1 5 (by decide) _ (rdT_fine bs 32 s h)
  · exact rdT_fine bs 64 _ (rdI_fine bs 0 1 5 (by decide) _ (rdT_fine bs 32 s h))
def stWhy (bs : List UInt8) : Int × RS := rdI bs 0 3 5 ⟨0, 0, 0⟩
def stSteps (bs : List UInt8) : Int × RS := rdI bs 0 200 5 (stWhy bs).2
def ctR (bs : List UInt8) : Int × RS := rdI bs 0 60 3 (stSteps bs).2
def lsR (bs : List UInt8) : List Str × RS := rAcc (rdT bs 32) (ctR bs).2 (ctR bs).1.toNat
def ctS (bs : List UInt8) : Int × RS := rdI bs 0 60 3 (lsR bs).2
def lsS (bs : List UInt8) : List Sp × RS := rAcc (rdSp bs) (ctS bs).2 (ctS bs).1.toNat
def ctW (bs : List UInt8) : Int × RS := rdI bs 0 60 3 (lsS bs).2
def lsW (bs : List UInt8) : List Wt × RS := rAcc (rdW bs) (ctW bs).2 (ctW bs).1.toNat
def rawE (bs : List UInt8) : Ef := ⟨(stWhy bs).1, (stSteps bs).1, (lsR bs).1, (lsS bs).1, (lsW bs).1⟩
def noE : Ef := ⟨0, 0, [], [], []⟩
/-- The effect of bytes, or the fault and its place. -/
def readE (bs : List UInt8) : Ef × Int × Int :=
  if (endF bs (lsW bs).2.pl (lsW bs).2.fe (lsW bs).2.fa).1 ≠ 0 then (noE, endF bs (lsW bs).2.pl (lsW bs).2.fe (lsW bs).2.fa)
  else if checkX (rawE bs) ≠ 0 then (noE, 2, 0) else (rawE bs, 0, 0)
end Go.Proofs.YtodbmeklbamcfaaGreat
