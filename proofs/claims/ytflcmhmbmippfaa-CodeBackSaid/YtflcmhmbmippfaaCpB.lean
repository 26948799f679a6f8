/- Plain laws on instructions as bytes: both ways of writing and of reading them are one. No program in sight. -/
import Derived.Test.YtflcmhmbmippfaaCpA
namespace Go.Proofs.Ytflcmhmbmippfaa

/-- What letters of an instruction are written as. -/
def bytesL (i : Ins) (cs : List UInt8) : List UInt8 := cs.flatMap fun c => if c = 115 then sev i.s.length ++ i.s else sev (i.get c).toNat
def insBytes (i : Ins) : List UInt8 := sev i.op.toNat ++ bytesL i (hasL i.op)
def refBytes (i : Ins) : List UInt8 :=
  sev i.op.toNat ++ ((if hasA i.op then sev i.a.toNat else []) ++ ((if hasB i.op then sev i.b.toNat else []) ++ ((if hasC i.op then sev i.c.toNat else []) ++ ((if hasN i.op then sev i.n.toNat else []) ++ (if hasS i.op then sev i.s.length ++ i.s else [])))))
theorem bytes_eq (i : Ins) (h : 1 ≤ i.op ∧ i.op ≤ 15) : refBytes i = insBytes i := by
  obtain ⟨op, a, b, c, n, s⟩ := i
  rcases op_cases op h with rfl | rfl | rfl | rfl | rfl | rfl | rfl | rfl | rfl | rfl | rfl | rfl | rfl | rfl | rfl
  all_goals simp [refBytes, insBytes, bytesL, hasL, hasA, hasB, hasC, hasN, hasS, Ins.get]

/-- A reader's way through an instruction. -/
structure Rst where
  i : Ins
  pl : Nat
  fe : Int
  fa : Int
def stepL (bs : List UInt8) (op : Int) (c : UInt8) (st : Rst) : Rst :=
  if c = 115 then ⟨{ st.i with s := (toldTxt bs st.pl st.fe st.fa 64).s }, (toldTxt bs st.pl st.fe st.fa 64).pl, (toldTxt bs st.pl st.fe st.fa 64).fe, (toldTxt bs st.pl st.fe st.fa 64).fa⟩
  else ⟨st.i.set c (toldInt bs st.pl st.fe st.fa (lowOf c) (highOf op c) 5).n, (toldInt bs st.pl st.fe st.fa (lowOf c) (highOf op c) 5).pl, (toldInt bs st.pl st.fe st.fa (lowOf c) (highOf op c) 5).fe, (toldInt bs st.pl st.fe st.fa (lowOf c) (highOf op c) 5).fa⟩
def readL (bs : List UInt8) (op : Int) (cs : List UInt8) (st : Rst) : Rst := cs.foldl (fun st c => stepL bs op c st) st
def readI (bs : List UInt8) (pl : Nat) : Rst :=
  readL bs (toldInt bs pl 0 0 1 15 5).n (hasL (toldInt bs pl 0 0 1 15 5).n) ⟨⟨(toldInt bs pl 0 0 1 15 5).n, 0, 0, 0, 0, []⟩, (toldInt bs pl 0 0 1 15 5).pl, (toldInt bs pl 0 0 1 15 5).fe, (toldInt bs pl 0 0 1 15 5).fa⟩

/-- Read from a place on, or from the beginning of what stands there: the same, places moved. -/
theorem numAt_shift (bs : List UInt8) (at_ pl : Nat) (low high above : Int) (h : at_ ≤ bs.length) :
    numAt bs (at_ + pl) low high above = match numAt (bs.drop at_) pl low high above with | .ok n k => .ok n k | .bad e a => .bad e (at_ + a) := by
  unfold numAt
  rw [List.drop_drop]
  cases dec (bs.drop (at_ + pl)) with
  | ok N K =>
    dsimp only
    by_cases h1 : (N : Int) < low
    · rw [if_pos h1, if_pos h1]; dsimp only; congr 1
    · rw [if_neg h1, if_neg h1]
      by_cases h2 : high < (N : Int)
      · rw [if_pos h2, if_pos h2]; dsimp only; congr 1
      · rw [if_neg h2, if_neg h2]
  | short => dsimp only; congr 1; rw [List.length_drop]; omega
  | zero => dsimp only; congr 1
  | long => dsimp only; congr 1
theorem toldInt_shift (bs : List UInt8) (at_ pl : Nat) (fe fa low high above : Int) (h : at_ ≤ bs.length) :
    (toldInt bs (at_ + pl) fe (if fe = 0 then 0 else at_ + fa) low high above).n = (toldInt (bs.drop at_) pl fe fa low high above).n ∧
    (toldInt bs (at_ + pl) fe (if fe = 0 then 0 else at_ + fa) low high above).pl = at_ + (toldInt (bs.drop at_) pl fe fa low high above).pl ∧
    (toldInt bs (at_ + pl) fe (if fe = 0 then 0 else at_ + fa) low high above).fe = (toldInt (bs.drop at_) pl fe fa low high above).fe ∧
    (above ≠ 0 → (toldInt bs (at_ + pl) fe (if fe = 0 then 0 else at_ + fa) low high above).fa = if (toldInt (bs.drop at_) pl fe fa low high above).fe = 0 then 0 else at_ + (toldInt (bs.drop at_) pl fe fa low high above).fa) := by
  unfold toldInt
  by_cases h0 : fe = 0
  · rw [if_pos h0, if_pos h0, numAt_shift bs at_ pl low high above h]
    have hb := numAt_bad (bs.drop at_) pl low high
    cases hn : numAt (bs.drop at_) pl low high above with
    | ok n k => exact ⟨rfl, by dsimp only; omega, rfl, fun _ => rfl⟩
    | bad e a => exact ⟨rfl, rfl, rfl, fun ha => by dsimp only; rw [if_neg (hb above e a ha hn)]⟩
  · rw [if_neg h0, if_neg h0, if_neg h0]
    exact ⟨rfl, rfl, rfl, fun _ => by dsimp only; rw [if_neg h0]⟩
theorem txtAt_shift (bs : List UInt8) (at_ pl : Nat) (most : Int) (h : at_ ≤ bs.length) (hp : pl ≤ bs.length - at_) :
    txtAt bs (at_ + pl) most = match txtAt (bs.drop at_) pl most with | .ok s k => .ok s k | .bad e a => .bad e (at_ + a) := by
  unfold txtAt
  rw [numAt_shift bs at_ pl 0 most 3 h]
  cases hn : numAt (bs.drop at_) pl 0 most 3 with
  | bad e a => rfl
  | ok n k =>
    dsimp only
    have hk := (numAt_back (bs.drop at_) pl 0 most 3 n k (by rw [List.length_drop]; omega) hn).2.1
    rw [List.length_drop] at hk ⊢
    by_cases hf : n ≤ bs.length - at_ - (pl + k)
    · rw [if_pos hf, if_pos (by omega), List.drop_drop, Nat.add_assoc]
    · rw [if_neg hf, if_neg (by omega)]
      dsimp only
      congr 1
      omega
theorem toldTxt_shift (bs : List UInt8) (at_ pl : Nat) (fe fa high : Int) (h : at_ ≤ bs.length) (hp : pl ≤ bs.length - at_) :
    (toldTxt bs (at_ + pl) fe (if fe = 0 then 0 else at_ + fa) high).s = (toldTxt (bs.drop at_) pl fe fa high).s ∧
    (toldTxt bs (at_ + pl) fe (if fe = 0 then 0 else at_ + fa) high).pl = at_ + (toldTxt (bs.drop at_) pl fe fa high).pl ∧
    (toldTxt bs (at_ + pl) fe (if fe = 0 then 0 else at_ + fa) high).fe = (toldTxt (bs.drop at_) pl fe fa high).fe ∧
    (toldTxt bs (at_ + pl) fe (if fe = 0 then 0 else at_ + fa) high).fa = if (toldTxt (bs.drop at_) pl fe fa high).fe = 0 then 0 else at_ + (toldTxt (bs.drop at_) pl fe fa high).fa := by
  unfold toldTxt
  by_cases h0 : fe = 0
  · rw [if_pos h0, if_pos h0, txtAt_shift bs at_ pl high h hp]
    have hb := txtAt_bad (bs.drop at_) pl high
    cases hn : txtAt (bs.drop at_) pl high with
    | ok s k => exact ⟨rfl, by dsimp only; omega, rfl, rfl⟩
    | bad e a => exact ⟨rfl, rfl, rfl, by dsimp only; rw [if_neg (hb e a hn)]⟩
  · rw [if_neg h0, if_neg h0, if_neg h0]
    exact ⟨rfl, rfl, rfl, by dsimp only; rw [if_neg h0]⟩
end Go.Proofs.Ytflcmhmbmippfaa
