/- Plain laws on instructions: which may be, as which bytes they are written, which stand in bytes. No program in sight. -/
import Derived.Test.YtflcmhmbmippfaaWeX
namespace Go.Proofs.Ytflcmhmbmippfaa

/-- An instruction: what it does, registers, a number, a text. -/
structure Ins where
  op : Int
  a : Int
  b : Int
  c : Int
  n : Int
  s : List UInt8

def Ins.zero : Ins := ⟨0, 0, 0, 0, 0, []⟩
def Ins.isZero (r : Ins) : Bool := decide (r.op = 0) && (decide (r.a = 0) && (decide (r.b = 0) && (decide (r.c = 0) && (decide (r.n = 0) && decide (r.s = [])))))
/-- What an Op has, letter by letter. -/
def hasL (op : Int) : List UInt8 :=
  if op = 1 then [97, 115] else if op = 2 then [97, 98] else if op = 3 then [97, 98, 99] else if op = 4 then [97, 98] else if op = 5 then [97]
  else if op = 6 then [97, 98, 99, 110] else if op = 7 then [97, 98, 99] else if op = 8 then [97, 98, 99] else if op = 9 then [97, 98, 99] else if op = 10 then [97, 98, 99]
  else if op = 11 then [97, 98, 99] else if op = 12 then [97, 110] else if op = 13 then [110] else if op = 14 then [97] else []
def mostN (op : Int) : Int := if op = 6 then 16 else 60
def Ins.get (i : Ins) (c : UInt8) : Int := if c = 97 then i.a else if c = 98 then i.b else if c = 99 then i.c else i.n
def Ins.set (i : Ins) (c : UInt8) (v : Int) : Ins := if c = 97 then { i with a := v } else if c = 98 then { i with b := v } else if c = 99 then { i with c := v } else { i with n := v }
def lowOf (c : UInt8) : Int := if c = 110 then 1 else 0
def highOf (op : Int) (c : UInt8) : Int := if c = 110 then mostN op else 7
/-- Letter by letter, what is left of an instruction: may it be? -/
def chkF (op : Int) : List UInt8 → Ins → Bool
  | [], r => r.isZero
  | c :: cs, r =>
    if c = 115 then (if 64 < r.s.length then false else chkF op cs { r with s := [] })
    else if r.get c < lowOf c ∨ highOf op c < r.get c then false else chkF op cs (r.set c 0)
def mayB (i : Ins) : Bool := decide (1 ≤ i.op ∧ i.op ≤ 15) && chkF i.op (hasL i.op) { i with op := 0 }

/-- The document's own: has an Op a register A, B, C, a number, a text? -/
def hasA (op : Int) : Bool := (hasL op).contains 97
def hasB (op : Int) : Bool := (hasL op).contains 98
def hasC (op : Int) : Bool := (hasL op).contains 99
def hasN (op : Int) : Bool := (hasL op).contains 110
def hasS (op : Int) : Bool := (hasL op).contains 115
def regB (n : Int) (has : Bool) : Bool := if has then decide (0 ≤ n ∧ n < 8) else decide (n = 0)
def numB (i : Ins) : Bool := if hasN i.op then decide (1 ≤ i.n ∧ i.n ≤ mostN i.op) else decide (i.n = 0)
def txtB (i : Ins) : Bool := if hasS i.op then decide (i.s.length ≤ 64) else decide (i.s = [])
def mayR (i : Ins) : Bool := decide (1 ≤ i.op ∧ i.op ≤ 15) && (regB i.a (hasA i.op) && (regB i.b (hasB i.op) && (regB i.c (hasC i.op) && (numB i && txtB i))))

theorem hasL_out (op : Int) (h : ¬ (1 ≤ op ∧ op ≤ 14)) : hasL op = [] := by
  unfold hasL
  repeat (rw [if_neg (by omega)])

theorem op_cases (op : Int) (h : 1 ≤ op ∧ op ≤ 15) : op = 1 ∨ op = 2 ∨ op = 3 ∨ op = 4 ∨ op = 5 ∨ op = 6 ∨ op = 7 ∨ op = 8 ∨ op = 9 ∨ op = 10 ∨ op = 11 ∨ op = 12 ∨ op = 13 ∨ op = 14 ∨ op = 15 := by omega

theorem lt8 (x : Int) : decide (x < 8) = decide (x ≤ 7) := by rw [decide_eq_decide]; omega
set_option maxHeartbeats 1000000 in
theorem may_eq (i : Ins) : mayB i = mayR i := by
  obtain ⟨op, a, b, c, n, s⟩ := i
  by_cases h : 1 ≤ op ∧ op ≤ 15
  · rcases op_cases op h with rfl | rfl | rfl | rfl | rfl | rfl | rfl | rfl | rfl | rfl | rfl | rfl | rfl | rfl | rfl
    all_goals
      simp [mayB, mayR, hasL, chkF, Ins.get, Ins.set, lowOf, highOf, mostN, hasA, hasB, hasC, hasN, hasS, regB, numB, txtB, Ins.isZero]
      try simp only [← decide_not, Int.not_lt, Nat.not_lt, lt8]
      try ac_rfl
  · simp only [mayB, mayR, decide_eq_false h, Bool.false_and]
end Go.Proofs.Ytflcmhmbmippfaa
