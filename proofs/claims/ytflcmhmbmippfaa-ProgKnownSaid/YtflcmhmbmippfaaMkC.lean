/- MkC, in one text: CpA, CpB, CpC, CpD, CpE, CdA, CdB, CdC, CdD, WoA, WoD, CdE, CpF. -/
import Derived.Test.YtflcmhmbmippfaaMkB
import Derived.Test.YtflcmhmbmippfaaRows
import Derived.ProofKit
import Derived.SizedLaws
import Derived.Deep.Slices
import Derived.OpenShut
/- Plain laws on instructions: which may be, as which bytes they are written, which stand in bytes. No program in sight. -/
namespace Go.Proofs.Ytflcmhmbmippfaa

/-- An instruction: what it does, registers, a number, a text. -/
structure Ins where
  op : Int
  a : Int
  b : Int
  c : Int
  n : Int
  s : List UInt8

def Ins.zero : Ins := ⟨0, 0, 0, 0, 0, []⟩
def Ins.isZero (r : Ins) : Bool := decide (r.op = 0) && (decide (r.a = 0) && (decide (r.b = 0) && (decide (r.c = 0) && (decide (r.n = 0) && decide (r.s = [])))))
/-- What an Op has, letter by letter. -/
def hasL (op : Int) : List UInt8 :=
  if op = 1 then [97, 115] else if op = 2 then [97, 98] else if op = 3 then [97, 98, 99] else if op = 4 then [97, 98] else if op = 5 then [97]
  else if op = 6 then [97, 98, 99, 110] else if op = 7 then [97, 98, 99] else if op = 8 then [97, 98, 99] else if op = 9 then [97, 98, 99] else if op = 10 then [97, 98, 99]
  else if op = 11 then [97, 98, 99] else if op = 12 then [97, 110] else if op = 13 then [110] else if op = 14 then [97] else []
def mostN (op : Int) : Int := if op = 6 then 16 else 60
def Ins.get (i : Ins) (c : UInt8) : Int := if c = 97 then i.a else if c = 98 then i.b else if c = 99 then i.c else i.n
def Ins.set (i : Ins) (c : UInt8) (v : Int) : Ins := if c = 97 then { i with a := v } else if c = 98 then { i with b := v } else if c = 99 then { i with c := v } else { i with n := v }
def lowOf (c : UInt8) : Int := if c = 110 then 1 else 0
def highOf (op : Int) (c : UInt8) : Int := if c = 110 then mostN op else 7
/-- Letter by letter, what is left of an instruction: may it be? -/
def chkF (op : Int) : List UInt8 → Ins → Bool
  | [], r => r.isZero
  | c :: cs, r =>
    if c = 115 then (if 64 < r.s.length then false else chkF op cs { r with s := [] })
    else if r.get c < lowOf c ∨ highOf op c < r.get c then false else chkF op cs (r.set c 0)
def mayB (i : Ins) : Bool := decide (1 ≤ i.op ∧ i.op ≤ 15) && chkF i.op (hasL i.op) { i with op := 0 }

/-- The document's own: has an Op a register A, B, C, a number, a text? -/
def hasA (op : Int) : Bool := (hasL op).contains 97
def hasB (op : Int) : Bool := (hasL op).contains 98
def hasC (op : Int) : Bool := (hasL op).contains 99
def hasN (op : Int) : Bool := (hasL op).contains 110
def hasS (op : Int) : Bool := (hasL op).contains 115
def regB (n : Int) (has : Bool) : Bool := if has then decide (0 ≤ n ∧ n < 8) else decide (n = 0)
def numB (i : Ins) : Bool := if hasN i.op then decide (1 ≤ i.n ∧ i.n ≤ mostN i.op) else decide (i.n = 0)
def txtB (i : Ins) : Bool := if hasS i.op then decide (i.s.length ≤ 64) else decide (i.s = [])
def mayR (i : Ins) : Bool := decide (1 ≤ i.op ∧ i.op ≤ 15) && (regB i.a (hasA i.op) && (regB i.b (hasB i.op) && (regB i.c (hasC i.op) && (numB i && txtB i))))

theorem hasL_out (op : Int) (h : ¬ (1 ≤ op ∧ op ≤ 14)) : hasL op = [] := by
  unfold hasL
  repeat (rw [if_neg (by omega)])

theorem op_cases (op : Int) (h : 1 ≤ op ∧ op ≤ 15) : op = 1 ∨ op = 2 ∨ op = 3 ∨ op = 4 ∨ op = 5 ∨ op = 6 ∨ op = 7 ∨ op = 8 ∨ op = 9 ∨ op = 10 ∨ op = 11 ∨ op = 12 ∨ op = 13 ∨ op = 14 ∨ op = 15 := by omega

theorem lt8 (x : Int) : decide (x < 8) = decide (x ≤ 7) := by rw [decide_eq_decide]; omega
set_option maxHeartbeats 1000000 in
theorem may_eq (i : Ins) : mayB i = mayR i := by
  obtain ⟨op, a, b, c, n, s⟩ := i
  by_cases h : 1 ≤ op ∧ op ≤ 15
  · rcases op_cases op h with rfl | rfl | rfl | rfl | rfl | rfl | rfl | rfl | rfl | rfl | rfl | rfl | rfl | rfl | rfl
    all_goals
      simp [mayB, mayR, hasL, chkF, Ins.get, Ins.set, lowOf, highOf, mostN, hasA, hasB, hasC, hasN, hasS, regB, numB, txtB, Ins.isZero]
      try simp only [← decide_not, Int.not_lt, Nat.not_lt, lt8]
      try ac_rfl
  · simp only [mayB, mayR, decide_eq_false h, Bool.false_and]
end Go.Proofs.Ytflcmhmbmippfaa

/- Plain laws on instructions as bytes: both ways of writing and of reading them are one. No program in sight. -/
namespace Go.Proofs.Ytflcmhmbmippfaa

/-- What letters of an instruction are written as. -/
def bytesL (i : Ins) (cs : List UInt8) : List UInt8 := cs.flatMap fun c => if c = 115 then sev i.s.length ++ i.s else sev (i.get c).toNat
def insBytes (i : Ins) : List UInt8 := sev i.op.toNat ++ bytesL i (hasL i.op)
def refBytes (i : Ins) : List UInt8 :=
  sev i.op.toNat ++ ((if hasA i.op then sev i.a.toNat else []) ++ ((if hasB i.op then sev i.b.toNat else []) ++ ((if hasC i.op then sev i.c.toNat else []) ++ ((if hasN i.op then sev i.n.toNat else []) ++ (if hasS i.op then sev i.s.length ++ i.s else [])))))
theorem bytes_eq (i : Ins) (h : 1 ≤ i.op ∧ i.op ≤ 15) : refBytes i = insBytes i := by
  obtain ⟨op, a, b, c, n, s⟩ := i
  rcases op_cases op h with rfl | rfl | rfl | rfl | rfl | rfl | rfl | rfl | rfl | rfl | rfl | rfl | rfl | rfl | rfl
  all_goals simp [refBytes, insBytes, bytesL, hasL, hasA, hasB, hasC, hasN, hasS, Ins.get]

/-- A reader's way through an instruction. -/
structure Rst where
  i : Ins
  pl : Nat
  fe : Int
  fa : Int
def stepL (bs : List UInt8) (op : Int) (c : UInt8) (st : Rst) : Rst :=
  if c = 115 then ⟨{ st.i with s := (toldTxt bs st.pl st.fe st.fa 64).s }, (toldTxt bs st.pl st.fe st.fa 64).pl, (toldTxt bs st.pl st.fe st.fa 64).fe, (toldTxt bs st.pl st.fe st.fa 64).fa⟩
  else ⟨st.i.set c (toldInt bs st.pl st.fe st.fa (lowOf c) (highOf op c) 5).n, (toldInt bs st.pl st.fe st.fa (lowOf c) (highOf op c) 5).pl, (toldInt bs st.pl st.fe st.fa (lowOf c) (highOf op c) 5).fe, (toldInt bs st.pl st.fe st.fa (lowOf c) (highOf op c) 5).fa⟩
def readL (bs : List UInt8) (op : Int) (cs : List UInt8) (st : Rst) : Rst := cs.foldl (fun st c => stepL bs op c st) st
def readI (bs : List UInt8) (pl : Nat) : Rst :=
  readL bs (toldInt bs pl 0 0 1 15 5).n (hasL (toldInt bs pl 0 0 1 15 5).n) ⟨⟨(toldInt bs pl 0 0 1 15 5).n, 0, 0, 0, 0, []⟩, (toldInt bs pl 0 0 1 15 5).pl, (toldInt bs pl 0 0 1 15 5).fe, (toldInt bs pl 0 0 1 15 5).fa⟩

/-- Read from a place on, or from the beginning of what stands there: the same, places moved. -/
theorem numAt_shift (bs : List UInt8) (at_ pl : Nat) (low high above : Int) (h : at_ ≤ bs.length) :
    numAt bs (at_ + pl) low high above = match numAt (bs.drop at_) pl low high above with | .ok n k => .ok n k | .bad e a => .bad e (at_ + a) := by
  unfold numAt
  rw [List.drop_drop]
  cases dec (bs.drop (at_ + pl)) with
  | ok N K =>
    dsimp only
    by_cases h1 : (N : Int) < low
    · rw [if_pos h1, if_pos h1]; dsimp only; congr 1
    · rw [if_neg h1, if_neg h1]
      by_cases h2 : high < (N : Int)
      · rw [if_pos h2, if_pos h2]; dsimp only; congr 1
      · rw [if_neg h2, if_neg h2]
  | short => dsimp only; congr 1; rw [List.length_drop]; omega
  | zero => dsimp only; congr 1
  | long => dsimp only; congr 1
theorem toldInt_shift (bs : List UInt8) (at_ pl : Nat) (fe fa low high above : Int) (h : at_ ≤ bs.length) :
    (toldInt bs (at_ + pl) fe (if fe = 0 then 0 else at_ + fa) low high above).n = (toldInt (bs.drop at_) pl fe fa low high above).n ∧
    (toldInt bs (at_ + pl) fe (if fe = 0 then 0 else at_ + fa) low high above).pl = at_ + (toldInt (bs.drop at_) pl fe fa low high above).pl ∧
    (toldInt bs (at_ + pl) fe (if fe = 0 then 0 else at_ + fa) low high above).fe = (toldInt (bs.drop at_) pl fe fa low high above).fe ∧
    (above ≠ 0 → (toldInt bs (at_ + pl) fe (if fe = 0 then 0 else at_ + fa) low high above).fa = if (toldInt (bs.drop at_) pl fe fa low high above).fe = 0 then 0 else at_ + (toldInt (bs.drop at_) pl fe fa low high above).fa) := by
  unfold toldInt
  by_cases h0 : fe = 0
  · rw [if_pos h0, if_pos h0, numAt_shift bs at_ pl low high above h]
    have hb := numAt_bad (bs.drop at_) pl low high
    cases hn : numAt (bs.drop at_) pl low high above with
    | ok n k => exact ⟨rfl, by dsimp only; omega, rfl, fun _ => rfl⟩
    | bad e a => exact ⟨rfl, rfl, rfl, fun ha => by dsimp only; rw [if_neg (hb above e a ha hn)]⟩
  · rw [if_neg h0, if_neg h0, if_neg h0]
    exact ⟨rfl, rfl, rfl, fun _ => by dsimp only; rw [if_neg h0]⟩
theorem txtAt_shift (bs : List UInt8) (at_ pl : Nat) (most : Int) (h : at_ ≤ bs.length) (hp : pl ≤ bs.length - at_) :
    txtAt bs (at_ + pl) most = match txtAt (bs.drop at_) pl most with | .ok s k => .ok s k | .bad e a => .bad e (at_ + a) := by
  unfold txtAt
  rw [numAt_shift bs at_ pl 0 most 3 h]
  cases hn : numAt (bs.drop at_) pl 0 most 3 with
  | bad e a => rfl
  | ok n k =>
    dsimp only
    have hk := (numAt_back (bs.drop at_) pl 0 most 3 n k (by rw [List.length_drop]; omega) hn).2.1
    rw [List.length_drop] at hk ⊢
    by_cases hf : n ≤ bs.length - at_ - (pl + k)
    · rw [if_pos hf, if_pos (by omega), List.drop_drop, Nat.add_assoc]
    · rw [if_neg hf, if_neg (by omega)]
      dsimp only
      congr 1
      omega
theorem toldTxt_shift (bs : List UInt8) (at_ pl : Nat) (fe fa high : Int) (h : at_ ≤ bs.length) (hp : pl ≤ bs.length - at_) :
    (toldTxt bs (at_ + pl) fe (if fe = 0 then 0 else at_ + fa) high).s = (toldTxt (bs.drop at_) pl fe fa high).s ∧
    (toldTxt bs (at_ + pl) fe (if fe = 0 then 0 else at_ + fa) high).pl = at_ + (toldTxt (bs.drop at_) pl fe fa high).pl ∧
    (toldTxt bs (at_ + pl) fe (if fe = 0 then 0 else at_ + fa) high).fe = (toldTxt (bs.drop at_) pl fe fa high).fe ∧
    (toldTxt bs (at_ + pl) fe (if fe = 0 then 0 else at_ + fa) high).fa = if (toldTxt (bs.drop at_) pl fe fa high).fe = 0 then 0 else at_ + (toldTxt (bs.drop at_) pl fe fa high).fa := by
  unfold toldTxt
  by_cases h0 : fe = 0
  · rw [if_pos h0, if_pos h0, txtAt_shift bs at_ pl high h hp]
    have hb := txtAt_bad (bs.drop at_) pl high
    cases hn : txtAt (bs.drop at_) pl high with
    | ok s k => exact ⟨rfl, by dsimp only; omega, rfl, rfl⟩
    | bad e a => exact ⟨rfl, rfl, rfl, by dsimp only; rw [if_neg (hb e a hn)]⟩
  · rw [if_neg h0, if_neg h0, if_neg h0]
    exact ⟨rfl, rfl, rfl, by dsimp only; rw [if_neg h0]⟩
end Go.Proofs.Ytflcmhmbmippfaa

/- Plain laws: an instruction is read alike from a place on, and from the beginning of what stands there. No program in sight. -/
namespace Go.Proofs.Ytflcmhmbmippfaa

theorem iv_int (bs : List UInt8) (pl : Nat) (fe fa low high above : Int) (ha : above ≠ 0) (hp : pl ≤ bs.length) (hf : fe = 0 → fa = 0) : (toldInt bs pl fe fa low high above).pl ≤ bs.length ∧ ((toldInt bs pl fe fa low high above).fe = 0 → (toldInt bs pl fe fa low high above).fa = 0) := by
  by_cases h0 : fe = 0
  · subst h0
    obtain rfl : fa = 0 := hf rfl
    refine ⟨?_, toldInt_fa bs pl low high above ha⟩
    by_cases h1 : (toldInt bs pl 0 0 low high above).fe = 0
    · exact (int_back bs pl low high above ha hp h1).2.1
    · rw [(toldInt_where bs pl low high above hp h1).1]; exact hp
  · unfold toldInt; rw [if_neg h0]; exact ⟨hp, fun h => absurd h h0⟩
theorem iv_txt (bs : List UInt8) (pl : Nat) (fe fa high : Int) (hp : pl ≤ bs.length) (hf : fe = 0 → fa = 0) : (toldTxt bs pl fe fa high).pl ≤ bs.length ∧ ((toldTxt bs pl fe fa high).fe = 0 → (toldTxt bs pl fe fa high).fa = 0) := by
  by_cases h0 : fe = 0
  · subst h0
    obtain rfl : fa = 0 := hf rfl
    refine ⟨?_, toldTxt_fa bs pl high⟩
    by_cases h1 : (toldTxt bs pl 0 0 high).fe = 0
    · exact (txt_back bs pl high hp h1).2.1
    · rw [(toldTxt_where bs pl high hp h1).1]; exact hp
  · unfold toldTxt; rw [if_neg h0]; exact ⟨hp, fun h => absurd h h0⟩

/-- A reader that stands somewhere in the bytes, without a place to its fault where there is none. -/
def Rst.Fine (bs : List UInt8) (st : Rst) : Prop := st.pl ≤ bs.length ∧ (st.fe = 0 → st.fa = 0)
theorem stepL_fine (bs : List UInt8) (op : Int) (c : UInt8) (st : Rst) (h : st.Fine bs) : (stepL bs op c st).Fine bs := by
  unfold stepL
  by_cases hc : c = 115
  · rw [if_pos hc]; exact iv_txt bs st.pl st.fe st.fa 64 h.1 h.2
  · rw [if_neg hc]; exact iv_int bs st.pl st.fe st.fa _ _ 5 (by decide) h.1 h.2

/-- The same way, its places moved by so much. -/
structure Moved (k : Nat) (st st' : Rst) : Prop where
  i : st'.i = st.i
  pl : st'.pl = k + st.pl
  fe : st'.fe = st.fe
  fa : st'.fa = if st.fe = 0 then 0 else (k : Int) + st.fa
theorem stepL_moved (bs : List UInt8) (k : Nat) (hk : k ≤ bs.length) (op : Int) (c : UInt8) (st st' : Rst) (hf : st.Fine (bs.drop k)) (h : Moved k st st') : Moved k (stepL (bs.drop k) op c st) (stepL bs op c st') := by
  obtain ⟨i', pl', fe', fa'⟩ := st'
  obtain ⟨h1, h2, h3, h4⟩ := h
  dsimp only at h1 h2 h3 h4
  subst h1 h2 h3 h4
  have hp : st.pl ≤ bs.length - k := by have := hf.1; rwa [List.length_drop] at this
  unfold stepL
  by_cases hc : c = 115
  · rw [if_pos hc, if_pos hc]
    obtain ⟨e1, e2, e3, e4⟩ := toldTxt_shift bs k st.pl st.fe st.fa 64 hk hp
    exact ⟨by dsimp only; rw [e1], e2, e3, e4⟩
  · rw [if_neg hc, if_neg hc]
    obtain ⟨e1, e2, e3, e4⟩ := toldInt_shift bs k st.pl st.fe st.fa (lowOf c) (highOf op c) 5 hk
    exact ⟨by dsimp only; rw [e1], e2, e3, e4 (by decide)⟩
theorem readL_moved (bs : List UInt8) (k : Nat) (hk : k ≤ bs.length) (op : Int) (cs : List UInt8) : ∀ st st' : Rst, st.Fine (bs.drop k) → Moved k st st' → Moved k (readL (bs.drop k) op cs st) (readL bs op cs st') := by
  induction cs with
  | nil => intro st st' _ h; exact h
  | cons c cs ih => intro st st' hf h; exact ih _ _ (stepL_fine _ op c st hf) (stepL_moved bs k hk op c st st' hf h)
theorem readI_moved (bs : List UInt8) (k : Nat) (hk : k ≤ bs.length) : Moved k (readI (bs.drop k) 0) (readI bs k) := by
  have h := toldInt_shift bs k 0 0 0 1 15 5 hk
  rw [if_pos rfl, Nat.add_zero] at h
  obtain ⟨e1, e2, e3, e4⟩ := h
  have hf := iv_int (bs.drop k) 0 0 0 1 15 5 (by decide) (Nat.zero_le _) (fun _ => rfl)
  unfold readI
  rw [e1]
  exact readL_moved bs k hk _ _ _ _ hf ⟨rfl, e2, e3, e4 (by decide)⟩
end Go.Proofs.Ytflcmhmbmippfaa

/- Plain laws: an instruction's bytes are read as it, cut short they are not, and what is read was written so. No program in sight. -/
namespace Go.Proofs.Ytflcmhmbmippfaa

/-- A letter that stands for a number. -/
def NumL (c : UInt8) : Prop := c = 97 ∨ c = 98 ∨ c = 99 ∨ c = 110
theorem get_set (i : Ins) (c d : UInt8) (v : Int) (hc : NumL c) (hd : NumL d) : (i.set c v).get d = if c = d then v else i.get d := by
  rcases hc with rfl | rfl | rfl | rfl <;> rcases hd with rfl | rfl | rfl | rfl <;> rfl
theorem set_s (i : Ins) (c : UInt8) (v : Int) : (i.set c v).s = i.s := by unfold Ins.set; split <;> (try split) <;> (try split) <;> rfl
theorem set_op (i : Ins) (c : UInt8) (v : Int) : (i.set c v).op = i.op := by unfold Ins.set; split <;> (try split) <;> (try split) <;> rfl
theorem get_s (i : Ins) (s : List UInt8) (d : UInt8) : ({ i with s := s } : Ins).get d = i.get d := rfl
theorem hasL_num (op : Int) : ∀ c ∈ hasL op, c ≠ 115 → NumL c := by
  intro c hc h
  by_cases h1 : 1 ≤ op ∧ op ≤ 15
  · rcases op_cases op h1 with rfl | rfl | rfl | rfl | rfl | rfl | rfl | rfl | rfl | rfl | rfl | rfl | rfl | rfl | rfl <;> simp [hasL] at hc <;> (unfold NumL) <;> grind
  · rw [hasL_out op (by omega)] at hc; cases hc
theorem hasL_nodup (op : Int) : (hasL op).Nodup := by
  by_cases h1 : 1 ≤ op ∧ op ≤ 15
  · rcases op_cases op h1 with rfl | rfl | rfl | rfl | rfl | rfl | rfl | rfl | rfl | rfl | rfl | rfl | rfl | rfl | rfl <;> decide
  · rw [hasL_out op (by omega)]; exact List.nodup_nil

/-- What a letter of an instruction is written as. -/
def byteL (i : Ins) (c : UInt8) : List UInt8 := if c = 115 then sev i.s.length ++ i.s else sev (i.get c).toNat
theorem bytesL_cons (i : Ins) (c : UInt8) (cs : List UInt8) : bytesL i (c :: cs) = byteL i c ++ bytesL i cs := rfl

/-- Behind a fault nothing is told, nor moved. -/
theorem stepL_stuck (bs : List UInt8) (op : Int) (c : UInt8) (st : Rst) (h : st.fe ≠ 0) : (stepL bs op c st).pl = st.pl ∧ (stepL bs op c st).fe = st.fe ∧ (stepL bs op c st).fa = st.fa := by
  unfold stepL
  by_cases hc : c = 115
  · rw [if_pos hc]; simp [toldTxt, if_neg h]
  · rw [if_neg hc]; simp [toldInt, if_neg h]
theorem readL_stuck (bs : List UInt8) (op : Int) (cs : List UInt8) : ∀ st : Rst, st.fe ≠ 0 → (readL bs op cs st).pl = st.pl ∧ (readL bs op cs st).fe = st.fe ∧ (readL bs op cs st).fa = st.fa := by
  induction cs with
  | nil => intro st _; exact ⟨rfl, rfl, rfl⟩
  | cons c cs ih =>
    intro st h
    obtain ⟨h1, h2, h3⟩ := stepL_stuck bs op c st h
    obtain ⟨g1, g2, g3⟩ := ih (stepL bs op c st) (by rw [h2]; exact h)
    exact ⟨g1.trans h1, g2.trans h2, g3.trans h3⟩

/-- A letter is in its bounds. -/
def InB (op : Int) (i : Ins) (c : UInt8) : Prop := if c = 115 then i.s.length ≤ 64 else lowOf c ≤ i.get c ∧ i.get c ≤ highOf op c
theorem lowOf_nn (c : UInt8) : 0 ≤ lowOf c := by unfold lowOf; split <;> omega
theorem highOf_small (op : Int) (c : UInt8) : highOf op c ≤ 60 := by unfold highOf mostN; split <;> (try split) <;> omega

theorem stepL_back (bs : List UInt8) (op : Int) (c : UInt8) (st : Rst) (hp : st.pl ≤ bs.length) (h0 : st.fe = 0) (ha : st.fa = 0) (hc : c ≠ 115 → NumL c) (h : (stepL bs op c st).fe = 0) :
    bs.take (stepL bs op c st).pl = bs.take st.pl ++ byteL (stepL bs op c st).i c ∧ (stepL bs op c st).pl ≤ bs.length ∧ (stepL bs op c st).fa = 0 ∧ InB op (stepL bs op c st).i c := by
  obtain ⟨i, pl, fe, fa⟩ := st
  dsimp only at hp h0 ha
  subst h0 ha
  unfold stepL at h ⊢
  unfold byteL InB
  by_cases h1 : c = 115
  · simp only [if_pos h1] at h ⊢
    obtain ⟨e1, e2, _⟩ := txt_back bs pl 64 hp h
    refine ⟨by rw [← e1, List.append_assoc], e2, toldTxt_fa bs pl 64 h, ?_⟩
    unfold toldTxt txtAt at h ⊢
    rw [if_pos rfl] at h ⊢
    cases hn : numAt bs pl 0 64 3 with
    | bad e a => rw [hn] at h; exact absurd h (numAt_bad _ _ _ _ _ _ _ (by decide) hn)
    | ok n k =>
      rw [hn] at h
      dsimp only at h ⊢
      obtain ⟨_, _, _, _, hn64⟩ := numAt_back bs pl 0 64 3 n k hp hn
      by_cases hf : n ≤ bs.length - (pl + k)
      · rw [if_pos hf]; dsimp only; rw [List.length_take]; omega
      · rw [if_neg hf] at h; exact absurd (show (4 : Int) = 0 from h) (by decide)
  · simp only [if_neg h1] at h ⊢
    have hN := hc h1
    obtain ⟨e1, e2, _⟩ := int_back bs pl (lowOf c) (highOf op c) 5 (by decide) hp h
    have hn := toldInt_n bs pl 0 0 (lowOf c) (highOf op c) 5 hp
    rw [get_set _ _ _ _ hN hN, if_pos rfl]
    refine ⟨by rw [← e1, wrInt, if_neg (by omega)], e2, toldInt_fa bs pl _ _ 5 (by decide) h, ?_⟩
    unfold toldInt at h ⊢
    rw [if_pos rfl] at h ⊢
    cases hq : numAt bs pl (lowOf c) (highOf op c) 5 with
    | bad e a => rw [hq] at h; exact absurd h (numAt_bad _ _ _ _ _ _ _ (by decide) hq)
    | ok n k => obtain ⟨_, _, _, h4, h5⟩ := numAt_back bs pl _ _ 5 n k hp hq; exact ⟨h4, h5⟩

/-- What other letters stand for stays. -/
theorem stepL_other (bs : List UInt8) (op : Int) (c d : UInt8) (st : Rst) (hcd : c ≠ d) (hc : c ≠ 115 → NumL c) (hd : d ≠ 115 → NumL d) : (d ≠ 115 → (stepL bs op c st).i.get d = st.i.get d) ∧ (d = 115 → (stepL bs op c st).i.s = st.i.s) ∧ (stepL bs op c st).i.op = st.i.op := by
  unfold stepL
  by_cases h1 : c = 115
  · rw [if_pos h1]
    exact ⟨fun _ => rfl, fun h => absurd (h1.trans h.symm) hcd, rfl⟩
  · rw [if_neg h1]
    refine ⟨fun h => ?_, fun _ => set_s _ _ _, set_op _ _ _⟩
    rw [get_set _ _ _ _ (hc h1) (hd h), if_neg hcd]
theorem byteL_other (bs : List UInt8) (op : Int) (c d : UInt8) (st : Rst) (hcd : c ≠ d) (hc : c ≠ 115 → NumL c) (hd : d ≠ 115 → NumL d) : byteL (stepL bs op c st).i d = byteL st.i d ∧ (InB op (stepL bs op c st).i d ↔ InB op st.i d) := by
  obtain ⟨h1, h2, _⟩ := stepL_other bs op c d st hcd hc hd
  unfold byteL InB
  by_cases h : d = 115
  · rw [if_pos h, if_pos h, if_pos h, if_pos h, h2 h]; exact ⟨rfl, Iff.rfl⟩
  · rw [if_neg h, if_neg h, if_neg h, if_neg h, h1 h]; exact ⟨rfl, Iff.rfl⟩
theorem readL_other (bs : List UInt8) (op : Int) (d : UInt8) (hd : d ≠ 115 → NumL d) (cs : List UInt8) : ∀ st : Rst, d ∉ cs → (∀ c ∈ cs, c ≠ 115 → NumL c) → byteL (readL bs op cs st).i d = byteL st.i d ∧ (InB op (readL bs op cs st).i d ↔ InB op st.i d) ∧ (d ≠ 115 → (readL bs op cs st).i.get d = st.i.get d) ∧ (d = 115 → (readL bs op cs st).i.s = st.i.s) := by
  induction cs with
  | nil => intro st _ _; exact ⟨rfl, Iff.rfl, fun _ => rfl, fun _ => rfl⟩
  | cons c cs ih =>
    intro st hn hc
    have hcd : c ≠ d := fun e => hn (by simp [e])
    have h1 := byteL_other bs op c d st hcd (hc c (by simp)) hd
    have h2 := stepL_other bs op c d st hcd (hc c (by simp)) hd
    obtain ⟨g1, g2, g3, g4⟩ := ih (stepL bs op c st) (fun e => hn (by simp [e])) (fun x hx => hc x (by simp [hx]))
    exact ⟨g1.trans h1.1, g2.trans h1.2, fun h => (g3 h).trans (h2.1 h), fun h => (g4 h).trans (h2.2.1 h)⟩
theorem readL_op (bs : List UInt8) (op : Int) (cs : List UInt8) : ∀ st : Rst, (readL bs op cs st).i.op = st.i.op := by
  induction cs with
  | nil => intro st; rfl
  | cons c cs ih =>
    intro st
    refine (ih (stepL bs op c st)).trans ?_
    unfold stepL
    by_cases h : c = 115
    · rw [if_pos h]
    · rw [if_neg h]; exact set_op _ _ _

theorem readL_back (bs : List UInt8) (op : Int) (cs : List UInt8) : ∀ st : Rst, cs.Nodup → (∀ c ∈ cs, c ≠ 115 → NumL c) → st.pl ≤ bs.length → (st.fe = 0 → st.fa = 0) → (readL bs op cs st).fe = 0 →
    bs.take (readL bs op cs st).pl = bs.take st.pl ++ bytesL (readL bs op cs st).i cs ∧ (readL bs op cs st).pl ≤ bs.length ∧ (readL bs op cs st).fa = 0 ∧ (∀ c ∈ cs, InB op (readL bs op cs st).i c) ∧ st.fe = 0 := by
  induction cs with
  | nil => intro st _ _ hp ha h; exact ⟨by simp [readL, bytesL], hp, ha h, (fun _ h => by cases h), h⟩
  | cons c cs ih =>
    intro st hn hc hp ha h
    obtain ⟨hn1, hn2⟩ := List.nodup_cons.1 hn
    have hcc := hc c (by simp)
    have h0 : st.fe = 0 := by
      by_cases h0 : st.fe = 0
      · exact h0
      · have := (readL_stuck bs op (c :: cs) st h0).2.1
        rw [this] at h; exact absurd h h0
    have h1 : (stepL bs op c st).fe = 0 := by
      by_cases h1 : (stepL bs op c st).fe = 0
      · exact h1
      · have := (readL_stuck bs op cs (stepL bs op c st) h1).2.1
        have h' : (readL bs op cs (stepL bs op c st)).fe = 0 := h
        rw [this] at h'; exact absurd h' h1
    obtain ⟨e1, e2, e3, e4⟩ := stepL_back bs op c st hp h0 (ha h0) hcc h1
    obtain ⟨g1, g2, g3, g4, _⟩ := ih (stepL bs op c st) hn2 (fun x hx => hc x (by simp [hx])) e2 (fun _ => e3) h
    have hr : readL bs op (c :: cs) st = readL bs op cs (stepL bs op c st) := rfl
    obtain ⟨o1, o2, _, _⟩ := readL_other bs op c hcc cs (stepL bs op c st) hn1 (fun x hx => hc x (by simp [hx]))
    rw [hr]
    refine ⟨?_, g2, g3, fun x hx => ?_, h0⟩
    · rw [g1, e1, bytesL_cons, o1, List.append_assoc]
    · rcases List.mem_cons.1 hx with rfl | hx
      · exact o2.2 e4
      · exact g4 x hx
end Go.Proofs.Ytflcmhmbmippfaa

/- Plain laws: an instruction's bytes are read as it; cut short they are not. No program in sight. -/
namespace Go.Proofs.Ytflcmhmbmippfaa

theorem decF_cut (f : Nat) : ∀ (m t j acc : Nat), m < 128 ^ f → 0 < f → t < (sevF f m).length → decF f ((sevF f m).take t) j acc = .short := by
  induction f with
  | zero => intro m t j acc _ h; omega
  | succ f ih =>
    intro m t j acc hm _ ht
    by_cases h : m < 128
    · rw [sevF_last _ _ h] at ht ⊢
      obtain rfl : t = 0 := by simpa using ht
      rfl
    · have hc : (UInt8.ofNat (m % 128 + 128)).toNat = m % 128 + 128 := by rw [UInt8.toNat_ofNat']; omega
      rw [sevF_more _ _ (by omega)] at ht ⊢
      cases t with
      | zero => rfl
      | succ t =>
        have hf0 : f ≠ 0 := by rintro rfl; simp at hm; omega
        simp only [List.take_succ_cons, decF, hc]
        rw [if_neg (by omega), if_neg hf0]
        refine ih _ _ _ _ ?_ (by omega) (by simpa using ht)
        rw [Nat.div_lt_iff_lt_mul (by decide)]
        rw [Nat.pow_succ] at hm
        exact hm
theorem dec_cut (n t : Nat) (hn : n < 9223372036854775808) (ht : t < (sev n).length) : dec ((sev n).take t) = .short := decF_cut 9 n t 0 0 (by omega) (by omega) ht
theorem toldInt_cut (pre : List UInt8) (n t : Nat) (hn : n < 9223372036854775808) (ht : t < (sev n).length) (low high above : Int) :
    (toldInt (pre ++ (sev n).take t) pre.length 0 0 low high above).fe = 4 ∧ (toldInt (pre ++ (sev n).take t) pre.length 0 0 low high above).fa = ((pre ++ (sev n).take t).length : Nat) := by
  unfold toldInt numAt
  rw [if_pos rfl, List.drop_left, dec_cut n t hn ht]
  exact ⟨rfl, rfl⟩

/-- A letter of i is laid into r. -/
def setL (r i : Ins) (c : UInt8) : Ins := if c = 115 then { r with s := i.s } else r.set c (i.get c)
theorem stepL_here (pre rest : List UInt8) (op : Int) (i r : Ins) (c : UInt8) (hb : InB op i c) : stepL (pre ++ (byteL i c ++ rest)) op c ⟨r, pre.length, 0, 0⟩ = ⟨setL r i c, pre.length + (byteL i c).length, 0, 0⟩ := by
  unfold InB at hb
  unfold stepL setL byteL
  by_cases hc : c = 115
  · rw [if_pos hc] at hb
    simp only [if_pos hc]
    rw [List.append_assoc, toldTxt_here pre rest i.s (by omega) 64 (by omega), List.length_append]
  · rw [if_neg hc] at hb
    simp only [if_neg hc]
    have h0 := lowOf_nn c
    have h1 := highOf_small op c
    rw [toldInt_here pre rest (i.get c).toNat (by omega) _ _ 5 (by omega) (by omega)]
    simp only [show ((i.get c).toNat : Int) = i.get c by omega]
theorem readL_here (op : Int) (i : Ins) (cs : List UInt8) : ∀ (pre rest : List UInt8) (r : Ins), (∀ c ∈ cs, InB op i c) → readL (pre ++ (bytesL i cs ++ rest)) op cs ⟨r, pre.length, 0, 0⟩ = ⟨cs.foldl (fun r c => setL r i c) r, pre.length + (bytesL i cs).length, 0, 0⟩ := by
  induction cs with
  | nil => intro pre rest r _; simp [readL, bytesL]
  | cons c cs ih =>
    intro pre rest r hb
    have h1 := stepL_here pre (bytesL i cs ++ rest) op i r c (hb c (by simp))
    rw [bytesL_cons, List.append_assoc]
    show readL _ op cs (stepL _ op c _) = _
    rw [h1]
    have h2 := ih (pre ++ byteL i c) rest (setL r i c) (fun x hx => hb x (by simp [hx]))
    rw [List.append_assoc, List.length_append] at h2
    rw [h2, List.length_append, Nat.add_assoc]
    rfl
theorem stepL_cut (pre : List UInt8) (op : Int) (i r : Ins) (c : UInt8) (t : Nat) (hb : InB op i c) (ht : t < (byteL i c).length) :
    (stepL (pre ++ (byteL i c).take t) op c ⟨r, pre.length, 0, 0⟩).fe = 4 ∧ (stepL (pre ++ (byteL i c).take t) op c ⟨r, pre.length, 0, 0⟩).fa = ((pre ++ (byteL i c).take t).length : Nat) := by
  unfold InB at hb
  unfold byteL at ht ⊢
  unfold stepL
  by_cases hc : c = 115
  · rw [if_pos hc] at hb
    simp only [if_pos hc] at ht ⊢
    unfold toldTxt txtAt
    rw [if_pos rfl]
    by_cases h1 : t < (sev i.s.length).length
    · rw [List.take_append_of_le_length (by omega)]
      unfold numAt
      rw [List.drop_left, dec_cut _ _ (by omega) h1]
      exact ⟨rfl, rfl⟩
    · have e : (sev i.s.length ++ i.s).take t = sev i.s.length ++ i.s.take (t - (sev i.s.length).length) := by rw [List.take_append, List.take_of_length_le (by omega)]
      rw [List.length_append] at ht
      rw [e, numAt_here pre (i.s.take (t - (sev i.s.length).length)) i.s.length (by omega) 0 64 3, if_neg (by omega), if_neg (by omega)]
      dsimp only
      rw [if_neg (by simp only [List.length_append, List.length_take]; omega)]
      exact ⟨rfl, rfl⟩
  · rw [if_neg hc] at hb
    simp only [if_neg hc] at ht ⊢
    have h0 := lowOf_nn c
    have h1 := highOf_small op c
    exact toldInt_cut pre (i.get c).toNat t (by omega) ht _ _ _
theorem readL_cut (op : Int) (i : Ins) (cs : List UInt8) : ∀ (pre : List UInt8) (r : Ins) (t : Nat), (∀ c ∈ cs, InB op i c) → t < (bytesL i cs).length →
    (readL (pre ++ (bytesL i cs).take t) op cs ⟨r, pre.length, 0, 0⟩).fe = 4 ∧ (readL (pre ++ (bytesL i cs).take t) op cs ⟨r, pre.length, 0, 0⟩).fa = ((pre ++ (bytesL i cs).take t).length : Nat) := by
  induction cs with
  | nil => intro pre r t _ h; simp [bytesL] at h
  | cons c cs ih =>
    intro pre r t hb ht
    rw [bytesL_cons] at ht ⊢
    by_cases h : t < (byteL i c).length
    · rw [List.take_append_of_le_length (by omega)]
      obtain ⟨h1, h2⟩ := stepL_cut pre op i r c t (hb c (by simp)) h
      obtain ⟨_, g2, g3⟩ := readL_stuck (pre ++ (byteL i c).take t) op cs (stepL (pre ++ (byteL i c).take t) op c ⟨r, pre.length, 0, 0⟩) (by rw [h1]; decide)
      exact ⟨g2.trans h1, g3.trans h2⟩
    · have e : (byteL i c ++ bytesL i cs).take t = byteL i c ++ (bytesL i cs).take (t - (byteL i c).length) := by rw [List.take_append, List.take_of_length_le (by omega)]
      rw [e]
      have h1 := stepL_here pre ((bytesL i cs).take (t - (byteL i c).length)) op i r c (hb c (by simp))
      rw [List.length_append] at ht
      have h2 := ih (pre ++ byteL i c) (setL r i c) (t - (byteL i c).length) (fun x hx => hb x (by simp [hx])) (by omega)
      rw [List.append_assoc, List.length_append] at h2
      show (readL _ op cs (stepL _ op c _)).fe = 4 ∧ (readL _ op cs (stepL _ op c _)).fa = _
      rw [h1]
      exact h2

/-- Each letter of an instruction that may be is in its bounds; and it is its letters. -/
theorem may_inb (i : Ins) (h : mayB i = true) : (1 ≤ i.op ∧ i.op ≤ 15) ∧ (∀ c ∈ hasL i.op, InB i.op i c) ∧ (hasL i.op).foldl (fun r c => setL r i c) ⟨i.op, 0, 0, 0, 0, []⟩ = i := by
  obtain ⟨op, a, b, c, n, s⟩ := i
  rw [may_eq] at h
  have hop : 1 ≤ op ∧ op ≤ 15 := by
    unfold mayR at h
    rw [Bool.and_eq_true] at h
    simpa using h.1
  refine ⟨hop, ?_⟩
  rcases op_cases op hop with rfl | rfl | rfl | rfl | rfl | rfl | rfl | rfl | rfl | rfl | rfl | rfl | rfl | rfl | rfl
  all_goals
    simp [mayR, hasL, hasA, hasB, hasC, hasN, hasS, regB, numB, txtB, mostN] at h
    simp [hasL, InB, setL, Ins.get, Ins.set, lowOf, highOf, mostN, h]
    try omega
theorem may_of (i : Ins) (hop : 1 ≤ i.op ∧ i.op ≤ 15) (hb : ∀ c ∈ hasL i.op, InB i.op i c) (h0 : ∀ c, NumL c → c ∉ hasL i.op → i.get c = 0) (hs : 115 ∉ hasL i.op → i.s = []) : mayB i = true := by
  obtain ⟨op, a, b, c, n, s⟩ := i
  rw [may_eq]
  have ha := h0 97 (by unfold NumL; simp)
  have hbb := h0 98 (by unfold NumL; simp)
  have hc := h0 99 (by unfold NumL; simp)
  have hn := h0 110 (by unfold NumL; simp)
  clear h0
  dsimp only at hop hb ha hbb hc hn hs
  rcases op_cases op hop with rfl | rfl | rfl | rfl | rfl | rfl | rfl | rfl | rfl | rfl | rfl | rfl | rfl | rfl | rfl
  all_goals
    simp [hasL, InB, Ins.get, lowOf, highOf, mostN] at hb ha hbb hc hn hs
    simp [mayR, hasL, hasA, hasB, hasC, hasN, hasS, regB, numB, txtB, mostN, *]
    try omega
end Go.Proofs.Ytflcmhmbmippfaa

/- Package code's small functions: what each Op has, the greatest N, a letter's field. -/
namespace Go.Proofs.Ytflcmhmbmippfaa
open Go.RowKit Go.Rt

set_option maxRecDepth 100000 in
set_option maxHeartbeats 1600000 in
theorem cHas_any {W w : World} {l : List SL} (op : Int) (H : Sat W w l) :
    Calls Try.prog 44 #[.int .i64 op] w fun e w' => e = .returned (.string ⟨(hasL op).toArray⟩) ∧ Sat W w' l := by
  by_cases h : 1 ≤ op ∧ op ≤ 15
  · rcases op_cases op h with rfl | rfl | rfl | rfl | rfl | rfl | rfl | rfl | rfl | rfl | rfl | rfl | rfl | rfl | rfl
    all_goals
      go_enter Try.func44, Try.ntmps44
      go_wp2
      go_ret
      exact ⟨rfl, H.alloc' _⟩
  · rw [hasL_out op (by omega)]
    by_cases h1 : op < 1
    · go_enter Try.func44, Try.ntmps44
      go_wp2
      go_ret
      exact ⟨rfl, H.alloc' _⟩
    · have h2 : 15 < op := by omega
      go_enter Try.func44, Try.ntmps44
      go_wp2
      go_ret
      exact ⟨rfl, H.alloc' _⟩

set_option maxRecDepth 100000 in
theorem cMost_any (op : Int) (w : World) : Calls Try.prog 46 #[.int .i64 op] w fun e w' => e = .returned (.int .i64 (mostN op)) ∧ w = w' := by
  by_cases h : op = 6
  · subst h
    go_enter Try.func46, Try.ntmps46
    go_wp2
    go_ret
    exact ⟨rfl, rfl⟩
  · have hm : mostN op = 60 := by unfold mostN; rw [if_neg h]
    have h6 : (op == 6) = false := by simpa using h
    rw [hm]
    go_enter Try.func46, Try.ntmps46
    go_wp2
    go_ret
    exact ⟨rfl, rfl⟩

/-- Where a letter's field lies. -/
def offL (c : UInt8) : Nat := if c = 97 then 1 else if c = 98 then 2 else if c = 99 then 3 else 4
set_option maxRecDepth 100000 in
theorem cField_any (p : Nat) (c : UInt8) (hc : NumL c) (w : World) : Calls Try.prog 47 #[.pointer (some ⟨p, 0, none⟩), .int .i32 (c.toNat : Int)] w fun e w' => e = .returned (.pointer (some ⟨p, offL c, none⟩)) ∧ w = w' := by
  rcases hc with rfl | rfl | rfl | rfl
  all_goals
    go_enter Try.func47, Try.ntmps47
    go_wp2
    go_ret
    exact ⟨rfl, rfl⟩
theorem cField_num (p : Nat) (n : Int) (o : Nat) (h : n = 97 ∧ o = 1 ∨ n = 98 ∧ o = 2 ∨ n = 99 ∧ o = 3 ∨ n = 110 ∧ o = 4) (w : World) : Calls Try.prog 47 #[.pointer (some ⟨p, 0, none⟩), .int .i32 n] w fun e w' => e = .returned (.pointer (some ⟨p, o, none⟩)) ∧ w = w' := by
  rcases h with ⟨rfl, rfl⟩ | ⟨rfl, rfl⟩ | ⟨rfl, rfl⟩ | ⟨rfl, rfl⟩
  · exact cField_any p 97 (by simp [NumL]) w
  · exact cField_any p 98 (by simp [NumL]) w
  · exact cField_any p 99 (by simp [NumL]) w
  · exact cField_any p 110 (by simp [NumL]) w
end Go.Proofs.Ytflcmhmbmippfaa

/- Instructions as values: their cells; two held against each other. -/
namespace Go.Proofs.Ytflcmhmbmippfaa
open Go.RowKit Go.Rt

def Ins.cs (i : Ins) : List Value := [.int .i64 i.op, .int .i64 i.a, .int .i64 i.b, .int .i64 i.c, .int .i64 i.n, .string ⟨i.s.toArray⟩]
def Ins.v (i : Ins) : Value := .agg i.cs.toArray
/-- Are two instructions the same? -/
def insEq (i k : Ins) : Bool := (i.op == k.op) && ((i.a == k.a) && ((i.b == k.b) && ((i.c == k.c) && ((i.n == k.n) && (i.s == k.s)))))
theorem insEq_iff (i k : Ins) : insEq i k = true ↔ i = k := by
  obtain ⟨a, b, c, d, e, f⟩ := i
  obtain ⟨a', b', c', d', e', f'⟩ := k
  simp [insEq]
theorem ba_beq (s t : List UInt8) : ((⟨s.toArray⟩ : ByteArray).toList == (⟨t.toArray⟩ : ByteArray).toList) = (s == t) := by
  have h : ∀ s : List UInt8, (⟨s.toArray⟩ : ByteArray).toList = s := fun s => by
    simp
  rw [h, h]

theorem ins_equal (i k : Ins) (w : World) : (Op.equalIn 10000 26 (.agg i.cs.toArray) (.agg k.cs.toArray)).run Try.prog w = .ok (insEq i k) w := by
  obtain ⟨a, b, c, d, e, f⟩ := i
  obtain ⟨a', b', c', d', e', f'⟩ := k
  unfold Ins.cs insEq
  dsimp only
  go_simp
  by_cases h1 : a = a' <;> by_cases h2 : b = b' <;> by_cases h3 : c = c' <;> by_cases h4 : d = d' <;> by_cases h5 : e = e' <;> by_cases h6 : f = f' <;> simp [h1, h2, h3, h4, h5, h6]

theorem wpList_eqi {w : World} {ops : Array Oper} {rest : List Oper} {o : Oper} {a : Act} {Q : Exit → Act → World → Prop} (hw : Region.wanted o (yielded ops a.tmps) = true) (x y : Operand) (t2 : TypeId) (neq : Bool) (hop : o.op = Op.binOp (if neq then .neq else .eql) 26 x y t2)
    (i k : Ins) (hx : a.eval x = .agg i.cs.toArray) (hy : a.eval y = .agg k.cs.toArray) (hK : wpList Try.prog ops Q rest (a.put o.dst (.bool (xor neq (insEq i k)))) w) : wpList Try.prog ops Q (o :: rest) a w := by
  refine BigFrame.wpList_want hw fun K hK' => ?_
  have h0 := ins_equal i k w
  have hm : Try.prog.eqGuardType Try.prog.depth 26 = false := by kernel_rfl
  have h1 : ∀ op, (eqGuard op 26 x y (.agg i.cs.toArray) (.agg k.cs.toArray)).run Try.prog w = .ok () w := fun op => run_eqGuard_agg (P := Try.prog) w op 26 x y _ _ hm
  unfold Oper.wp
  cases neq with
  | true =>
    have h2 := run_neq_struct (P := Try.prog) w 26 i.cs.toArray k.cs.toArray
    rw [h0] at h2
    simp only [Result.andThen_ok] at h2
    simp only [execOp, hop, if_true, hx, hy, Sem.run_bind, h1, h2, Result.andThen_ok]
    exact hK' _ _ (by simpa using hK)
  | false =>
    have h2 := run_eql_struct (P := Try.prog) w 26 i.cs.toArray k.cs.toArray
    rw [h0] at h2
    simp only [Result.andThen_ok] at h2
    simp only [execOp, hop, Bool.false_eq_true, if_false, hx, hy, Sem.run_bind, h1, h2, Result.andThen_ok]
    exact hK' _ _ (by simpa using hK)
theorem ins_one (i : Ins) : ∀ u ∈ i.cs, u.oneCell' = true := by
  intro u hu
  simp only [Ins.cs, List.mem_cons, List.not_mem_nil, or_false] at hu
  rcases hu with rfl | rfl | rfl | rfl | rfl | rfl <;> rfl
theorem ins_size (i : Ins) : (Try.prog.info? 26).map (·.size) = some i.cs.length := by
  rw [show i.cs.length = 6 from rfl]; kernel_rfl
end Go.Proofs.Ytflcmhmbmippfaa

/- Package code's Check: may an instruction be? -/
namespace Go.Proofs.Ytflcmhmbmippfaa
open Go.RowKit Go.Rt

theorem lt128_num (c : UInt8) (h : c = 115 ∨ NumL c) : c.toNat < 128 := by
  rcases h with rfl | rfl | rfl | rfl | rfl <;> decide
theorem hasL_short (op : Int) : (hasL op).length ≤ 4 := by
  by_cases h1 : 1 ≤ op ∧ op ≤ 15
  · rcases op_cases op h1 with rfl | rfl | rfl | rfl | rfl | rfl | rfl | rfl | rfl | rfl | rfl | rfl | rfl | rfl | rfl <;> decide
  · rw [hasL_out op (by omega)]; decide
theorem ba_at (ls : List UInt8) (j : Nat) (c : UInt8) (h : ls[j]? = some c) (hj : j < (ByteArray.mk ls.toArray).size) : (ByteArray.mk ls.toArray)[j].toNat = c.toNat := by
  have : (ByteArray.mk ls.toArray)[j] = ls[j]'(by simpa [ByteArray.size] using hj) := by
    show ls.toArray[j] = _
    simp
  rw [this]
  obtain ⟨h1, h2⟩ := List.getElem?_eq_some_iff.1 h
  rw [h2]
theorem ba_size (ls : List UInt8) : (ByteArray.mk ls.toArray).size = ls.length := by simp [ByteArray.size]

set_option maxRecDepth 100000 in
set_option maxHeartbeats 8000000 in
theorem cCheck_any {W w : World} {l : List SL} (i : Ins) (hs : i.s.length ≤ maxLen) (H : Sat W w l) :
    Calls Try.prog 19 #[.agg i.cs.toArray] w fun e w' => e = .returned (.int .i64 (if mayB i then 0 else 2)) ∧ Sat W w' l := by
  obtain ⟨op, ia, ib, ic, im, is⟩ := i
  unfold maxLen at hs
  dsimp only at hs
  obtain ⟨R, HR⟩ : ∃ R, Hid (mayB ⟨op, ia, ib, ic, im, is⟩ = R) := ⟨_, rfl⟩
  rw [HR.out]
  by_cases hop : 1 ≤ op ∧ op ≤ 15
  · have hR : R = chkF op (hasL op) ⟨0, ia, ib, ic, im, is⟩ := by
      rw [← HR.out, mayB, decide_eq_true hop, Bool.true_and]
    have HRR := Lib.hid hR
    clear hR HR
    have hnum := hasL_num op
    have hnd := hasL_nodup op
    have hsh := hasL_short op
    obtain ⟨ho1, ho2⟩ := hop
    have HH := Lib.hid (fun w0 (h : Sat W w0 _) => cHas_any (W := W) (w := w0) (l := pt (w.heap.size + 1) (Ins.cs ⟨0, ia, ib, ic, im, is⟩).toArray 26 :: pt w.heap.size (Ins.cs ⟨op, ia, ib, ic, im, is⟩).toArray 26 :: l) op h)
    generalize hasL op = ls at *
    have H1 : Sat W ((w.alloc (.cells (Ins.cs ⟨op, ia, ib, ic, im, is⟩).toArray 26)).alloc (.cells (Ins.cs ⟨op, ia, ib, ic, im, is⟩).toArray 26)) (pt (w.heap.size + 1) (Ins.cs ⟨op, ia, ib, ic, im, is⟩).toArray 26 :: pt w.heap.size (Ins.cs ⟨op, ia, ib, ic, im, is⟩).toArray 26 :: l) := by
      have h := (H.alloc (Ins.cs ⟨op, ia, ib, ic, im, is⟩).toArray 26).alloc (Ins.cs ⟨op, ia, ib, ic, im, is⟩).toArray 26
      simp only [World.size_alloc] at h
      exact h
    have H2 := H1.setCell 0 (.int .i64 0)
    have H2' : Sat W ((w.alloc (.cells (Ins.cs ⟨op, ia, ib, ic, im, is⟩).toArray 26)).alloc (.cells (Ins.cs ⟨0, ia, ib, ic, im, is⟩).toArray 26)) (pt (w.heap.size + 1) (Ins.cs ⟨0, ia, ib, ic, im, is⟩).toArray 26 :: pt w.heap.size (Ins.cs ⟨op, ia, ib, ic, im, is⟩).toArray 26 :: l) := by
      have h := (H.alloc (Ins.cs ⟨op, ia, ib, ic, im, is⟩).toArray 26).alloc (Ins.cs ⟨0, ia, ib, ic, im, is⟩).toArray 26
      simp only [World.size_alloc] at h
      exact h
    show Calls Try.prog 19 #[.agg #[.int .i64 op, .int .i64 ia, .int .i64 ib, .int .i64 ic, .int .i64 im, .string ⟨is.toArray⟩]] w _
    go_enter Try.func19, Try.ntmps19
    go_wp2_with fail
    refine (HH.out _ (by first | exact H2 | exact H2')).mono ?_
    rintro e w1 ⟨rfl, H3⟩
    clear HH H1 H2 H2'
    generalize w.heap.size + 1 = rb at H3 ⊢
    generalize w.heap.size = ib' at H3 ⊢
    have H4 := H3.iter ⟨ls.toArray⟩
    go_wp2
    generalize w1.heap.size = k at H4 ⊢
    clear H3
    go_loopg [5] ls.length (fun g _ wc => ∃ (j : Nat) (r : Ins), g = ls.length - j ∧ j ≤ ls.length ∧ Hid (R = chkF op (ls.drop j) r) ∧ Hid (115 ∈ ls.drop j → r.s = is) ∧ Sat W wc (itr k ⟨ls.toArray⟩ j :: pt rb r.cs.toArray 26 :: pt ib' (Ins.cs ⟨op, ia, ib, ic, im, is⟩).toArray 26 :: l))
    case atStart => exact ⟨0, ⟨0, ia, ib, ic, im, is⟩, rfl, by omega, HRR, (fun _ => rfl), H4⟩
    case round =>
      obtain ⟨j, ⟨ro, ra, rB, rc, rn, rs⟩, rfl, hj, hC, hS, H5⟩ := hrel
      clear H4 HRR
      by_cases hlt : j < ls.length
      · obtain ⟨c, hcj⟩ : ∃ c, ls[j]? = some c := ⟨_, List.getElem?_eq_getElem hlt⟩
        have hdrop : ls.drop j = c :: ls.drop (j + 1) := by
          obtain ⟨h1, h2⟩ := List.getElem?_eq_some_iff.1 hcj
          rw [List.drop_eq_getElem_cons h1, h2]
        have hnd2 : c ∉ ls.drop (j + 1) := by
          have h := List.Sublist.nodup (List.drop_sublist j ls) hnd
          rw [hdrop] at h
          exact (List.nodup_cons.1 h).1
        have hcn : c = 115 ∨ c = 97 ∨ c = 98 ∨ c = 99 ∨ c = 110 := by
          by_cases h : c = 115
          · exact .inl h
          · exact .inr (hnum c (List.mem_of_getElem? hcj) h)
        have hlt' : j < (ByteArray.mk ls.toArray).size := by rw [ba_size]; exact hlt
        have hat := ba_at ls j c hcj hlt'
        have hC' := hC.out
        have hS' := hS.out
        rw [hdrop] at hC' hS'
        clear hC hS hnum hcj hdrop
        have HND := Lib.hid hnd2
        clear hnd2 hnd
        rcases hcn with rfl | rfl | rfl | rfl | rfl
        · have hrs : rs = is := hS' (by simp)
          by_cases h64 : 64 < is.length
          · obtain rfl : false = R := by rw [hC']; simp [chkF, hrs, h64]
            clear hC' hS' hrs
            have e64 : decide ((64 : Int) < (is.length : Int)) = true := by simp; omega
            go_wp2_with (first
              | (refine wpList_next_more rfl (.tmp 22) rfl k ⟨ls.toArray⟩ j rfl H5 115 hlt' hat (by decide) ?_
                 intro w6 H6
                 have r0 : w6.cell? ⟨rb, 0, none⟩ = some (.int .i64 ro) := (H6.pull 1).cell 0
                 have r1 : w6.cell? ⟨rb, 1, none⟩ = some (.int .i64 ra) := (H6.pull 1).cell 1
                 have r2 : w6.cell? ⟨rb, 2, none⟩ = some (.int .i64 rB) := (H6.pull 1).cell 2
                 have r3 : w6.cell? ⟨rb, 3, none⟩ = some (.int .i64 rc) := (H6.pull 1).cell 3
                 have r4 : w6.cell? ⟨rb, 4, none⟩ = some (.int .i64 rn) := (H6.pull 1).cell 4
                 have r5 : w6.cell? ⟨rb, 5, none⟩ = some (.string ⟨rs.toArray⟩) := (H6.pull 1).cell 5
                 have f5 := (H6.pull 1).frz 5
                 have i0 : w6.cell? ⟨ib', 0, none⟩ = some (.int .i64 op) := (H6.pull 2).cell 0
                 have i5 : w6.cell? ⟨ib', 5, none⟩ = some (.string ⟨is.toArray⟩) := (H6.pull 2).cell 5))
            go_ret
            exact ⟨rfl, H6.tail.tail.tail⟩
          · have hR2 : R = chkF op (ls.drop (j + 1)) ⟨ro, ra, rB, rc, rn, []⟩ := by rw [hC']; simp [chkF, hrs, h64]
            clear hC' hS'
            have HR2 := Lib.hid hR2
            clear hR2 hrs
            have e64 : decide ((64 : Int) < (is.length : Int)) = false := by simp; omega
            go_wp2_with (first
              | (refine wpList_next_more rfl (.tmp 22) rfl k ⟨ls.toArray⟩ j rfl H5 115 hlt' hat (by decide) ?_
                 intro w6 H6
                 have r0 : w6.cell? ⟨rb, 0, none⟩ = some (.int .i64 ro) := (H6.pull 1).cell 0
                 have r1 : w6.cell? ⟨rb, 1, none⟩ = some (.int .i64 ra) := (H6.pull 1).cell 1
                 have r2 : w6.cell? ⟨rb, 2, none⟩ = some (.int .i64 rB) := (H6.pull 1).cell 2
                 have r3 : w6.cell? ⟨rb, 3, none⟩ = some (.int .i64 rc) := (H6.pull 1).cell 3
                 have r4 : w6.cell? ⟨rb, 4, none⟩ = some (.int .i64 rn) := (H6.pull 1).cell 4
                 have r5 : w6.cell? ⟨rb, 5, none⟩ = some (.string ⟨rs.toArray⟩) := (H6.pull 1).cell 5
                 have f5 := (H6.pull 1).frz 5
                 have i0 : w6.cell? ⟨ib', 0, none⟩ = some (.int .i64 op) := (H6.pull 2).cell 0
                 have i5 : w6.cell? ⟨ib', 5, none⟩ = some (.string ⟨is.toArray⟩) := (H6.pull 2).cell 5))
            go_roundg (ls.length - (j + 1))
            case measure => omega
            case rel => exact ⟨j + 1, ⟨ro, ra, rB, rc, rn, []⟩, rfl, by omega, HR2, (fun h => absurd h HND.out), ((H6.pull 1).setCell 5 (.string ⟨#[]⟩)).swap⟩
        · by_cases hlo : ra < 0
          · obtain rfl : false = R := by rw [hC']; simp [chkF, Ins.get, lowOf, highOf, hlo]
            clear hC' hS'
            go_wp2_with (first
              | (refine wpList_next_more rfl (.tmp 22) rfl k ⟨ls.toArray⟩ j rfl H5 97 hlt' hat (by decide) ?_
                 intro w6 H6
                 have r0 : w6.cell? ⟨rb, 0, none⟩ = some (.int .i64 ro) := (H6.pull 1).cell 0
                 have r1 : w6.cell? ⟨rb, 1, none⟩ = some (.int .i64 ra) := (H6.pull 1).cell 1
                 have r2 : w6.cell? ⟨rb, 2, none⟩ = some (.int .i64 rB) := (H6.pull 1).cell 2
                 have r3 : w6.cell? ⟨rb, 3, none⟩ = some (.int .i64 rc) := (H6.pull 1).cell 3
                 have r4 : w6.cell? ⟨rb, 4, none⟩ = some (.int .i64 rn) := (H6.pull 1).cell 4
                 have r5 : w6.cell? ⟨rb, 5, none⟩ = some (.string ⟨rs.toArray⟩) := (H6.pull 1).cell 5
                 have f1 := (H6.pull 1).frz 1
                 have i0 : w6.cell? ⟨ib', 0, none⟩ = some (.int .i64 op) := (H6.pull 2).cell 0
                 have i5 : w6.cell? ⟨ib', 5, none⟩ = some (.string ⟨is.toArray⟩) := (H6.pull 2).cell 5)
              | (go_at_call 47; refine (cField_num rb 97 1 (by decide) _).mono ?_; rintro e _ ⟨rfl, rfl⟩))
            go_ret
            exact ⟨rfl, H6.tail.tail.tail⟩
          · by_cases hhi : 7 < ra
            · obtain rfl : false = R := by rw [hC']; simp [chkF, Ins.get, lowOf, highOf, hlo, hhi]
              clear hC' hS'
              go_wp2_with (first
                | (refine wpList_next_more rfl (.tmp 22) rfl k ⟨ls.toArray⟩ j rfl H5 97 hlt' hat (by decide) ?_
                   intro w6 H6
                   have r0 : w6.cell? ⟨rb, 0, none⟩ = some (.int .i64 ro) := (H6.pull 1).cell 0
                   have r1 : w6.cell? ⟨rb, 1, none⟩ = some (.int .i64 ra) := (H6.pull 1).cell 1
                   have r2 : w6.cell? ⟨rb, 2, none⟩ = some (.int .i64 rB) := (H6.pull 1).cell 2
                   have r3 : w6.cell? ⟨rb, 3, none⟩ = some (.int .i64 rc) := (H6.pull 1).cell 3
                   have r4 : w6.cell? ⟨rb, 4, none⟩ = some (.int .i64 rn) := (H6.pull 1).cell 4
                   have r5 : w6.cell? ⟨rb, 5, none⟩ = some (.string ⟨rs.toArray⟩) := (H6.pull 1).cell 5
                   have f1 := (H6.pull 1).frz 1
                   have i0 : w6.cell? ⟨ib', 0, none⟩ = some (.int .i64 op) := (H6.pull 2).cell 0
                   have i5 : w6.cell? ⟨ib', 5, none⟩ = some (.string ⟨is.toArray⟩) := (H6.pull 2).cell 5)
                | (go_at_call 47; refine (cField_num rb 97 1 (by decide) _).mono ?_; rintro e _ ⟨rfl, rfl⟩))
              go_ret
              exact ⟨rfl, H6.tail.tail.tail⟩
            · have hR2 : R = chkF op (ls.drop (j + 1)) ⟨ro, 0, rB, rc, rn, rs⟩ := by rw [hC']; simp [chkF, Ins.get, Ins.set, lowOf, highOf, hlo, hhi]
              have hS2 : 115 ∈ ls.drop (j + 1) → rs = is := fun h => hS' (by simp [h])
              clear hC' hS'
              have HR2 := Lib.hid hR2
              have HS2 := Lib.hid hS2
              clear hR2 hS2
              go_wp2_with (first
                | (refine wpList_next_more rfl (.tmp 22) rfl k ⟨ls.toArray⟩ j rfl H5 97 hlt' hat (by decide) ?_
                   intro w6 H6
                   have r0 : w6.cell? ⟨rb, 0, none⟩ = some (.int .i64 ro) := (H6.pull 1).cell 0
                   have r1 : w6.cell? ⟨rb, 1, none⟩ = some (.int .i64 ra) := (H6.pull 1).cell 1
                   have r2 : w6.cell? ⟨rb, 2, none⟩ = some (.int .i64 rB) := (H6.pull 1).cell 2
                   have r3 : w6.cell? ⟨rb, 3, none⟩ = some (.int .i64 rc) := (H6.pull 1).cell 3
                   have r4 : w6.cell? ⟨rb, 4, none⟩ = some (.int .i64 rn) := (H6.pull 1).cell 4
                   have r5 : w6.cell? ⟨rb, 5, none⟩ = some (.string ⟨rs.toArray⟩) := (H6.pull 1).cell 5
                   have f1 := (H6.pull 1).frz 1
                   have i0 : w6.cell? ⟨ib', 0, none⟩ = some (.int .i64 op) := (H6.pull 2).cell 0
                   have i5 : w6.cell? ⟨ib', 5, none⟩ = some (.string ⟨is.toArray⟩) := (H6.pull 2).cell 5)
                | (go_at_call 47; refine (cField_num rb 97 1 (by decide) _).mono ?_; rintro e _ ⟨rfl, rfl⟩))
              go_roundg (ls.length - (j + 1))
              case measure => omega
              case rel => exact ⟨j + 1, ⟨ro, 0, rB, rc, rn, rs⟩, rfl, by omega, HR2, HS2, ((H6.pull 1).setCell 1 (.int .i64 0)).swap⟩
        · by_cases hlo : rB < 0
          · obtain rfl : false = R := by rw [hC']; simp [chkF, Ins.get, lowOf, highOf, hlo]
            clear hC' hS'
            go_wp2_with (first
              | (refine wpList_next_more rfl (.tmp 22) rfl k ⟨ls.toArray⟩ j rfl H5 98 hlt' hat (by decide) ?_
                 intro w6 H6
                 have r0 : w6.cell? ⟨rb, 0, none⟩ = some (.int .i64 ro) := (H6.pull 1).cell 0
                 have r1 : w6.cell? ⟨rb, 1, none⟩ = some (.int .i64 ra) := (H6.pull 1).cell 1
                 have r2 : w6.cell? ⟨rb, 2, none⟩ = some (.int .i64 rB) := (H6.pull 1).cell 2
                 have r3 : w6.cell? ⟨rb, 3, none⟩ = some (.int .i64 rc) := (H6.pull 1).cell 3
                 have r4 : w6.cell? ⟨rb, 4, none⟩ = some (.int .i64 rn) := (H6.pull 1).cell 4
                 have r5 : w6.cell? ⟨rb, 5, none⟩ = some (.string ⟨rs.toArray⟩) := (H6.pull 1).cell 5
                 have f2 := (H6.pull 1).frz 2
                 have i0 : w6.cell? ⟨ib', 0, none⟩ = some (.int .i64 op) := (H6.pull 2).cell 0
                 have i5 : w6.cell? ⟨ib', 5, none⟩ = some (.string ⟨is.toArray⟩) := (H6.pull 2).cell 5)
              | (go_at_call 47; refine (cField_num rb 98 2 (by decide) _).mono ?_; rintro e _ ⟨rfl, rfl⟩))
            go_ret
            exact ⟨rfl, H6.tail.tail.tail⟩
          · by_cases hhi : 7 < rB
            · obtain rfl : false = R := by rw [hC']; simp [chkF, Ins.get, lowOf, highOf, hlo, hhi]
              clear hC' hS'
              go_wp2_with (first
                | (refine wpList_next_more rfl (.tmp 22) rfl k ⟨ls.toArray⟩ j rfl H5 98 hlt' hat (by decide) ?_
                   intro w6 H6
                   have r0 : w6.cell? ⟨rb, 0, none⟩ = some (.int .i64 ro) := (H6.pull 1).cell 0
                   have r1 : w6.cell? ⟨rb, 1, none⟩ = some (.int .i64 ra) := (H6.pull 1).cell 1
                   have r2 : w6.cell? ⟨rb, 2, none⟩ = some (.int .i64 rB) := (H6.pull 1).cell 2
                   have r3 : w6.cell? ⟨rb, 3, none⟩ = some (.int .i64 rc) := (H6.pull 1).cell 3
                   have r4 : w6.cell? ⟨rb, 4, none⟩ = some (.int .i64 rn) := (H6.pull 1).cell 4
                   have r5 : w6.cell? ⟨rb, 5, none⟩ = some (.string ⟨rs.toArray⟩) := (H6.pull 1).cell 5
                   have f2 := (H6.pull 1).frz 2
                   have i0 : w6.cell? ⟨ib', 0, none⟩ = some (.int .i64 op) := (H6.pull 2).cell 0
                   have i5 : w6.cell? ⟨ib', 5, none⟩ = some (.string ⟨is.toArray⟩) := (H6.pull 2).cell 5)
                | (go_at_call 47; refine (cField_num rb 98 2 (by decide) _).mono ?_; rintro e _ ⟨rfl, rfl⟩))
              go_ret
              exact ⟨rfl, H6.tail.tail.tail⟩
            · have hR2 : R = chkF op (ls.drop (j + 1)) ⟨ro, ra, 0, rc, rn, rs⟩ := by rw [hC']; simp [chkF, Ins.get, Ins.set, lowOf, highOf, hlo, hhi]
              have hS2 : 115 ∈ ls.drop (j + 1) → rs = is := fun h => hS' (by simp [h])
              clear hC' hS'
              have HR2 := Lib.hid hR2
              have HS2 := Lib.hid hS2
              clear hR2 hS2
              go_wp2_with (first
                | (refine wpList_next_more rfl (.tmp 22) rfl k ⟨ls.toArray⟩ j rfl H5 98 hlt' hat (by decide) ?_
                   intro w6 H6
                   have r0 : w6.cell? ⟨rb, 0, none⟩ = some (.int .i64 ro) := (H6.pull 1).cell 0
                   have r1 : w6.cell? ⟨rb, 1, none⟩ = some (.int .i64 ra) := (H6.pull 1).cell 1
                   have r2 : w6.cell? ⟨rb, 2, none⟩ = some (.int .i64 rB) := (H6.pull 1).cell 2
                   have r3 : w6.cell? ⟨rb, 3, none⟩ = some (.int .i64 rc) := (H6.pull 1).cell 3
                   have r4 : w6.cell? ⟨rb, 4, none⟩ = some (.int .i64 rn) := (H6.pull 1).cell 4
                   have r5 : w6.cell? ⟨rb, 5, none⟩ = some (.string ⟨rs.toArray⟩) := (H6.pull 1).cell 5
                   have f2 := (H6.pull 1).frz 2
                   have i0 : w6.cell? ⟨ib', 0, none⟩ = some (.int .i64 op) := (H6.pull 2).cell 0
                   have i5 : w6.cell? ⟨ib', 5, none⟩ = some (.string ⟨is.toArray⟩) := (H6.pull 2).cell 5)
                | (go_at_call 47; refine (cField_num rb 98 2 (by decide) _).mono ?_; rintro e _ ⟨rfl, rfl⟩))
              go_roundg (ls.length - (j + 1))
              case measure => omega
              case rel => exact ⟨j + 1, ⟨ro, ra, 0, rc, rn, rs⟩, rfl, by omega, HR2, HS2, ((H6.pull 1).setCell 2 (.int .i64 0)).swap⟩
        · by_cases hlo : rc < 0
          · obtain rfl : false = R := by rw [hC']; simp [chkF, Ins.get, lowOf, highOf, hlo]
            clear hC' hS'
            go_wp2_with (first
              | (refine wpList_next_more rfl (.tmp 22) rfl k ⟨ls.toArray⟩ j rfl H5 99 hlt' hat (by decide) ?_
                 intro w6 H6
                 have r0 : w6.cell? ⟨rb, 0, none⟩ = some (.int .i64 ro) := (H6.pull 1).cell 0
                 have r1 : w6.cell? ⟨rb, 1, none⟩ = some (.int .i64 ra) := (H6.pull 1).cell 1
                 have r2 : w6.cell? ⟨rb, 2, none⟩ = some (.int .i64 rB) := (H6.pull 1).cell 2
                 have r3 : w6.cell? ⟨rb, 3, none⟩ = some (.int .i64 rc) := (H6.pull 1).cell 3
                 have r4 : w6.cell? ⟨rb, 4, none⟩ = some (.int .i64 rn) := (H6.pull 1).cell 4
                 have r5 : w6.cell? ⟨rb, 5, none⟩ = some (.string ⟨rs.toArray⟩) := (H6.pull 1).cell 5
                 have f3 := (H6.pull 1).frz 3
                 have i0 : w6.cell? ⟨ib', 0, none⟩ = some (.int .i64 op) := (H6.pull 2).cell 0
                 have i5 : w6.cell? ⟨ib', 5, none⟩ = some (.string ⟨is.toArray⟩) := (H6.pull 2).cell 5)
              | (go_at_call 47; refine (cField_num rb 99 3 (by decide) _).mono ?_; rintro e _ ⟨rfl, rfl⟩))
            go_ret
            exact ⟨rfl, H6.tail.tail.tail⟩
          · by_cases hhi : 7 < rc
            · obtain rfl : false = R := by rw [hC']; simp [chkF, Ins.get, lowOf, highOf, hlo, hhi]
              clear hC' hS'
              go_wp2_with (first
                | (refine wpList_next_more rfl (.tmp 22) rfl k ⟨ls.toArray⟩ j rfl H5 99 hlt' hat (by decide) ?_
                   intro w6 H6
                   have r0 : w6.cell? ⟨rb, 0, none⟩ = some (.int .i64 ro) := (H6.pull 1).cell 0
                   have r1 : w6.cell? ⟨rb, 1, none⟩ = some (.int .i64 ra) := (H6.pull 1).cell 1
                   have r2 : w6.cell? ⟨rb, 2, none⟩ = some (.int .i64 rB) := (H6.pull 1).cell 2
                   have r3 : w6.cell? ⟨rb, 3, none⟩ = some (.int .i64 rc) := (H6.pull 1).cell 3
                   have r4 : w6.cell? ⟨rb, 4, none⟩ = some (.int .i64 rn) := (H6.pull 1).cell 4
                   have r5 : w6.cell? ⟨rb, 5, none⟩ = some (.string ⟨rs.toArray⟩) := (H6.pull 1).cell 5
                   have f3 := (H6.pull 1).frz 3
                   have i0 : w6.cell? ⟨ib', 0, none⟩ = some (.int .i64 op) := (H6.pull 2).cell 0
                   have i5 : w6.cell? ⟨ib', 5, none⟩ = some (.string ⟨is.toArray⟩) := (H6.pull 2).cell 5)
                | (go_at_call 47; refine (cField_num rb 99 3 (by decide) _).mono ?_; rintro e _ ⟨rfl, rfl⟩))
              go_ret
              exact ⟨rfl, H6.tail.tail.tail⟩
            · have hR2 : R = chkF op (ls.drop (j + 1)) ⟨ro, ra, rB, 0, rn, rs⟩ := by rw [hC']; simp [chkF, Ins.get, Ins.set, lowOf, highOf, hlo, hhi]
              have hS2 : 115 ∈ ls.drop (j + 1) → rs = is := fun h => hS' (by simp [h])
              clear hC' hS'
              have HR2 := Lib.hid hR2
              have HS2 := Lib.hid hS2
              clear hR2 hS2
              go_wp2_with (first
                | (refine wpList_next_more rfl (.tmp 22) rfl k ⟨ls.toArray⟩ j rfl H5 99 hlt' hat (by decide) ?_
                   intro w6 H6
                   have r0 : w6.cell? ⟨rb, 0, none⟩ = some (.int .i64 ro) := (H6.pull 1).cell 0
                   have r1 : w6.cell? ⟨rb, 1, none⟩ = some (.int .i64 ra) := (H6.pull 1).cell 1
                   have r2 : w6.cell? ⟨rb, 2, none⟩ = some (.int .i64 rB) := (H6.pull 1).cell 2
                   have r3 : w6.cell? ⟨rb, 3, none⟩ = some (.int .i64 rc) := (H6.pull 1).cell 3
                   have r4 : w6.cell? ⟨rb, 4, none⟩ = some (.int .i64 rn) := (H6.pull 1).cell 4
                   have r5 : w6.cell? ⟨rb, 5, none⟩ = some (.string ⟨rs.toArray⟩) := (H6.pull 1).cell 5
                   have f3 := (H6.pull 1).frz 3
                   have i0 : w6.cell? ⟨ib', 0, none⟩ = some (.int .i64 op) := (H6.pull 2).cell 0
                   have i5 : w6.cell? ⟨ib', 5, none⟩ = some (.string ⟨is.toArray⟩) := (H6.pull 2).cell 5)
                | (go_at_call 47; refine (cField_num rb 99 3 (by decide) _).mono ?_; rintro e _ ⟨rfl, rfl⟩))
              go_roundg (ls.length - (j + 1))
              case measure => omega
              case rel => exact ⟨j + 1, ⟨ro, ra, rB, 0, rn, rs⟩, rfl, by omega, HR2, HS2, ((H6.pull 1).setCell 3 (.int .i64 0)).swap⟩
        · by_cases hlo : rn < 1
          · obtain rfl : false = R := by rw [hC']; simp [chkF, Ins.get, lowOf, highOf, hlo]
            clear hC' hS'
            go_wp2_with (first
              | (refine wpList_next_more rfl (.tmp 22) rfl k ⟨ls.toArray⟩ j rfl H5 110 hlt' hat (by decide) ?_
                 intro w6 H6
                 have r0 : w6.cell? ⟨rb, 0, none⟩ = some (.int .i64 ro) := (H6.pull 1).cell 0
                 have r1 : w6.cell? ⟨rb, 1, none⟩ = some (.int .i64 ra) := (H6.pull 1).cell 1
                 have r2 : w6.cell? ⟨rb, 2, none⟩ = some (.int .i64 rB) := (H6.pull 1).cell 2
                 have r3 : w6.cell? ⟨rb, 3, none⟩ = some (.int .i64 rc) := (H6.pull 1).cell 3
                 have r4 : w6.cell? ⟨rb, 4, none⟩ = some (.int .i64 rn) := (H6.pull 1).cell 4
                 have r5 : w6.cell? ⟨rb, 5, none⟩ = some (.string ⟨rs.toArray⟩) := (H6.pull 1).cell 5
                 have f4 := (H6.pull 1).frz 4
                 have i0 : w6.cell? ⟨ib', 0, none⟩ = some (.int .i64 op) := (H6.pull 2).cell 0
                 have i5 : w6.cell? ⟨ib', 5, none⟩ = some (.string ⟨is.toArray⟩) := (H6.pull 2).cell 5)
              | (go_at_call 46; refine (cMost_any op _).mono ?_; rintro e _ ⟨rfl, rfl⟩)
              | (go_at_call 47; refine (cField_num rb 110 4 (by decide) _).mono ?_; rintro e _ ⟨rfl, rfl⟩))
            go_ret
            exact ⟨rfl, H6.tail.tail.tail⟩
          · by_cases hhi : mostN op < rn
            · obtain rfl : false = R := by rw [hC']; simp [chkF, Ins.get, lowOf, highOf, hlo, hhi]
              clear hC' hS'
              go_wp2_with (first
                | (refine wpList_next_more rfl (.tmp 22) rfl k ⟨ls.toArray⟩ j rfl H5 110 hlt' hat (by decide) ?_
                   intro w6 H6
                   have r0 : w6.cell? ⟨rb, 0, none⟩ = some (.int .i64 ro) := (H6.pull 1).cell 0
                   have r1 : w6.cell? ⟨rb, 1, none⟩ = some (.int .i64 ra) := (H6.pull 1).cell 1
                   have r2 : w6.cell? ⟨rb, 2, none⟩ = some (.int .i64 rB) := (H6.pull 1).cell 2
                   have r3 : w6.cell? ⟨rb, 3, none⟩ = some (.int .i64 rc) := (H6.pull 1).cell 3
                   have r4 : w6.cell? ⟨rb, 4, none⟩ = some (.int .i64 rn) := (H6.pull 1).cell 4
                   have r5 : w6.cell? ⟨rb, 5, none⟩ = some (.string ⟨rs.toArray⟩) := (H6.pull 1).cell 5
                   have f4 := (H6.pull 1).frz 4
                   have i0 : w6.cell? ⟨ib', 0, none⟩ = some (.int .i64 op) := (H6.pull 2).cell 0
                   have i5 : w6.cell? ⟨ib', 5, none⟩ = some (.string ⟨is.toArray⟩) := (H6.pull 2).cell 5)
                | (go_at_call 46; refine (cMost_any op _).mono ?_; rintro e _ ⟨rfl, rfl⟩)
                | (go_at_call 47; refine (cField_num rb 110 4 (by decide) _).mono ?_; rintro e _ ⟨rfl, rfl⟩))
              go_ret
              exact ⟨rfl, H6.tail.tail.tail⟩
            · have hR2 : R = chkF op (ls.drop (j + 1)) ⟨ro, ra, rB, rc, 0, rs⟩ := by rw [hC']; simp [chkF, Ins.get, Ins.set, lowOf, highOf, hlo, hhi]
              have hS2 : 115 ∈ ls.drop (j + 1) → rs = is := fun h => hS' (by simp [h])
              clear hC' hS'
              have HR2 := Lib.hid hR2
              have HS2 := Lib.hid hS2
              clear hR2 hS2
              go_wp2_with (first
                | (refine wpList_next_more rfl (.tmp 22) rfl k ⟨ls.toArray⟩ j rfl H5 110 hlt' hat (by decide) ?_
                   intro w6 H6
                   have r0 : w6.cell? ⟨rb, 0, none⟩ = some (.int .i64 ro) := (H6.pull 1).cell 0
                   have r1 : w6.cell? ⟨rb, 1, none⟩ = some (.int .i64 ra) := (H6.pull 1).cell 1
                   have r2 : w6.cell? ⟨rb, 2, none⟩ = some (.int .i64 rB) := (H6.pull 1).cell 2
                   have r3 : w6.cell? ⟨rb, 3, none⟩ = some (.int .i64 rc) := (H6.pull 1).cell 3
                   have r4 : w6.cell? ⟨rb, 4, none⟩ = some (.int .i64 rn) := (H6.pull 1).cell 4
                   have r5 : w6.cell? ⟨rb, 5, none⟩ = some (.string ⟨rs.toArray⟩) := (H6.pull 1).cell 5
                   have f4 := (H6.pull 1).frz 4
                   have i0 : w6.cell? ⟨ib', 0, none⟩ = some (.int .i64 op) := (H6.pull 2).cell 0
                   have i5 : w6.cell? ⟨ib', 5, none⟩ = some (.string ⟨is.toArray⟩) := (H6.pull 2).cell 5)
                | (go_at_call 46; refine (cMost_any op _).mono ?_; rintro e _ ⟨rfl, rfl⟩)
                | (go_at_call 47; refine (cField_num rb 110 4 (by decide) _).mono ?_; rintro e _ ⟨rfl, rfl⟩))
              go_roundg (ls.length - (j + 1))
              case measure => omega
              case rel => exact ⟨j + 1, ⟨ro, ra, rB, rc, 0, rs⟩, rfl, by omega, HR2, HS2, ((H6.pull 1).setCell 4 (.int .i64 0)).swap⟩
      · obtain rfl : j = ls.length := by omega
        have hC' := hC.out
        rw [List.drop_length] at hC'
        have hq : insEq ⟨ro, ra, rB, rc, rn, rs⟩ Ins.zero = R := by rw [hC', Bool.eq_iff_iff]; simp [insEq, Ins.zero, chkF, Ins.isZero]
        clear hC hS hC' hnum hnd
        have HQ := Lib.hid hq
        clear hq
        have hov : ¬ ls.length < (ByteArray.mk ls.toArray).size := by rw [ba_size]; omega
        have r0 : wr.cell? ⟨rb, 0, none⟩ = some (.int .i64 ro) := (H5.pull 1).cell 0
        have r1 : wr.cell? ⟨rb, 1, none⟩ = some (.int .i64 ra) := (H5.pull 1).cell 1
        have r2 : wr.cell? ⟨rb, 2, none⟩ = some (.int .i64 rB) := (H5.pull 1).cell 2
        have r3 : wr.cell? ⟨rb, 3, none⟩ = some (.int .i64 rc) := (H5.pull 1).cell 3
        have r4 : wr.cell? ⟨rb, 4, none⟩ = some (.int .i64 rn) := (H5.pull 1).cell 4
        have r5 : wr.cell? ⟨rb, 5, none⟩ = some (.string ⟨rs.toArray⟩) := (H5.pull 1).cell 5
        cases R
        all_goals
          go_wp2_with (first
            | refine wpList_next_over rfl (.tmp 22) rfl k ⟨ls.toArray⟩ ls.length rfl H5 hov ?_
            | (refine wpList_eqi (by rfl) (.tmp 54) (.tmp 55) 26 true rfl ⟨ro, ra, rB, rc, rn, rs⟩ Ins.zero rfl rfl ?_
               rw [HQ.out]))
          go_ret
          exact ⟨rfl, H5.tail.tail.tail⟩
  · have hR : R = false := by rw [← HR.out, mayB, decide_eq_false hop, Bool.false_and]
    subst hR
    clear HR
    by_cases h1 : op < 1
    · show Calls Try.prog 19 #[.agg #[.int .i64 op, .int .i64 ia, .int .i64 ib, .int .i64 ic, .int .i64 im, .string ⟨is.toArray⟩]] w _
      clear hop
      go_enter Try.func19, Try.ntmps19
      go_wp2
      go_ret
      exact ⟨rfl, H.alloc' _⟩
    · have h2 : 15 < op := by omega
      clear hop
      show Calls Try.prog 19 #[.agg #[.int .i64 op, .int .i64 ia, .int .i64 ib, .int .i64 ic, .int .i64 im, .string ⟨is.toArray⟩]] w _
      go_enter Try.func19, Try.ntmps19
      go_wp2
      go_ret
      exact ⟨rfl, H.alloc' _⟩
end Go.Proofs.Ytflcmhmbmippfaa

/- Package code's Bytes and Size: as which bytes an instruction is written. -/
namespace Go.Proofs.Ytflcmhmbmippfaa
open Go.RowKit Go.Rt

theorem byteL_len (i : Ins) (c : UInt8) : (byteL i c).length ≤ 9 + i.s.length := by
  unfold byteL
  by_cases h : c = 115
  · rw [if_pos h, List.length_append]; have := sev_len i.s.length; omega
  · rw [if_neg h]; have := sev_len (i.get c).toNat; omega
theorem bytesL_len (i : Ins) (cs : List UInt8) : (bytesL i cs).length ≤ cs.length * (9 + i.s.length) := by
  induction cs with
  | nil => simp [bytesL]
  | cons c cs ih =>
    rw [bytesL_cons, List.length_append, List.length_cons, Nat.add_mul]
    have := byteL_len i c
    omega
theorem bytesL_snoc (i : Ins) (cs : List UInt8) (j : Nat) (c : UInt8) (h : cs[j]? = some c) : bytesL i (cs.take (j + 1)) = bytesL i (cs.take j) ++ byteL i c := by
  rw [List.take_add_one, h]
  simp [bytesL, byteL]
theorem may_short (i : Ins) (h : mayB i = true) : i.s.length ≤ 64 := by
  rw [may_eq] at h
  unfold mayR txtB at h
  simp only [Bool.and_eq_true] at h
  have h2 := h.2.2.2.2.2
  by_cases hS : hasS i.op
  · rw [if_pos hS] at h2; simpa using h2
  · rw [if_neg hS] at h2
    have : i.s = [] := by simpa using h2
    rw [this]; simp
theorem insBytes_len (i : Ins) (h : mayB i = true) : (insBytes i).length ≤ 400 := by
  have h1 := sev_len i.op.toNat
  have h2 := bytesL_len i (hasL i.op)
  have h3 := hasL_short i.op
  have h4 := may_short i h
  have h5 : (hasL i.op).length * (9 + i.s.length) ≤ 4 * 73 := Nat.mul_le_mul h3 (by omega)
  unfold insBytes
  rw [List.length_append]
  omega

set_option maxRecDepth 100000 in
set_option maxHeartbeats 8000000 in
theorem cBytes_bad {W w : World} {l : List SL} (i : Ins) (hs : i.s.length ≤ maxLen) (hm : mayB i = false) (H : Sat W w l) :
    Calls Try.prog 16 #[.agg i.cs.toArray] w fun e w' => e = .returned (.tuple #[.slice none 0 0, .int .i64 2]) ∧ Sat W w' l := by
  obtain ⟨op, ia, ib, ic, im, is⟩ := i
  have hck := cCheck_any (W := W) (w := w.alloc (.cells (Ins.cs ⟨op, ia, ib, ic, im, is⟩).toArray 26)) (l := pt w.heap.size (Ins.cs ⟨op, ia, ib, ic, im, is⟩).toArray 26 :: l) ⟨op, ia, ib, ic, im, is⟩ hs (H.alloc _ _)
  rw [hm] at hck
  have HCK := Lib.hid hck
  clear hck hm
  show Calls Try.prog 16 #[.agg #[.int .i64 op, .int .i64 ia, .int .i64 ib, .int .i64 ic, .int .i64 im, .string ⟨is.toArray⟩]] w _
  go_enter Try.func16, Try.ntmps16
  go_wp2_with fail
  refine HCK.out.mono ?_
  rintro e w1 ⟨rfl, H1⟩
  go_wp2
  go_ret2
  exact ⟨rfl, H1.tail⟩

set_option maxRecDepth 100000 in
set_option maxHeartbeats 8000000 in
theorem cBytes_fine {W w : World} {l : List SL} (i : Ins) (hm : mayB i = true) (H : Sat W w l) :
    Calls Try.prog 16 #[.agg i.cs.toArray] w fun e w' => ∃ A c, e = .returned (.tuple #[.slice A (insBytes i).length c, .int .i64 0]) ∧ Sat W w' (row 5 zB (.slice A (insBytes i).length c) (insBytes i).length ((insBytes i).map B) :: l) := by
  have hs := may_short i hm
  have hck := cCheck_any (W := W) (w := w.alloc (.cells i.cs.toArray 26)) (l := pt w.heap.size i.cs.toArray 26 :: l) i (by unfold maxLen; omega) (H.alloc _ _)
  rw [hm] at hck
  obtain ⟨hop, hin, _⟩ := may_inb i hm
  have hbl := insBytes_len i hm
  have hnum := hasL_num i.op
  have hsh := hasL_short i.op
  obtain ⟨bs, HB⟩ : ∃ bs, Hid (insBytes i = bs) := ⟨_, rfl⟩
  rw [HB.out] at hbl ⊢
  have HB2 : Hid (sev i.op.toNat ++ bytesL i (hasL i.op) = bs) := HB.out
  have HCK := Lib.hid hck
  obtain ⟨op, ia, ib, ic, im, is⟩ := i
  dsimp only at hs hop hin hbl hnum hsh HB2
  obtain ⟨o, rfl⟩ : ∃ o : Nat, op = o := ⟨op.toNat, by omega⟩
  rw [Int.toNat_natCast] at HB2
  have ho9 := sev_len o
  have HH := Lib.hid (fun w0 (l0 : List SL) (h : Sat W w0 l0) => cHas_any (W := W) (w := w0) (l := l0) (o : Int) h)
  generalize hasL (o : Int) = ls at *
  clear hck hm HB
  show Calls Try.prog 16 #[.agg #[.int .i64 o, .int .i64 ia, .int .i64 ib, .int .i64 ic, .int .i64 im, .string ⟨is.toArray⟩]] w _
  have hlen : ∀ j, (sev o ++ bytesL ⟨o, ia, ib, ic, im, is⟩ (ls.take j)).length ≤ 1000 := fun j => by
    rw [List.length_append]
    have h2 := bytesL_len ⟨o, ia, ib, ic, im, is⟩ (ls.take j)
    have h3 : (ls.take j).length ≤ 4 := Nat.le_trans (by rw [List.length_take]; exact Nat.min_le_right _ _) hsh
    have h5 : (ls.take j).length * (9 + is.length) ≤ 4 * 73 := Nat.mul_le_mul h3 (by omega)
    dsimp only at h2
    omega
  have HLEN := Lib.hid hlen
  clear hlen
  go_enter Try.func16, Try.ntmps16
  go_wp2_with fail
  refine HCK.out.mono ?_
  rintro e w1 ⟨rfl, H1⟩
  clear HCK
  generalize w.heap.size = ib' at H1 ⊢
  go_wp2_with fail
  refine (new_any H1).mono ?_
  rintro e w2 ⟨rfl, H2⟩
  generalize w1.heap.size = p at H2 ⊢
  have i0 : w2.cell? ⟨ib', 0, none⟩ = some (.int .i64 o) := H2.swap.cell 0
  go_wp2_with fail
  refine (wInt_any o (by omega) (by simp) H2).mono ?_
  rintro e w3 ⟨rfl, H3⟩
  have j0 : w3.cell? ⟨ib', 0, none⟩ = some (.int .i64 o) := H3.swap.cell 0
  go_wp2_with fail
  refine (HH.out _ _ H3).mono ?_
  rintro e w4 ⟨rfl, H4⟩
  clear HH
  have H5 := H4.iter ⟨ls.toArray⟩
  go_wp2
  generalize w4.heap.size = k at H5 ⊢
  go_loopg [7] ls.length (fun g _ wc => ∃ (j : Nat), g = ls.length - j ∧ j ≤ ls.length ∧ Sat W wc (itr k ⟨ls.toArray⟩ j :: wr p (sev o ++ bytesL ⟨o, ia, ib, ic, im, is⟩ (ls.take j)) false :: pt ib' (Ins.cs ⟨o, ia, ib, ic, im, is⟩).toArray 26 :: l))
  case atStart => exact ⟨0, rfl, by omega, by simpa [bytesL] using H5⟩
  case round =>
    obtain ⟨j, rfl, hj, H6⟩ := hrel
    clear H1 H2 H3 H4 H5
    by_cases hlt : j < ls.length
    · obtain ⟨c, hcj⟩ : ∃ c, ls[j]? = some c := ⟨_, List.getElem?_eq_getElem hlt⟩
      have hcn : c = 115 ∨ c = 97 ∨ c = 98 ∨ c = 99 ∨ c = 110 := by
        by_cases h : c = 115
        · exact .inl h
        · exact .inr (hnum c (List.mem_of_getElem? hcj) h)
      have hlt' : j < (ByteArray.mk ls.toArray).size := by rw [ba_size]; exact hlt
      have hat := ba_at ls j c hcj hlt'
      have hb := hin c (List.mem_of_getElem? hcj)
      have hst := bytesL_snoc ⟨o, ia, ib, ic, im, is⟩ ls j c hcj
      clear hcj hnum hin
      have HST := Lib.hid hst
      clear hst
      have hl0 := HLEN.out j
      rcases hcn with rfl | rfl | rfl | rfl | rfl
      · have hsz : (ByteArray.mk is.toArray).size = is.length := ba_size is
        go_wp2_with (first
          | (refine wpList_next_more rfl (.tmp 21) rfl k ⟨ls.toArray⟩ j rfl H6 115 hlt' hat (by decide) ?_
             intro w6 H7
             have k1 : w6.cell? ⟨ib', 1, none⟩ = some (.int .i64 ia) := (H7.pull 2).cell 1
             have k2 : w6.cell? ⟨ib', 2, none⟩ = some (.int .i64 ib) := (H7.pull 2).cell 2
             have k3 : w6.cell? ⟨ib', 3, none⟩ = some (.int .i64 ic) := (H7.pull 2).cell 3
             have k4 : w6.cell? ⟨ib', 4, none⟩ = some (.int .i64 im) := (H7.pull 2).cell 4
             have k5 : w6.cell? ⟨ib', 5, none⟩ = some (.string ⟨is.toArray⟩) := (H7.pull 2).cell 5))
        refine (wText_any ⟨is.toArray⟩ (by omega) (by omega) H7.swap).mono ?_
        rintro e w8 ⟨rfl, H8⟩
        go_wp2
        go_roundg (ls.length - (j + 1))
        case measure => omega
        case rel =>
          refine ⟨j + 1, rfl, by omega, ?_⟩
          have e : sev o ++ bytesL ⟨o, ia, ib, ic, im, is⟩ (ls.take j) ++ sev (ByteArray.mk is.toArray).size ++ (ByteArray.mk is.toArray).data.toList = sev o ++ bytesL ⟨o, ia, ib, ic, im, is⟩ (ls.take (j + 1)) := by
            rw [HST.out, hsz]; simp [byteL]
          rw [e] at H8
          exact H8.swap
      · obtain ⟨m, rfl⟩ : ∃ m : Nat, ia = m := ⟨(ia).toNat, by simp [InB, Ins.get, lowOf] at hb; omega⟩
        have hm : m < 9223372036854775808 := by
          simp [InB, Ins.get, highOf] at hb
          try unfold mostN at hb
          try split at hb
          all_goals omega
        clear hb
        go_wp2_with (first
          | (refine wpList_next_more rfl (.tmp 21) rfl k ⟨ls.toArray⟩ j rfl H6 97 hlt' hat (by decide) ?_
             intro w6 H7
             have k1 : w6.cell? ⟨ib', 1, none⟩ = some (.int .i64 (m : Int)) := (H7.pull 2).cell 1
             have k2 : w6.cell? ⟨ib', 2, none⟩ = some (.int .i64 ib) := (H7.pull 2).cell 2
             have k3 : w6.cell? ⟨ib', 3, none⟩ = some (.int .i64 ic) := (H7.pull 2).cell 3
             have k4 : w6.cell? ⟨ib', 4, none⟩ = some (.int .i64 im) := (H7.pull 2).cell 4
             have k5 : w6.cell? ⟨ib', 5, none⟩ = some (.string ⟨is.toArray⟩) := (H7.pull 2).cell 5)
          | (go_at_call 47; refine (cField_num ib' 97 1 (by decide) _).mono ?_; rintro e _ ⟨rfl, rfl⟩))
        refine (wInt_any m hm (by omega) H7.swap).mono ?_
        rintro e w8 ⟨rfl, H8⟩
        go_wp2
        go_roundg (ls.length - (j + 1))
        case measure => omega
        case rel =>
          refine ⟨j + 1, rfl, by omega, ?_⟩
          rw [HST.out, ← List.append_assoc]
          have e : byteL ⟨o, (m : Int), ib, ic, im, is⟩ 97 = sev m := by simp [byteL, Ins.get]
          rw [e]
          exact H8.swap
      · obtain ⟨m, rfl⟩ : ∃ m : Nat, ib = m := ⟨(ib).toNat, by simp [InB, Ins.get, lowOf] at hb; omega⟩
        have hm : m < 9223372036854775808 := by
          simp [InB, Ins.get, highOf] at hb
          try unfold mostN at hb
          try split at hb
          all_goals omega
        clear hb
        go_wp2_with (first
          | (refine wpList_next_more rfl (.tmp 21) rfl k ⟨ls.toArray⟩ j rfl H6 98 hlt' hat (by decide) ?_
             intro w6 H7
             have k1 : w6.cell? ⟨ib', 1, none⟩ = some (.int .i64 ia) := (H7.pull 2).cell 1
             have k2 : w6.cell? ⟨ib', 2, none⟩ = some (.int .i64 (m : Int)) := (H7.pull 2).cell 2
             have k3 : w6.cell? ⟨ib', 3, none⟩ = some (.int .i64 ic) := (H7.pull 2).cell 3
             have k4 : w6.cell? ⟨ib', 4, none⟩ = some (.int .i64 im) := (H7.pull 2).cell 4
             have k5 : w6.cell? ⟨ib', 5, none⟩ = some (.string ⟨is.toArray⟩) := (H7.pull 2).cell 5)
          | (go_at_call 47; refine (cField_num ib' 98 2 (by decide) _).mono ?_; rintro e _ ⟨rfl, rfl⟩))
        refine (wInt_any m hm (by omega) H7.swap).mono ?_
        rintro e w8 ⟨rfl, H8⟩
        go_wp2
        go_roundg (ls.length - (j + 1))
        case measure => omega
        case rel =>
          refine ⟨j + 1, rfl, by omega, ?_⟩
          rw [HST.out, ← List.append_assoc]
          have e : byteL ⟨o, ia, (m : Int), ic, im, is⟩ 98 = sev m := by simp [byteL, Ins.get]
          rw [e]
          exact H8.swap
      · obtain ⟨m, rfl⟩ : ∃ m : Nat, ic = m := ⟨(ic).toNat, by simp [InB, Ins.get, lowOf] at hb; omega⟩
        have hm : m < 9223372036854775808 := by
          simp [InB, Ins.get, highOf] at hb
          try unfold mostN at hb
          try split at hb
          all_goals omega
        clear hb
        go_wp2_with (first
          | (refine wpList_next_more rfl (.tmp 21) rfl k ⟨ls.toArray⟩ j rfl H6 99 hlt' hat (by decide) ?_
             intro w6 H7
             have k1 : w6.cell? ⟨ib', 1, none⟩ = some (.int .i64 ia) := (H7.pull 2).cell 1
             have k2 : w6.cell? ⟨ib', 2, none⟩ = some (.int .i64 ib) := (H7.pull 2).cell 2
             have k3 : w6.cell? ⟨ib', 3, none⟩ = some (.int .i64 (m : Int)) := (H7.pull 2).cell 3
             have k4 : w6.cell? ⟨ib', 4, none⟩ = some (.int .i64 im) := (H7.pull 2).cell 4
             have k5 : w6.cell? ⟨ib', 5, none⟩ = some (.string ⟨is.toArray⟩) := (H7.pull 2).cell 5)
          | (go_at_call 47; refine (cField_num ib' 99 3 (by decide) _).mono ?_; rintro e _ ⟨rfl, rfl⟩))
        refine (wInt_any m hm (by omega) H7.swap).mono ?_
        rintro e w8 ⟨rfl, H8⟩
        go_wp2
        go_roundg (ls.length - (j + 1))
        case measure => omega
        case rel =>
          refine ⟨j + 1, rfl, by omega, ?_⟩
          rw [HST.out, ← List.append_assoc]
          have e : byteL ⟨o, ia, ib, (m : Int), im, is⟩ 99 = sev m := by simp [byteL, Ins.get]
          rw [e]
          exact H8.swap
      · obtain ⟨m, rfl⟩ : ∃ m : Nat, im = m := ⟨(im).toNat, by simp [InB, Ins.get, lowOf] at hb; omega⟩
        have hm : m < 9223372036854775808 := by
          simp [InB, Ins.get, highOf] at hb
          try unfold mostN at hb
          try split at hb
          all_goals omega
        clear hb
        go_wp2_with (first
          | (refine wpList_next_more rfl (.tmp 21) rfl k ⟨ls.toArray⟩ j rfl H6 110 hlt' hat (by decide) ?_
             intro w6 H7
             have k1 : w6.cell? ⟨ib', 1, none⟩ = some (.int .i64 ia) := (H7.pull 2).cell 1
             have k2 : w6.cell? ⟨ib', 2, none⟩ = some (.int .i64 ib) := (H7.pull 2).cell 2
             have k3 : w6.cell? ⟨ib', 3, none⟩ = some (.int .i64 ic) := (H7.pull 2).cell 3
             have k4 : w6.cell? ⟨ib', 4, none⟩ = some (.int .i64 (m : Int)) := (H7.pull 2).cell 4
             have k5 : w6.cell? ⟨ib', 5, none⟩ = some (.string ⟨is.toArray⟩) := (H7.pull 2).cell 5)
          | (go_at_call 47; refine (cField_num ib' 110 4 (by decide) _).mono ?_; rintro e _ ⟨rfl, rfl⟩))
        refine (wInt_any m hm (by omega) H7.swap).mono ?_
        rintro e w8 ⟨rfl, H8⟩
        go_wp2
        go_roundg (ls.length - (j + 1))
        case measure => omega
        case rel =>
          refine ⟨j + 1, rfl, by omega, ?_⟩
          rw [HST.out, ← List.append_assoc]
          have e : byteL ⟨o, ia, ib, ic, (m : Int), is⟩ 110 = sev m := by simp [byteL, Ins.get]
          rw [e]
          exact H8.swap
    · obtain rfl : j = ls.length := by omega
      have hov : ¬ ls.length < (ByteArray.mk ls.toArray).size := by rw [ba_size]; omega
      rw [List.take_length, HB2.out] at H6
      clear hnum hin
      go_wp2_with (refine wpList_next_over rfl (.tmp 21) rfl k ⟨ls.toArray⟩ ls.length rfl H6 hov ?_)
      refine (wOut_any (by omega) H6.swap).mono ?_
      rintro e w8 ⟨A8, c8, rfl, H8⟩
      go_wp2
      go_ret2
      exact ⟨A8, c8, rfl, H8.swap.tail.swap.tail.swap.tail⟩
end Go.Proofs.Ytflcmhmbmippfaa

/- A list of things that came in, opened to its cells. -/
namespace Go.Proofs.Ytflcmhmbmippfaa
open Go.ChangeShapes Go.WideShapes Go.RowKit Go.Rt Go.Deep

theorem rd_of_cells {w : World} (a : Addr) (xs : List Value) (h : ∀ j u, xs[j]? = some u → w.cell? (a.add j) = some u) : Rd w (some a) xs := by
  intro j u hu
  have h0 : ∃ u0, xs[0]? = some u0 := by
    cases xs with
    | nil => simp at hu
    | cons x xs => exact ⟨x, rfl⟩
  obtain ⟨u0, h0⟩ := h0
  have h1 := h 0 u0 h0
  have hs : a.spot = none := by
    have e : a.add 0 = a := by simp [Addr.add]
    rw [e] at h1
    cases hsp : a.spot with
    | none => rfl
    | some k =>
      exfalso
      unfold World.cell? at h1
      split at h1
      · simp [hsp] at h1
      · cases h1
  obtain ⟨b, o, s⟩ := a
  dsimp only at hs
  subst hs
  refine ⟨b, o, rfl, ?_⟩
  have := h j u hu
  rwa [Addr.add_lit] at this

theorem bytes_of : ∀ vs : List Value, (∀ i, i < vs.length → ∃ m : Int, vs[i]? = some (.int .u8 m) ∧ 0 ≤ m ∧ m < 256) → ∃ d : List UInt8, vs = d.map B
  | [], _ => ⟨[], rfl⟩
  | v :: vs, h => by
    obtain ⟨d, hd⟩ := bytes_of vs fun i hi => by
      have := h (i + 1) (by simpa using hi)
      simpa using this
    obtain ⟨m, hm, h0, h1⟩ := h 0 (by simp)
    simp at hm
    refine ⟨UInt8.ofNat m.toNat :: d, ?_⟩
    rw [List.map_cons, ← hd, hm]
    congr 1
    unfold B
    congr 1
    rw [UInt8.toNat_ofNat']
    omega

section
variable {H : Type} {enc : TypeId × Value → H} {w : World} {base : Nat} {spare : Nat → Bool} {held : Bool}

theorem wf_u8 {m : Int} (h : (Lit.int .u8 m).wf = true) : 0 ≤ m ∧ m < 256 := by
  have e1 : IntKind.u8.min = 0 := rfl
  have e2 : IntKind.u8.max = 255 := rfl
  simp only [Lit.wf, Bool.and_eq_true, decide_eq_true_eq] at h
  omega
theorem wf_i64 {m : Int} (h : (Lit.int .i64 m).wf = true) : -9223372036854775808 ≤ m ∧ m ≤ 9223372036854775807 := by
  have e1 : IntKind.i64.min = -9223372036854775808 := rfl
  have e2 : IntKind.i64.max = 9223372036854775807 := rfl
  simp only [Lit.wf, Bool.and_eq_true, decide_eq_true_eq] at h
  omega

/-- What is known of a thing that came in. -/
structure Th.Came (x : Th) : Prop where
  k : -9223372036854775808 ≤ x.k ∧ x.k ≤ 9223372036854775807
  n : -9223372036854775808 ≤ x.n ∧ x.n ≤ 9223372036854775807
  d : x.d.length = 32

theorem bulk_lits (xs : List (DataW H × List MemPlace)) : xs.length ≤ Rows.uptoBulkAll (xs.map (·.1)) := by
  induction xs with
  | nil => simp [Rows.uptoBulkAll]
  | cons x xs ih =>
    have : 1 ≤ Rows.uptoBulk x.1 := by cases x.1 with
      | lit v => cases v <;> simp [Rows.uptoBulk]
      | _ => simp [Rows.uptoBulk]
    simp only [List.map_cons, Rows.uptoBulkAll, List.length_cons]
    omega

theorem bulkAll_append (a b : List (DataW H)) : Rows.uptoBulkAll (a ++ b) = Rows.uptoBulkAll a + Rows.uptoBulkAll b := by
  induction a with
  | nil => simp [Rows.uptoBulkAll]
  | cons x a ih => simp only [List.cons_append, Rows.uptoBulkAll, ih]; omega

theorem mem_weightsAll {P : Program} {e : TypeId} {n : Nat} {d : DataW H} : ∀ {l : List (DataW H)}, d ∈ l → n ∈ d.weights P e → n ∈ DataW.weightsAll P e l
  | [], h, _ => by cases h
  | x :: l, h, hn => by
    simp only [DataW.weightsAll, List.mem_append]
    rcases List.mem_cons.1 h with rfl | h
    · exact .inl hn
    · exact .inr (mem_weightsAll h hn)

end
end Go.Proofs.Ytflcmhmbmippfaa

/- Bytes that came in, opened to their cells. -/
namespace Go.Proofs.Ytflcmhmbmippfaa
open Go.ChangeShapes Go.WideShapes Go.RowKit Go.Rt Go.Deep
section
variable {H : Type} {enc : TypeId × Value → H} {w : World} {base : Nat} {spare : Nat → Bool} {held : Bool}
theorem open_bytes {fuel : Nat} {v : Value} {y : DataW H × List MemPlace} (h : DataW.trod enc Try.prog w base spare held fuel 22 [v] = some y) :
    ∃ (A : Option Addr) (c : Nat) (bs : List UInt8), v = .slice A bs.length c ∧ bs.length ≤ c ∧ c ≤ maxLen ∧ Rd w A (bs.map B) := by
  have c1 : Try.prog.cellsOf 5 = 1 := by kernel_rfl
  rcases open_slice1 Try.underlying22 c1 h with ⟨h1, _⟩ | ⟨a, len, cap, m, n, V, D, Pl, h1, _, hl, hmax, hm, hy, hi⟩
  · exact ⟨none, 0, [], by simpa using h1, Nat.le_refl _, by simp [maxLen], Rd.nil _ _⟩
  · have hlm : len ≤ m := by rw [hm]; split <;> omega
    obtain ⟨d, hd⟩ := bytes_of ((List.range len).map V) fun i hil => by
      have hil' : i < len := by simpa using hil
      obtain ⟨_, ht⟩ := hi i (by omega)
      obtain ⟨k, e0, _, w0⟩ := DataW.trod_int Try.underlying5 ht
      have hb := wf_u8 w0
      exact ⟨k, by simp at e0; simp [hil', e0], hb.1, hb.2⟩
    have hdl : d.length = len := by have := congrArg List.length hd; simpa using this.symm
    refine ⟨some a, cap, d, by rw [hdl]; simpa using h1, by omega, hmax, ?_⟩
    rw [← hd]
    refine rd_of_cells a _ fun j u hu => ?_
    have hj : j < len := by have := (List.getElem?_eq_some_iff.1 hu).1; simpa using this
    have hc := (hi j (by omega)).1
    have hu' : V j = u := by simpa [hj] using hu
    rw [hc, hu']
theorem open_bsl {fuel : Nat} {v : Value} {y : DataW H × List MemPlace} (h : DataW.trod enc Try.prog w base spare held fuel 22 [v] = some y) :
    ∃ (A : Option Addr) (c : Nat) (bs : List UInt8), v = .slice A bs.length c ∧ Bsl A bs.length c ∧ Rd w A (bs.map B) := by
  obtain ⟨A, c, bs, hv, hc, hm, hr⟩ := open_bytes h
  rcases open_slice Try.underlying22 h with ⟨h1, _⟩ | ⟨a, len, cap, m, n, D, Pl, h1, _, hl, hmax, _⟩
  · rw [hv] at h1
    simp at h1
    exact ⟨A, c, bs, hv, ⟨hc, (fun _ => h1.2.2), hm⟩, hr⟩
  · rw [hv] at h1
    simp at h1
    exact ⟨A, c, bs, hv, ⟨hc, (fun e => by rw [h1.1] at e; cases e), hm⟩, hr⟩
end
end Go.Proofs.Ytflcmhmbmippfaa

/- Package code's Read: the instruction that stands at a place. -/
namespace Go.Proofs.Ytflcmhmbmippfaa
open Go.RowKit Go.Rt

set_option maxRecDepth 100000 in
theorem cSize_fine {W w : World} {l : List SL} (i : Ins) (hm : mayB i = true) (H : Sat W w l) :
    Calls Try.prog 21 #[.agg i.cs.toArray] w fun e w' => e = .returned (.int .i64 ((insBytes i).length : Nat)) ∧ Sat W w' l := by
  have hb := cBytes_fine (W := W) (w := w.alloc (.cells i.cs.toArray 26)) (l := pt w.heap.size i.cs.toArray 26 :: l) i hm (H.alloc _ _)
  obtain ⟨op, ia, ib, ic, im, is⟩ := i
  have HB := Lib.hid hb
  clear hb hm
  show Calls Try.prog 21 #[.agg #[.int .i64 op, .int .i64 ia, .int .i64 ib, .int .i64 ic, .int .i64 im, .string ⟨is.toArray⟩]] w _
  go_enter Try.func21, Try.ntmps21
  go_wp2_with fail
  refine HB.out.mono ?_
  rintro e w1 ⟨A, c, rfl, H1⟩
  go_wp2
  go_ret
  exact ⟨rfl, H1.tail.tail⟩
set_option maxRecDepth 100000 in
theorem cSize_bad {W w : World} {l : List SL} (i : Ins) (hs : i.s.length ≤ maxLen) (hm : mayB i = false) (H : Sat W w l) :
    Calls Try.prog 21 #[.agg i.cs.toArray] w fun e w' => e = .returned (.int .i64 0) ∧ Sat W w' l := by
  have hb := cBytes_bad (W := W) (w := w.alloc (.cells i.cs.toArray 26)) (l := pt w.heap.size i.cs.toArray 26 :: l) i hs hm (H.alloc _ _)
  obtain ⟨op, ia, ib, ic, im, is⟩ := i
  have HB := Lib.hid hb
  clear hb hm
  show Calls Try.prog 21 #[.agg #[.int .i64 op, .int .i64 ia, .int .i64 ib, .int .i64 ic, .int .i64 im, .string ⟨is.toArray⟩]] w _
  go_enter Try.func21, Try.ntmps21
  go_wp2_with fail
  refine HB.out.mono ?_
  rintro e w1 ⟨rfl, H1⟩
  go_wp2
  go_ret
  exact ⟨rfl, H1.tail⟩

/-- What stands at a place: an instruction and where it ends, or a fault. -/
def insAt (bs : List UInt8) (at_ : Int) : Ins × Int × Int × Int :=
  if at_ < 0 ∨ (bs.length : Int) < at_ then (Ins.zero, 0, 5, 0)
  else if (readI bs at_.toNat).fe ≠ 0 then (Ins.zero, 0, (readI bs at_.toNat).fe, (readI bs at_.toNat).fa)
  else ((readI bs at_.toNat).i, ((readI bs at_.toNat).pl : Int), 0, 0)
/-- .. by what stands behind that place. -/
theorem insAt_drop (bs : List UInt8) (k : Nat) (hk : k ≤ bs.length) : insAt bs k = if (readI (bs.drop k) 0).fe ≠ 0 then (Ins.zero, 0, (readI (bs.drop k) 0).fe, (k : Int) + (readI (bs.drop k) 0).fa) else ((readI (bs.drop k) 0).i, ((k + (readI (bs.drop k) 0).pl : Nat) : Int), 0, 0) := by
  obtain ⟨e1, e2, e3, e4⟩ := readI_moved bs k hk
  unfold insAt
  rw [if_neg (by omega), Int.toNat_natCast, e1, e2, e3, e4]
  by_cases h : (readI (bs.drop k) 0).fe = 0
  · rw [if_neg (by omega), if_neg (by omega)]
  · rw [if_pos h, if_pos h, if_neg h]

theorem fa_int (bs : List UInt8) (pl : Nat) (fe fa low high above : Int) (ha : above ≠ 0) (hp : pl ≤ bs.length) (hf : fe = 0 → fa = 0) (h : 0 ≤ fa ∧ fa ≤ bs.length) : 0 ≤ (toldInt bs pl fe fa low high above).fa ∧ (toldInt bs pl fe fa low high above).fa ≤ bs.length := by
  by_cases h0 : fe = 0
  · subst h0
    obtain rfl : fa = 0 := hf rfl
    by_cases h1 : (toldInt bs pl 0 0 low high above).fe = 0
    · rw [toldInt_fa bs pl low high above ha h1]; omega
    · have := toldInt_where bs pl low high above hp h1; omega
  · unfold toldInt; rw [if_neg h0]; exact h
theorem fa_txt (bs : List UInt8) (pl : Nat) (fe fa high : Int) (hp : pl ≤ bs.length) (hf : fe = 0 → fa = 0) (h : 0 ≤ fa ∧ fa ≤ bs.length) : 0 ≤ (toldTxt bs pl fe fa high).fa ∧ (toldTxt bs pl fe fa high).fa ≤ bs.length := by
  by_cases h0 : fe = 0
  · subst h0
    obtain rfl : fa = 0 := hf rfl
    by_cases h1 : (toldTxt bs pl 0 0 high).fe = 0
    · rw [toldTxt_fa bs pl high h1]; omega
    · have := toldTxt_where bs pl high hp h1; omega
  · unfold toldTxt; rw [if_neg h0]; exact h
theorem stepL_fa (bs : List UInt8) (op : Int) (c : UInt8) (st : Rst) (hf : st.Fine bs) (h : 0 ≤ st.fa ∧ st.fa ≤ bs.length) : 0 ≤ (stepL bs op c st).fa ∧ (stepL bs op c st).fa ≤ bs.length := by
  unfold stepL
  by_cases hc : c = 115
  · rw [if_pos hc]; exact fa_txt bs st.pl st.fe st.fa 64 hf.1 hf.2 h
  · rw [if_neg hc]; exact fa_int bs st.pl st.fe st.fa _ _ 5 (by decide) hf.1 hf.2 h
theorem stepL_op (bs : List UInt8) (op : Int) (c : UInt8) (st : Rst) : (stepL bs op c st).i.op = st.i.op := by
  unfold stepL
  by_cases h : c = 115
  · rw [if_pos h]
  · rw [if_neg h]; exact set_op _ _ _

theorem fault_err (a b : Int) (w : World) : (Instr.field 29 (.agg #[.int .i64 a, .int .i64 b]) 0).run Try.prog w = .ok (.int .i64 a) w := by kernel_rfl

set_option maxRecDepth 100000 in
theorem cRead_out {W w : World} {l : List SL} (A : Option Addr) (n c : Nat) (at_ : Int) (h : at_ < 0 ∨ (n : Int) < at_) (H : Sat W w l) :
    Calls Try.prog 13 #[.slice A n c, .int .i64 at_] w fun e w' => e = .returned (.tuple #[.agg Ins.zero.cs.toArray, .int .i64 0, .agg #[.int .i64 5, .int .i64 0]]) ∧ Sat W w' l := by
  by_cases h0 : at_ < 0
  · go_enter Try.func13, Try.ntmps13
    go_wp2
    refine bodyPost_ret (v := .tuple #[.agg Ins.zero.cs.toArray, .int .i64 0, .agg #[.int .i64 5, .int .i64 0]]) ?_ rfl ⟨rfl, ?_⟩
    · simp [results, Try.results13, go_sem, Ins.zero, Ins.cs]
    · exact (H.alloc' _).alloc' _
  · have h1 : (n : Int) < at_ := by omega
    clear h
    go_enter Try.func13, Try.ntmps13
    go_wp2
    refine bodyPost_ret (v := .tuple #[.agg Ins.zero.cs.toArray, .int .i64 0, .agg #[.int .i64 5, .int .i64 0]]) ?_ rfl ⟨rfl, ?_⟩
    · simp [results, Try.results13, go_sem, Ins.zero, Ins.cs]
    · exact (H.alloc' _).alloc' _

/-- What is told of a way through an instruction that stood at k. -/
def outOf (k : Nat) (st : Rst) : Ins × Int × Int × Int := if st.fe ≠ 0 then (Ins.zero, 0, st.fe, (k : Int) + st.fa) else (st.i, ((k + st.pl : Nat) : Int), 0, 0)
def ReadPost (W : World) (l : List SL) (r : Ins × Int × Int × Int) (e : Ending) (w' : World) : Prop :=
  e = .returned (.tuple #[.agg r.1.cs.toArray, .int .i64 r.2.1, .agg #[.int .i64 r.2.2.1, .int .i64 r.2.2.2]]) ∧ Sat W w' l

set_option maxRecDepth 100000 in
set_option maxHeartbeats 16000000 in
theorem cRead_in {W w : World} {l : List SL} (A : Option Addr) (c : Nat) (bs : List UInt8) (hA : Bsl A bs.length c) (hr : RdL W l A (bs.map B)) (hb : bs.length ≤ 1000000000) (k0 : Nat) (hk : k0 ≤ bs.length) (H : Sat W w l) :
    Calls Try.prog 13 #[.slice A bs.length c, .int .i64 k0] w fun e w' => ReadPost W l (insAt bs k0) e w' := by
  obtain ⟨iU, hiU, hu0, hu1, hu2⟩ := info_parts infoU8
  obtain ⟨T, HT⟩ : ∃ T, Hid (insAt bs k0 = T) := ⟨_, rfl⟩
  have HT2 : Hid (outOf k0 (readI (bs.drop k0) 0) = T) := by
    show _ = _; rw [outOf, ← insAt_drop bs k0 hk]; exact HT.out
  rw [HT.out]
  clear HT
  have hlen : (bs.drop k0).length = bs.length - k0 := List.length_drop
  have hrd : RdL W l (subA A c k0) ((bs.drop k0).map B) := fun w' h => by
    have h1 := subA_rd (hr w' h) (n := bs.length) (by simp) hA.le k0 (bs.length - k0) (by omega)
    rw [← List.map_drop, ← List.map_take, List.take_of_length_le (by omega)] at h1
    exact h1
  generalize bs.drop k0 = xs at HT2 hlen hrd
  have hop := fun w0 (h : Sat W w0 (pt (w.heap.size + 1) #[.int .i64 0, .int .i64 0] 29 :: pt w.heap.size Ins.zero.cs.toArray 26 :: l)) => open_any (subA A c k0) (c - k0) xs (RdL.tail (RdL.tail hrd)) (by omega) h
  rw [hlen] at hop
  have HO := Lib.hid hop
  clear hop
  have H1 : Sat W ((w.alloc (.cells Ins.zero.cs.toArray 26)).alloc (.cells #[.int .i64 0, .int .i64 0] 29)) (pt (w.heap.size + 1) #[.int .i64 0, .int .i64 0] 29 :: pt w.heap.size Ins.zero.cs.toArray 26 :: l) := by
    have h := (H.alloc Ins.zero.cs.toArray 26).alloc #[.int .i64 0, .int .i64 0] 29
    simp only [World.size_alloc] at h
    exact h
  have hk0 : (0 : Int) ≤ (k0 : Int) := by omega
  have hxl : xs.length ≤ 1000000000 := by omega
  have HLEN := Lib.hid hlen
  clear hlen
  go_enter Try.func13, Try.ntmps13
  go_wp2_with (refine wpList_slice_from (by rfl) (.tmp 22) (.tmp 23) 22 rfl 5 iU Try.underlying22 hiU hu1 A bs.length c k0 rfl rfl hk ?_)
  refine (HO.out _ H1).mono ?_
  rintro e w1 ⟨r, rfl, H2⟩
  clear HO H1
  generalize w.heap.size + 1 = q6 at H2 ⊢
  generalize w.heap.size = q4 at H2 ⊢
  have hI := rInt_any r xs 0 0 0 1 15 (Nat.zero_le _) hxl (fun _ => rfl) H2
  have hfin := iv_int xs 0 0 0 1 15 5 (by decide) (Nat.zero_le _) (fun _ => rfl)
  have hfa0 := fa_int xs 0 0 0 1 15 5 (by decide) (Nat.zero_le _) (fun _ => rfl) ⟨Int.le_refl _, by omega⟩
  have hn0 := toldInt_n xs 0 0 0 1 15 5 (Nat.zero_le _)
  unfold readI at HT2
  generalize toldInt xs 0 0 0 1 15 5 = t0 at hI hfin hfa0 hn0 HT2
  obtain ⟨op, pl0, fe0, fa0⟩ := t0
  dsimp only at hI hfin hfa0 hn0 HT2
  have HI := Lib.hid hI
  clear hI
  go_wp2_with fail
  refine HI.out.mono ?_
  rintro e w2 ⟨rfl, H3⟩
  clear HI H2
  have hnum := hasL_num op
  have HH := Lib.hid (fun w0 (l0 : List SL) (h : Sat W w0 l0) => cHas_any (W := W) (w := w0) (l := l0) op h)
  generalize hasL op = ls at *
  have H4 : Sat W (w2.alloc (.cells (Ins.cs ⟨op, 0, 0, 0, 0, []⟩).toArray 26)) (pt w2.heap.size (Ins.cs ⟨op, 0, 0, 0, 0, []⟩).toArray 26 :: rdr r xs pl0 fe0 fa0 :: pt q6 #[.int .i64 0, .int .i64 0] 29 :: pt q4 Ins.zero.cs.toArray 26 :: l) := H3.alloc _ _
  go_wp2_with fail
  refine (HH.out _ _ H4).mono ?_
  rintro e w3 ⟨rfl, H5⟩
  clear HH H3 H4
  generalize w2.heap.size = ii at H5 ⊢
  have H6 := H5.iter ⟨ls.toArray⟩
  clear H5
  go_wp2
  generalize w3.heap.size = k at H6 ⊢
  go_loopg [10] ls.length (fun g _ wc => ∃ (j : Nat) (st : Rst), g = ls.length - j ∧ j ≤ ls.length ∧ Hid (outOf k0 (readL xs op (ls.drop j) st) = T) ∧ st.i.op = op ∧ Hid (st.Fine xs) ∧ (0 ≤ st.fa ∧ st.fa ≤ xs.length) ∧
      Sat W wc (itr k ⟨ls.toArray⟩ j :: rdr r xs st.pl st.fe st.fa :: pt ii st.i.cs.toArray 26 :: pt q6 #[.int .i64 0, .int .i64 0] 29 :: pt q4 Ins.zero.cs.toArray 26 :: l))
  case atStart => exact ⟨0, ⟨⟨op, 0, 0, 0, 0, []⟩, pl0, fe0, fa0⟩, rfl, by omega, HT2, rfl, hfin, hfa0, (H6.pull 2).swap⟩
  case round =>
    obtain ⟨j, ⟨⟨so, sa, sb, sc, sn, ss⟩, pl, fe, fa⟩, rfl, hj, hT, hso, hF, hfa, H7⟩ := hrel
    dsimp only at hso hfa H7
    subst hso
    clear H6 HT2
    by_cases hlt : j < ls.length
    · obtain ⟨c, hcj⟩ : ∃ c, ls[j]? = some c := ⟨_, List.getElem?_eq_getElem hlt⟩
      have hdrop : ls.drop j = c :: ls.drop (j + 1) := by
        obtain ⟨h1, h2⟩ := List.getElem?_eq_some_iff.1 hcj
        rw [List.drop_eq_getElem_cons h1, h2]
      have hcn : c = 115 ∨ c = 97 ∨ c = 98 ∨ c = 99 ∨ c = 110 := by
        by_cases h : c = 115
        · exact .inl h
        · exact .inr (hnum c (List.mem_of_getElem? hcj) h)
      have hlt' : j < (ByteArray.mk ls.toArray).size := by rw [ba_size]; exact hlt
      have hat := ba_at ls j c hcj hlt'
      have hT2 := hT.out
      rw [hdrop] at hT2
      have hF2 := stepL_fine xs so c _ hF.out
      have hfa2 := stepL_fa xs so c _ hF.out hfa
      have hso2 := stepL_op xs so c ⟨⟨so, sa, sb, sc, sn, ss⟩, pl, fe, fa⟩
      dsimp only at hso2
      have hF1 : Hid (pl ≤ xs.length) := hF.out.1
      have hF0 : Hid (fe = 0 → fa = 0) := hF.out.2
      clear hcj hdrop hnum hT hF
      rcases hcn with rfl | rfl | rfl | rfl | rfl
      · have e : stepL xs so 115 ⟨⟨so, sa, sb, sc, sn, ss⟩, pl, fe, fa⟩ = ⟨⟨so, sa, sb, sc, sn, (toldTxt xs pl fe fa 64).s⟩, (toldTxt xs pl fe fa 64).pl, (toldTxt xs pl fe fa 64).fe, (toldTxt xs pl fe fa 64).fa⟩ := by simp [stepL]
        have hT3 : outOf k0 (readL xs so (ls.drop (j + 1)) ⟨⟨so, sa, sb, sc, sn, (toldTxt xs pl fe fa 64).s⟩, (toldTxt xs pl fe fa 64).pl, (toldTxt xs pl fe fa 64).fe, (toldTxt xs pl fe fa 64).fa⟩) = T := by rw [← e]; exact hT2
        rw [e] at hF2 hfa2
        have HT3 := Lib.hid hT3
        have HF3 := Lib.hid hF2
        clear e hT2 hT3 hF2 hso2
        go_wp2_with (first
          | (refine wpList_next_more rfl (.tmp 32) rfl k ⟨ls.toArray⟩ j rfl H7 115 hlt' hat (by decide) ?_
             intro w6 H8
             have k0' : w6.cell? ⟨ii, 0, none⟩ = some (.int .i64 so) := (H8.pull 2).cell 0))
        refine (rText_any r xs pl fe fa 64 hF1.out hxl hF0.out H8.swap).mono ?_
        rintro e w8 ⟨rfl, H9⟩
        have k5 : w8.cell? ⟨ii, 5, none⟩ = some (.string ⟨ss.toArray⟩) := (H9.pull 2).cell 5
        have f5 := (H9.pull 2).frz 5
        go_wp2
        go_roundg (ls.length - (j + 1))
        case measure => omega
        case rel => exact ⟨j + 1, _, rfl, by omega, HT3, rfl, HF3, hfa2, ((H9.pull 2).setCell 5 (.string ⟨(toldTxt xs pl fe fa 64).s.toArray⟩)).swap.pull 2⟩
      · have e : stepL xs so 97 ⟨⟨so, sa, sb, sc, sn, ss⟩, pl, fe, fa⟩ = ⟨⟨so, (toldInt xs pl fe fa 0 7 5).n, sb, sc, sn, ss⟩, (toldInt xs pl fe fa 0 7 5).pl, (toldInt xs pl fe fa 0 7 5).fe, (toldInt xs pl fe fa 0 7 5).fa⟩ := by simp [stepL, Ins.set, lowOf, highOf]
        have hT3 : outOf k0 (readL xs so (ls.drop (j + 1)) ⟨⟨so, (toldInt xs pl fe fa 0 7 5).n, sb, sc, sn, ss⟩, (toldInt xs pl fe fa 0 7 5).pl, (toldInt xs pl fe fa 0 7 5).fe, (toldInt xs pl fe fa 0 7 5).fa⟩) = T := by rw [← e]; exact hT2
        rw [e] at hF2 hfa2
        have HT3 := Lib.hid hT3
        have HF3 := Lib.hid hF2
        clear e hT2 hT3 hF2 hso2
        go_wp2_with (first
          | (refine wpList_next_more rfl (.tmp 32) rfl k ⟨ls.toArray⟩ j rfl H7 97 hlt' hat (by decide) ?_
             intro w6 H8
             have k0' : w6.cell? ⟨ii, 0, none⟩ = some (.int .i64 so) := (H8.pull 2).cell 0)
          | (go_at_call 47; refine (cField_num ii 97 1 (by decide) _).mono ?_; rintro e _ ⟨rfl, rfl⟩))
        refine (rInt_any r xs pl fe fa 0 7 hF1.out hxl hF0.out H8.swap).mono ?_
        rintro e w8 ⟨rfl, H9⟩
        have k5 : w8.cell? ⟨ii, 1, none⟩ = some (.int .i64 sa) := (H9.pull 2).cell 1
        have f5 := (H9.pull 2).frz 1
        go_wp2
        go_roundg (ls.length - (j + 1))
        case measure => omega
        case rel => exact ⟨j + 1, _, rfl, by omega, HT3, rfl, HF3, hfa2, ((H9.pull 2).setCell 1 (.int .i64 (toldInt xs pl fe fa 0 7 5).n)).swap.pull 2⟩
      · have e : stepL xs so 98 ⟨⟨so, sa, sb, sc, sn, ss⟩, pl, fe, fa⟩ = ⟨⟨so, sa, (toldInt xs pl fe fa 0 7 5).n, sc, sn, ss⟩, (toldInt xs pl fe fa 0 7 5).pl, (toldInt xs pl fe fa 0 7 5).fe, (toldInt xs pl fe fa 0 7 5).fa⟩ := by simp [stepL, Ins.set, lowOf, highOf]
        have hT3 : outOf k0 (readL xs so (ls.drop (j + 1)) ⟨⟨so, sa, (toldInt xs pl fe fa 0 7 5).n, sc, sn, ss⟩, (toldInt xs pl fe fa 0 7 5).pl, (toldInt xs pl fe fa 0 7 5).fe, (toldInt xs pl fe fa 0 7 5).fa⟩) = T := by rw [← e]; exact hT2
        rw [e] at hF2 hfa2
        have HT3 := Lib.hid hT3
        have HF3 := Lib.hid hF2
        clear e hT2 hT3 hF2 hso2
        go_wp2_with (first
          | (refine wpList_next_more rfl (.tmp 32) rfl k ⟨ls.toArray⟩ j rfl H7 98 hlt' hat (by decide) ?_
             intro w6 H8
             have k0' : w6.cell? ⟨ii, 0, none⟩ = some (.int .i64 so) := (H8.pull 2).cell 0)
          | (go_at_call 47; refine (cField_num ii 98 2 (by decide) _).mono ?_; rintro e _ ⟨rfl, rfl⟩))
        refine (rInt_any r xs pl fe fa 0 7 hF1.out hxl hF0.out H8.swap).mono ?_
        rintro e w8 ⟨rfl, H9⟩
        have k5 : w8.cell? ⟨ii, 2, none⟩ = some (.int .i64 sb) := (H9.pull 2).cell 2
        have f5 := (H9.pull 2).frz 2
        go_wp2
        go_roundg (ls.length - (j + 1))
        case measure => omega
        case rel => exact ⟨j + 1, _, rfl, by omega, HT3, rfl, HF3, hfa2, ((H9.pull 2).setCell 2 (.int .i64 (toldInt xs pl fe fa 0 7 5).n)).swap.pull 2⟩
      · have e : stepL xs so 99 ⟨⟨so, sa, sb, sc, sn, ss⟩, pl, fe, fa⟩ = ⟨⟨so, sa, sb, (toldInt xs pl fe fa 0 7 5).n, sn, ss⟩, (toldInt xs pl fe fa 0 7 5).pl, (toldInt xs pl fe fa 0 7 5).fe, (toldInt xs pl fe fa 0 7 5).fa⟩ := by simp [stepL, Ins.set, lowOf, highOf]
        have hT3 : outOf k0 (readL xs so (ls.drop (j + 1)) ⟨⟨so, sa, sb, (toldInt xs pl fe fa 0 7 5).n, sn, ss⟩, (toldInt xs pl fe fa 0 7 5).pl, (toldInt xs pl fe fa 0 7 5).fe, (toldInt xs pl fe fa 0 7 5).fa⟩) = T := by rw [← e]; exact hT2
        rw [e] at hF2 hfa2
        have HT3 := Lib.hid hT3
        have HF3 := Lib.hid hF2
        clear e hT2 hT3 hF2 hso2
        go_wp2_with (first
          | (refine wpList_next_more rfl (.tmp 32) rfl k ⟨ls.toArray⟩ j rfl H7 99 hlt' hat (by decide) ?_
             intro w6 H8
             have k0' : w6.cell? ⟨ii, 0, none⟩ = some (.int .i64 so) := (H8.pull 2).cell 0)
          | (go_at_call 47; refine (cField_num ii 99 3 (by decide) _).mono ?_; rintro e _ ⟨rfl, rfl⟩))
        refine (rInt_any r xs pl fe fa 0 7 hF1.out hxl hF0.out H8.swap).mono ?_
        rintro e w8 ⟨rfl, H9⟩
        have k5 : w8.cell? ⟨ii, 3, none⟩ = some (.int .i64 sc) := (H9.pull 2).cell 3
        have f5 := (H9.pull 2).frz 3
        go_wp2
        go_roundg (ls.length - (j + 1))
        case measure => omega
        case rel => exact ⟨j + 1, _, rfl, by omega, HT3, rfl, HF3, hfa2, ((H9.pull 2).setCell 3 (.int .i64 (toldInt xs pl fe fa 0 7 5).n)).swap.pull 2⟩
      · have e : stepL xs so 110 ⟨⟨so, sa, sb, sc, sn, ss⟩, pl, fe, fa⟩ = ⟨⟨so, sa, sb, sc, (toldInt xs pl fe fa 1 (mostN so) 5).n, ss⟩, (toldInt xs pl fe fa 1 (mostN so) 5).pl, (toldInt xs pl fe fa 1 (mostN so) 5).fe, (toldInt xs pl fe fa 1 (mostN so) 5).fa⟩ := by simp [stepL, Ins.set, lowOf, highOf]
        have hT3 : outOf k0 (readL xs so (ls.drop (j + 1)) ⟨⟨so, sa, sb, sc, (toldInt xs pl fe fa 1 (mostN so) 5).n, ss⟩, (toldInt xs pl fe fa 1 (mostN so) 5).pl, (toldInt xs pl fe fa 1 (mostN so) 5).fe, (toldInt xs pl fe fa 1 (mostN so) 5).fa⟩) = T := by rw [← e]; exact hT2
        rw [e] at hF2 hfa2
        have HT3 := Lib.hid hT3
        have HF3 := Lib.hid hF2
        clear e hT2 hT3 hF2 hso2
        go_wp2_with (first
          | (refine wpList_next_more rfl (.tmp 32) rfl k ⟨ls.toArray⟩ j rfl H7 110 hlt' hat (by decide) ?_
             intro w6 H8
             have k0' : w6.cell? ⟨ii, 0, none⟩ = some (.int .i64 so) := (H8.pull 2).cell 0)
          | (go_at_call 46; refine (cMost_any so _).mono ?_; rintro e _ ⟨rfl, rfl⟩))
        refine (rInt_any r xs pl fe fa 1 (mostN so) hF1.out hxl hF0.out H8.swap).mono ?_
        rintro e w8 ⟨rfl, H9⟩
        have k5 : w8.cell? ⟨ii, 4, none⟩ = some (.int .i64 sn) := (H9.pull 2).cell 4
        have f5 := (H9.pull 2).frz 4
        go_wp2
        go_roundg (ls.length - (j + 1))
        case measure => omega
        case rel => exact ⟨j + 1, _, rfl, by omega, HT3, rfl, HF3, hfa2, ((H9.pull 2).setCell 4 (.int .i64 (toldInt xs pl fe fa 1 (mostN so) 5).n)).swap.pull 2⟩
    · obtain rfl : j = ls.length := by omega
      have hT2 := hT.out
      rw [List.drop_length] at hT2
      have hT3 : outOf k0 ⟨⟨so, sa, sb, sc, sn, ss⟩, pl, fe, fa⟩ = T := hT2
      have hov : ¬ ls.length < (ByteArray.mk ls.toArray).size := by rw [ba_size]; omega
      have HF1 : Hid (pl ≤ xs.length) := hF.out.1
      have hpk : pl ≤ 1000000000 := Nat.le_trans hF.out.1 hxl
      have HF := hF
      clear hT hT2 hF hnum
      go_wp2_with (refine wpList_next_over rfl (.tmp 32) rfl k ⟨ls.toArray⟩ ls.length rfl H7 hov ?_)
      refine (rFault_any r xs pl fe fa H7.swap).mono ?_
      rintro e w8 ⟨rfl, H8⟩
      have H9 : Sat W (w8.alloc (.cells #[.int .i64 fe, .int .i64 fa] 29)) (pt w8.heap.size #[.int .i64 fe, .int .i64 fa] 29 :: _) := H8.alloc _ _
      by_cases h0 : fe = 0
      · have e0 : (fe != 0) = false := by simpa using h0
        obtain rfl : (⟨so, sa, sb, sc, sn, ss⟩, ((k0 + pl : Nat) : Int), 0, 0) = T := by rw [← hT3, outOf, if_neg (by simpa using h0)]
        clear h0 hT3
        go_wp2
        generalize w8.heap.size = ff at H9 ⊢
        generalize w8.alloc (.cells #[.int .i64 fe, .int .i64 fa] 29) = w9 at H9 ⊢
        have m0 : w9.cell? ⟨ii, 0, none⟩ = some (.int .i64 so) := (H9.pull 3).cell 0
        have m1 : w9.cell? ⟨ii, 1, none⟩ = some (.int .i64 sa) := (H9.pull 3).cell 1
        have m2 : w9.cell? ⟨ii, 2, none⟩ = some (.int .i64 sb) := (H9.pull 3).cell 2
        have m3 : w9.cell? ⟨ii, 3, none⟩ = some (.int .i64 sc) := (H9.pull 3).cell 3
        have m4 : w9.cell? ⟨ii, 4, none⟩ = some (.int .i64 sn) := (H9.pull 3).cell 4
        have m5 : w9.cell? ⟨ii, 5, none⟩ = some (.string ⟨ss.toArray⟩) := (H9.pull 3).cell 5
        have q40 : w9.cell? ⟨q4, 0, none⟩ = some (.int .i64 0) := (H9.pull 5).cell 0
        have g40 := (H9.pull 5).frz 0
        have q41 : w9.cell? ⟨q4, 1, none⟩ = some (.int .i64 0) := (H9.pull 5).cell 1
        have g41 := (H9.pull 5).frz 1
        have q42 : w9.cell? ⟨q4, 2, none⟩ = some (.int .i64 0) := (H9.pull 5).cell 2
        have g42 := (H9.pull 5).frz 2
        have q43 : w9.cell? ⟨q4, 3, none⟩ = some (.int .i64 0) := (H9.pull 5).cell 3
        have g43 := (H9.pull 5).frz 3
        have q44 : w9.cell? ⟨q4, 4, none⟩ = some (.int .i64 0) := (H9.pull 5).cell 4
        have g44 := (H9.pull 5).frz 4
        have q45 : w9.cell? ⟨q4, 5, none⟩ = some (.string ⟨#[]⟩) := (H9.pull 5).cell 5
        have g45 := (H9.pull 5).frz 5
        have q60 : w9.cell? ⟨q6, 0, none⟩ = some (.int .i64 0) := (H9.pull 4).cell 0
        have g60 := (H9.pull 4).frz 0
        have q61 : w9.cell? ⟨q6, 1, none⟩ = some (.int .i64 0) := (H9.pull 4).cell 1
        have g61 := (H9.pull 4).frz 1
        have hne : q6 ≠ q4 := ((H9.pull 5).pull 5).ne
        have hne' : q4 ≠ q6 := fun h => hne h.symm
        have hn4 : q4 ≠ ff := (H9.pull 5).ne
        have hn4' : ff ≠ q4 := fun h => hn4 h.symm
        have hn6 : q6 ≠ ff := (H9.pull 4).ne
        have hn6' : ff ≠ q6 := fun h => hn6 h.symm
        have hs : IntKind.i64.wrap ((k0 : Int) + (pl : Int)) = (k0 : Int) + (pl : Int) := IntWalk.i64_in _ (by omega)
        go_region_law (first
          | (go_simp; go_at_call 49; refine (rAt_any r xs pl fe fa H9.swap.drew).mono ?_; rintro e _ ⟨rfl, rfl⟩))
        all_goals
          have HZ := ((((((((((H9.pull 5).setCell 0 (.int .i64 so)).setCell 1 (.int .i64 sa)).setCell 2 (.int .i64 sb)).setCell 3 (.int .i64 sc)).setCell 4 (.int .i64 sn)).setCell 5 (.string ⟨ss.toArray⟩)).pull 5).setCell 0 (.int .i64 0)).setCell 1 (.int .i64 (0))).drew
          generalize ((((((((w9.setCell ⟨q4, 0, none⟩ (.int .i64 so)).setCell ⟨q4, 1, none⟩ (.int .i64 sa)).setCell ⟨q4, 2, none⟩ (.int .i64 sb)).setCell ⟨q4, 3, none⟩ (.int .i64 sc)).setCell ⟨q4, 4, none⟩ (.int .i64 sn)).setCell ⟨q4, 5, none⟩ (.string ⟨ss.toArray⟩)).setCell ⟨q6, 0, none⟩ (.int .i64 0)).setCell ⟨q6, 1, none⟩ (.int .i64 (0))).drew = wz at HZ ⊢
          have z0 : wz.cell? ⟨q4, 0, none⟩ = some (.int .i64 so) := HZ.swap.cell 0
          have z1 : wz.cell? ⟨q4, 1, none⟩ = some (.int .i64 sa) := HZ.swap.cell 1
          have z2 : wz.cell? ⟨q4, 2, none⟩ = some (.int .i64 sb) := HZ.swap.cell 2
          have z3 : wz.cell? ⟨q4, 3, none⟩ = some (.int .i64 sc) := HZ.swap.cell 3
          have z4 : wz.cell? ⟨q4, 4, none⟩ = some (.int .i64 sn) := HZ.swap.cell 4
          have z5 : wz.cell? ⟨q4, 5, none⟩ = some (.string ⟨ss.toArray⟩) := HZ.swap.cell 5
          have y0 : wz.cell? ⟨q6, 0, none⟩ = some (.int .i64 0) := HZ.cell 0
          have y1 : wz.cell? ⟨q6, 1, none⟩ = some (.int .i64 (0)) := HZ.cell 1
          go_wp2
          refine bodyPost_ret (v := .tuple #[.agg #[.int .i64 so, .int .i64 sa, .int .i64 sb, .int .i64 sc, .int .i64 sn, .string ⟨ss.toArray⟩], .int .i64 (((k0 + pl : Nat) : Int)), .agg #[.int .i64 0, .int .i64 (0)]]) ?_ rfl ⟨rfl, HZ.tail.tail.tail.tail.tail.tail⟩
          simp [results, Try.results13, go_sem, z0, z1, z2, z3, z4, z5, y0, y1]
      · have e0 : (fe != 0) = true := by simpa using h0
        obtain rfl : (Ins.zero, 0, fe, (k0 : Int) + fa) = T := by rw [← hT3, outOf, if_pos h0]
        clear h0 hT3
        go_wp2
        generalize w8.heap.size = ff at H9 ⊢
        generalize w8.alloc (.cells #[.int .i64 fe, .int .i64 fa] 29) = w9 at H9 ⊢
        have m0 : w9.cell? ⟨ff, 0, none⟩ = some (.int .i64 fe) := H9.cell 0
        have m1 : w9.cell? ⟨ff, 1, none⟩ = some (.int .i64 fa) := H9.cell 1
        have q40 : w9.cell? ⟨q4, 0, none⟩ = some (.int .i64 0) := (H9.pull 5).cell 0
        have g40 := (H9.pull 5).frz 0
        have q41 : w9.cell? ⟨q4, 1, none⟩ = some (.int .i64 0) := (H9.pull 5).cell 1
        have g41 := (H9.pull 5).frz 1
        have q42 : w9.cell? ⟨q4, 2, none⟩ = some (.int .i64 0) := (H9.pull 5).cell 2
        have g42 := (H9.pull 5).frz 2
        have q43 : w9.cell? ⟨q4, 3, none⟩ = some (.int .i64 0) := (H9.pull 5).cell 3
        have g43 := (H9.pull 5).frz 3
        have q44 : w9.cell? ⟨q4, 4, none⟩ = some (.int .i64 0) := (H9.pull 5).cell 4
        have g44 := (H9.pull 5).frz 4
        have q45 : w9.cell? ⟨q4, 5, none⟩ = some (.string ⟨#[]⟩) := (H9.pull 5).cell 5
        have g45 := (H9.pull 5).frz 5
        have q60 : w9.cell? ⟨q6, 0, none⟩ = some (.int .i64 0) := (H9.pull 4).cell 0
        have g60 := (H9.pull 4).frz 0
        have q61 : w9.cell? ⟨q6, 1, none⟩ = some (.int .i64 0) := (H9.pull 4).cell 1
        have g61 := (H9.pull 4).frz 1
        have hne : q6 ≠ q4 := ((H9.pull 5).pull 5).ne
        have hne' : q4 ≠ q6 := fun h => hne h.symm
        have hn4 : q4 ≠ ff := (H9.pull 5).ne
        have hn4' : ff ≠ q4 := fun h => hn4 h.symm
        have hn6 : q6 ≠ ff := (H9.pull 4).ne
        have hn6' : ff ≠ q6 := fun h => hn6 h.symm
        have hs : IntKind.i64.wrap ((k0 : Int) + fa) = (k0 : Int) + fa := IntWalk.i64_in _ (by omega)
        go_region_law (fail)
        all_goals
          have HZ := ((((((((((H9.pull 5).setCell 0 (.int .i64 0)).setCell 1 (.int .i64 0)).setCell 2 (.int .i64 0)).setCell 3 (.int .i64 0)).setCell 4 (.int .i64 0)).setCell 5 (.string ⟨#[]⟩)).pull 5).setCell 0 (.int .i64 fe)).setCell 1 (.int .i64 ((k0 : Int) + fa))).drew
          generalize ((((((((w9.setCell ⟨q4, 0, none⟩ (.int .i64 0)).setCell ⟨q4, 1, none⟩ (.int .i64 0)).setCell ⟨q4, 2, none⟩ (.int .i64 0)).setCell ⟨q4, 3, none⟩ (.int .i64 0)).setCell ⟨q4, 4, none⟩ (.int .i64 0)).setCell ⟨q4, 5, none⟩ (.string ⟨#[]⟩)).setCell ⟨q6, 0, none⟩ (.int .i64 fe)).setCell ⟨q6, 1, none⟩ (.int .i64 ((k0 : Int) + fa))).drew = wz at HZ ⊢
          have z0 : wz.cell? ⟨q4, 0, none⟩ = some (.int .i64 0) := HZ.swap.cell 0
          have z1 : wz.cell? ⟨q4, 1, none⟩ = some (.int .i64 0) := HZ.swap.cell 1
          have z2 : wz.cell? ⟨q4, 2, none⟩ = some (.int .i64 0) := HZ.swap.cell 2
          have z3 : wz.cell? ⟨q4, 3, none⟩ = some (.int .i64 0) := HZ.swap.cell 3
          have z4 : wz.cell? ⟨q4, 4, none⟩ = some (.int .i64 0) := HZ.swap.cell 4
          have z5 : wz.cell? ⟨q4, 5, none⟩ = some (.string ⟨#[]⟩) := HZ.swap.cell 5
          have y0 : wz.cell? ⟨q6, 0, none⟩ = some (.int .i64 fe) := HZ.cell 0
          have y1 : wz.cell? ⟨q6, 1, none⟩ = some (.int .i64 ((k0 : Int) + fa)) := HZ.cell 1
          go_wp2
          refine bodyPost_ret (v := .tuple #[.agg #[.int .i64 0, .int .i64 0, .int .i64 0, .int .i64 0, .int .i64 0, .string ⟨#[]⟩], .int .i64 (0), .agg #[.int .i64 fe, .int .i64 ((k0 : Int) + fa)]]) ?_ rfl ⟨rfl, HZ.tail.tail.tail.tail.tail.tail⟩
          simp [results, Try.results13, go_sem, z0, z1, z2, z3, z4, z5, y0, y1]
end Go.Proofs.Ytflcmhmbmippfaa

/- Plain laws: an instruction's bytes are read as it, cut short they are not, what is read was written so; no instruction's bytes begin another one's. No program in sight. -/
namespace Go.Proofs.Ytflcmhmbmippfaa

theorem sev_pos (n : Nat) : 0 < (sev n).length := by
  show 0 < (sevF 9 n).length
  by_cases h : n < 128
  · rw [sevF_last _ _ h]; simp
  · rw [sevF_more _ _ (by omega)]; simp
theorem insBytes_pos (i : Ins) : 0 < (insBytes i).length := by
  unfold insBytes
  rw [List.length_append]
  have := sev_pos i.op.toNat
  omega

theorem readI_here (pre rest : List UInt8) (i : Ins) (hm : mayB i = true) : readI (pre ++ (insBytes i ++ rest)) pre.length = ⟨i, pre.length + (insBytes i).length, 0, 0⟩ := by
  obtain ⟨hop, hin, hfold⟩ := may_inb i hm
  have hn : ((i.op.toNat : Nat) : Int) = i.op := by omega
  have e : pre ++ (insBytes i ++ rest) = pre ++ (sev i.op.toNat ++ (bytesL i (hasL i.op) ++ rest)) := by unfold insBytes; rw [List.append_assoc]
  have h1 := toldInt_here pre (bytesL i (hasL i.op) ++ rest) i.op.toNat (by omega) 1 15 5 (by omega) (by omega)
  have h2 := readL_here i.op i (hasL i.op) (pre ++ sev i.op.toNat) rest ⟨i.op, 0, 0, 0, 0, []⟩ hin
  rw [List.append_assoc, List.length_append] at h2
  unfold readI
  rw [e, h1]
  dsimp only
  rw [hn, h2, hfold]
  unfold insBytes
  rw [List.length_append, Nat.add_assoc]

theorem readI_cut (pre : List UInt8) (i : Ins) (t : Nat) (hm : mayB i = true) (ht : t < (insBytes i).length) :
    (readI (pre ++ (insBytes i).take t) pre.length).fe = 4 ∧ (readI (pre ++ (insBytes i).take t) pre.length).fa = ((pre ++ (insBytes i).take t).length : Nat) := by
  obtain ⟨hop, hin, hfold⟩ := may_inb i hm
  have hn : ((i.op.toNat : Nat) : Int) = i.op := by omega
  unfold insBytes at ht ⊢
  rw [List.length_append] at ht
  by_cases h : t < (sev i.op.toNat).length
  · rw [List.take_append_of_le_length (by omega)]
    obtain ⟨h1, h2⟩ := toldInt_cut pre i.op.toNat t (by omega) h 1 15 5
    unfold readI
    obtain ⟨_, g2, g3⟩ := readL_stuck (pre ++ (sev i.op.toNat).take t) (toldInt (pre ++ (sev i.op.toNat).take t) pre.length 0 0 1 15 5).n (hasL (toldInt (pre ++ (sev i.op.toNat).take t) pre.length 0 0 1 15 5).n)
      ⟨⟨(toldInt (pre ++ (sev i.op.toNat).take t) pre.length 0 0 1 15 5).n, 0, 0, 0, 0, []⟩, (toldInt (pre ++ (sev i.op.toNat).take t) pre.length 0 0 1 15 5).pl, (toldInt (pre ++ (sev i.op.toNat).take t) pre.length 0 0 1 15 5).fe, (toldInt (pre ++ (sev i.op.toNat).take t) pre.length 0 0 1 15 5).fa⟩ (by dsimp only; rw [h1]; decide)
    exact ⟨g2.trans h1, g3.trans h2⟩
  · have e : (sev i.op.toNat ++ bytesL i (hasL i.op)).take t = sev i.op.toNat ++ (bytesL i (hasL i.op)).take (t - (sev i.op.toNat).length) := by rw [List.take_append, List.take_of_length_le (by omega)]
    rw [e]
    have h1 := toldInt_here pre ((bytesL i (hasL i.op)).take (t - (sev i.op.toNat).length)) i.op.toNat (by omega) 1 15 5 (by omega) (by omega)
    have h2 := readL_cut i.op i (hasL i.op) (pre ++ sev i.op.toNat) ⟨i.op, 0, 0, 0, 0, []⟩ (t - (sev i.op.toNat).length) hin (by omega)
    rw [List.append_assoc, List.length_append] at h2
    unfold readI
    rw [h1]
    dsimp only
    rw [hn]
    exact h2

theorem op_back (bs : List UInt8) (pl : Nat) (low high : Int) (hp : pl ≤ bs.length) (h : (toldInt bs pl 0 0 low high 5).fe = 0) :
    low ≤ (toldInt bs pl 0 0 low high 5).n ∧ (toldInt bs pl 0 0 low high 5).n ≤ high ∧ bs.take (toldInt bs pl 0 0 low high 5).pl = bs.take pl ++ sev (toldInt bs pl 0 0 low high 5).n.toNat := by
  unfold toldInt at h ⊢
  rw [if_pos rfl] at h ⊢
  cases hn : numAt bs pl low high 5 with
  | bad e a => rw [hn] at h; exact absurd h (numAt_bad _ _ _ _ _ _ _ (by decide) hn)
  | ok n k =>
    obtain ⟨h1, _, _, h4, h5⟩ := numAt_back bs pl low high 5 n k hp hn
    exact ⟨h4, h5, h1⟩

theorem readI_back (bs : List UInt8) (pl : Nat) (hp : pl ≤ bs.length) (h : (readI bs pl).fe = 0) :
    mayB (readI bs pl).i = true ∧ bs.take (readI bs pl).pl = bs.take pl ++ insBytes (readI bs pl).i ∧ (readI bs pl).pl ≤ bs.length := by
  have hiv := iv_int bs pl 0 0 1 15 5 (by decide) hp (fun _ => rfl)
  have hob := op_back bs pl 1 15 hp
  unfold readI at h ⊢
  generalize toldInt bs pl 0 0 1 15 5 = T at *
  obtain ⟨n, tp, fe, fa⟩ := T
  dsimp only at hiv hob h ⊢
  have hnum := hasL_num n
  obtain ⟨e1, e2, e3, e4, e5⟩ := readL_back bs n (hasL n) ⟨⟨n, 0, 0, 0, 0, []⟩, tp, fe, fa⟩ (hasL_nodup n) hnum hiv.1 hiv.2 h
  dsimp only at e1 e5
  obtain ⟨b1, b2, b3⟩ := hob e5
  have hop := readL_op bs n (hasL n) ⟨⟨n, 0, 0, 0, 0, []⟩, tp, fe, fa⟩
  dsimp only at hop
  have hoth := fun d hd => readL_other bs n d hd (hasL n) ⟨⟨n, 0, 0, 0, 0, []⟩, tp, fe, fa⟩
  generalize readL bs n (hasL n) ⟨⟨n, 0, 0, 0, 0, []⟩, tp, fe, fa⟩ = R at *
  refine ⟨may_of R.i (by rw [hop]; exact ⟨b1, b2⟩) (by rw [hop]; exact e4) (fun c hc hnc => ?_) (fun hnc => ?_), ?_, e2⟩
  · rw [hop] at hnc
    have h1 := (hoth c (fun _ => hc) hnc hnum).2.2.1 (by rcases hc with rfl | rfl | rfl | rfl <;> decide)
    rw [h1]
    rcases hc with rfl | rfl | rfl | rfl <;> rfl
  · rw [hop] at hnc
    exact (hoth 115 (fun h => absurd rfl h) hnc hnum).2.2.2 rfl
  · rw [e1, b3, insBytes, hop, List.append_assoc]

theorem insAt_here (pre rest : List UInt8) (i : Ins) (hm : mayB i = true) : insAt (pre ++ (insBytes i ++ rest)) (pre.length : Nat) = (i, ((pre.length + (insBytes i).length : Nat) : Int), 0, 0) := by
  unfold insAt
  rw [if_neg (by simp only [List.length_append]; omega), Int.toNat_natCast, readI_here pre rest i hm, if_neg (by simp)]
theorem insAt_cut (pre : List UInt8) (i : Ins) (t : Nat) (hm : mayB i = true) (ht : t < (insBytes i).length) :
    insAt (pre ++ (insBytes i).take t) (pre.length : Nat) = (Ins.zero, 0, 4, (((pre ++ (insBytes i).take t).length : Nat) : Int)) := by
  obtain ⟨h1, h2⟩ := readI_cut pre i t hm ht
  unfold insAt
  rw [if_neg (by simp only [List.length_append]; omega), Int.toNat_natCast, if_pos (by rw [h1]; decide), h1, h2]
/-- What is read at the beginning: a fault, or an instruction that was written so. -/
theorem insAt_back (bs : List UInt8) : (∃ e a, e ≠ 0 ∧ insAt bs 0 = (Ins.zero, 0, e, a)) ∨ ∃ j m, m ≤ bs.length ∧ 1 ≤ m ∧ mayB j = true ∧ bs.take m = insBytes j ∧ insAt bs 0 = (j, ((m : Nat) : Int), 0, 0) := by
  have e0 : insAt bs 0 = if (readI bs 0).fe ≠ 0 then (Ins.zero, 0, (readI bs 0).fe, (readI bs 0).fa) else ((readI bs 0).i, ((readI bs 0).pl : Int), 0, 0) := by
    unfold insAt
    rw [if_neg (by omega)]
    rfl
  by_cases h : (readI bs 0).fe = 0
  · right
    obtain ⟨h1, h2, h3⟩ := readI_back bs 0 (Nat.zero_le _) h
    rw [List.take_zero, List.nil_append] at h2
    refine ⟨(readI bs 0).i, (readI bs 0).pl, h3, ?_, h1, h2, by rw [e0, if_neg (by simpa using h)]⟩
    have h5 := insBytes_pos (readI bs 0).i
    rw [← h2, List.length_take] at h5
    omega
  · exact .inl ⟨_, _, h, by rw [e0, if_pos h]⟩

theorem free_law (i k : Ins) (hi : mayB i = true) (hk : mayB k = true) (h2 : insBytes i = (insBytes k).take (insBytes i).length) : i = k := by
  have e : insBytes k = insBytes i ++ (insBytes k).drop (insBytes i).length := by
    conv => lhs; rw [← List.take_append_drop (insBytes i).length (insBytes k)]
    rw [← h2]
  have a := readI_here [] ((insBytes k).drop (insBytes i).length) i hi
  have b := readI_here [] [] k hk
  rw [List.append_nil, List.nil_append] at b
  rw [List.nil_append, ← e] at a
  rw [a] at b
  exact congrArg Rst.i b
end Go.Proofs.Ytflcmhmbmippfaa
