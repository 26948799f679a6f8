/- Plain laws: an instruction's bytes are read as it; cut short they are not. No program in sight. -/
import Derived.Test.YtflcmhmbmippfaaCpD
namespace Go.Proofs.Ytflcmhmbmippfaa

theorem decF_cut (f : Nat) : ∀ (m t j acc : Nat), m < 128 ^ f → 0 < f → t < (sevF f m).length → decF f ((sevF f m).take t) j acc = .short := by
  induction f with
  | zero => intro m t j acc _ h; omega
  | succ f ih =>
    intro m t j acc hm _ ht
    by_cases h : m < 128
    · rw [sevF_last _ _ h] at ht ⊢
      obtain rfl : t = 0 := by simpa using ht
      rfl
    · have hc : (UInt8.ofNat (m % 128 + 128)).toNat = m % 128 + 128 := by rw [UInt8.toNat_ofNat']; omega
      rw [sevF_more _ _ (by omega)] at ht ⊢
      cases t with
      | zero => rfl
      | succ t =>
        have hf0 : f ≠ 0 := by rintro rfl; simp at hm; omega
        simp only [List.take_succ_cons, decF, hc]
        rw [if_neg (by omega), if_neg hf0]
        refine ih _ _ _ _ ?_ (by omega) (by simpa using ht)
        rw [Nat.div_lt_iff_lt_mul (by decide)]
        rw [Nat.pow_succ] at hm
        exact hm
theorem dec_cut (n t : Nat) (hn : n < 9223372036854775808) (ht : t < (sev n).length) : dec ((sev n).take t) = .short := decF_cut 9 n t 0 0 (by omega) (by omega) ht
theorem toldInt_cut (pre : List UInt8) (n t : Nat) (hn : n < 9223372036854775808) (ht : t < (sev n).length) (low high above : Int) :
    (toldInt (pre ++ (sev n).take t) pre.length 0 0 low high above).fe = 4 ∧ (toldInt (pre ++ (sev n).take t) pre.length 0 0 low high above).fa = ((pre ++ (sev n).take t).length : Nat) := by
  unfold toldInt numAt
  rw [if_pos rfl, List.drop_left, dec_cut n t hn ht]
  exact ⟨rfl, rfl⟩

/-- A letter of i is laid into r. -/
def setL (r i : Ins) (c : UInt8) : Ins := if c = 115 then { r with s := i.s } else r.set c (i.get c)
theorem stepL_here (pre rest : List UInt8) (op : Int) (i r : Ins) (c : UInt8) (hb : InB op i c) : stepL (pre ++ (byteL i c ++ rest)) op c ⟨r, pre.length, 0, 0⟩ = ⟨setL r i c, pre.length + (byteL i c).length, 0, 0⟩ := by
  unfold InB at hb
  unfold stepL setL byteL
  by_cases hc : c = 115
  · rw [if_pos hc] at hb
    simp only [if_pos hc]
    rw [List.append_assoc, toldTxt_here pre rest i.s (by omega) 64 (by omega), List.length_append]
  · rw [if_neg hc] at hb
    simp only [if_neg hc]
    have h0 := lowOf_nn c
    have h1 := highOf_small op c
    rw [toldInt_here pre rest (i.get c).toNat (by omega) _ _ 5 (by omega) (by omega)]
    simp only [show ((i.get c).toNat : Int) = i.get c by omega]
theorem readL_here (op : Int) (i : Ins) (cs : List UInt8) : ∀ (pre rest : List UInt8) (r : Ins), (∀ c ∈ cs, InB op i c) → readL (pre ++ (bytesL i cs ++ rest)) op cs ⟨r, pre.length, 0, 0⟩ = ⟨cs.foldl (fun r c => setL r i c) r, pre.length + (bytesL i cs).length, 0, 0⟩ := by
  induction cs with
  | nil => intro pre rest r _; simp [readL, bytesL]
  | cons c cs ih =>
    intro pre rest r hb
    have h1 := stepL_here pre (bytesL i cs ++ rest) op i r c (hb c (by simp))
    rw [bytesL_cons, List.append_assoc]
    show readL _ op cs (stepL _ op c _) = _
    rw [h1]
    have h2 := ih (pre ++ byteL i c) rest (setL r i c) (fun x hx => hb x (by simp [hx]))
    rw [List.append_assoc, List.length_append] at h2
    rw [h2, List.length_append, Nat.add_assoc]
    rfl
theorem stepL_cut (pre : List UInt8) (op : Int) (i r : Ins) (c : UInt8) (t : Nat) (hb : InB op i c) (ht : t < (byteL i c).length) :
    (stepL (pre ++ (byteL i c).take t) op c ⟨r, pre.length, 0, 0⟩).fe = 4 ∧ (stepL (pre ++ (byteL i c).take t) op c ⟨r, pre.length, 0, 0⟩).fa = ((pre ++ (byteL i c).take t).length : Nat) := by
  unfold InB at hb
  unfold byteL at ht ⊢
  unfold stepL
  by_cases hc : c = 115
  · rw [if_pos hc] at hb
    simp only [if_pos hc] at ht ⊢
    unfold toldTxt txtAt
    rw [if_pos rfl]
    by_cases h1 : t < (sev i.s.length).length
    · rw [List.take_append_of_le_length (by omega)]
      unfold numAt
      rw [List.drop_left, dec_cut _ _ (by omega) h1]
      exact ⟨rfl, rfl⟩
    · have e : (sev i.s.length ++ i.s).take t = sev i.s.length ++ i.s.take (t - (sev i.s.length).length) := by rw [List.take_append, List.take_of_length_le (by omega)]
      rw [List.length_append] at ht
      rw [e, numAt_here pre (i.s.take (t - (sev i.s.length).length)) i.s.length (by omega) 0 64 3, if_neg (by omega), if_neg (by omega)]
      dsimp only
      rw [if_neg (by simp only [List.length_append, List.length_take]; omega)]
      exact ⟨rfl, rfl⟩
  · rw [if_neg hc] at hb
    simp only [if_neg hc] at ht ⊢
    have h0 := lowOf_nn c
    have h1 := highOf_small op c
    exact toldInt_cut pre (i.get c).toNat t (by omega) ht _ _ _
theorem readL_cut (op : Int) (i : Ins) (cs : List UInt8) : ∀ (pre : List UInt8) (r : Ins) (t : Nat), (∀ c ∈ cs, InB op i c) → t < (bytesL i cs).length →
    (readL (pre ++ (bytesL i cs).take t) op cs ⟨r, pre.length, 0, 0⟩).fe = 4 ∧ (readL (pre ++ (bytesL i cs).take t) op cs ⟨r, pre.length, 0, 0⟩).fa = ((pre ++ (bytesL i cs).take t).length : Nat) := by
  induction cs with
  | nil => intro pre r t _ h; simp [bytesL] at h
  | cons c cs ih =>
    intro pre r t hb ht
    rw [bytesL_cons] at ht ⊢
    by_cases h : t < (byteL i c).length
    · rw [List.take_append_of_le_length (by omega)]
      obtain ⟨h1, h2⟩ := stepL_cut pre op i r c t (hb c (by simp)) h
      obtain ⟨_, g2, g3⟩ := readL_stuck (pre ++ (byteL i c).take t) op cs (stepL (pre ++ (byteL i c).take t) op c ⟨r, pre.length, 0, 0⟩) (by rw [h1]; decide)
      exact ⟨g2.trans h1, g3.trans h2⟩
    · have e : (byteL i c ++ bytesL i cs).take t = byteL i c ++ (bytesL i cs).take (t - (byteL i c).length) := by rw [List.take_append, List.take_of_length_le (by omega)]
      rw [e]
      have h1 := stepL_here pre ((bytesL i cs).take (t - (byteL i c).length)) op i r c (hb c (by simp))
      rw [List.length_append] at ht
      have h2 := ih (pre ++ byteL i c) (setL r i c) (t - (byteL i c).length) (fun x hx => hb x (by simp [hx])) (by omega)
      rw [List.append_assoc, List.length_append] at h2
      show (readL _ op cs (stepL _ op c _)).fe = 4 ∧ (readL _ op cs (stepL _ op c _)).fa = _
      rw [h1]
      exact h2

/-- Each letter of an instruction that may be is in its bounds; and it is its letters. -/
theorem may_inb (i : Ins) (h : mayB i = true) : (1 ≤ i.op ∧ i.op ≤ 15) ∧ (∀ c ∈ hasL i.op, InB i.op i c) ∧ (hasL i.op).foldl (fun r c => setL r i c) ⟨i.op, 0, 0, 0, 0, []⟩ = i := by
  obtain ⟨op, a, b, c, n, s⟩ := i
  rw [may_eq] at h
  have hop : 1 ≤ op ∧ op ≤ 15 := by
    unfold mayR at h
    rw [Bool.and_eq_true] at h
    simpa using h.1
  refine ⟨hop, ?_⟩
  rcases op_cases op hop with rfl | rfl | rfl | rfl | rfl | rfl | rfl | rfl | rfl | rfl | rfl | rfl | rfl | rfl | rfl
  all_goals
    simp [mayR, hasL, hasA, hasB, hasC, hasN, hasS, regB, numB, txtB, mostN] at h
    simp [hasL, InB, setL, Ins.get, Ins.set, lowOf, highOf, mostN, h]
    try omega
theorem may_of (i : Ins) (hop : 1 ≤ i.op ∧ i.op ≤ 15) (hb : ∀ c ∈ hasL i.op, InB i.op i c) (h0 : ∀ c, NumL c → c ∉ hasL i.op → i.get c = 0) (hs : 115 ∉ hasL i.op → i.s = []) : mayB i = true := by
  obtain ⟨op, a, b, c, n, s⟩ := i
  rw [may_eq]
  have ha := h0 97 (by unfold NumL; simp)
  have hbb := h0 98 (by unfold NumL; simp)
  have hc := h0 99 (by unfold NumL; simp)
  have hn := h0 110 (by unfold NumL; simp)
  clear h0
  dsimp only at hop hb ha hbb hc hn hs
  rcases op_cases op hop with rfl | rfl | rfl | rfl | rfl | rfl | rfl | rfl | rfl | rfl | rfl | rfl | rfl | rfl | rfl
  all_goals
    simp [hasL, InB, Ins.get, lowOf, highOf, mostN] at hb ha hbb hc hn hs
    simp [mayR, hasL, hasA, hasB, hasC, hasN, hasS, regB, numB, txtB, mostN, *]
    try omega
end Go.Proofs.Ytflcmhmbmippfaa
