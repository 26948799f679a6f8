/- Plain laws: an instruction's bytes are read as it, cut short they are not, and what is read was written so. No program in sight. -/
import Derived.Test.YtflcmhmbmippfaaCpC
namespace Go.Proofs.Ytflcmhmbmippfaa

/-- A letter that stands for a number. -/
def NumL (c : UInt8) : Prop := c = 97 ∨ c = 98 ∨ c = 99 ∨ c = 110
theorem get_set (i : Ins) (c d : UInt8) (v : Int) (hc : NumL c) (hd : NumL d) : (i.set c v).get d = if c = d then v else i.get d := by
  rcases hc with rfl | rfl | rfl | rfl <;> rcases hd with rfl | rfl | rfl | rfl <;> rfl
theorem set_s (i : Ins) (c : UInt8) (v : Int) : (i.set c v).s = i.s := by unfold Ins.set; split <;> (try split) <;> (try split) <;> rfl
theorem set_op (i : Ins) (c : UInt8) (v : Int) : (i.set c v).op = i.op := by unfold Ins.set; split <;> (try split) <;> (try split) <;> rfl
theorem get_s (i : Ins) (s : List UInt8) (d : UInt8) : ({ i with s := s } : Ins).get d = i.get d := rfl
theorem hasL_num (op : Int) : ∀ c ∈ hasL op, c ≠ 115 → NumL c := by
  intro c hc h
  by_cases h1 : 1 ≤ op ∧ op ≤ 15
  · rcases op_cases op h1 with rfl | rfl | rfl | rfl | rfl | rfl | rfl | rfl | rfl | rfl | rfl | rfl | rfl | rfl | rfl <;> simp [hasL] at hc <;> (unfold NumL) <;> grind
  · rw [hasL_out op (by omega)] at hc; cases hc
theorem hasL_nodup (op : Int) : (hasL op).Nodup := by
  by_cases h1 : 1 ≤ op ∧ op ≤ 15
  · rcases op_cases op h1 with rfl | rfl | rfl | rfl | rfl | rfl | rfl | rfl | rfl | rfl | rfl | rfl | rfl | rfl | rfl <;> decide
  · rw [hasL_out op (by omega)]; exact List.nodup_nil

/-- What a letter of an instruction is written as. -/
def byteL (i : Ins) (c : UInt8) : List UInt8 := if c = 115 then sev i.s.length ++ i.s else sev (i.get c).toNat
theorem bytesL_cons (i : Ins) (c : UInt8) (cs : List UInt8) : bytesL i (c :: cs) = byteL i c ++ bytesL i cs := rfl

/-- Behind a fault nothing is told, nor moved. -/
theorem stepL_stuck (bs : List UInt8) (op : Int) (c : UInt8) (st : Rst) (h : st.fe ≠ 0) : (stepL bs op c st).pl = st.pl ∧ (stepL bs op c st).fe = st.fe ∧ (stepL bs op c st).fa = st.fa := by
  unfold stepL
  by_cases hc : c = 115
  · rw [if_pos hc]; simp [toldTxt, if_neg h]
  · rw [if_neg hc]; simp [toldInt, if_neg h]
theorem readL_stuck (bs : List UInt8) (op : Int) (cs : List UInt8) : ∀ st : Rst, st.fe ≠ 0 → (readL bs op cs st).pl = st.pl ∧ (readL bs op cs st).fe = st.fe ∧ (readL bs op cs st).fa = st.fa := by
  induction cs with
  | nil => intro st _; exact ⟨rfl, rfl, rfl⟩
  | cons c cs ih =>
    intro st h
    obtain ⟨h1, h2, h3⟩ := stepL_stuck bs op c st h
    obtain ⟨g1, g2, g3⟩ := ih (stepL bs op c st) (by rw [h2]; exact h)
    exact ⟨g1.trans h1, g2.trans h2, g3.trans h3⟩

/-- A letter is in its bounds. -/
def InB (op : Int) (i : Ins) (c : UInt8) : Prop := if c = 115 then i.s.length ≤ 64 else lowOf c ≤ i.get c ∧ i.get c ≤ highOf op c
theorem lowOf_nn (c : UInt8) : 0 ≤ lowOf c := by unfold lowOf; split <;> omega
theorem highOf_small (op : Int) (c : UInt8) : highOf op c ≤ 60 := by unfold highOf mostN; split <;> (try split) <;> omega

theorem stepL_back (bs : List UInt8) (op : Int) (c : UInt8) (st : Rst) (hp : st.pl ≤ bs.length) (h0 : st.fe = 0) (ha : st.fa = 0) (hc : c ≠ 115 → NumL c) (h : (stepL bs op c st).fe = 0) :
    bs.take (stepL bs op c st).pl = bs.take st.pl ++ byteL (stepL bs op c st).i c ∧ (stepL bs op c st).pl ≤ bs.length ∧ (stepL bs op c st).fa = 0 ∧ InB op (stepL bs op c st).i c := by
  obtain ⟨i, pl, fe, fa⟩ := st
  dsimp only at hp h0 ha
  subst h0 ha
  unfold stepL at h ⊢
  unfold byteL InB
  by_cases h1 : c = 115
  · simp only [if_pos h1] at h ⊢
    obtain ⟨e1, e2, _⟩ := txt_back bs pl 64 hp h
    refine ⟨by rw [← e1, List.append_assoc], e2, toldTxt_fa bs pl 64 h, ?_⟩
    unfold toldTxt txtAt at h ⊢
    rw [if_pos rfl] at h ⊢
    cases hn : numAt bs pl 0 64 3 with
    | bad e a => rw [hn] at h; exact absurd h (numAt_bad _ _ _ _ _ _ _ (by decide) hn)
    | ok n k =>
      rw [hn] at h
      dsimp only at h ⊢
      obtain ⟨_, _, _, _, hn64⟩ := numAt_back bs pl 0 64 3 n k hp hn
      by_cases hf : n ≤ bs.length - (pl + k)
      · rw [if_pos hf]; dsimp only; rw [List.length_take]; omega
      · rw [if_neg hf] at h; exact absurd (show (4 : Int) = 0 from h) (by decide)
  · simp only [if_neg h1] at h ⊢
    have hN := hc h1
    obtain ⟨e1, e2, _⟩ := int_back bs pl (lowOf c) (highOf op c) 5 (by decide) hp h
    have hn := toldInt_n bs pl 0 0 (lowOf c) (highOf op c) 5 hp
    rw [get_set _ _ _ _ hN hN, if_pos rfl]
    refine ⟨by rw [← e1, wrInt, if_neg (by omega)], e2, toldInt_fa bs pl _ _ 5 (by decide) h, ?_⟩
    unfold toldInt at h ⊢
    rw [if_pos rfl] at h ⊢
    cases hq : numAt bs pl (lowOf c) (highOf op c) 5 with
    | bad e a => rw [hq] at h; exact absurd h (numAt_bad _ _ _ _ _ _ _ (by decide) hq)
    | ok n k => obtain ⟨_, _, _, h4, h5⟩ := numAt_back bs pl _ _ 5 n k hp hq; exact ⟨h4, h5⟩

/-- What other letters stand for stays. -/
theorem stepL_other (bs : List UInt8) (op : Int) (c d : UInt8) (st : Rst) (hcd : c ≠ d) (hc : c ≠ 115 → NumL c) (hd : d ≠ 115 → NumL d) : (d ≠ 115 → (stepL bs op c st).i.get d = st.i.get d) ∧ (d = 115 → (stepL bs op c st).i.s = st.i.s) ∧ (stepL bs op c st).i.op = st.i.op := by
  unfold stepL
  by_cases h1 : c = 115
  · rw [if_pos h1]
    exact ⟨fun _ => rfl, fun h => absurd (h1.trans h.symm) hcd, rfl⟩
  · rw [if_neg h1]
    refine ⟨fun h => ?_, fun _ => set_s _ _ _, set_op _ _ _⟩
    rw [get_set _ _ _ _ (hc h1) (hd h), if_neg hcd]
theorem byteL_other (bs : List UInt8) (op : Int) (c d : UInt8) (st : Rst) (hcd : c ≠ d) (hc : c ≠ 115 → NumL c) (hd : d ≠ 115 → NumL d) : byteL (stepL bs op c st).i d = byteL st.i d ∧ (InB op (stepL bs op c st).i d ↔ InB op st.i d) := by
  obtain ⟨h1, h2, _⟩ := stepL_other bs op c d st hcd hc hd
  unfold byteL InB
  by_cases h : d = 115
  · rw [if_pos h, if_pos h, if_pos h, if_pos h, h2 h]; exact ⟨rfl, Iff.rfl⟩
  · rw [if_neg h, if_neg h, if_neg h, if_neg h, h1 h]; exact ⟨rfl, Iff.rfl⟩
theorem readL_other (bs : List UInt8) (op : Int) (d : UInt8) (hd : d ≠ 115 → NumL d) (cs : List UInt8) : ∀ st : Rst, d ∉ cs → (∀ c ∈ cs, c ≠ 115 → NumL c) → byteL (readL bs op cs st).i d = byteL st.i d ∧ (InB op (readL bs op cs st).i d ↔ InB op st.i d) ∧ (d ≠ 115 → (readL bs op cs st).i.get d = st.i.get d) ∧ (d = 115 → (readL bs op cs st).i.s = st.i.s) := by
  induction cs with
  | nil => intro st _ _; exact ⟨rfl, Iff.rfl, fun _ => rfl, fun _ => rfl⟩
  | cons c cs ih =>
    intro st hn hc
    have hcd : c ≠ d := fun e => hn (by simp [e])
    have h1 := byteL_other bs op c d st hcd (hc c (by simp)) hd
    have h2 := stepL_other bs op c d st hcd (hc c (by simp)) hd
    obtain ⟨g1, g2, g3, g4⟩ := ih (stepL bs op c st) (fun e => hn (by simp [e])) (fun x hx => hc x (by simp [hx]))
    exact ⟨g1.trans h1.1, g2.trans h1.2, fun h => (g3 h).trans (h2.1 h), fun h => (g4 h).trans (h2.2.1 h)⟩
theorem readL_op (bs : List UInt8) (op : Int) (cs : List UInt8) : ∀ st : Rst, (readL bs op cs st).i.op = st.i.op := by
  induction cs with
  | nil => intro st; rfl
  | cons c cs ih =>
    intro st
    refine (ih (stepL bs op c st)).trans ?_
    unfold stepL
    by_cases h : c = 115
    · rw [if_pos h]
    · rw [if_neg h]; exact set_op _ _ _

theorem readL_back (bs : List UInt8) (op : Int) (cs : List UInt8) : ∀ st : Rst, cs.Nodup → (∀ c ∈ cs, c ≠ 115 → NumL c) → st.pl ≤ bs.length → (st.fe = 0 → st.fa = 0) → (readL bs op cs st).fe = 0 →
    bs.take (readL bs op cs st).pl = bs.take st.pl ++ bytesL (readL bs op cs st).i cs ∧ (readL bs op cs st).pl ≤ bs.length ∧ (readL bs op cs st).fa = 0 ∧ (∀ c ∈ cs, InB op (readL bs op cs st).i c) ∧ st.fe = 0 := by
  induction cs with
  | nil => intro st _ _ hp ha h; exact ⟨by simp [readL, bytesL], hp, ha h, (fun _ h => by cases h), h⟩
  | cons c cs ih =>
    intro st hn hc hp ha h
    obtain ⟨hn1, hn2⟩ := List.nodup_cons.1 hn
    have hcc := hc c (by simp)
    have h0 : st.fe = 0 := by
      by_cases h0 : st.fe = 0
      · exact h0
      · have := (readL_stuck bs op (c :: cs) st h0).2.1
        rw [this] at h; exact absurd h h0
    have h1 : (stepL bs op c st).fe = 0 := by
      by_cases h1 : (stepL bs op c st).fe = 0
      · exact h1
      · have := (readL_stuck bs op cs (stepL bs op c st) h1).2.1
        have h' : (readL bs op cs (stepL bs op c st)).fe = 0 := h
        rw [this] at h'; exact absurd h' h1
    obtain ⟨e1, e2, e3, e4⟩ := stepL_back bs op c st hp h0 (ha h0) hcc h1
    obtain ⟨g1, g2, g3, g4, _⟩ := ih (stepL bs op c st) hn2 (fun x hx => hc x (by simp [hx])) e2 (fun _ => e3) h
    have hr : readL bs op (c :: cs) st = readL bs op cs (stepL bs op c st) := rfl
    obtain ⟨o1, o2, _, _⟩ := readL_other bs op c hcc cs (stepL bs op c st) hn1 (fun x hx => hc x (by simp [hx]))
    rw [hr]
    refine ⟨?_, g2, g3, fun x hx => ?_, h0⟩
    · rw [g1, e1, bytesL_cons, o1, List.append_assoc]
    · rcases List.mem_cons.1 hx with rfl | hx
      · exact o2.2 e4
      · exact g4 x hx
end Go.Proofs.Ytflcmhmbmippfaa
