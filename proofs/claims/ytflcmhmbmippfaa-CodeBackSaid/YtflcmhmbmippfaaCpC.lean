/- Plain laws: an instruction is read alike from a place on, and from the beginning of what stands there. No program in sight. -/
import Derived.Test.YtflcmhmbmippfaaCpB
namespace Go.Proofs.Ytflcmhmbmippfaa

theorem iv_int (bs : List UInt8) (pl : Nat) (fe fa low high above : Int) (ha : above ≠ 0) (hp : pl ≤ bs.length) (hf : fe = 0 → fa = 0) : (toldInt bs pl fe fa low high above).pl ≤ bs.length ∧ ((toldInt bs pl fe fa low high above).fe = 0 → (toldInt bs pl fe fa low high above).fa = 0) := by
  by_cases h0 : fe = 0
  · subst h0
    obtain rfl : fa = 0 := hf rfl
    refine ⟨?_, toldInt_fa bs pl low high above ha⟩
    by_cases h1 : (toldInt bs pl 0 0 low high above).fe = 0
    · exact (int_back bs pl low high above ha hp h1).2.1
    · rw [(toldInt_where bs pl low high above hp h1).1]; exact hp
  · unfold toldInt; rw [if_neg h0]; exact ⟨hp, fun h => absurd h h0⟩
theorem iv_txt (bs : List UInt8) (pl : Nat) (fe fa high : Int) (hp : pl ≤ bs.length) (hf : fe = 0 → fa = 0) : (toldTxt bs pl fe fa high).pl ≤ bs.length ∧ ((toldTxt bs pl fe fa high).fe = 0 → (toldTxt bs pl fe fa high).fa = 0) := by
  by_cases h0 : fe = 0
  · subst h0
    obtain rfl : fa = 0 := hf rfl
    refine ⟨?_, toldTxt_fa bs pl high⟩
    by_cases h1 : (toldTxt bs pl 0 0 high).fe = 0
    · exact (txt_back bs pl high hp h1).2.1
    · rw [(toldTxt_where bs pl high hp h1).1]; exact hp
  · unfold toldTxt; rw [if_neg h0]; exact ⟨hp, fun h => absurd h h0⟩

/-- A reader that stands somewhere in the bytes, without a place to its fault where there is none. -/
def Rst.Fine (bs : List UInt8) (st : Rst) : Prop := st.pl ≤ bs.length ∧ (st.fe = 0 → st.fa = 0)
theorem stepL_fine (bs : List UInt8) (op : Int) (c : UInt8) (st : Rst) (h : st.Fine bs) : (stepL bs op c st).Fine bs := by
  unfold stepL
  by_cases hc : c = 115
  · rw [if_pos hc]; exact iv_txt bs st.pl st.fe st.fa 64 h.1 h.2
  · rw [if_neg hc]; exact iv_int bs st.pl st.fe st.fa _ _ 5 (by decide) h.1 h.2

/-- The same way, its places moved by so much. -/
structure Moved (k : Nat) (st st' : Rst) : Prop where
  i : st'.i = st.i
  pl : st'.pl = k + st.pl
  fe : st'.fe = st.fe
  fa : st'.fa = if st.fe = 0 then 0 else (k : Int) + st.fa
theorem stepL_moved (bs : List UInt8) (k : Nat) (hk : k ≤ bs.length) (op : Int) (c : UInt8) (st st' : Rst) (hf : st.Fine (bs.drop k)) (h : Moved k st st') : Moved k (stepL (bs.drop k) op c st) (stepL bs op c st') := by
  obtain ⟨i', pl', fe', fa'⟩ := st'
  obtain ⟨h1, h2, h3, h4⟩ := h
  dsimp only at h1 h2 h3 h4
  subst h1 h2 h3 h4
  have hp : st.pl ≤ bs.length - k := by have := hf.1; rwa [List.length_drop] at this
  unfold stepL
  by_cases hc : c = 115
  · rw [if_pos hc, if_pos hc]
    obtain ⟨e1, e2, e3, e4⟩ := toldTxt_shift bs k st.pl st.fe st.fa 64 hk hp
    exact ⟨by dsimp only; rw [e1], e2, e3, e4⟩
  · rw [if_neg hc, if_neg hc]
    obtain ⟨e1, e2, e3, e4⟩ := toldInt_shift bs k st.pl st.fe st.fa (lowOf c) (highOf op c) 5 hk
    exact ⟨by dsimp only; rw [e1], e2, e3, e4 (by decide)⟩
theorem readL_moved (bs : List UInt8) (k : Nat) (hk : k ≤ bs.length) (op : Int) (cs : List UInt8) : ∀ st st' : Rst, st.Fine (bs.drop k) → Moved k st st' → Moved k (readL (bs.drop k) op cs st) (readL bs op cs st') := by
  induction cs with
  | nil => intro st st' _ h; exact h
  | cons c cs ih => intro st st' hf h; exact ih _ _ (stepL_fine _ op c st hf) (stepL_moved bs k hk op c st st' hf h)
theorem readI_moved (bs : List UInt8) (k : Nat) (hk : k ≤ bs.length) : Moved k (readI (bs.drop k) 0) (readI bs k) := by
  have h := toldInt_shift bs k 0 0 0 1 15 5 hk
  rw [if_pos rfl, Nat.add_zero] at h
  obtain ⟨e1, e2, e3, e4⟩ := h
  have hf := iv_int (bs.drop k) 0 0 0 1 15 5 (by decide) (Nat.zero_le _) (fun _ => rfl)
  unfold readI
  rw [e1]
  exact readL_moved bs k hk _ _ _ _ hf ⟨rfl, e2, e3, e4 (by decide)⟩
end Go.Proofs.Ytflcmhmbmippfaa
