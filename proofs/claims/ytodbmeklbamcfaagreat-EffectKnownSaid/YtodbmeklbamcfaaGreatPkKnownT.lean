/- A pack of texts: WdN, WdQ, WeR, WeS, WeT, WeU, WeV, WeW, WeX, CpA, CpB, CpC -/
import Derived.Test.YtodbmeklbamcfaaGreatPkKnownS
import Derived.Test.YtodbmeklbamcfaaGreatPkKnownE
import Derived.Deep.RegionHeld3
import Derived.Laws.Rows
import Derived.Test.YtodbmeklbamcfaaGreatPkKnownR
/- Package word's reader: ID. -/
namespace Go.Proofs.YtodbmeklbamcfaaGreat
open Go.RowKit Go.Rt

/-- What an ID asked for comes to: its 32 bytes, or a fault. -/
def idAt (bs : List UInt8) (pl : Nat) : Option (List UInt8) := if 32 ≤ bs.length - pl then some ((bs.drop pl).take 32) else none

structure ToldI where
  d : List UInt8
  pl : Nat
  fe : Int
  fa : Int
def toldID (bs : List UInt8) (pl : Nat) (fe fa : Int) : ToldI :=
  if fe = 0 then (if 32 ≤ bs.length - pl then ⟨(bs.drop pl).take 32, pl + 32, 0, 0⟩ else ⟨noID, pl, 4, bs.length⟩) else ⟨noID, pl, fe, fa⟩
theorem toldID_len (bs : List UInt8) (pl : Nat) (fe fa : Int) : (toldID bs pl fe fa).d.length = 32 := by
  unfold toldID
  split
  · split
    · simp only [List.length_take, List.length_drop]; omega
    · rfl
  · rfl

end Go.Proofs.YtodbmeklbamcfaaGreat

/- The laws' own helper over package word: one thing is asked. -/
namespace Go.Proofs.YtodbmeklbamcfaaGreat
open Go.RowKit Go.Rt

theorem th_one (x : Th) : ∀ u ∈ x.cs, u.oneCell' = true := by
  intro u hu
  simp only [Th.cs, List.mem_cons] at hu
  rcases hu with rfl | rfl | rfl | hu
  · rfl
  · rfl
  · rfl
  · exact B_one _ u hu

/-- What is asked for: its kind, its least and its greatest number. -/
structure Qn where
  k : Int
  low : Int
  n : Int
def Qn.cs (x : Qn) : List Value := [.int .i64 x.k, .int .i64 x.low, .int .i64 x.n]
def Qn.v (x : Qn) : Value := .agg x.cs.toArray
/-- What is told and what the reader becomes. -/
structure ToldA where
  x : Th
  pl : Nat
  fe : Int
  fa : Int
def toldA (bs : List UInt8) (pl : Nat) (fe fa : Int) (q : Qn) : ToldA :=
  if q.k = 0 then ⟨⟨0, (toldInt bs pl fe fa q.low q.n 5).n, ⟨#[]⟩, noID⟩, (toldInt bs pl fe fa q.low q.n 5).pl, (toldInt bs pl fe fa q.low q.n 5).fe, (toldInt bs pl fe fa q.low q.n 5).fa⟩
  else if q.k = 1 then ⟨⟨0, (toldInt bs pl fe fa 0 q.n 3).n, ⟨#[]⟩, noID⟩, (toldInt bs pl fe fa 0 q.n 3).pl, (toldInt bs pl fe fa 0 q.n 3).fe, (toldInt bs pl fe fa 0 q.n 3).fa⟩
  else if q.k = 2 then ⟨⟨1, 0, ⟨(toldTxt bs pl fe fa q.n).s.toArray⟩, noID⟩, (toldTxt bs pl fe fa q.n).pl, (toldTxt bs pl fe fa q.n).fe, (toldTxt bs pl fe fa q.n).fa⟩
  else if q.k = 3 then ⟨⟨2, 0, ⟨#[]⟩, (toldID bs pl fe fa).d⟩, (toldID bs pl fe fa).pl, (toldID bs pl fe fa).fe, (toldID bs pl fe fa).fa⟩
  else ⟨⟨3, 0, ⟨#[]⟩, noID⟩, pl, fe, fa⟩

end Go.Proofs.YtodbmeklbamcfaaGreat

/- Plain laws: what is read at a place where a number, a text, an ID was written. No program in sight. -/
namespace Go.Proofs.YtodbmeklbamcfaaGreat

theorem numAt_here (pre rest : List UInt8) (n : Nat) (hn : n < 9223372036854775808) (low high above : Int) :
    numAt (pre ++ (sev n ++ rest)) pre.length low high above = if (n : Int) < low then .bad 5 pre.length else if high < (n : Int) then .bad above pre.length else .ok n (sev n).length := by
  unfold numAt
  rw [List.drop_left, dec_of_sev n hn rest]

theorem txtAt_here (pre rest L : List UInt8) (hL : L.length < 9223372036854775808) (most : Int) :
    txtAt (pre ++ (sev L.length ++ (L ++ rest))) pre.length most = if most < (L.length : Int) then .bad 3 pre.length else .ok L ((sev L.length).length + L.length) := by
  unfold txtAt
  rw [numAt_here pre (L ++ rest) L.length hL 0 most 3, if_neg (by omega)]
  by_cases h : most < (L.length : Int)
  · rw [if_pos h, if_pos h]
  · rw [if_neg h, if_neg h]
    dsimp only
    rw [if_pos (by simp only [List.length_append]; omega)]
    congr 1
    rw [← List.append_assoc, ← List.length_append, List.drop_left, List.take_left]

theorem toldInt_here (pre rest : List UInt8) (n : Nat) (hn : n < 9223372036854775808) (low high above : Int) (h1 : low ≤ n) (h2 : (n : Int) ≤ high) :
    toldInt (pre ++ (sev n ++ rest)) pre.length 0 0 low high above = ⟨n, pre.length + (sev n).length, 0, 0⟩ := by
  unfold toldInt
  rw [if_pos rfl, numAt_here pre rest n hn, if_neg (by omega), if_neg (by omega)]
theorem toldTxt_here (pre rest L : List UInt8) (hL : L.length < 9223372036854775808) (most : Int) (h : (L.length : Int) ≤ most) :
    toldTxt (pre ++ (sev L.length ++ (L ++ rest))) pre.length 0 0 most = ⟨L, pre.length + ((sev L.length).length + L.length), 0, 0⟩ := by
  unfold toldTxt
  rw [if_pos rfl, txtAt_here pre rest L hL, if_neg (by omega)]
theorem toldID_here (pre rest d : List UInt8) (hd : d.length = 32) : toldID (pre ++ (d ++ rest)) pre.length 0 0 = ⟨d, pre.length + 32, 0, 0⟩ := by
  unfold toldID
  rw [if_pos rfl, if_pos (by simp only [List.length_append]; omega), List.drop_left, ← hd, List.take_left]
end Go.Proofs.YtodbmeklbamcfaaGreat

/- Plain laws: what was told was written so. No program in sight. -/
namespace Go.Proofs.YtodbmeklbamcfaaGreat

theorem numAt_back (bs : List UInt8) (pl : Nat) (low high above : Int) (n k : Nat) (hp : pl ≤ bs.length) (h : numAt bs pl low high above = .ok n k) :
    bs.take (pl + k) = bs.take pl ++ sev n ∧ pl + k ≤ bs.length ∧ n < 9223372036854775808 ∧ low ≤ (n : Int) ∧ (n : Int) ≤ high := by
  unfold numAt at h
  cases hd : dec (bs.drop pl) with
  | ok N K =>
    rw [hd] at h
    dsimp only at h
    by_cases h1 : (N : Int) < low
    · rw [if_pos h1] at h; cases h
    · rw [if_neg h1] at h
      by_cases h2 : high < (N : Int)
      · rw [if_pos h2] at h; cases h
      · rw [if_neg h2] at h
        cases h
        obtain ⟨rfl, ⟨rest, hr⟩, hlt⟩ := sev_of_dec _ _ _ hd
        have hlen : (sev n).length ≤ bs.length - pl := by
          have := congrArg List.length hr
          rw [List.length_drop, List.length_append] at this
          omega
        refine ⟨?_, by omega, hlt, by omega, by omega⟩
        rw [List.take_add, hr, List.take_left]
  | short => rw [hd] at h; cases h
  | zero => rw [hd] at h; cases h
  | long => rw [hd] at h; cases h

theorem txtAt_back (bs : List UInt8) (pl : Nat) (most : Int) (L : List UInt8) (k : Nat) (hp : pl ≤ bs.length) (h : txtAt bs pl most = .ok L k) :
    bs.take (pl + k) = bs.take pl ++ sev L.length ++ L ∧ pl + k ≤ bs.length := by
  unfold txtAt at h
  cases hn : numAt bs pl 0 most 3 with
  | bad e a => rw [hn] at h; cases h
  | ok n j =>
    rw [hn] at h
    dsimp only at h
    by_cases hf : n ≤ bs.length - (pl + j)
    · rw [if_pos hf] at h
      cases h
      obtain ⟨h1, h2, h3, _, _⟩ := numAt_back bs pl 0 most 3 n j hp hn
      have hl : ((bs.drop (pl + j)).take n).length = n := by rw [List.length_take, List.length_drop]; omega
      rw [hl]
      refine ⟨?_, by omega⟩
      rw [← Nat.add_assoc, List.take_add, h1]
    · rw [if_neg hf] at h; cases h
end Go.Proofs.YtodbmeklbamcfaaGreat

/- Plain law: a thing that was told, written again, is what was passed. No program in sight. -/
namespace Go.Proofs.YtodbmeklbamcfaaGreat

theorem numAt_bad (bs : List UInt8) (pl : Nat) (low high above e a : Int) (ha : above ≠ 0) (h : numAt bs pl low high above = .bad e a) : e ≠ 0 := by
  unfold numAt at h
  cases hd : dec (bs.drop pl) with
  | ok N K =>
    rw [hd] at h
    dsimp only at h
    by_cases h1 : (N : Int) < low
    · rw [if_pos h1] at h; cases h; decide
    · rw [if_neg h1] at h
      by_cases h2 : high < (N : Int)
      · rw [if_pos h2] at h; cases h; exact ha
      · rw [if_neg h2] at h; cases h
  | short => rw [hd] at h; cases h; decide
  | zero => rw [hd] at h; cases h; decide
  | long => rw [hd] at h; cases h; decide
theorem txtAt_bad (bs : List UInt8) (pl : Nat) (most e a : Int) (h : txtAt bs pl most = .bad e a) : e ≠ 0 := by
  unfold txtAt at h
  cases hn : numAt bs pl 0 most 3 with
  | bad e' a' => rw [hn] at h; cases h; exact numAt_bad _ _ _ _ _ _ _ (by decide) hn
  | ok n j =>
    rw [hn] at h
    dsimp only at h
    by_cases hf : n ≤ bs.length - (pl + j)
    · rw [if_pos hf] at h; cases h
    · rw [if_neg hf] at h; cases h; decide

theorem int_back (bs : List UInt8) (pl : Nat) (low high above : Int) (ha : above ≠ 0) (hp : pl ≤ bs.length) (h : (toldInt bs pl 0 0 low high above).fe = 0) :
    wrInt (toldInt bs pl 0 0 low high above).n (bs.take pl) = bs.take (toldInt bs pl 0 0 low high above).pl ∧ (toldInt bs pl 0 0 low high above).pl ≤ bs.length ∧ pl ≤ (toldInt bs pl 0 0 low high above).pl := by
  unfold toldInt at h ⊢
  rw [if_pos rfl] at h ⊢
  cases hn : numAt bs pl low high above with
  | bad e a => rw [hn] at h; exact absurd h (numAt_bad _ _ _ _ _ _ _ ha hn)
  | ok n k =>
    obtain ⟨h1, h2, _, _, _⟩ := numAt_back bs pl low high above n k hp hn
    dsimp only
    refine ⟨?_, h2, by omega⟩
    rw [h1, wrInt, if_neg (by omega), Int.toNat_natCast]
theorem txt_back (bs : List UInt8) (pl : Nat) (most : Int) (hp : pl ≤ bs.length) (h : (toldTxt bs pl 0 0 most).fe = 0) :
    bs.take pl ++ sev (toldTxt bs pl 0 0 most).s.length ++ (toldTxt bs pl 0 0 most).s = bs.take (toldTxt bs pl 0 0 most).pl ∧ (toldTxt bs pl 0 0 most).pl ≤ bs.length ∧ pl ≤ (toldTxt bs pl 0 0 most).pl := by
  unfold toldTxt at h ⊢
  rw [if_pos rfl] at h ⊢
  cases hn : txtAt bs pl most with
  | bad e a => rw [hn] at h; exact absurd h (txtAt_bad _ _ _ _ _ hn)
  | ok L k =>
    obtain ⟨h1, h2⟩ := txtAt_back bs pl most L k hp hn
    exact ⟨h1.symm, h2, by show pl ≤ pl + k; omega⟩
theorem id_back (bs : List UInt8) (pl : Nat) (h : (toldID bs pl 0 0).fe = 0) (hp : pl ≤ bs.length) :
    bs.take pl ++ (toldID bs pl 0 0).d = bs.take (toldID bs pl 0 0).pl ∧ (toldID bs pl 0 0).pl ≤ bs.length ∧ pl ≤ (toldID bs pl 0 0).pl := by
  unfold toldID at h ⊢
  rw [if_pos rfl] at h ⊢
  by_cases h1 : 32 ≤ bs.length - pl
  · rw [if_pos h1]
    refine ⟨?_, ?_, ?_⟩
    · show bs.take pl ++ (bs.drop pl).take 32 = bs.take (pl + 32)
      rw [List.take_add]
    · show pl + 32 ≤ bs.length; omega
    · show pl ≤ pl + 32; omega
  · rw [if_neg h1] at h
    exact absurd (show (4 : Int) = 0 from h) (by decide)
end Go.Proofs.YtodbmeklbamcfaaGreat

/- Plain law: a thing that ask told, written again, is what was passed. No program in sight. -/
namespace Go.Proofs.YtodbmeklbamcfaaGreat

theorem toldA_back (bs : List UInt8) (pl : Nat) (q : Qn) (hp : pl ≤ bs.length) (h : (toldA bs pl 0 0 q).fe = 0) :
    (toldA bs pl 0 0 q).x.put (bs.take pl) = bs.take (toldA bs pl 0 0 q).pl ∧ (toldA bs pl 0 0 q).pl ≤ bs.length ∧ pl ≤ (toldA bs pl 0 0 q).pl := by
  unfold toldA at h ⊢
  by_cases h0 : q.k = 0
  · rw [if_pos h0] at h ⊢
    exact int_back bs pl q.low q.n 5 (by decide) hp h
  · rw [if_neg h0] at h ⊢
    by_cases h1 : q.k = 1
    · rw [if_pos h1] at h ⊢
      exact int_back bs pl 0 q.n 3 (by decide) hp h
    · rw [if_neg h1] at h ⊢
      by_cases h2 : q.k = 2
      · rw [if_pos h2] at h ⊢
        exact txt_back bs pl q.n hp h
      · rw [if_neg h2] at h ⊢
        by_cases h3 : q.k = 3
        · rw [if_pos h3] at h ⊢
          exact id_back bs pl h hp
        · rw [if_neg h3] at h ⊢
          exact ⟨rfl, hp, Nat.le_refl _⟩
end Go.Proofs.YtodbmeklbamcfaaGreat

/- Plain laws: where a fault lies; what is told may be written. No program in sight. -/
namespace Go.Proofs.YtodbmeklbamcfaaGreat

theorem numAt_where (bs : List UInt8) (pl : Nat) (low high above e a : Int) (hp : pl ≤ bs.length) (h : numAt bs pl low high above = .bad e a) : (pl : Int) ≤ a ∧ a ≤ bs.length := by
  unfold numAt at h
  cases hd : dec (bs.drop pl) with
  | ok N K =>
    rw [hd] at h
    dsimp only at h
    by_cases h1 : (N : Int) < low
    · rw [if_pos h1] at h; cases h; omega
    · rw [if_neg h1] at h
      by_cases h2 : high < (N : Int)
      · rw [if_pos h2] at h; cases h; omega
      · rw [if_neg h2] at h; cases h
  | short => rw [hd] at h; cases h; omega
  | zero => rw [hd] at h; cases h; omega
  | long => rw [hd] at h; cases h; omega
theorem txtAt_where (bs : List UInt8) (pl : Nat) (most e a : Int) (hp : pl ≤ bs.length) (h : txtAt bs pl most = .bad e a) : (pl : Int) ≤ a ∧ a ≤ bs.length := by
  unfold txtAt at h
  cases hn : numAt bs pl 0 most 3 with
  | bad e' a' => rw [hn] at h; cases h; exact numAt_where _ _ _ _ _ _ _ hp hn
  | ok n j =>
    rw [hn] at h
    dsimp only at h
    by_cases hf : n ≤ bs.length - (pl + j)
    · rw [if_pos hf] at h; cases h
    · rw [if_neg hf] at h; cases h; omega

theorem toldInt_where (bs : List UInt8) (pl : Nat) (low high above : Int) (hp : pl ≤ bs.length) (h : (toldInt bs pl 0 0 low high above).fe ≠ 0) :
    (toldInt bs pl 0 0 low high above).pl = pl ∧ (pl : Int) ≤ (toldInt bs pl 0 0 low high above).fa ∧ (toldInt bs pl 0 0 low high above).fa ≤ bs.length := by
  unfold toldInt at h ⊢
  rw [if_pos rfl] at h ⊢
  cases hn : numAt bs pl low high above with
  | bad e a => exact ⟨rfl, numAt_where _ _ _ _ _ _ _ hp hn⟩
  | ok n k => rw [hn] at h; exact absurd rfl h
theorem toldTxt_where (bs : List UInt8) (pl : Nat) (most : Int) (hp : pl ≤ bs.length) (h : (toldTxt bs pl 0 0 most).fe ≠ 0) :
    (toldTxt bs pl 0 0 most).pl = pl ∧ (pl : Int) ≤ (toldTxt bs pl 0 0 most).fa ∧ (toldTxt bs pl 0 0 most).fa ≤ bs.length := by
  unfold toldTxt at h ⊢
  rw [if_pos rfl] at h ⊢
  cases hn : txtAt bs pl most with
  | bad e a => exact ⟨rfl, txtAt_where _ _ _ _ _ hp hn⟩
  | ok L k => rw [hn] at h; exact absurd rfl h
theorem toldID_where (bs : List UInt8) (pl : Nat) (hp : pl ≤ bs.length) (h : (toldID bs pl 0 0).fe ≠ 0) :
    (toldID bs pl 0 0).pl = pl ∧ (pl : Int) ≤ (toldID bs pl 0 0).fa ∧ (toldID bs pl 0 0).fa ≤ bs.length := by
  unfold toldID at h ⊢
  rw [if_pos rfl] at h ⊢
  by_cases h1 : 32 ≤ bs.length - pl
  · rw [if_pos h1] at h; exact absurd rfl h
  · rw [if_neg h1]
    exact ⟨rfl, by show (pl : Int) ≤ (bs.length : Int); omega, Int.le_refl _⟩
theorem toldA_where (bs : List UInt8) (pl : Nat) (q : Qn) (hp : pl ≤ bs.length) (h : (toldA bs pl 0 0 q).fe ≠ 0) :
    (toldA bs pl 0 0 q).pl = pl ∧ (pl : Int) ≤ (toldA bs pl 0 0 q).fa ∧ (toldA bs pl 0 0 q).fa ≤ bs.length := by
  unfold toldA at h ⊢
  by_cases h0 : q.k = 0
  · rw [if_pos h0] at h ⊢; exact toldInt_where bs pl q.low q.n 5 hp h
  · rw [if_neg h0] at h ⊢
    by_cases h1 : q.k = 1
    · rw [if_pos h1] at h ⊢; exact toldInt_where bs pl 0 q.n 3 hp h
    · rw [if_neg h1] at h ⊢
      by_cases h2 : q.k = 2
      · rw [if_pos h2] at h ⊢; exact toldTxt_where bs pl q.n hp h
      · rw [if_neg h2] at h ⊢
        by_cases h3 : q.k = 3
        · rw [if_pos h3] at h ⊢; exact toldID_where bs pl hp h
        · rw [if_neg h3] at h; exact absurd rfl h

theorem le63 : (0 : Int) ≤ 9223372036854775807 := by decide
theorem toldInt_n (bs : List UInt8) (pl : Nat) (fe fa low high above : Int) (hp : pl ≤ bs.length) : 0 ≤ (toldInt bs pl fe fa low high above).n ∧ (toldInt bs pl fe fa low high above).n ≤ 9223372036854775807 := by
  unfold toldInt
  split
  · cases hn : numAt bs pl low high above with
    | bad e a => exact ⟨Int.le_refl 0, le63⟩
    | ok n k =>
      have := (numAt_back bs pl low high above n k hp hn).2.2.1
      exact ⟨by show (0 : Int) ≤ (n : Int); omega, by show (n : Int) ≤ 9223372036854775807; omega⟩
  · exact ⟨Int.le_refl 0, le63⟩
theorem toldTxt_s (bs : List UInt8) (pl : Nat) (fe fa most : Int) : (toldTxt bs pl fe fa most).s.length ≤ bs.length := by
  unfold toldTxt
  split
  · unfold txtAt
    cases numAt bs pl 0 most 3 with
    | bad e a => exact Nat.zero_le _
    | ok n k =>
      by_cases h : n ≤ bs.length - (pl + k)
      · dsimp only; rw [if_pos h]; dsimp only; rw [List.length_take, List.length_drop]; omega
      · dsimp only; rw [if_neg h]; exact Nat.zero_le _
  · exact Nat.zero_le _
theorem toldA_ok (bs : List UInt8) (pl : Nat) (fe fa : Int) (q : Qn) (hp : pl ≤ bs.length) (hb : bs.length ≤ 1000000000) :
    (toldA bs pl fe fa q).x.Ok ∧ (toldA bs pl fe fa q).x.bad = false ∧ (toldA bs pl fe fa q).x.s.size ≤ bs.length := by
  unfold toldA
  by_cases h0 : q.k = 0
  · rw [if_pos h0]
    have h := toldInt_n bs pl fe fa q.low q.n 5 hp
    exact ⟨⟨h.2, Nat.zero_le _, rfl⟩, by simp [Th.bad]; omega, Nat.zero_le _⟩
  · rw [if_neg h0]
    by_cases h1 : q.k = 1
    · rw [if_pos h1]
      have h := toldInt_n bs pl fe fa 0 q.n 3 hp
      exact ⟨⟨h.2, Nat.zero_le _, rfl⟩, by simp [Th.bad]; omega, Nat.zero_le _⟩
    · rw [if_neg h1]
      by_cases h2 : q.k = 2
      · rw [if_pos h2]
        have h := toldTxt_s bs pl fe fa q.n
        have h' : (ByteArray.mk (toldTxt bs pl fe fa q.n).s.toArray).size ≤ bs.length := by simpa [ByteArray.size] using h
        exact ⟨⟨le63, Nat.le_trans h' hb, rfl⟩, by simp [Th.bad], h'⟩
      · rw [if_neg h2]
        by_cases h3 : q.k = 3
        · rw [if_pos h3]
          exact ⟨⟨le63, Nat.zero_le _, toldID_len bs pl fe fa⟩, by simp [Th.bad], Nat.zero_le _⟩
        · rw [if_neg h3]
          exact ⟨⟨le63, Nat.zero_le _, rfl⟩, by simp [Th.bad], Nat.zero_le _⟩
theorem toldInt_fa (bs : List UInt8) (pl : Nat) (low high above : Int) (ha : above ≠ 0) (h : (toldInt bs pl 0 0 low high above).fe = 0) : (toldInt bs pl 0 0 low high above).fa = 0 := by
  unfold toldInt at h ⊢
  rw [if_pos rfl] at h ⊢
  cases hn : numAt bs pl low high above with
  | bad e a => rw [hn] at h; exact absurd h (numAt_bad _ _ _ _ _ _ _ ha hn)
  | ok n k => rfl
theorem toldTxt_fa (bs : List UInt8) (pl : Nat) (most : Int) (h : (toldTxt bs pl 0 0 most).fe = 0) : (toldTxt bs pl 0 0 most).fa = 0 := by
  unfold toldTxt at h ⊢
  rw [if_pos rfl] at h ⊢
  cases hn : txtAt bs pl most with
  | bad e a => rw [hn] at h; exact absurd h (txtAt_bad _ _ _ _ _ hn)
  | ok L k => rfl
theorem toldID_fa (bs : List UInt8) (pl : Nat) (h : (toldID bs pl 0 0).fe = 0) : (toldID bs pl 0 0).fa = 0 := by
  unfold toldID at h ⊢
  rw [if_pos rfl] at h ⊢
  by_cases h1 : 32 ≤ bs.length - pl
  · rw [if_pos h1]
  · rw [if_neg h1] at h; exact absurd (show (4 : Int) = 0 from h) (by decide)
theorem toldA_fa (bs : List UInt8) (pl : Nat) (q : Qn) (h : (toldA bs pl 0 0 q).fe = 0) : (toldA bs pl 0 0 q).fa = 0 := by
  unfold toldA at h ⊢
  by_cases h0 : q.k = 0
  · rw [if_pos h0] at h ⊢; exact toldInt_fa bs pl q.low q.n 5 (by decide) h
  · rw [if_neg h0] at h ⊢
    by_cases h1 : q.k = 1
    · rw [if_pos h1] at h ⊢; exact toldInt_fa bs pl 0 q.n 3 (by decide) h
    · rw [if_neg h1] at h ⊢
      by_cases h2 : q.k = 2
      · rw [if_pos h2] at h ⊢; exact toldTxt_fa bs pl q.n h
      · rw [if_neg h2] at h ⊢
        by_cases h3 : q.k = 3
        · rw [if_pos h3] at h ⊢; exact toldID_fa bs pl h
        · rw [if_neg h3]
end Go.Proofs.YtodbmeklbamcfaaGreat

/- Plain laws for WordBounds: what is told of a text and a number behind it; a reader with a fault tells nothing. No program in sight. -/
namespace Go.Proofs.YtodbmeklbamcfaaGreat

theorem bounds_txt (L : List UInt8) (n : Nat) (hL : L.length ≤ 300) : toldTxt (sev L.length ++ L ++ sev n) 0 0 0 300 = ⟨L, (sev L.length ++ L).length, 0, 0⟩ := by
  have h := toldTxt_here [] (sev n) L (by omega) 300 (by omega)
  rw [List.nil_append, List.length_nil, Nat.zero_add] at h
  rw [List.append_assoc, h, List.length_append]
theorem bounds_int (L : List UInt8) (n : Nat) (hn : n < 9223372036854775808) (low high above : Int) : toldInt (sev L.length ++ L ++ sev n) (sev L.length ++ L).length 0 0 low high above =
    if (n : Int) < low then ⟨0, (sev L.length ++ L).length, 5, (sev L.length ++ L).length⟩ else if high < (n : Int) then ⟨0, (sev L.length ++ L).length, above, (sev L.length ++ L).length⟩ else ⟨n, (sev L.length ++ L ++ sev n).length, 0, 0⟩ := by
  have h := numAt_here (sev L.length ++ L) [] n hn low high above
  rw [List.append_nil] at h
  unfold toldInt
  rw [if_pos rfl, h]
  by_cases h1 : (n : Int) < low
  · rw [if_pos h1, if_pos h1]
  · rw [if_neg h1, if_neg h1]
    by_cases h2 : high < (n : Int)
    · rw [if_pos h2, if_pos h2]
    · rw [if_neg h2, if_neg h2]
      simp only [List.length_append]
theorem toldA_stuck (bs : List UInt8) (pl : Nat) (fe fa : Int) (q : Qn) (h : fe ≠ 0) : ∃ k, toldA bs pl fe fa q = ⟨⟨k, 0, ⟨#[]⟩, noID⟩, pl, fe, fa⟩ := by
  unfold toldA
  by_cases h0 : q.k = 0
  · exact ⟨0, by rw [if_pos h0]; simp [toldInt, if_neg h]⟩
  · rw [if_neg h0]
    by_cases h1 : q.k = 1
    · exact ⟨0, by rw [if_pos h1]; simp [toldInt, if_neg h]⟩
    · rw [if_neg h1]
      by_cases h2 : q.k = 2
      · exact ⟨1, by rw [if_pos h2]; simp [toldTxt, if_neg h]⟩
      · rw [if_neg h2]
        by_cases h3 : q.k = 3
        · exact ⟨2, by rw [if_pos h3]; simp [toldID, if_neg h]⟩
        · exact ⟨3, by rw [if_neg h3]⟩
end Go.Proofs.YtodbmeklbamcfaaGreat

/- Plain laws: a list of things as bytes, thing by thing. No program in sight. -/
namespace Go.Proofs.YtodbmeklbamcfaaGreat

def Th.bytes (x : Th) : List UInt8 :=
  if x.k = 0 then (if x.n < 0 then [] else sev x.n.toNat) else if x.k = 1 then sev x.s.size ++ x.s.data.toList else if x.k = 2 then x.d else []
theorem put_bytes (x : Th) (bs : List UInt8) : x.put bs = bs ++ x.bytes := by
  unfold Th.put Th.bytes wrInt
  by_cases h0 : x.k = 0
  · rw [if_pos h0, if_pos h0]
    by_cases h : x.n < 0
    · rw [if_pos h, if_pos h, List.append_nil]
    · rw [if_neg h, if_neg h]
  · rw [if_neg h0, if_neg h0]
    by_cases h1 : x.k = 1
    · rw [if_pos h1, if_pos h1, List.append_assoc]
    · rw [if_neg h1, if_neg h1]
      by_cases h2 : x.k = 2
      · rw [if_pos h2, if_pos h2]
      · rw [if_neg h2, if_neg h2, List.append_nil]
theorem put_fold (ts : List Th) : ∀ bs : List UInt8, ts.foldl (fun b (x : Th) => x.put b) bs = bs ++ ts.flatMap Th.bytes := by
  induction ts with
  | nil => intro bs; simp
  | cons x ts ih => intro bs; rw [List.foldl_cons, ih, put_bytes, List.append_assoc]; rfl
theorem putAll_bytes (ts : List Th) : putAll ts = ts.flatMap Th.bytes := by rw [putAll, put_fold, List.nil_append]
theorem putAll_append (ls ms : List Th) : putAll (ls ++ ms) = putAll ls ++ putAll ms := by simp [putAll_bytes]
theorem badAll_append (ls ms : List Th) : badAll (ls ++ ms) = (badAll ls || badAll ms) := by simp [badAll]
theorem putAll_at (ts : List Th) (j : Nat) (x : Th) (h : ts[j]? = some x) : ∃ rest, putAll ts = putAll (ts.take j) ++ (x.bytes ++ rest) ∧ putAll (ts.take (j + 1)) = putAll (ts.take j) ++ x.bytes := by
  obtain ⟨hj, hx⟩ := List.getElem?_eq_some_iff.1 h
  refine ⟨putAll (ts.drop (j + 1)), ?_, ?_⟩
  · have e : ts = ts.take j ++ ([x] ++ ts.drop (j + 1)) := by
      have h1 := (List.take_append_drop j ts).symm
      rw [List.drop_eq_getElem_cons hj, hx] at h1
      exact h1
    have h2 := congrArg putAll e
    rw [putAll_append, putAll_append] at h2
    rw [h2]
    congr 2
  · rw [List.take_add_one, h]
    simp [putAll_bytes]
theorem thC_append (ls ms : List Th) : thC (ls ++ ms) = thC ls ++ thC ms := by simp [thC]
theorem bad_of_all (ts : List Th) (h : badAll ts = false) (x : Th) (hx : x ∈ ts) : x.bad = false := by
  simp only [badAll, List.any_eq_false] at h
  simpa using h x hx
end Go.Proofs.YtodbmeklbamcfaaGreat

/- Plain laws on instructions: which may be, as which bytes they are written, which stand in bytes. No program in sight. -/
namespace Go.Proofs.YtodbmeklbamcfaaGreat

/-- An instruction: what it does, registers, a number, a text. -/
structure Ins where
  op : Int
  a : Int
  b : Int
  c : Int
  n : Int
  s : List UInt8

def Ins.zero : Ins := ⟨0, 0, 0, 0, 0, []⟩
def Ins.isZero (r : Ins) : Bool := decide (r.op = 0) && (decide (r.a = 0) && (decide (r.b = 0) && (decide (r.c = 0) && (decide (r.n = 0) && decide (r.s = [])))))
/-- What an Op has, letter by letter. -/
def hasL (op : Int) : List UInt8 :=
  if op = 1 then [97, 115] else if op = 2 then [97, 98] else if op = 3 then [97, 98, 99] else if op = 4 then [97, 98] else if op = 5 then [97]
  else if op = 6 then [97, 98, 99, 110] else if op = 7 then [97, 98, 99] else if op = 8 then [97, 98, 99] else if op = 9 then [97, 98, 99] else if op = 10 then [97, 98, 99]
  else if op = 11 then [97, 98, 99] else if op = 12 then [97, 110] else if op = 13 then [110] else if op = 14 then [97] else []
def mostN (op : Int) : Int := if op = 6 then 16 else 60
def Ins.get (i : Ins) (c : UInt8) : Int := if c = 97 then i.a else if c = 98 then i.b else if c = 99 then i.c else i.n
def Ins.set (i : Ins) (c : UInt8) (v : Int) : Ins := if c = 97 then { i with a := v } else if c = 98 then { i with b := v } else if c = 99 then { i with c := v } else { i with n := v }
def lowOf (c : UInt8) : Int := if c = 110 then 1 else 0
def highOf (op : Int) (c : UInt8) : Int := if c = 110 then mostN op else 7
/-- Letter by letter, what is left of an instruction: may it be? -/
def chkF (op : Int) : List UInt8 → Ins → Bool
  | [], r => r.isZero
  | c :: cs, r =>
    if c = 115 then (if 64 < r.s.length then false else chkF op cs { r with s := [] })
    else if r.get c < lowOf c ∨ highOf op c < r.get c then false else chkF op cs (r.set c 0)
def mayB (i : Ins) : Bool := decide (1 ≤ i.op ∧ i.op ≤ 15) && chkF i.op (hasL i.op) { i with op := 0 }

/-- The document's own: has an Op a register A, B, C, a number, a text? -/
def hasA (op : Int) : Bool := (hasL op).contains 97
def hasB (op : Int) : Bool := (hasL op).contains 98
def hasC (op : Int) : Bool := (hasL op).contains 99
def hasN (op : Int) : Bool := (hasL op).contains 110
def hasS (op : Int) : Bool := (hasL op).contains 115
def regB (n : Int) (has : Bool) : Bool := if has then decide (0 ≤ n ∧ n < 8) else decide (n = 0)
def numB (i : Ins) : Bool := if hasN i.op then decide (1 ≤ i.n ∧ i.n ≤ mostN i.op) else decide (i.n = 0)
def txtB (i : Ins) : Bool := if hasS i.op then decide (i.s.length ≤ 64) else decide (i.s = [])
def mayR (i : Ins) : Bool := decide (1 ≤ i.op ∧ i.op ≤ 15) && (regB i.a (hasA i.op) && (regB i.b (hasB i.op) && (regB i.c (hasC i.op) && (numB i && txtB i))))

theorem hasL_out (op : Int) (h : ¬ (1 ≤ op ∧ op ≤ 14)) : hasL op = [] := by
  unfold hasL
  repeat (rw [if_neg (by omega)])

theorem op_cases (op : Int) (h : 1 ≤ op ∧ op ≤ 15) : op = 1 ∨ op = 2 ∨ op = 3 ∨ op = 4 ∨ op = 5 ∨ op = 6 ∨ op = 7 ∨ op = 8 ∨ op = 9 ∨ op = 10 ∨ op = 11 ∨ op = 12 ∨ op = 13 ∨ op = 14 ∨ op = 15 := by omega

theorem lt8 (x : Int) : decide (x < 8) = decide (x ≤ 7) := by rw [decide_eq_decide]; omega
set_option maxHeartbeats 1000000 in
theorem may_eq (i : Ins) : mayB i = mayR i := by
  obtain ⟨op, a, b, c, n, s⟩ := i
  by_cases h : 1 ≤ op ∧ op ≤ 15
  · rcases op_cases op h with rfl | rfl | rfl | rfl | rfl | rfl | rfl | rfl | rfl | rfl | rfl | rfl | rfl | rfl | rfl
    all_goals
      simp [mayB, mayR, hasL, chkF, Ins.get, Ins.set, lowOf, highOf, mostN, hasA, hasB, hasC, hasN, hasS, regB, numB, txtB, Ins.isZero]
      try simp only [← decide_not, Int.not_lt, Nat.not_lt, lt8]
      try ac_rfl
  · simp only [mayB, mayR, decide_eq_false h, Bool.false_and]
end Go.Proofs.YtodbmeklbamcfaaGreat

/- Plain laws on instructions as bytes: both ways of writing and of reading them are one. No program in sight. -/
namespace Go.Proofs.YtodbmeklbamcfaaGreat

/-- What letters of an instruction are written as. -/
def bytesL (i : Ins) (cs : List UInt8) : List UInt8 := cs.flatMap fun c => if c = 115 then sev i.s.length ++ i.s else sev (i.get c).toNat
def insBytes (i : Ins) : List UInt8 := sev i.op.toNat ++ bytesL i (hasL i.op)
def refBytes (i : Ins) : List UInt8 :=
  sev i.op.toNat ++ ((if hasA i.op then sev i.a.toNat else []) ++ ((if hasB i.op then sev i.b.toNat else []) ++ ((if hasC i.op then sev i.c.toNat else []) ++ ((if hasN i.op then sev i.n.toNat else []) ++ (if hasS i.op then sev i.s.length ++ i.s else [])))))
theorem bytes_eq (i : Ins) (h : 1 ≤ i.op ∧ i.op ≤ 15) : refBytes i = insBytes i := by
  obtain ⟨op, a, b, c, n, s⟩ := i
  rcases op_cases op h with rfl | rfl | rfl | rfl | rfl | rfl | rfl | rfl | rfl | rfl | rfl | rfl | rfl | rfl | rfl
  all_goals simp [refBytes, insBytes, bytesL, hasL, hasA, hasB, hasC, hasN, hasS, Ins.get]

/-- A reader's way through an instruction. -/
structure Rst where
  i : Ins
  pl : Nat
  fe : Int
  fa : Int
def stepL (bs : List UInt8) (op : Int) (c : UInt8) (st : Rst) : Rst :=
  if c = 115 then ⟨{ st.i with s := (toldTxt bs st.pl st.fe st.fa 64).s }, (toldTxt bs st.pl st.fe st.fa 64).pl, (toldTxt bs st.pl st.fe st.fa 64).fe, (toldTxt bs st.pl st.fe st.fa 64).fa⟩
  else ⟨st.i.set c (toldInt bs st.pl st.fe st.fa (lowOf c) (highOf op c) 5).n, (toldInt bs st.pl st.fe st.fa (lowOf c) (highOf op c) 5).pl, (toldInt bs st.pl st.fe st.fa (lowOf c) (highOf op c) 5).fe, (toldInt bs st.pl st.fe st.fa (lowOf c) (highOf op c) 5).fa⟩
def readL (bs : List UInt8) (op : Int) (cs : List UInt8) (st : Rst) : Rst := cs.foldl (fun st c => stepL bs op c st) st
def readI (bs : List UInt8) (pl : Nat) : Rst :=
  readL bs (toldInt bs pl 0 0 1 15 5).n (hasL (toldInt bs pl 0 0 1 15 5).n) ⟨⟨(toldInt bs pl 0 0 1 15 5).n, 0, 0, 0, 0, []⟩, (toldInt bs pl 0 0 1 15 5).pl, (toldInt bs pl 0 0 1 15 5).fe, (toldInt bs pl 0 0 1 15 5).fa⟩

/-- Read from a place on, or from the beginning of what stands there: the same, places moved. -/
theorem numAt_shift (bs : List UInt8) (at_ pl : Nat) (low high above : Int) (h : at_ ≤ bs.length) :
    numAt bs (at_ + pl) low high above = match numAt (bs.drop at_) pl low high above with | .ok n k => .ok n k | .bad e a => .bad e (at_ + a) := by
  unfold numAt
  rw [List.drop_drop]
  cases dec (bs.drop (at_ + pl)) with
  | ok N K =>
    dsimp only
    by_cases h1 : (N : Int) < low
    · rw [if_pos h1, if_pos h1]; dsimp only; congr 1
    · rw [if_neg h1, if_neg h1]
      by_cases h2 : high < (N : Int)
      · rw [if_pos h2, if_pos h2]; dsimp only; congr 1
      · rw [if_neg h2, if_neg h2]
  | short => dsimp only; congr 1; rw [List.length_drop]; omega
  | zero => dsimp only; congr 1
  | long => dsimp only; congr 1
theorem toldInt_shift (bs : List UInt8) (at_ pl : Nat) (fe fa low high above : Int) (h : at_ ≤ bs.length) :
    (toldInt bs (at_ + pl) fe (if fe = 0 then 0 else at_ + fa) low high above).n = (toldInt (bs.drop at_) pl fe fa low high above).n ∧
    (toldInt bs (at_ + pl) fe (if fe = 0 then 0 else at_ + fa) low high above).pl = at_ + (toldInt (bs.drop at_) pl fe fa low high above).pl ∧
    (toldInt bs (at_ + pl) fe (if fe = 0 then 0 else at_ + fa) low high above).fe = (toldInt (bs.drop at_) pl fe fa low high above).fe ∧
    (above ≠ 0 → (toldInt bs (at_ + pl) fe (if fe = 0 then 0 else at_ + fa) low high above).fa = if (toldInt (bs.drop at_) pl fe fa low high above).fe = 0 then 0 else at_ + (toldInt (bs.drop at_) pl fe fa low high above).fa) := by
  unfold toldInt
  by_cases h0 : fe = 0
  · rw [if_pos h0, if_pos h0, numAt_shift bs at_ pl low high above h]
    have hb := numAt_bad (bs.drop at_) pl low high
    cases hn : numAt (bs.drop at_) pl low high above with
    | ok n k => exact ⟨rfl, by dsimp only; omega, rfl, fun _ => rfl⟩
    | bad e a => exact ⟨rfl, rfl, rfl, fun ha => by dsimp only; rw [if_neg (hb above e a ha hn)]⟩
  · rw [if_neg h0, if_neg h0, if_neg h0]
    exact ⟨rfl, rfl, rfl, fun _ => by dsimp only; rw [if_neg h0]⟩
theorem txtAt_shift (bs : List UInt8) (at_ pl : Nat) (most : Int) (h : at_ ≤ bs.length) (hp : pl ≤ bs.length - at_) :
    txtAt bs (at_ + pl) most = match txtAt (bs.drop at_) pl most with | .ok s k => .ok s k | .bad e a => .bad e (at_ + a) := by
  unfold txtAt
  rw [numAt_shift bs at_ pl 0 most 3 h]
  cases hn : numAt (bs.drop at_) pl 0 most 3 with
  | bad e a => rfl
  | ok n k =>
    dsimp only
    have hk := (numAt_back (bs.drop at_) pl 0 most 3 n k (by rw [List.length_drop]; omega) hn).2.1
    rw [List.length_drop] at hk ⊢
    by_cases hf : n ≤ bs.length - at_ - (pl + k)
    · rw [if_pos hf, if_pos (by omega), List.drop_drop, Nat.add_assoc]
    · rw [if_neg hf, if_neg (by omega)]
      dsimp only
      congr 1
      omega
theorem toldTxt_shift (bs : List UInt8) (at_ pl : Nat) (fe fa high : Int) (h : at_ ≤ bs.length) (hp : pl ≤ bs.length - at_) :
    (toldTxt bs (at_ + pl) fe (if fe = 0 then 0 else at_ + fa) high).s = (toldTxt (bs.drop at_) pl fe fa high).s ∧
    (toldTxt bs (at_ + pl) fe (if fe = 0 then 0 else at_ + fa) high).pl = at_ + (toldTxt (bs.drop at_) pl fe fa high).pl ∧
    (toldTxt bs (at_ + pl) fe (if fe = 0 then 0 else at_ + fa) high).fe = (toldTxt (bs.drop at_) pl fe fa high).fe ∧
    (toldTxt bs (at_ + pl) fe (if fe = 0 then 0 else at_ + fa) high).fa = if (toldTxt (bs.drop at_) pl fe fa high).fe = 0 then 0 else at_ + (toldTxt (bs.drop at_) pl fe fa high).fa := by
  unfold toldTxt
  by_cases h0 : fe = 0
  · rw [if_pos h0, if_pos h0, txtAt_shift bs at_ pl high h hp]
    have hb := txtAt_bad (bs.drop at_) pl high
    cases hn : txtAt (bs.drop at_) pl high with
    | ok s k => exact ⟨rfl, by dsimp only; omega, rfl, rfl⟩
    | bad e a => exact ⟨rfl, rfl, rfl, by dsimp only; rw [if_neg (hb e a hn)]⟩
  · rw [if_neg h0, if_neg h0, if_neg h0]
    exact ⟨rfl, rfl, rfl, by dsimp only; rw [if_neg h0]⟩
end Go.Proofs.YtodbmeklbamcfaaGreat

/- Plain laws: an instruction is read alike from a place on, and from the beginning of what stands there. No program in sight. -/
namespace Go.Proofs.YtodbmeklbamcfaaGreat

theorem iv_int (bs : List UInt8) (pl : Nat) (fe fa low high above : Int) (ha : above ≠ 0) (hp : pl ≤ bs.length) (hf : fe = 0 → fa = 0) : (toldInt bs pl fe fa low high above).pl ≤ bs.length ∧ ((toldInt bs pl fe fa low high above).fe = 0 → (toldInt bs pl fe fa low high above).fa = 0) := by
  by_cases h0 : fe = 0
  · subst h0
    obtain rfl : fa = 0 := hf rfl
    refine ⟨?_, toldInt_fa bs pl low high above ha⟩
    by_cases h1 : (toldInt bs pl 0 0 low high above).fe = 0
    · exact (int_back bs pl low high above ha hp h1).2.1
    · rw [(toldInt_where bs pl low high above hp h1).1]; exact hp
  · unfold toldInt; rw [if_neg h0]; exact ⟨hp, fun h => absurd h h0⟩
theorem iv_txt (bs : List UInt8) (pl : Nat) (fe fa high : Int) (hp : pl ≤ bs.length) (hf : fe = 0 → fa = 0) : (toldTxt bs pl fe fa high).pl ≤ bs.length ∧ ((toldTxt bs pl fe fa high).fe = 0 → (toldTxt bs pl fe fa high).fa = 0) := by
  by_cases h0 : fe = 0
  · subst h0
    obtain rfl : fa = 0 := hf rfl
    refine ⟨?_, toldTxt_fa bs pl high⟩
    by_cases h1 : (toldTxt bs pl 0 0 high).fe = 0
    · exact (txt_back bs pl high hp h1).2.1
    · rw [(toldTxt_where bs pl high hp h1).1]; exact hp
  · unfold toldTxt; rw [if_neg h0]; exact ⟨hp, fun h => absurd h h0⟩

/-- A reader that stands somewhere in the bytes, without a place to its fault where there is none. -/
def Rst.Fine (bs : List UInt8) (st : Rst) : Prop := st.pl ≤ bs.length ∧ (st.fe = 0 → st.fa = 0)
theorem stepL_fine (bs : List UInt8) (op : Int) (c : UInt8) (st : Rst) (h : st.Fine bs) : (stepL bs op c st).Fine bs := by
  unfold stepL
  by_cases hc : c = 115
  · rw [if_pos hc]; exact iv_txt bs st.pl st.fe st.fa 64 h.1 h.2
  · rw [if_neg hc]; exact iv_int bs st.pl st.fe st.fa _ _ 5 (by decide) h.1 h.2

/-- The same way, its places moved by so much. -/
structure Moved (k : Nat) (st st' : Rst) : Prop where
  i : st'.i = st.i
  pl : st'.pl = k + st.pl
  fe : st'.fe = st.fe
  fa : st'.fa = if st.fe = 0 then 0 else (k : Int) + st.fa
theorem stepL_moved (bs : List UInt8) (k : Nat) (hk : k ≤ bs.length) (op : Int) (c : UInt8) (st st' : Rst) (hf : st.Fine (bs.drop k)) (h : Moved k st st') : Moved k (stepL (bs.drop k) op c st) (stepL bs op c st') := by
  obtain ⟨i', pl', fe', fa'⟩ := st'
  obtain ⟨h1, h2, h3, h4⟩ := h
  dsimp only at h1 h2 h3 h4
  subst h1 h2 h3 h4
  have hp : st.pl ≤ bs.length - k := by have := hf.1; rwa [List.length_drop] at this
  unfold stepL
  by_cases hc : c = 115
  · rw [if_pos hc, if_pos hc]
    obtain ⟨e1, e2, e3, e4⟩ := toldTxt_shift bs k st.pl st.fe st.fa 64 hk hp
    exact ⟨by dsimp only; rw [e1], e2, e3, e4⟩
  · rw [if_neg hc, if_neg hc]
    obtain ⟨e1, e2, e3, e4⟩ := toldInt_shift bs k st.pl st.fe st.fa (lowOf c) (highOf op c) 5 hk
    exact ⟨by dsimp only; rw [e1], e2, e3, e4 (by decide)⟩
theorem readL_moved (bs : List UInt8) (k : Nat) (hk : k ≤ bs.length) (op : Int) (cs : List UInt8) : ∀ st st' : Rst, st.Fine (bs.drop k) → Moved k st st' → Moved k (readL (bs.drop k) op cs st) (readL bs op cs st') := by
  induction cs with
  | nil => intro st st' _ h; exact h
  | cons c cs ih => intro st st' hf h; exact ih _ _ (stepL_fine _ op c st hf) (stepL_moved bs k hk op c st st' hf h)
theorem readI_moved (bs : List UInt8) (k : Nat) (hk : k ≤ bs.length) : Moved k (readI (bs.drop k) 0) (readI bs k) := by
  have h := toldInt_shift bs k 0 0 0 1 15 5 hk
  rw [if_pos rfl, Nat.add_zero] at h
  obtain ⟨e1, e2, e3, e4⟩ := h
  have hf := iv_int (bs.drop k) 0 0 0 1 15 5 (by decide) (Nat.zero_le _) (fun _ => rfl)
  unfold readI
  rw [e1]
  exact readL_moved bs k hk _ _ _ _ hf ⟨rfl, e2, e3, e4 (by decide)⟩
end Go.Proofs.YtodbmeklbamcfaaGreat
