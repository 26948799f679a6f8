/- Plain laws: where a fault lies; what is told may be written. No program in sight. -/
import Derived.Test.YtflcmhmbmippfaaWeU
namespace Go.Proofs.Ytflcmhmbmippfaa

theorem numAt_where (bs : List UInt8) (pl : Nat) (low high above e a : Int) (hp : pl ≤ bs.length) (h : numAt bs pl low high above = .bad e a) : (pl : Int) ≤ a ∧ a ≤ bs.length := by
  unfold numAt at h
  cases hd : dec (bs.drop pl) with
  | ok N K =>
    rw [hd] at h
    dsimp only at h
    by_cases h1 : (N : Int) < low
    · rw [if_pos h1] at h; cases h; omega
    · rw [if_neg h1] at h
      by_cases h2 : high < (N : Int)
      · rw [if_pos h2] at h; cases h; omega
      · rw [if_neg h2] at h; cases h
  | short => rw [hd] at h; cases h; omega
  | zero => rw [hd] at h; cases h; omega
  | long => rw [hd] at h; cases h; omega
theorem txtAt_where (bs : List UInt8) (pl : Nat) (most e a : Int) (hp : pl ≤ bs.length) (h : txtAt bs pl most = .bad e a) : (pl : Int) ≤ a ∧ a ≤ bs.length := by
  unfold txtAt at h
  cases hn : numAt bs pl 0 most 3 with
  | bad e' a' => rw [hn] at h; cases h; exact numAt_where _ _ _ _ _ _ _ hp hn
  | ok n j =>
    rw [hn] at h
    dsimp only at h
    by_cases hf : n ≤ bs.length - (pl + j)
    · rw [if_pos hf] at h; cases h
    · rw [if_neg hf] at h; cases h; omega

theorem toldInt_where (bs : List UInt8) (pl : Nat) (low high above : Int) (hp : pl ≤ bs.length) (h : (toldInt bs pl 0 0 low high above).fe ≠ 0) :
    (toldInt bs pl 0 0 low high above).pl = pl ∧ (pl : Int) ≤ (toldInt bs pl 0 0 low high above).fa ∧ (toldInt bs pl 0 0 low high above).fa ≤ bs.length := by
  unfold toldInt at h ⊢
  rw [if_pos rfl] at h ⊢
  cases hn : numAt bs pl low high above with
  | bad e a => exact ⟨rfl, numAt_where _ _ _ _ _ _ _ hp hn⟩
  | ok n k => rw [hn] at h; exact absurd rfl h
theorem toldTxt_where (bs : List UInt8) (pl : Nat) (most : Int) (hp : pl ≤ bs.length) (h : (toldTxt bs pl 0 0 most).fe ≠ 0) :
    (toldTxt bs pl 0 0 most).pl = pl ∧ (pl : Int) ≤ (toldTxt bs pl 0 0 most).fa ∧ (toldTxt bs pl 0 0 most).fa ≤ bs.length := by
  unfold toldTxt at h ⊢
  rw [if_pos rfl] at h ⊢
  cases hn : txtAt bs pl most with
  | bad e a => exact ⟨rfl, txtAt_where _ _ _ _ _ hp hn⟩
  | ok L k => rw [hn] at h; exact absurd rfl h
theorem toldID_where (bs : List UInt8) (pl : Nat) (hp : pl ≤ bs.length) (h : (toldID bs pl 0 0).fe ≠ 0) :
    (toldID bs pl 0 0).pl = pl ∧ (pl : Int) ≤ (toldID bs pl 0 0).fa ∧ (toldID bs pl 0 0).fa ≤ bs.length := by
  unfold toldID at h ⊢
  rw [if_pos rfl] at h ⊢
  by_cases h1 : 32 ≤ bs.length - pl
  · rw [if_pos h1] at h; exact absurd rfl h
  · rw [if_neg h1]
    exact ⟨rfl, by show (pl : Int) ≤ (bs.length : Int); omega, Int.le_refl _⟩
theorem toldA_where (bs : List UInt8) (pl : Nat) (q : Qn) (hp : pl ≤ bs.length) (h : (toldA bs pl 0 0 q).fe ≠ 0) :
    (toldA bs pl 0 0 q).pl = pl ∧ (pl : Int) ≤ (toldA bs pl 0 0 q).fa ∧ (toldA bs pl 0 0 q).fa ≤ bs.length := by
  unfold toldA at h ⊢
  by_cases h0 : q.k = 0
  · rw [if_pos h0] at h ⊢; exact toldInt_where bs pl q.low q.n 5 hp h
  · rw [if_neg h0] at h ⊢
    by_cases h1 : q.k = 1
    · rw [if_pos h1] at h ⊢; exact toldInt_where bs pl 0 q.n 3 hp h
    · rw [if_neg h1] at h ⊢
      by_cases h2 : q.k = 2
      · rw [if_pos h2] at h ⊢; exact toldTxt_where bs pl q.n hp h
      · rw [if_neg h2] at h ⊢
        by_cases h3 : q.k = 3
        · rw [if_pos h3] at h ⊢; exact toldID_where bs pl hp h
        · rw [if_neg h3] at h; exact absurd rfl h

theorem le63 : (0 : Int) ≤ 9223372036854775807 := by decide
theorem toldInt_n (bs : List UInt8) (pl : Nat) (fe fa low high above : Int) (hp : pl ≤ bs.length) : 0 ≤ (toldInt bs pl fe fa low high above).n ∧ (toldInt bs pl fe fa low high above).n ≤ 9223372036854775807 := by
  unfold toldInt
  split
  · cases hn : numAt bs pl low high above with
    | bad e a => exact ⟨Int.le_refl 0, le63⟩
    | ok n k =>
      have := (numAt_back bs pl low high above n k hp hn).2.2.1
      exact ⟨by show (0 : Int) ≤ (n : Int); omega, by show (n : Int) ≤ 9223372036854775807; omega⟩
  · exact ⟨Int.le_refl 0, le63⟩
theorem toldTxt_s (bs : List UInt8) (pl : Nat) (fe fa most : Int) : (toldTxt bs pl fe fa most).s.length ≤ bs.length := by
  unfold toldTxt
  split
  · unfold txtAt
    cases numAt bs pl 0 most 3 with
    | bad e a => exact Nat.zero_le _
    | ok n k =>
      by_cases h : n ≤ bs.length - (pl + k)
      · dsimp only; rw [if_pos h]; dsimp only; rw [List.length_take, List.length_drop]; omega
      · dsimp only; rw [if_neg h]; exact Nat.zero_le _
  · exact Nat.zero_le _
theorem toldA_ok (bs : List UInt8) (pl : Nat) (fe fa : Int) (q : Qn) (hp : pl ≤ bs.length) (hb : bs.length ≤ 1000000000) :
    (toldA bs pl fe fa q).x.Ok ∧ (toldA bs pl fe fa q).x.bad = false ∧ (toldA bs pl fe fa q).x.s.size ≤ bs.length := by
  unfold toldA
  by_cases h0 : q.k = 0
  · rw [if_pos h0]
    have h := toldInt_n bs pl fe fa q.low q.n 5 hp
    exact ⟨⟨h.2, Nat.zero_le _, rfl⟩, by simp [Th.bad]; omega, Nat.zero_le _⟩
  · rw [if_neg h0]
    by_cases h1 : q.k = 1
    · rw [if_pos h1]
      have h := toldInt_n bs pl fe fa 0 q.n 3 hp
      exact ⟨⟨h.2, Nat.zero_le _, rfl⟩, by simp [Th.bad]; omega, Nat.zero_le _⟩
    · rw [if_neg h1]
      by_cases h2 : q.k = 2
      · rw [if_pos h2]
        have h := toldTxt_s bs pl fe fa q.n
        have h' : (ByteArray.mk (toldTxt bs pl fe fa q.n).s.toArray).size ≤ bs.length := by simpa [ByteArray.size] using h
        exact ⟨⟨le63, Nat.le_trans h' hb, rfl⟩, by simp [Th.bad], h'⟩
      · rw [if_neg h2]
        by_cases h3 : q.k = 3
        · rw [if_pos h3]
          exact ⟨⟨le63, Nat.zero_le _, toldID_len bs pl fe fa⟩, by simp [Th.bad], Nat.zero_le _⟩
        · rw [if_neg h3]
          exact ⟨⟨le63, Nat.zero_le _, rfl⟩, by simp [Th.bad], Nat.zero_le _⟩
theorem toldInt_fa (bs : List UInt8) (pl : Nat) (low high above : Int) (ha : above ≠ 0) (h : (toldInt bs pl 0 0 low high above).fe = 0) : (toldInt bs pl 0 0 low high above).fa = 0 := by
  unfold toldInt at h ⊢
  rw [if_pos rfl] at h ⊢
  cases hn : numAt bs pl low high above with
  | bad e a => rw [hn] at h; exact absurd h (numAt_bad _ _ _ _ _ _ _ ha hn)
  | ok n k => rfl
theorem toldTxt_fa (bs : List UInt8) (pl : Nat) (most : Int) (h : (toldTxt bs pl 0 0 most).fe = 0) : (toldTxt bs pl 0 0 most).fa = 0 := by
  unfold toldTxt at h ⊢
  rw [if_pos rfl] at h ⊢
  cases hn : txtAt bs pl most with
  | bad e a => rw [hn] at h; exact absurd h (txtAt_bad _ _ _ _ _ hn)
  | ok L k => rfl
theorem toldID_fa (bs : List UInt8) (pl : Nat) (h : (toldID bs pl 0 0).fe = 0) : (toldID bs pl 0 0).fa = 0 := by
  unfold toldID at h ⊢
  rw [if_pos rfl] at h ⊢
  by_cases h1 : 32 ≤ bs.length - pl
  · rw [if_pos h1]
  · rw [if_neg h1] at h; exact absurd (show (4 : Int) = 0 from h) (by decide)
theorem toldA_fa (bs : List UInt8) (pl : Nat) (q : Qn) (h : (toldA bs pl 0 0 q).fe = 0) : (toldA bs pl 0 0 q).fa = 0 := by
  unfold toldA at h ⊢
  by_cases h0 : q.k = 0
  · rw [if_pos h0] at h ⊢; exact toldInt_fa bs pl q.low q.n 5 (by decide) h
  · rw [if_neg h0] at h ⊢
    by_cases h1 : q.k = 1
    · rw [if_pos h1] at h ⊢; exact toldInt_fa bs pl 0 q.n 3 (by decide) h
    · rw [if_neg h1] at h ⊢
      by_cases h2 : q.k = 2
      · rw [if_pos h2] at h ⊢; exact toldTxt_fa bs pl q.n h
      · rw [if_neg h2] at h ⊢
        by_cases h3 : q.k = 3
        · rw [if_pos h3] at h ⊢; exact toldID_fa bs pl h
        · rw [if_neg h3]
end Go.Proofs.Ytflcmhmbmippfaa
