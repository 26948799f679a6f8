/- Plain law: a thing that was told, written again, is what was passed. No program in sight. -/
import Derived.Test.YtflcmhmbmippfaaWeS
namespace Go.Proofs.Ytflcmhmbmippfaa

theorem numAt_bad (bs : List UInt8) (pl : Nat) (low high above e a : Int) (ha : above ≠ 0) (h : numAt bs pl low high above = .bad e a) : e ≠ 0 := by
  unfold numAt at h
  cases hd : dec (bs.drop pl) with
  | ok N K =>
    rw [hd] at h
    dsimp only at h
    by_cases h1 : (N : Int) < low
    · rw [if_pos h1] at h; cases h; decide
    · rw [if_neg h1] at h
      by_cases h2 : high < (N : Int)
      · rw [if_pos h2] at h; cases h; exact ha
      · rw [if_neg h2] at h; cases h
  | short => rw [hd] at h; cases h; decide
  | zero => rw [hd] at h; cases h; decide
  | long => rw [hd] at h; cases h; decide
theorem txtAt_bad (bs : List UInt8) (pl : Nat) (most e a : Int) (h : txtAt bs pl most = .bad e a) : e ≠ 0 := by
  unfold txtAt at h
  cases hn : numAt bs pl 0 most 3 with
  | bad e' a' => rw [hn] at h; cases h; exact numAt_bad _ _ _ _ _ _ _ (by decide) hn
  | ok n j =>
    rw [hn] at h
    dsimp only at h
    by_cases hf : n ≤ bs.length - (pl + j)
    · rw [if_pos hf] at h; cases h
    · rw [if_neg hf] at h; cases h; decide

theorem int_back (bs : List UInt8) (pl : Nat) (low high above : Int) (ha : above ≠ 0) (hp : pl ≤ bs.length) (h : (toldInt bs pl 0 0 low high above).fe = 0) :
    wrInt (toldInt bs pl 0 0 low high above).n (bs.take pl) = bs.take (toldInt bs pl 0 0 low high above).pl ∧ (toldInt bs pl 0 0 low high above).pl ≤ bs.length ∧ pl ≤ (toldInt bs pl 0 0 low high above).pl := by
  unfold toldInt at h ⊢
  rw [if_pos rfl] at h ⊢
  cases hn : numAt bs pl low high above with
  | bad e a => rw [hn] at h; exact absurd h (numAt_bad _ _ _ _ _ _ _ ha hn)
  | ok n k =>
    obtain ⟨h1, h2, _, _, _⟩ := numAt_back bs pl low high above n k hp hn
    dsimp only
    refine ⟨?_, h2, by omega⟩
    rw [h1, wrInt, if_neg (by omega), Int.toNat_natCast]
theorem txt_back (bs : List UInt8) (pl : Nat) (most : Int) (hp : pl ≤ bs.length) (h : (toldTxt bs pl 0 0 most).fe = 0) :
    bs.take pl ++ sev (toldTxt bs pl 0 0 most).s.length ++ (toldTxt bs pl 0 0 most).s = bs.take (toldTxt bs pl 0 0 most).pl ∧ (toldTxt bs pl 0 0 most).pl ≤ bs.length ∧ pl ≤ (toldTxt bs pl 0 0 most).pl := by
  unfold toldTxt at h ⊢
  rw [if_pos rfl] at h ⊢
  cases hn : txtAt bs pl most with
  | bad e a => rw [hn] at h; exact absurd h (txtAt_bad _ _ _ _ _ hn)
  | ok L k =>
    obtain ⟨h1, h2⟩ := txtAt_back bs pl most L k hp hn
    exact ⟨h1.symm, h2, by show pl ≤ pl + k; omega⟩
theorem id_back (bs : List UInt8) (pl : Nat) (h : (toldID bs pl 0 0).fe = 0) (hp : pl ≤ bs.length) :
    bs.take pl ++ (toldID bs pl 0 0).d = bs.take (toldID bs pl 0 0).pl ∧ (toldID bs pl 0 0).pl ≤ bs.length ∧ pl ≤ (toldID bs pl 0 0).pl := by
  unfold toldID at h ⊢
  rw [if_pos rfl] at h ⊢
  by_cases h1 : 32 ≤ bs.length - pl
  · rw [if_pos h1]
    refine ⟨?_, ?_, ?_⟩
    · show bs.take pl ++ (bs.drop pl).take 32 = bs.take (pl + 32)
      rw [List.take_add]
    · show pl + 32 ≤ bs.length; omega
    · show pl ≤ pl + 32; omega
  · rw [if_neg h1] at h
    exact absurd (show (4 : Int) = 0 from h) (by decide)
end Go.Proofs.Ytflcmhmbmippfaa
