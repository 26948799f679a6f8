/- Plain laws: what was told was written so. No program in sight. -/
import Derived.Test.YtflcmhmbmippfaaWeR
namespace Go.Proofs.Ytflcmhmbmippfaa

theorem numAt_back (bs : List UInt8) (pl : Nat) (low high above : Int) (n k : Nat) (hp : pl ≤ bs.length) (h : numAt bs pl low high above = .ok n k) :
    bs.take (pl + k) = bs.take pl ++ sev n ∧ pl + k ≤ bs.length ∧ n < 9223372036854775808 ∧ low ≤ (n : Int) ∧ (n : Int) ≤ high := by
  unfold numAt at h
  cases hd : dec (bs.drop pl) with
  | ok N K =>
    rw [hd] at h
    dsimp only at h
    by_cases h1 : (N : Int) < low
    · rw [if_pos h1] at h; cases h
    · rw [if_neg h1] at h
      by_cases h2 : high < (N : Int)
      · rw [if_pos h2] at h; cases h
      · rw [if_neg h2] at h
        cases h
        obtain ⟨rfl, ⟨rest, hr⟩, hlt⟩ := sev_of_dec _ _ _ hd
        have hlen : (sev n).length ≤ bs.length - pl := by
          have := congrArg List.length hr
          rw [List.length_drop, List.length_append] at this
          omega
        refine ⟨?_, by omega, hlt, by omega, by omega⟩
        rw [List.take_add, hr, List.take_left]
  | short => rw [hd] at h; cases h
  | zero => rw [hd] at h; cases h
  | long => rw [hd] at h; cases h

theorem txtAt_back (bs : List UInt8) (pl : Nat) (most : Int) (L : List UInt8) (k : Nat) (hp : pl ≤ bs.length) (h : txtAt bs pl most = .ok L k) :
    bs.take (pl + k) = bs.take pl ++ sev L.length ++ L ∧ pl + k ≤ bs.length := by
  unfold txtAt at h
  cases hn : numAt bs pl 0 most 3 with
  | bad e a => rw [hn] at h; cases h
  | ok n j =>
    rw [hn] at h
    dsimp only at h
    by_cases hf : n ≤ bs.length - (pl + j)
    · rw [if_pos hf] at h
      cases h
      obtain ⟨h1, h2, h3, _, _⟩ := numAt_back bs pl 0 most 3 n j hp hn
      have hl : ((bs.drop (pl + j)).take n).length = n := by rw [List.length_take, List.length_drop]; omega
      rw [hl]
      refine ⟨?_, by omega⟩
      rw [← Nat.add_assoc, List.take_add, h1]
    · rw [if_neg hf] at h; cases h
end Go.Proofs.Ytflcmhmbmippfaa
