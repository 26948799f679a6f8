/- Plain law: a thing that ask told, written again, is what was passed. No program in sight. -/
import Derived.Test.YtflcmhmbmippfaaWeT
namespace Go.Proofs.Ytflcmhmbmippfaa

theorem toldA_back (bs : List UInt8) (pl : Nat) (q : Qn) (hp : pl ≤ bs.length) (h : (toldA bs pl 0 0 q).fe = 0) :
    (toldA bs pl 0 0 q).x.put (bs.take pl) = bs.take (toldA bs pl 0 0 q).pl ∧ (toldA bs pl 0 0 q).pl ≤ bs.length ∧ pl ≤ (toldA bs pl 0 0 q).pl := by
  unfold toldA at h ⊢
  by_cases h0 : q.k = 0
  · rw [if_pos h0] at h ⊢
    exact int_back bs pl q.low q.n 5 (by decide) hp h
  · rw [if_neg h0] at h ⊢
    by_cases h1 : q.k = 1
    · rw [if_pos h1] at h ⊢
      exact int_back bs pl 0 q.n 3 (by decide) hp h
    · rw [if_neg h1] at h ⊢
      by_cases h2 : q.k = 2
      · rw [if_pos h2] at h ⊢
        exact txt_back bs pl q.n hp h
      · rw [if_neg h2] at h ⊢
        by_cases h3 : q.k = 3
        · rw [if_pos h3] at h ⊢
          exact id_back bs pl h hp
        · rw [if_neg h3] at h ⊢
          exact ⟨rfl, hp, Nat.le_refl _⟩
end Go.Proofs.Ytflcmhmbmippfaa
