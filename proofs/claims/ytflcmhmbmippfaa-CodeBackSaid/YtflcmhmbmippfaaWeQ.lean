/- The plain law of the numbers' bytes: what is written is read, and what is read was written. No program in sight. -/
import Derived.Test.YtflcmhmbmippfaaWdE
namespace Go.Proofs.Ytflcmhmbmippfaa

theorem dec_sev (f m j acc : Nat) (rest : List UInt8) (hm : m < 128 ^ f) (hf : 0 < f) (hz : m ≠ 0 ∨ j = 0) :
    decF f (sevF f m ++ rest) j acc = .ok (acc + m * 128 ^ j) (j + (sevF f m).length) := by
  induction f generalizing m j acc with
  | zero => omega
  | succ f ih =>
    by_cases h : m < 128
    · have hc : (UInt8.ofNat m).toNat = m := by rw [UInt8.toNat_ofNat']; omega
      rw [sevF_last _ _ h]
      simp only [List.cons_append, List.nil_append, decF, hc, if_pos h, List.length_singleton]
      rw [if_neg (by omega)]
    · have hc : (UInt8.ofNat (m % 128 + 128)).toNat = m % 128 + 128 := by rw [UInt8.toNat_ofNat']; omega
      rw [sevF_more _ _ (by omega)]
      simp only [List.cons_append, decF, hc, List.length_cons]
      have hf0 : f ≠ 0 := by rintro rfl; simp at hm; omega
      rw [if_neg (by omega), if_neg hf0, show (m % 128 + 128) % 128 = m % 128 by omega]
      have hd : m / 128 < 128 ^ f := by
        rw [Nat.div_lt_iff_lt_mul (by decide)]
        rw [Nat.pow_succ] at hm
        exact hm
      rw [ih (m / 128) (j + 1) _ hd (by omega) (.inl (by omega))]
      have e : (m % 128) * 128 ^ j + m / 128 * 128 ^ (j + 1) = m * 128 ^ j := by
        rw [Nat.pow_succ, Nat.mul_comm (128 ^ j) 128, ← Nat.mul_assoc, ← Nat.add_mul]
        congr 1
        omega
      congr 1
      · rw [Nat.add_assoc, e]
      · omega

/-- What is told was written so. -/
theorem dec_inv (f : Nat) (bs : List UInt8) (j acc N K : Nat) (h : decF f bs j acc = .ok N K) :
    ∃ m, N = acc + m * 128 ^ j ∧ K = j + (sevF f m).length ∧ (∃ rest, bs = sevF f m ++ rest) ∧ m < 128 ^ f ∧ (m ≠ 0 ∨ j = 0) := by
  induction f generalizing bs j acc with
  | zero => simp [decF] at h
  | succ f ih =>
    cases bs with
    | nil => simp [decF] at h
    | cons c r =>
      have hlt := c.toNat_lt
      simp only [decF] at h
      by_cases h1 : c.toNat < 128
      · rw [if_pos h1] at h
        by_cases h2 : c.toNat = 0 ∧ 0 < j
        · rw [if_pos h2] at h; cases h
        · rw [if_neg h2] at h
          cases h
          refine ⟨c.toNat, rfl, by rw [sevF_last _ _ h1]; rfl, ⟨r, by rw [sevF_last _ _ h1, UInt8.ofNat_toNat]; rfl⟩, Nat.lt_of_lt_of_le h1 (Nat.le_self_pow (by omega) 128), by omega⟩
      · rw [if_neg h1] at h
        by_cases h2 : f = 0
        · rw [if_pos h2] at h; cases h
        · rw [if_neg h2] at h
          obtain ⟨m, rfl, rfl, ⟨rest, rfl⟩, hm, hz⟩ := ih _ _ _ h
          have hm0 : m ≠ 0 := by omega
          have h128 : 128 ≤ c.toNat % 128 + 128 * m := by omega
          have hmod : (c.toNat % 128 + 128 * m) % 128 = c.toNat % 128 := by omega
          have hdiv : (c.toNat % 128 + 128 * m) / 128 = m := by omega
          have hcc : UInt8.ofNat (c.toNat % 128 + 128) = c := by
            rw [show c.toNat % 128 + 128 = c.toNat by omega, UInt8.ofNat_toNat]
          have hs : sevF (f + 1) (c.toNat % 128 + 128 * m) = c :: sevF f m := by rw [sevF_more _ _ h128, hmod, hdiv, hcc]
          refine ⟨c.toNat % 128 + 128 * m, ?_, by rw [hs, List.length_cons]; omega, ⟨rest, by rw [hs]; rfl⟩, ?_, .inl (by omega)⟩
          · rw [Nat.pow_succ, Nat.add_mul, Nat.add_assoc, Nat.mul_comm (128 ^ j) 128, ← Nat.mul_assoc, Nat.mul_comm m 128]
          · rw [Nat.pow_succ]; omega

theorem dec_of_sev (n : Nat) (hn : n < 9223372036854775808) (rest : List UInt8) : dec (sev n ++ rest) = .ok n (sev n).length := by
  have h := dec_sev 9 n 0 0 rest (by omega) (by omega) (.inr rfl)
  simpa [dec, sev] using h
theorem sev_of_dec (bs : List UInt8) (N K : Nat) (h : dec bs = .ok N K) : K = (sev N).length ∧ (∃ rest, bs = sev N ++ rest) ∧ N < 9223372036854775808 := by
  obtain ⟨m, h1, h2, h3, h4, _⟩ := dec_inv 9 bs 0 0 N K h
  have e : N = m := by simpa using h1
  subst e
  exact ⟨by simpa [sev] using h2, h3, by simpa using h4⟩
end Go.Proofs.Ytflcmhmbmippfaa
