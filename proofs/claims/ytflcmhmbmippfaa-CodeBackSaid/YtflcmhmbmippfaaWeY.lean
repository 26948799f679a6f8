/- Plain law: a number's value out of its bytes, the highest first. No program in sight. -/
import Derived.Test.YtflcmhmbmippfaaWeQ
namespace Go.Proofs.Ytflcmhmbmippfaa

def dval : List UInt8 → Nat
  | [] => 0
  | c :: r => c.toNat % 128 + 128 * dval r
theorem dval_lt (l : List UInt8) : dval l < 128 ^ l.length := by
  induction l with
  | nil => simp [dval]
  | cons c r ih =>
    simp only [dval, List.length_cons, Nat.pow_succ]
    have : c.toNat % 128 < 128 := Nat.mod_lt _ (by decide)
    omega
theorem decF_val (f : Nat) (bs : List UInt8) (j acc N K : Nat) (h : decF f bs j acc = .ok N K) :
    ∃ k, K = j + k ∧ 1 ≤ k ∧ k ≤ f ∧ k ≤ bs.length ∧ N = acc + dval (bs.take k) * 128 ^ j := by
  induction f generalizing bs j acc with
  | zero => simp [decF] at h
  | succ f ih =>
    cases bs with
    | nil => simp [decF] at h
    | cons c r =>
      simp only [decF] at h
      by_cases h1 : c.toNat < 128
      · rw [if_pos h1] at h
        by_cases h2 : c.toNat = 0 ∧ 0 < j
        · rw [if_pos h2] at h; cases h
        · rw [if_neg h2] at h
          cases h
          refine ⟨1, rfl, by omega, by omega, by simp, ?_⟩
          simp [dval, Nat.mod_eq_of_lt h1]
      · rw [if_neg h1] at h
        by_cases h2 : f = 0
        · rw [if_pos h2] at h; cases h
        · rw [if_neg h2] at h
          obtain ⟨k, rfl, hk1, hk2, hk3, hN⟩ := ih _ _ _ h
          refine ⟨k + 1, by omega, by omega, by omega, by simpa using hk3, ?_⟩
          rw [hN, List.take_succ_cons, dval, Nat.add_mul, Nat.pow_succ]
          have e : dval (r.take k) * (128 ^ j * 128) = 128 * dval (r.take k) * 128 ^ j := by
            rw [Nat.mul_comm (128 ^ j) 128, ← Nat.mul_assoc, Nat.mul_comm (dval (r.take k)) 128]
          omega
theorem dec_val (bs : List UInt8) (N K : Nat) (h : dec bs = .ok N K) : 1 ≤ K ∧ K ≤ 9 ∧ K ≤ bs.length ∧ N = dval (bs.take K) := by
  obtain ⟨k, h1, h2, h3, h4, h5⟩ := decF_val 9 bs 0 0 N K h
  have e : K = k := by omega
  subst e
  exact ⟨h2, h3, h4, by simpa using h5⟩
theorem dval_step (l : List UInt8) (u : Nat) (x : UInt8) (h : l[u]? = some x) : dval (l.drop u) = x.toNat % 128 + 128 * dval (l.drop (u + 1)) := by
  obtain ⟨h1, h2⟩ := List.getElem?_eq_some_iff.1 h
  rw [List.drop_eq_getElem_cons h1, h2, dval]
end Go.Proofs.Ytflcmhmbmippfaa
