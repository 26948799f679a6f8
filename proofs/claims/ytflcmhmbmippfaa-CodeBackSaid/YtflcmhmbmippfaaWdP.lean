/- Bits that a number is put together of. No program in sight. -/
import Derived.Test.YtflcmhmbmippfaaWdC
namespace Go.Proofs.Ytflcmhmbmippfaa
open Go.RowKit Go.Rt

theorem and_u8 (a b : Nat) (ha : a < 256) (hb : b < 256) : bits .and .u8 (a : Int) (b : Int) = ((a &&& b : Nat) : Int) := by
  have e1 : ∀ x : Nat, x < 256 → (BitVec.ofInt 8 (x : Int)).toNat = x := fun x hx => by
    rw [BitVec.ofInt_natCast, BitVec.toNat_ofNat]; exact Nat.mod_eq_of_lt (by omega)
  have hx : a &&& b < 2 ^ 8 := Nat.and_lt_two_pow _ (by omega)
  show IntKind.u8.wrap ((BitVec.ofInt 8 (a : Int) &&& BitVec.ofInt 8 (b : Int)).toNat : Int) = _
  rw [BitVec.toNat_and, e1 a ha, e1 b hb, IntKind.wrap_u8]
  omega
theorem acc_lt (acc x j : Nat) (h : acc < 128 ^ j) (hx : x < 128) : acc + x * 128 ^ j < 128 ^ (j + 1) := by
  have h1 : x * 128 ^ j ≤ 127 * 128 ^ j := Nat.mul_le_mul_right _ (by omega)
  rw [Nat.pow_succ]
  omega
theorem acc_step (acc : Nat) (b : UInt8) (j : Nat) (hj : j ≤ 8) (h : acc < 128 ^ j) :
    bits BinOp.or IntKind.i64 (acc : Int) (wrap64 (wrap64 (bits BinOp.and IntKind.u8 (b.toNat : Int) 127) * 2 ^ (7 * j))) = ((acc + (b.toNat % 128) * 128 ^ j : Nat) : Int) := by
  have hb := b.toNat_lt
  have h1 := and_u8 b.toNat 127 (by omega) (by omega)
  rw [show ((127 : Nat) : Int) = 127 from rfl, and127] at h1
  rw [h1]
  clear h1
  have hm : b.toNat % 128 < 128 := Nat.mod_lt _ (by omega)
  generalize b.toNat % 128 = x at hm
  have hlt := acc_lt acc x j h hm
  have hp : (128 : Nat) ^ (j + 1) ≤ 9223372036854775808 := by
    have : (128 : Nat) ^ (j + 1) ≤ 128 ^ 9 := Nat.pow_le_pow_right (by omega) (by omega)
    rwa [show (128 : Nat) ^ 9 = 9223372036854775808 by decide] at this
  have hs : acc + x * 128 ^ j < 9223372036854775808 := Nat.lt_of_lt_of_le hlt hp
  clear hlt hp
  have e2 : (128 : Nat) ^ j = 2 ^ (7 * j) := by rw [Nat.pow_mul]
  have h3 := Nat.two_pow_add_eq_or_of_lt (i := 7 * j) (b := acc) (by rw [← e2]; exact h) x
  have e3 : (x : Int) * 2 ^ (7 * j) = ((x * 128 ^ j : Nat) : Int) := by rw [e2]; simp
  rw [← e2, Nat.mul_comm, Nat.or_comm] at h3
  clear h
  have w1 : wrap64 (x : Int) = (x : Int) := by unfold wrap64; omega
  rw [w1, e3]
  clear e3 e2 w1
  generalize x * 128 ^ j = y at *
  have w2 : wrap64 (y : Int) = (y : Int) := by unfold wrap64; omega
  rw [w2, or_i64 acc y (by omega) (by omega)]
  congr 1
  omega

end Go.Proofs.Ytflcmhmbmippfaa
