/- WordEight's plain laws: numbers of eight bytes. No program in sight. -/
import Derived.Test.YtkfeejlpgcmilaaWdC
namespace Go.Proofs.Ytkfeejlpgcmilaa

theorem numL_cons (x : UInt8) (xs : List UInt8) : numL (x :: xs) = x.toNat * 256 ^ xs.length + numL xs := by
  have := numL_append [x] xs
  rw [show numL [x] = x.toNat by simp [numL]] at this
  exact this
theorem numL_bF (i n : Nat) : numL (bF i n) = n % 256 ^ i := by
  induction i with
  | zero => simp [bF, numL, Nat.mod_one]
  | succ i ih => rw [bF, numL_cons, ih, bF_len, Nat.mod_pow_succ, UInt8.toNat_ofNat', Nat.add_comm, Nat.mul_comm]
theorem num8_bF (n : Nat) (hn : n < 18446744073709551616) : num8 (bF 8 n) = n := by
  unfold num8
  rw [bF_len, Nat.sub_self, List.drop_zero, numL_bF]
  exact Nat.mod_eq_of_lt hn
theorem bF_add (i n y : Nat) : bF i (n + y * 256 ^ i) = bF i n := by
  induction i generalizing y with
  | zero => rfl
  | succ i ih =>
    have e : n + y * 256 ^ (i + 1) = n + (y * 256) * 256 ^ i := by rw [Nat.pow_succ, Nat.mul_comm (256 ^ i) 256, ← Nat.mul_assoc]
    rw [bF, bF, e, ih, Nat.add_mul_div_right _ _ (Nat.pow_pos (by decide))]
    congr 1
    apply UInt8.toNat_inj.1
    rw [UInt8.toNat_ofNat', UInt8.toNat_ofNat']
    exact Nat.add_mul_mod_self_right _ _ _
theorem bF_numL (t : List UInt8) : bF t.length (numL t) = t := by
  induction t with
  | nil => rfl
  | cons x t ih =>
    have hx := x.toNat_lt
    rw [List.length_cons, bF, numL_cons]
    have h1 : (x.toNat * 256 ^ t.length + numL t) / 256 ^ t.length = x.toNat := by
      rw [Nat.add_comm, Nat.add_mul_div_right _ _ (Nat.pow_pos (by decide)), Nat.div_eq_of_lt (numL_lt t), Nat.zero_add]
    rw [h1, Nat.add_comm, bF_add, ih, UInt8.ofNat_toNat]
theorem numL_zeros (k : Nat) (t : List UInt8) : numL (List.replicate k 0 ++ t) = numL t := by
  induction k with
  | zero => rfl
  | succ k ih => rw [List.replicate_succ, List.cons_append, numL_cons, ih]; simp
theorem bF_pad (t : List UInt8) (h : t.length ≤ 8) : bF 8 (numL t) = List.replicate (8 - t.length) 0 ++ t := by
  have h1 := bF_numL (List.replicate (8 - t.length) 0 ++ t)
  rw [numL_zeros, List.length_append, List.length_replicate, Nat.sub_add_cancel h] at h1
  exact h1
/-- The value of a text's number: its last bytes, behind zeros. -/
theorem bF_num8 (L : List UInt8) : bF 8 (num8 L) = List.replicate (8 - min L.length 8) 0 ++ L.drop (L.length - min L.length 8) := by
  have h : (L.drop (L.length - 8)).length = min L.length 8 := by rw [List.length_drop]; omega
  have h1 := bF_pad (L.drop (L.length - 8)) (by omega)
  rw [h] at h1
  rw [num8, h1]
  congr 2
  omega
theorem num8_behind (a L : List UInt8) (h : 8 ≤ L.length) : num8 (a ++ L) = num8 L := by
  unfold num8
  rw [List.drop_append, List.drop_eq_nil_of_le (by rw [List.length_append]; omega), List.nil_append]
  congr 2
  rw [List.length_append]; omega
theorem num8_zero (L : List UInt8) : num8 (0 :: L) = num8 L := by
  rw [num8_mod, num8_mod, numL_cons]
  simp

theorem less_num (x : List UInt8) : ∀ y : List UInt8, y.length = x.length → Op.bytesLess x y = decide (numL x < numL y) := by
  induction x with
  | nil => intro y h; obtain rfl := List.length_eq_zero_iff.1 h; rfl
  | cons a x ih =>
    intro y h
    cases y with
    | nil => simp at h
    | cons b y =>
      have h' : y.length = x.length := by simpa using h
      rw [Op.bytesLess, ih y h', numL_cons, numL_cons, h']
      have h1 := numL_lt x
      have h2 := numL_lt y
      rw [h'] at h2
      rw [Bool.eq_iff_iff]
      simp only [Bool.or_eq_true, Bool.and_eq_true, decide_eq_true_eq, beq_iff_eq]
      generalize (256 : Nat) ^ x.length = P at *
      rcases Nat.lt_trichotomy a.toNat b.toNat with hlt | heq | hgt
      · have : (a.toNat + 1) * P ≤ b.toNat * P := Nat.mul_le_mul_right P hlt
        rw [Nat.add_mul, Nat.one_mul] at this
        exact ⟨fun _ => by omega, fun _ => .inl (UInt8.lt_iff_toNat_lt.2 hlt)⟩
      · have hab : a = b := UInt8.toNat_inj.1 heq
        subst hab
        constructor
        · rintro (h | h)
          · exact absurd (UInt8.lt_iff_toNat_lt.1 h) (by omega)
          · omega
        · intro h
          exact .inr ⟨rfl, by omega⟩
      · have : (b.toNat + 1) * P ≤ a.toNat * P := Nat.mul_le_mul_right P hgt
        rw [Nat.add_mul, Nat.one_mul] at this
        constructor
        · rintro (h | h)
          · exact absurd (UInt8.lt_iff_toNat_lt.1 h) (by omega)
          · exact absurd h.1 (fun e => by rw [e] at hgt; omega)
        · intro h; omega
theorem less_bF (n m : Nat) (hn : n < 18446744073709551616) (hm : m < 18446744073709551616) : Op.bytesLess (bF 8 n) (bF 8 m) = decide (n < m) := by
  rw [less_num _ _ (by rw [bF_len, bF_len]), numL_bF, numL_bF]
  rw [Nat.mod_eq_of_lt hn, Nat.mod_eq_of_lt hm]
end Go.Proofs.Ytkfeejlpgcmilaa
