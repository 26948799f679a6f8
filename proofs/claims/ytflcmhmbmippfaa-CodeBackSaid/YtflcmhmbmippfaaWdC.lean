/- Registers as numbers and numbers as registers; bytes that are copied, compared, lent, written over. -/
import Derived.Test.YtflcmhmbmippfaaWdB
import Derived.Lib.Strings
namespace Go.Proofs.Ytflcmhmbmippfaa
open Go.RowKit Go.Rt

theorem bytesWorld_below (w : World) (e : TypeId) (s : ByteArray) : Below w.heap.size w (Lib.bytesWorld w e s) := by
  refine ⟨?_, ?_, ?_, by rw [Lib.bytesWorld_size]; omega, fun k hk => Lib.bytesWorld_at_old w e s k hk⟩ <;> simp [Lib.bytesWorld, World.freeze, World.alloc, World.drew, -World.alloc_eq, -World.drew_eq]

/-- The number that bytes say, the highest first. -/
def numL (bs : List UInt8) : Nat := bs.foldl (fun n c => n * 256 + c.toNat) 0
theorem numL_snoc (bs : List UInt8) (c : UInt8) : numL (bs ++ [c]) = numL bs * 256 + c.toNat := by simp [numL]
theorem foldl_num (b : List UInt8) : ∀ n, b.foldl (fun n c => n * 256 + c.toNat) n = n * 256 ^ b.length + numL b := by
  induction b with
  | nil => intro n; simp [numL]
  | cons c b ih =>
    intro n
    have h := ih (0 * 256 + c.toNat)
    simp only [List.foldl_cons, List.length_cons, numL] at h ⊢
    rw [h, ih, Nat.pow_succ, Nat.zero_mul, Nat.zero_add, Nat.add_mul, Nat.mul_assoc, Nat.mul_comm 256]
    unfold numL
    omega
theorem numL_append (a b : List UInt8) : numL (a ++ b) = numL a * 256 ^ b.length + numL b := by
  unfold numL; rw [List.foldl_append, foldl_num]; rfl
theorem numL_lt (b : List UInt8) : numL b < 256 ^ b.length := by
  rw [← List.reverse_reverse b]
  induction b.reverse with
  | nil => simp [numL]
  | cons c l ih =>
    rw [List.reverse_cons, numL_snoc, List.length_append, List.length_singleton, Nat.pow_succ]
    have := c.toNat_lt
    omega
/-- What a register says: its last eight bytes. -/
def num8 (bs : List UInt8) : Nat := numL (bs.drop (bs.length - 8))
theorem num8_mod (bs : List UInt8) : num8 bs = numL bs % 18446744073709551616 := by
  have h : numL bs = numL (bs.take (bs.length - 8)) * 256 ^ (bs.drop (bs.length - 8)).length + numL (bs.drop (bs.length - 8)) := by
    rw [← numL_append, List.take_append_drop]
  have hl : (bs.drop (bs.length - 8)).length = bs.length - (bs.length - 8) := List.length_drop
  have hlt := numL_lt (bs.drop (bs.length - 8))
  unfold num8
  by_cases h8 : 8 ≤ bs.length
  · rw [h]
    rw [show (bs.drop (bs.length - 8)).length = 8 by omega] at hlt ⊢
    rw [show (256 : Nat) ^ 8 = 18446744073709551616 by decide] at hlt ⊢
    omega
  · have h0 : bs.length - 8 = 0 := by omega
    rw [h0, List.drop_zero] at hlt ⊢
    have : (256 : Nat) ^ bs.length ≤ 256 ^ 8 := Nat.pow_le_pow_right (by omega) (by omega)
    rw [show (256 : Nat) ^ 8 = 18446744073709551616 by decide] at this
    rw [Nat.mod_eq_of_lt (by omega)]

theorem or_u64 (N : Nat) (c : UInt8) (hN : N < 72057594037927936) : bits BinOp.or IntKind.u64 ((N : Int) * 256) (c.toNat : Int) = ((N * 256 + c.toNat : Nat) : Int) := by
  have hc := c.toNat_lt
  have e1 : (BitVec.ofInt 64 ((N : Int) * 256)).toNat = N * 256 := by
    rw [show (N : Int) * 256 = ((N * 256 : Nat) : Int) by omega, BitVec.ofInt_natCast, BitVec.toNat_ofNat]; exact Nat.mod_eq_of_lt (by omega)
  have e2 : (BitVec.ofInt 64 (c.toNat : Int)).toNat = c.toNat := by
    rw [BitVec.ofInt_natCast, BitVec.toNat_ofNat]; exact Nat.mod_eq_of_lt (by omega)
  have e3 : N * 256 ||| c.toNat = N * 256 + c.toNat := by
    have := Nat.two_pow_add_eq_or_of_lt (i := 8) (b := c.toNat) (by omega) N
    rw [show (2 : Nat) ^ 8 = 256 by decide, Nat.mul_comm 256 N] at this
    exact this.symm
  show IntKind.u64.wrap ((BitVec.ofInt 64 ((N : Int) * 256) ||| BitVec.ofInt 64 (c.toNat : Int)).toNat : Int) = _
  rw [BitVec.toNat_or, e1, e2, e3, IntKind.wrap_u64]
  omega
theorem num_step (t : ByteArray) (j : Nat) (h : j < t.size) : numL (t.data.toList.take (j + 1)) = numL (t.data.toList.take j) * 256 + (t.data.toList.getD j 0).toNat := by
  rw [List.take_succ_eq_append_getElem (by simpa [strC_len] using h), numL_snoc]
  simp [List.getD, h]

theorem ba_append (a b : List UInt8) : (⟨a.toArray⟩ ++ ⟨b.toArray⟩ : ByteArray) = ⟨(a ++ b).toArray⟩ := by
  apply ByteArray.ext
  simp
/-- A number's last i bytes, the highest first. -/
def bF : Nat → Nat → List UInt8
  | 0, _ => []
  | i + 1, n => UInt8.ofNat (n / 256 ^ i) :: bF i n
theorem bF_len (i n : Nat) : (bF i n).length = i := by induction i with | zero => rfl | succ i ih => simp [bF, ih]

/-- The cells of Val's array behind j rounds. -/
def arrF (n j : Nat) : Array Value := ((List.range 8).map fun k => if k < j then B (UInt8.ofNat (n / 256 ^ (7 - k))) else .int .u8 0).toArray
theorem arrF_step (n j : Nat) (hj : j < 8) : (arrF n j).setIfInBounds j (B (UInt8.ofNat (n / 256 ^ (7 - j)))) = arrF n (j + 1) := by
  have : j = 0 ∨ j = 1 ∨ j = 2 ∨ j = 3 ∨ j = 4 ∨ j = 5 ∨ j = 6 ∨ j = 7 := by omega
  rcases this with rfl | rfl | rfl | rfl | rfl | rfl | rfl | rfl <;> rfl
theorem byte_shift (n j : Nat) (hj : j < 8) : Value.int .u8 ((n : Int) / 2 ^ (56 - 8 * j) % 256) = B (UInt8.ofNat (n / 256 ^ (7 - j))) := by
  unfold B
  rw [UInt8.toNat_ofNat']
  congr 1
  have : j = 0 ∨ j = 1 ∨ j = 2 ∨ j = 3 ∨ j = 4 ∨ j = 5 ∨ j = 6 ∨ j = 7 := by omega
  rcases this with rfl | rfl | rfl | rfl | rfl | rfl | rfl | rfl <;> simp
theorem arrF_end (n : Nat) : (arrF n 8).toList = (bF 8 n).map B := by simp [arrF, bF, List.range_succ]

set_option maxRecDepth 100000 in
/-- Bytes that are compared as texts. -/
theorem same_any (A A' : Option Addr) (c c' : Nat) (xs ys : List UInt8) (w : World) (hx : Rd w A (xs.map B)) (hy : Rd w A' (ys.map B)) :
    Calls Try.prog 18 #[.slice A xs.length c, .slice A' ys.length c'] w fun e w' => e = .returned (.bool (xs == ys)) ∧ w = w' := by
  have h1 := run_str (P := Try.prog) (w := w) 22 9 5 Try.underlying22 Try.underlying5 Try.underlying9 A xs.length c xs rfl hx
  have h2 := run_str (P := Try.prog) (w := w) 22 9 5 Try.underlying22 Try.underlying5 Try.underlying9 A' ys.length c' ys rfl hy
  go_enter Try.func18, Try.ntmps18
  go_wp2
  go_ret
  exact ⟨rfl, rfl⟩

set_option maxRecDepth 100000 in
theorem copy_any {W w : World} {l : List SL} (A : Option Addr) (c : Nat) (xs : List UInt8) (hx : Rd w A (xs.map B)) (hb : xs.length ≤ 1000000000) (H : Sat W w l) :
    Calls Try.prog 26 #[.slice A xs.length c] w fun e w' => ∃ A' c', e = .returned (.slice A' xs.length c') ∧ Sat W w' (row 5 zB (.slice A' xs.length c') xs.length (xs.map B) :: l) := by
  obtain ⟨i0, hi, hz0, hz1, hz2⟩ := info_parts infoU8
  go_enter Try.func26, Try.ntmps26
  go_wp2_with (first
    | (at_builtin
       refine wpList_append_sl rfl (.tmp 3) (.tmp 4) 22 rfl 5 i0 (.int .u8 0) zB 1 Try.underlying22 hi hz0 rfl hz1 hz2 (by simp) zB_like _ 0 [] rfl (H.made #[] 5 zB 0 0 (by omega) (by unfold maxLen; omega) rfl (Typed.nil _)) A xs.length c (xs.map B) rfl (by simp) (hx.below ((Below.refl _ _).alloc (Nat.le_refl _) _)) (B_one xs) (Typed.bytes xs) (by unfold maxLen; omega) (by omega) ?_
       intro A2 c2 w2 H2))
  go_ret
  refine ⟨A2, c2, by simp, ?_⟩
  simpa using H2

set_option maxRecDepth 100000 in
/-- Every byte of a list is written over, the spare room too: what it is made of stays bytes. -/
theorem over_any {W w : World} {l : List SL} (A : Option Addr) (c : Nat) (xs : List UInt8) (H : Sat W w (row 5 zB (.slice A xs.length c) xs.length (xs.map B) :: l)) :
    Calls Try.prog 23 #[.slice A xs.length c] w fun e w' => e = .returned (.tuple #[]) ∧ ∃ ys, Sat W w' (row 5 zB (.slice A xs.length c) xs.length ys :: l) := by
  go_enter Try.func23, Try.ntmps23
  obtain ⟨_, A0, c0, hv, hnc, hcm, hA0, _⟩ := H.slice
  cases hv
  unfold maxLen at hcm
  go_wp2
  go_loopw [3] (fun i wc => ∃ (j : Nat) (ys : List Value), j ≤ c ∧ i = .int .i64 j ∧ Sat W wc (row 5 zB (.slice A xs.length c) xs.length ys :: l)) (fun i _ => c - (intOf i).toNat)
  case atStart => exact ⟨0, _, by omega, rfl, H⟩
  case round =>
    obtain ⟨j, ys, hj, rfl, H'⟩ := hrel
    by_cases hlt : j < c
    · cases A with
      | none => have := (hA0 rfl).1; omega
      | some ad =>
        obtain ⟨_, A1, c1, hv, _, _, _, hA1⟩ := H'.slice
        cases hv
        obtain ⟨h0, hsp, _, _⟩ := hA1 ad rfl
        obtain ⟨g, off, sp⟩ := ad
        dsimp only at h0 hsp
        subst h0 hsp
        obtain ⟨u, hu, hk⟩ := H'.row_at j (by simpa using hlt)
        have hf := H'.row_frz j
        obtain ⟨x, rfl⟩ : ∃ x, u = .int .u8 x := by
          cases u <;> simp [like, Nat.mod_one] at hk
          subst hk; exact ⟨_, rfl⟩
        clear hA0 hA1 hk
        go_wp2
        exact ⟨⟨j + 1, _, by omega, by go_num, H'.row_set j _ (zB_at _ _)⟩, by simp [intOf]; omega⟩
    · go_wp2
      go_end0
      exact ⟨rfl, ys, H'⟩
end Go.Proofs.Ytflcmhmbmippfaa
