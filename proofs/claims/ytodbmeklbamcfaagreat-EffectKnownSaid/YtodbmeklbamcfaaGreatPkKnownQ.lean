/- A pack of texts: WdC, WdP -/
import Derived.Test.YtodbmeklbamcfaaGreatPkKnownP
import Derived.Lib.Strings
/- Registers as numbers and numbers as registers; bytes that are copied, compared, lent, written over. -/
namespace Go.Proofs.YtodbmeklbamcfaaGreat
open Go.RowKit Go.Rt

theorem bytesWorld_below (w : World) (e : TypeId) (s : ByteArray) : Below w.heap.size w (Lib.bytesWorld w e s) := by
  refine ⟨?_, ?_, ?_, by rw [Lib.bytesWorld_size]; omega, fun k hk => Lib.bytesWorld_at_old w e s k hk⟩ <;> simp [Lib.bytesWorld, World.freeze, World.alloc, World.drew, -World.alloc_eq, -World.drew_eq]

/-- The number that bytes say, the highest first. -/
def numL (bs : List UInt8) : Nat := bs.foldl (fun n c => n * 256 + c.toNat) 0
theorem numL_snoc (bs : List UInt8) (c : UInt8) : numL (bs ++ [c]) = numL bs * 256 + c.toNat := by simp [numL]
theorem foldl_num (b : List UInt8) : ∀ n, b.foldl (fun n c => n * 256 + c.toNat) n = n * 256 ^ b.length + numL b := by
  induction b with
  | nil => intro n; simp [numL]
  | cons c b ih =>
    intro n
    have h := ih (0 * 256 + c.toNat)
    simp only [List.foldl_cons, List.length_cons, numL] at h ⊢
    rw [h, ih, Nat.pow_succ, Nat.zero_mul, Nat.zero_add, Nat.add_mul, Nat.mul_assoc, Nat.mul_comm 256]
    unfold numL
    omega
theorem numL_append (a b : List UInt8) : numL (a ++ b) = numL a * 256 ^ b.length + numL b := by
  unfold numL; rw [List.foldl_append, foldl_num]; rfl
theorem numL_lt (b : List UInt8) : numL b < 256 ^ b.length := by
  rw [← List.reverse_reverse b]
  induction b.reverse with
  | nil => simp [numL]
  | cons c l ih =>
    rw [List.reverse_cons, numL_snoc, List.length_append, List.length_singleton, Nat.pow_succ]
    have := c.toNat_lt
    omega
/-- What a register says: its last eight bytes. -/
def num8 (bs : List UInt8) : Nat := numL (bs.drop (bs.length - 8))
theorem num8_mod (bs : List UInt8) : num8 bs = numL bs % 18446744073709551616 := by
  have h : numL bs = numL (bs.take (bs.length - 8)) * 256 ^ (bs.drop (bs.length - 8)).length + numL (bs.drop (bs.length - 8)) := by
    rw [← numL_append, List.take_append_drop]
  have hl : (bs.drop (bs.length - 8)).length = bs.length - (bs.length - 8) := List.length_drop
  have hlt := numL_lt (bs.drop (bs.length - 8))
  unfold num8
  by_cases h8 : 8 ≤ bs.length
  · rw [h]
    rw [show (bs.drop (bs.length - 8)).length = 8 by omega] at hlt ⊢
    rw [show (256 : Nat) ^ 8 = 18446744073709551616 by decide] at hlt ⊢
    omega
  · have h0 : bs.length - 8 = 0 := by omega
    rw [h0, List.drop_zero] at hlt ⊢
    have : (256 : Nat) ^ bs.length ≤ 256 ^ 8 := Nat.pow_le_pow_right (by omega) (by omega)
    rw [show (256 : Nat) ^ 8 = 18446744073709551616 by decide] at this
    rw [Nat.mod_eq_of_lt (by omega)]

theorem or_u64 (N : Nat) (c : UInt8) (hN : N < 72057594037927936) : bits BinOp.or IntKind.u64 ((N : Int) * 256) (c.toNat : Int) = ((N * 256 + c.toNat : Nat) : Int) := by
  have hc := c.toNat_lt
  have e1 : (BitVec.ofInt 64 ((N : Int) * 256)).toNat = N * 256 := by
    rw [show (N : Int) * 256 = ((N * 256 : Nat) : Int) by omega, BitVec.ofInt_natCast, BitVec.toNat_ofNat]; exact Nat.mod_eq_of_lt (by omega)
  have e2 : (BitVec.ofInt 64 (c.toNat : Int)).toNat = c.toNat := by
    rw [BitVec.ofInt_natCast, BitVec.toNat_ofNat]; exact Nat.mod_eq_of_lt (by omega)
  have e3 : N * 256 ||| c.toNat = N * 256 + c.toNat := by
    have := Nat.two_pow_add_eq_or_of_lt (i := 8) (b := c.toNat) (by omega) N
    rw [show (2 : Nat) ^ 8 = 256 by decide, Nat.mul_comm 256 N] at this
    exact this.symm
  show IntKind.u64.wrap ((BitVec.ofInt 64 ((N : Int) * 256) ||| BitVec.ofInt 64 (c.toNat : Int)).toNat : Int) = _
  rw [BitVec.toNat_or, e1, e2, e3, IntKind.wrap_u64]
  omega
theorem num_step (t : ByteArray) (j : Nat) (h : j < t.size) : numL (t.data.toList.take (j + 1)) = numL (t.data.toList.take j) * 256 + (t.data.toList.getD j 0).toNat := by
  rw [List.take_succ_eq_append_getElem (by simpa [strC_len] using h), numL_snoc]
  simp [List.getD, h]

set_option maxRecDepth 100000 in
theorem num_any (s : ByteArray) (hs : s.size ≤ 1000000000) (w : World) : Calls Tryz.prog 250 #[.string s] w fun e w' => e = .returned (.int .u64 (num8 s.data.toList)) ∧ Below w.heap.size w w' := by
  have hcv := fun (w : World) (s : ByteArray) => Lib.run_convert_string_bytes (P := Tryz.prog) w 9 30 5 s Tryz.underlying9 Tryz.underlying30 Tryz.underlying5
  obtain ⟨k, HK⟩ : ∃ k, Hid (k = s.size - 8) := ⟨_, rfl⟩
  have hk8 : k ≤ s.size ∧ s.size ≤ k + 8 := by have := HK.out; omega
  obtain ⟨hk1, hk2⟩ := hk8
  by_cases h8 : 8 ≤ s.size
  · have HC := fun (j : Nat) (hj : j < (s.extract k s.size).size) => Lib.bytesWorld_cell w 5 (s.extract k s.size) j hj
    have HB := bytesWorld_below w 5 (s.extract k s.size)
    have HE : Hid ((s.extract k s.size).data.toList = s.data.toList.drop (s.data.toList.length - 8)) := by
      show _ = _
      rw [Lib.extract_data, HK.out, strC_len, List.take_of_length_le (by simp)]
    have hk : (s.size : Int) - 8 = (k : Int) := by have := HK.out; omega
    have hk' : s.size - 8 = k := HK.out.symm
    go_enter Tryz.func250, Tryz.ntmps250
    go_wp2
    clear hk hk'
    have hL : Hid ((s.extract k s.size).size = s.size - k) := by show _ = _; simp
    generalize s.extract k s.size = t at HC HB HE hL ⊢
    have hL1 : t.size ≤ s.size - k ∧ s.size - k ≤ t.size := by have := hL.out; omega
    obtain ⟨hL1, hL2⟩ := hL1
    have HC' := Lib.hid HC
    clear HC hcv
    go_loop [3, 14] (fun x i => ∃ j : Nat, j ≤ t.size ∧ i = .int .i64 j ∧ x = .int .u64 (numL (t.data.toList.take j))) (fun _ i => t.size - (intOf i).toNat)
    case atStart => exact ⟨0, by omega, rfl, rfl⟩
    case round =>
      obtain ⟨j, hj, rfl, rfl⟩ := hrel
      by_cases hlt : j < t.size
      · have hN := numL_lt (t.data.toList.take j)
        have hcj := HC'.out j hlt
        have hN8 : numL (t.data.toList.take j) < 72057594037927936 := by
          have h1 : (256 : Nat) ^ (t.data.toList.take j).length ≤ 256 ^ 7 := Nat.pow_le_pow_right (by omega) (by rw [List.length_take]; omega)
          rw [show (256 : Nat) ^ 7 = 72057594037927936 by decide] at h1
          omega
        have hsn : Hid (numL (t.data.toList.take (j + 1)) = numL (t.data.toList.take j) * 256 + (t.data.toList.getD j 0).toNat) := num_step t j hlt
        clear hN
        generalize numL (t.data.toList.take j) = N at hN8 hsn ⊢
        generalize t.data.toList.getD j 0 = c at hcj hsn
        have hc := c.toNat_lt
        go_wp2
        exact ⟨⟨j + 1, by omega, by go_num, by rw [or_u64 N c hN8, hsn.out]⟩, by simp [intOf]; omega⟩
      · go_wp2
        go_ret
        refine ⟨?_, HB⟩
        have ej : j = t.size := by omega
        rw [ej, List.take_of_length_le (by rw [strC_len]; omega)]
        unfold num8
        rw [← HE.out]
        rfl
  · have HC' := Lib.hid fun (j : Nat) (hj : j < s.size) => Lib.bytesWorld_cell w 5 s j hj
    have HB := bytesWorld_below w 5 s
    have HE : Hid (s.data.toList = s.data.toList.drop (s.data.toList.length - 8)) := by
      show _ = _
      rw [strC_len, ← HK.out, show k = 0 by have := HK.out; omega]; rfl
    go_enter Tryz.func250, Tryz.ntmps250
    go_wp2
    clear hcv
    go_loop [3, 14] (fun x i => ∃ j : Nat, j ≤ s.size ∧ i = .int .i64 j ∧ x = .int .u64 (numL (s.data.toList.take j))) (fun _ i => s.size - (intOf i).toNat)
    case atStart => exact ⟨0, by omega, rfl, rfl⟩
    case round =>
      obtain ⟨j, hj, rfl, rfl⟩ := hrel
      by_cases hlt : j < s.size
      · have hN := numL_lt (s.data.toList.take j)
        have hcj := HC'.out j hlt
        have hN8 : numL (s.data.toList.take j) < 72057594037927936 := by
          have h1 : (256 : Nat) ^ (s.data.toList.take j).length ≤ 256 ^ 7 := Nat.pow_le_pow_right (by omega) (by rw [List.length_take]; omega)
          rw [show (256 : Nat) ^ 7 = 72057594037927936 by decide] at h1
          omega
        have hsn : Hid (numL (s.data.toList.take (j + 1)) = numL (s.data.toList.take j) * 256 + (s.data.toList.getD j 0).toNat) := num_step s j hlt
        clear hN
        generalize numL (s.data.toList.take j) = N at hN8 hsn ⊢
        generalize s.data.toList.getD j 0 = c at hcj hsn
        have hc := c.toNat_lt
        go_wp2
        exact ⟨⟨j + 1, by omega, by go_num, by rw [or_u64 N c hN8, hsn.out]⟩, by simp [intOf]; omega⟩
      · go_wp2
        go_ret
        refine ⟨?_, HB⟩
        have ej : j = s.size := by omega
        rw [ej, List.take_of_length_le (by rw [strC_len]; omega)]
        unfold num8
        rw [← HE.out]
        rfl

set_option maxRecDepth 100000 in
theorem xnum_any (s : ByteArray) (hs : s.size ≤ 1000000000) (w : World) : Calls Tryz.prog 204 #[.string s] w fun e w' => e = .returned (.int .u64 (num8 s.data.toList)) ∧ w = w' := by
  go_enter Tryz.func204, Tryz.ntmps204
  go_wp2
  go_loop [3, 4] (fun x i => ∃ j : Nat, j ≤ s.size ∧ i = .int .i64 j ∧ x = .int .u64 ((numL (s.data.toList.take j) % 18446744073709551616 : Nat) : Int)) (fun _ i => s.size - (intOf i).toNat)
  case atStart => exact ⟨0, by omega, rfl, rfl⟩
  case round =>
    obtain ⟨j, hj, rfl, rfl⟩ := hrel
    by_cases hlt : j < s.size
    · have hsn : Hid (numL (s.data.toList.take (j + 1)) = numL (s.data.toList.take j) * 256 + s[j].toNat) := (num_step s j hlt).trans (by simp [List.getD, hlt]; rfl)
      have hN : numL (s.data.toList.take j) % 18446744073709551616 < 18446744073709551616 := Nat.mod_lt _ (by omega)
      have hc := s[j].toNat_lt
      go_wp2
      refine ⟨⟨j + 1, by omega, by go_num, ?_⟩, by simp [intOf]; omega⟩
      rw [hsn.out, IntKind.wrap_u64, IntKind.wrap_u64]
      congr 1
      omega
    · go_wp2
      go_ret
      refine ⟨?_, rfl⟩
      rw [num8_mod]
      have ej : j = s.size := by omega
      rw [ej, List.take_of_length_le (by rw [strC_len]; omega)]
      rfl

theorem ba_append (a b : List UInt8) : (⟨a.toArray⟩ ++ ⟨b.toArray⟩ : ByteArray) = ⟨(a ++ b).toArray⟩ := by
  apply ByteArray.ext
  simp
/-- A number's last i bytes, the highest first. -/
def bF : Nat → Nat → List UInt8
  | 0, _ => []
  | i + 1, n => UInt8.ofNat (n / 256 ^ i) :: bF i n
theorem bF_len (i n : Nat) : (bF i n).length = i := by induction i with | zero => rfl | succ i ih => simp [bF, ih]

set_option maxRecDepth 100000 in
theorem xval_any (n : Nat) (hn : n < 18446744073709551616) (w : World) : Calls Tryz.prog 234 #[.int .u64 n] w fun e w' => e = .returned (.string ⟨(bF 8 n).toArray⟩) ∧ Below w.heap.size w w' := by
  go_enter Tryz.func234, Tryz.ntmps234
  go_wp2
  go_loopw [0, 3, 4] (fun x v i wc => ∃ j : Nat, j ≤ 8 ∧ i = .int .i64 j ∧ x = .int .u64 ((n / 256 ^ j : Nat) : Int) ∧ v = .string ⟨(bF j n).toArray⟩ ∧ Below w.heap.size w wc) (fun _ _ i _ => 8 - (intOf i).toNat)
  case atStart => exact ⟨0, by omega, rfl, by simp, rfl, Below.refl _ _⟩
  case round =>
    obtain ⟨j, hj, rfl, rfl, rfl, hb⟩ := hrel
    have hm : n / 256 ^ j < 18446744073709551616 := Nat.lt_of_le_of_lt (Nat.div_le_self _ _) hn
    by_cases hlt : j < 8
    · have hnn : Hid (n / 256 ^ (j + 1) = n / 256 ^ j / 256) := by show _ = _; rw [Nat.pow_succ, Nat.div_div_eq_div_mul]
      have hbf : Hid (bF (j + 1) n = UInt8.ofNat (n / 256 ^ j) :: bF j n) := rfl
      have hbl : (bF j n).length ≤ 8 := by rw [bF_len]; omega
      generalize n / 256 ^ j = m at hm hnn hbf ⊢
      generalize bF j n = bs at hbf hbl ⊢
      have hbm : Value.int .u8 ((m : Int) % 256) = B (UInt8.ofNat m) := by unfold B; rw [UInt8.toNat_ofNat']; congr 1
      have hcv : (convert 30 9 (.slice (some ⟨wr.heap.size, 0, none⟩) 1 1)).run Tryz.prog (wr.alloc (.cells #[.int .u8 ((m : Int) % 256)] 5)) = .ok (.string ⟨[UInt8.ofNat m].toArray⟩) (wr.alloc (.cells #[.int .u8 ((m : Int) % 256)] 5)) :=
        run_str 30 9 5 Tryz.underlying30 Tryz.underlying5 Tryz.underlying9 _ 1 1 [UInt8.ofNat m] rfl (by rw [hbm]; exact Rd.new wr #[B (UInt8.ofNat m)] 5)
      clear hbm
      go_wp2
      refine ⟨⟨j + 1, by omega, by go_num, by rw [hnn.out]; go_num, by rw [hbf.out, ba_append]; rfl, hb.alloc hb.size _⟩, by simp [intOf]; omega⟩
    · have ej : j = 8 := by omega
      subst ej
      go_wp2
      go_ret
      exact ⟨rfl, hb⟩

/-- The cells of Val's array behind j rounds. -/
def arrF (n j : Nat) : Array Value := ((List.range 8).map fun k => if k < j then B (UInt8.ofNat (n / 256 ^ (7 - k))) else .int .u8 0).toArray
theorem arrF_step (n j : Nat) (hj : j < 8) : (arrF n j).setIfInBounds j (B (UInt8.ofNat (n / 256 ^ (7 - j)))) = arrF n (j + 1) := by
  have : j = 0 ∨ j = 1 ∨ j = 2 ∨ j = 3 ∨ j = 4 ∨ j = 5 ∨ j = 6 ∨ j = 7 := by omega
  rcases this with rfl | rfl | rfl | rfl | rfl | rfl | rfl | rfl <;> rfl
theorem byte_shift (n j : Nat) (hj : j < 8) : Value.int .u8 ((n : Int) / 2 ^ (56 - 8 * j) % 256) = B (UInt8.ofNat (n / 256 ^ (7 - j))) := by
  unfold B
  rw [UInt8.toNat_ofNat']
  congr 1
  have : j = 0 ∨ j = 1 ∨ j = 2 ∨ j = 3 ∨ j = 4 ∨ j = 5 ∨ j = 6 ∨ j = 7 := by omega
  rcases this with rfl | rfl | rfl | rfl | rfl | rfl | rfl | rfl <;> simp
theorem arrF_end (n : Nat) : (arrF n 8).toList = (bF 8 n).map B := by simp [arrF, bF, List.range_succ]

set_option maxRecDepth 100000 in
theorem val_any (n : Nat) (_hn : n < 18446744073709551616) (w : World) : Calls Tryz.prog 249 #[.int .u64 n] w fun e w' => e = .returned (.string ⟨(bF 8 n).toArray⟩) ∧ Below w.heap.size w w' := by
  have H0 := (Sat.start w).alloc (arrF n 0) 272
  go_enter Tryz.func249, Tryz.ntmps249
  go_wp2
  go_loopw [4, 5] (fun _ i wc => ∃ j : Nat, j ≤ 8 ∧ i = .int .i64 j ∧ Sat w wc [pt w.heap.size (arrF n j) 272]) (fun _ i _ => 8 - (intOf i).toNat)
  case atStart => exact ⟨0, by omega, rfl, H0⟩
  case round =>
    obtain ⟨j, hj, rfl, H⟩ := hrel
    clear H0
    have hf := H.frz j
    by_cases hlt : j < 8
    · have hc : wr.cell? ⟨w.heap.size, j, none⟩ = some (.int .u8 0) := by
        rw [H.cell j]
        have : j = 0 ∨ j = 1 ∨ j = 2 ∨ j = 3 ∨ j = 4 ∨ j = 5 ∨ j = 6 ∨ j = 7 := by omega
        rcases this with rfl | rfl | rfl | rfl | rfl | rfl | rfl | rfl <;> rfl
      go_wp2
      refine ⟨⟨j + 1, by omega, by go_num, ?_⟩, by simp [intOf]; omega⟩
      rw [byte_shift n j hlt, ← arrF_step n j hlt]
      exact H.setCell j _
    · have ej : j = 8 := by omega
      subst ej
      have hcv : (convert 30 9 (.slice (some ⟨w.heap.size, 0, none⟩) 8 8)).run Tryz.prog wr = .ok (.string ⟨(bF 8 n).toArray⟩) wr :=
        run_str 30 9 5 Tryz.underlying30 Tryz.underlying5 Tryz.underlying9 _ 8 8 (bF 8 n) (bF_len 8 n) (by
          rw [← arrF_end]
          intro k u hu
          exact ⟨_, _, rfl, by rw [Nat.zero_add, H.cell k, ← Array.getElem?_toList]; exact hu⟩)
      go_wp2
      go_ret
      exact ⟨rfl, H.bel⟩

set_option maxRecDepth 100000 in
/-- Bytes that are compared as texts. -/
theorem same_any (A A' : Option Addr) (c c' : Nat) (xs ys : List UInt8) (w : World) (hx : Rd w A (xs.map B)) (hy : Rd w A' (ys.map B)) :
    Calls Tryz.prog 19 #[.slice A xs.length c, .slice A' ys.length c'] w fun e w' => e = .returned (.bool (xs == ys)) ∧ w = w' := by
  have h1 := run_str (P := Tryz.prog) (w := w) 30 9 5 Tryz.underlying30 Tryz.underlying5 Tryz.underlying9 A xs.length c xs rfl hx
  have h2 := run_str (P := Tryz.prog) (w := w) 30 9 5 Tryz.underlying30 Tryz.underlying5 Tryz.underlying9 A' ys.length c' ys rfl hy
  go_enter Tryz.func19, Tryz.ntmps19
  go_wp2
  go_ret
  exact ⟨rfl, rfl⟩

set_option maxRecDepth 100000 in
/-- Every byte of a list is written over, the spare room too: what it is made of stays bytes. -/
theorem over_any {W w : World} {l : List SL} (A : Option Addr) (c : Nat) (xs : List UInt8) (H : Sat W w (row 5 zB (.slice A xs.length c) xs.length (xs.map B) :: l)) :
    Calls Tryz.prog 24 #[.slice A xs.length c] w fun e w' => e = .returned (.tuple #[]) ∧ ∃ ys, Sat W w' (row 5 zB (.slice A xs.length c) xs.length ys :: l) := by
  go_enter Tryz.func24, Tryz.ntmps24
  obtain ⟨_, A0, c0, hv, hnc, hcm, hA0, _⟩ := H.slice
  cases hv
  unfold maxLen at hcm
  go_wp2
  go_loopw [3] (fun i wc => ∃ (j : Nat) (ys : List Value), j ≤ c ∧ i = .int .i64 j ∧ Sat W wc (row 5 zB (.slice A xs.length c) xs.length ys :: l)) (fun i _ => c - (intOf i).toNat)
  case atStart => exact ⟨0, _, by omega, rfl, H⟩
  case round =>
    obtain ⟨j, ys, hj, rfl, H'⟩ := hrel
    by_cases hlt : j < c
    · cases A with
      | none => have := (hA0 rfl).1; omega
      | some ad =>
        obtain ⟨_, A1, c1, hv, _, _, _, hA1⟩ := H'.slice
        cases hv
        obtain ⟨h0, hsp, _, _⟩ := hA1 ad rfl
        obtain ⟨g, off, sp⟩ := ad
        dsimp only at h0 hsp
        subst h0 hsp
        obtain ⟨u, hu, hk⟩ := H'.row_at j (by simpa using hlt)
        have hf := H'.row_frz j
        obtain ⟨x, rfl⟩ : ∃ x, u = .int .u8 x := by
          cases u <;> simp [like, Nat.mod_one] at hk
          subst hk; exact ⟨_, rfl⟩
        clear hA0 hA1 hk
        go_wp2
        exact ⟨⟨j + 1, _, by omega, by go_num, H'.row_set j _ (zB_at _ _)⟩, by simp [intOf]; omega⟩
    · go_wp2
      go_end0
      exact ⟨rfl, ys, H'⟩
end Go.Proofs.YtodbmeklbamcfaaGreat

/- Bits that a number is put together of. No program in sight. -/
namespace Go.Proofs.YtodbmeklbamcfaaGreat
open Go.RowKit Go.Rt

theorem and_u8 (a b : Nat) (ha : a < 256) (hb : b < 256) : bits .and .u8 (a : Int) (b : Int) = ((a &&& b : Nat) : Int) := by
  have e1 : ∀ x : Nat, x < 256 → (BitVec.ofInt 8 (x : Int)).toNat = x := fun x hx => by
    rw [BitVec.ofInt_natCast, BitVec.toNat_ofNat]; exact Nat.mod_eq_of_lt (by omega)
  have hx : a &&& b < 2 ^ 8 := Nat.and_lt_two_pow _ (by omega)
  show IntKind.u8.wrap ((BitVec.ofInt 8 (a : Int) &&& BitVec.ofInt 8 (b : Int)).toNat : Int) = _
  rw [BitVec.toNat_and, e1 a ha, e1 b hb, IntKind.wrap_u8]
  omega
theorem acc_lt (acc x j : Nat) (h : acc < 128 ^ j) (hx : x < 128) : acc + x * 128 ^ j < 128 ^ (j + 1) := by
  have h1 : x * 128 ^ j ≤ 127 * 128 ^ j := Nat.mul_le_mul_right _ (by omega)
  rw [Nat.pow_succ]
  omega
theorem acc_step (acc : Nat) (b : UInt8) (j : Nat) (hj : j ≤ 8) (h : acc < 128 ^ j) :
    bits BinOp.or IntKind.i64 (acc : Int) (wrap64 (wrap64 (bits BinOp.and IntKind.u8 (b.toNat : Int) 127) * 2 ^ (7 * j))) = ((acc + (b.toNat % 128) * 128 ^ j : Nat) : Int) := by
  have hb := b.toNat_lt
  have h1 := and_u8 b.toNat 127 (by omega) (by omega)
  rw [show ((127 : Nat) : Int) = 127 from rfl, and127] at h1
  rw [h1]
  clear h1
  have hm : b.toNat % 128 < 128 := Nat.mod_lt _ (by omega)
  generalize b.toNat % 128 = x at hm
  have hlt := acc_lt acc x j h hm
  have hp : (128 : Nat) ^ (j + 1) ≤ 9223372036854775808 := by
    have : (128 : Nat) ^ (j + 1) ≤ 128 ^ 9 := Nat.pow_le_pow_right (by omega) (by omega)
    rwa [show (128 : Nat) ^ 9 = 9223372036854775808 by decide] at this
  have hs : acc + x * 128 ^ j < 9223372036854775808 := Nat.lt_of_lt_of_le hlt hp
  clear hlt hp
  have e2 : (128 : Nat) ^ j = 2 ^ (7 * j) := by rw [Nat.pow_mul]
  have h3 := Nat.two_pow_add_eq_or_of_lt (i := 7 * j) (b := acc) (by rw [← e2]; exact h) x
  have e3 : (x : Int) * 2 ^ (7 * j) = ((x * 128 ^ j : Nat) : Int) := by rw [e2]; simp
  rw [← e2, Nat.mul_comm, Nat.or_comm] at h3
  clear h
  have w1 : wrap64 (x : Int) = (x : Int) := by unfold wrap64; omega
  rw [w1, e3]
  clear e3 e2 w1
  generalize x * 128 ^ j = y at *
  have w2 : wrap64 (y : Int) = (y : Int) := by unfold wrap64; omega
  rw [w2, or_i64 acc y (by omega) (by omega)]
  congr 1
  omega

end Go.Proofs.YtodbmeklbamcfaaGreat
