/- A pack of texts: WdA, WdB -/
import Derived.Test.YtodbmeklbamcfaaGreatProg
import Derived.Test.YtodbmeklbamcfaaGreatPkKnownE
import Derived.WalkLawsBesides
import Derived.WalkSpells
import Derived.BigQuiet
import Derived.Deep.QuietTactic
import Derived.Deep.LoopGhost
import Derived.Deep.DeepFit
import Derived.Deep.RegionLaw
import Derived.Laws.BytesArg
/- Package word's writer, function by function: what each call answers, and what becomes of the writer's bytes. -/
namespace Go.Proofs.YtodbmeklbamcfaaGreat
open Go.RowKit Go.Rt

theorem infoU8 : (Tryz.prog.info? 5).map (fun i => (i.zero, i.size, i.bytes)) = some (some (.int .u8 0), 1, 1) := by kernel_rfl

/-- A byte as a cell. -/
def B (b : UInt8) : Value := .int .u8 (b.toNat : Int)
theorem B_one (bs : List UInt8) : ∀ u ∈ bs.map B, u.oneCell' = true := by
  intro u hu
  simp only [List.mem_map] at hu
  obtain ⟨b, _, rfl⟩ := hu
  rfl

theorem nums_bytes (bs : List UInt8) : (bs.map fun b => (b.toNat : Int)).map (fun n => UInt8.ofNat n.toNat) = bs := by
  rw [List.map_map]
  induction bs with
  | nil => rfl
  | cons b l ih => rw [List.map_cons, ih]; simp
/-- Bytes as a string. -/
theorem run_str {P : Program} {w : World} (src dst e : TypeId) (hs : P.underlying src = some (.slice e)) (he : P.underlying e = some (.int .u8)) (hd : P.underlying dst = some .string)
    (A : Option Addr) (n c : Nat) (bs : List UInt8) (hn : bs.length = n) (hr : Rd w A (bs.map B)) : (convert src dst (.slice A n c)).run P w = .ok (.string ⟨bs.toArray⟩) w := by
  subst hn
  cases A with
  | none =>
    have : bs = [] := by
      cases bs with
      | nil => rfl
      | cons b l => obtain ⟨_, _, h⟩ := hr.open (by simp); cases h
    subst this
    exact run_convert_bytes_nil (P := P) (w := w) src e hs he 0 c dst hd
  | some ad =>
    rw [run_convert_bytes_string w src dst e _ _ c hs he hd]
    have hl : (loadCells ad bs.length).run P w = .ok ((bs.map fun b => (b.toNat : Int)).map (Value.int .u8)).toArray w := by
      have := run_loadCells_list (P := P) w ad (bs.map B) (fun j v hj => by
        obtain ⟨b, o, h1, h2⟩ := hr j v hj
        cases h1
        have hplain : (⟨b, o, none⟩ : Addr).add j = ⟨b, o + j, none⟩ := by unfold Addr.add; split <;> simp_all
        rw [hplain]; exact h2)
      have e1 : (bs.map fun b => (b.toNat : Int)).map (Value.int .u8) = bs.map B := by simp [B]
      rw [e1]
      simpa using this
    rw [run_bytesToString w _ _ c _ hl, foldl_push_bytes, nums_bytes]
    simp [ByteArray.empty, ByteArray.emptyWithCapacity]
    rfl

/-- A number by sevens, at most k of them. -/
def sevF : Nat → Nat → List UInt8
  | 0, _ => []
  | k + 1, n => if n < 128 then [UInt8.ofNat n] else UInt8.ofNat (n % 128 + 128) :: sevF k (n / 128)
def sev (n : Nat) : List UInt8 := sevF 9 n

theorem sevF_len (k n : Nat) : (sevF k n).length ≤ k := by
  induction k generalizing n with
  | zero => simp [sevF]
  | succ k ih => unfold sevF; split; simp; have := ih (n / 128); simp; omega

theorem ofInt_i64 (a : Nat) (ha : a < 9223372036854775808) : (BitVec.ofInt 64 (a : Int)).toNat = a := by
  rw [BitVec.ofInt_natCast, BitVec.toNat_ofNat]; exact Nat.mod_eq_of_lt (by omega)
theorem and_i64 (a b : Nat) (ha : a < 9223372036854775808) (hb : b < 9223372036854775808) : bits .and .i64 (a : Int) (b : Int) = ((a &&& b : Nat) : Int) := by
  have hx : a &&& b < 2 ^ 63 := Nat.and_lt_two_pow _ (by omega)
  show IntKind.i64.wrap ((BitVec.ofInt 64 (a : Int) &&& BitVec.ofInt 64 (b : Int)).toNat : Int) = _
  rw [BitVec.toNat_and, ofInt_i64 a ha, ofInt_i64 b hb, IntKind.wrap_i64]
  omega
theorem or_i64 (a b : Nat) (ha : a < 9223372036854775808) (hb : b < 9223372036854775808) : bits .or .i64 (a : Int) (b : Int) = ((a ||| b : Nat) : Int) := by
  have hx : a ||| b < 2 ^ 63 := Nat.or_lt_two_pow (by omega) (by omega)
  show IntKind.i64.wrap ((BitVec.ofInt 64 (a : Int) ||| BitVec.ofInt 64 (b : Int)).toNat : Int) = _
  rw [BitVec.toNat_or, ofInt_i64 a ha, ofInt_i64 b hb, IntKind.wrap_i64]
  omega
theorem and127 (m : Nat) : m &&& 127 = m % 128 := Nat.and_two_pow_sub_one_eq_mod m 7
theorem or128 : ∀ x, x < 128 → x ||| 128 = x + 128 := by decide
theorem byte_more (m : Nat) (hm : m < 9223372036854775808) : bits BinOp.or IntKind.i64 (bits BinOp.and IntKind.i64 (m : Int) 127) 128 % 256 = ((UInt8.ofNat (m % 128 + 128)).toNat : Int) := by
  have h1 := and_i64 m 127 hm (by omega)
  rw [show ((127 : Nat) : Int) = 127 from rfl] at h1
  rw [h1, and127]
  have h2 := or_i64 (m % 128) 128 (by omega) (by omega)
  rw [show ((128 : Nat) : Int) = 128 from rfl] at h2
  rw [h2, or128 _ (by omega), UInt8.toNat_ofNat']
  omega
theorem byte_last (m : Nat) (hm : m < 128) : Value.int .u8 (m : Int) = B (UInt8.ofNat m) := by
  unfold B; rw [UInt8.toNat_ofNat']; congr 1; omega
theorem sevF_more (k m : Nat) (hm : 128 ≤ m) : sevF (k + 1) m = UInt8.ofNat (m % 128 + 128) :: sevF k (m / 128) := by
  have h : ¬ m < 128 := by omega
  simp only [sevF, if_neg h]
theorem sevF_last (k m : Nat) (hm : m < 128) : sevF (k + 1) m = [UInt8.ofNat m] := by
  simp only [sevF, if_pos hm]

/-- A writer: its block, its bytes, whether a number below 0 was to be written. -/
def wr (p : Nat) (bs : List UInt8) (bad : Bool) : SL := ex fun Ac : Option Addr × Nat =>
  sep (pt p #[.bool true, .slice Ac.1 bs.length Ac.2, .int .i64 (if bad then 5 else 0), .int .i64 0] 154) (row 5 zB (.slice Ac.1 bs.length Ac.2) bs.length (bs.map B))
theorem wr_open {W w : World} {l : List SL} {p : Nat} {bs : List UInt8} {bad : Bool} (H : Sat W w (wr p bs bad :: l)) :
    ∃ A c, Sat W w (pt p #[.bool true, .slice A bs.length c, .int .i64 (if bad then 5 else 0), .int .i64 0] 154 :: row 5 zB (.slice A bs.length c) bs.length (bs.map B) :: l) :=
  let ⟨Ac, h⟩ := Sat.ex H; ⟨Ac.1, Ac.2, h.sep⟩
theorem wr_shut {W w : World} {l : List SL} {p : Nat} {bs : List UInt8} {bad : Bool} {A : Option Addr} {c : Nat}
    (H : Sat W w (pt p #[.bool true, .slice A bs.length c, .int .i64 (if bad then 5 else 0), .int .i64 0] 154 :: row 5 zB (.slice A bs.length c) bs.length (bs.map B) :: l)) : Sat W w (wr p bs bad :: l) :=
  Sat.unex (A := fun Ac : Option Addr × Nat => sep (pt p #[.bool true, .slice Ac.1 bs.length Ac.2, .int .i64 (if bad then 5 else 0), .int .i64 0] 154) (row 5 zB (.slice Ac.1 bs.length Ac.2) bs.length (bs.map B))) (A, c) H.unsep

set_option maxRecDepth 100000 in
theorem none_any (b o : Nat) (made : Bool) (w : World) (hc : w.cell? ⟨b, o, none⟩ = some (.bool made)) :
    Calls Tryz.prog 158 #[.pointer (some ⟨b, o, none⟩)] w fun e w' => e = .returned (.bool (!made)) ∧ w = w' := by
  go_enter Tryz.func158, Tryz.ntmps158
  go_wp2
  go_ret
  exact ⟨rfl, rfl⟩

set_option maxRecDepth 100000 in
theorem absent_any (b o : Nat) (made : Bool) (w : World) (hc : w.cell? ⟨b, o, none⟩ = some (.bool made)) :
    Calls Tryz.prog 115 #[.pointer (some ⟨b, o, none⟩)] w fun e w' => e = .returned (.bool (!made)) ∧ w = w' := by
  go_enter Tryz.func115, Tryz.ntmps115
  go_wp2_with (go_at_call 158; refine (none_any _ _ made _ hc).mono ?_; rintro e w' ⟨rfl, rfl⟩)
  go_ret
  exact ⟨rfl, rfl⟩

set_option maxRecDepth 100000 in
theorem absent_nil (w : World) :
    Calls Tryz.prog 115 #[.pointer none] w fun e w' => e = .returned (.bool true) ∧ w = w' := by
  go_enter Tryz.func115, Tryz.ntmps115
  go_wp2
  go_ret
  exact ⟨rfl, rfl⟩

set_option maxRecDepth 100000 in
theorem new_any {W w : World} {l : List SL} (H : Sat W w l) :
    Calls Tryz.prog 63 #[] w fun e w' => e = .returned (.pointer (some ⟨w.heap.size, 0, none⟩)) ∧ Sat W w' (wr w.heap.size [] false :: l) := by
  go_enter Tryz.func63, Tryz.ntmps63
  go_wp2
  go_ret
  exact ⟨rfl, wr_shut (((H.alloc _ _).nil 5 zB).swap)⟩

set_option maxRecDepth 100000 in
theorem wInt_any {W w : World} {l : List SL} {p : Nat} {bs : List UInt8} {bad : Bool} (n : Nat) (hn : n < 9223372036854775808) (hb : bs.length ≤ 1000000000) (H : Sat W w (wr p bs bad :: l)) :
    Calls Tryz.prog 64 #[.pointer (some ⟨p, 0, none⟩), .int .i64 n] w fun e w' => e = .returned (.tuple #[]) ∧ Sat W w' (wr p (bs ++ sev n) bad :: l) := by
  obtain ⟨i0, hi, hz0, hz1, hz2⟩ := info_parts infoU8
  obtain ⟨A, c, H⟩ := wr_open H
  have hc0 : w.cell? ⟨p, 0, none⟩ = some (.bool true) := H.cell 0
  have hneg : decide ((n : Int) < 0) = false := by simp
  go_enter Tryz.func64, Tryz.ntmps64
  go_wp2_with (go_at_call 115; refine (absent_any _ _ true _ hc0).mono ?_; rintro e w' ⟨rfl, rfl⟩)
  go_loopw [1] (fun x wc => ∃ (m k : Nat) (cs : List UInt8) (A' : Option Addr) (c' : Nat), x = .int .i64 m ∧ m < 128 ^ k ∧ 1 ≤ k ∧ k ≤ 9 ∧ cs.length + k ≤ bs.length + 9 ∧ Hid (bs ++ sev n = cs ++ sevF k m) ∧
      Sat W wc (pt p #[.bool true, .slice A' cs.length c', .int .i64 (if bad then 5 else 0), .int .i64 0] 154 :: row 5 zB (.slice A' cs.length c') cs.length (cs.map B) :: l)) (fun x _ => (intOf x).toNat)
  case atStart => exact ⟨n, 9, bs, A, c, rfl, by omega, by omega, by omega, by simp, rfl, H⟩
  case round =>
    obtain ⟨m, k, cs, A', c', rfl, hm, hk1, hk, hpk, HS, H'⟩ := hrel
    clear hc0
    have hc1 := H'.cell 1
    have hf1 := H'.frz 1
    by_cases hm7 : (127 : Int) < (m : Int)
    · have hmb : m < 9223372036854775808 := by
        have h1 : (128 : Nat) ^ k ≤ 128 ^ 9 := Nat.pow_le_pow_right (by omega) hk
        have h2 : (128 : Nat) ^ 9 = 9223372036854775808 := by decide
        omega
      obtain ⟨b, hby, HB⟩ : ∃ b : UInt8, bits BinOp.or IntKind.i64 (bits BinOp.and IntKind.i64 (m : Int) 127) 128 % 256 = (b.toNat : Int) ∧ Hid (b = UInt8.ofNat (m % 128 + 128)) := ⟨_, byte_more m hmb, rfl⟩
      go_wp2_with (at_builtin
                   refine wpList_append_sl rfl (.tmp 22) (.tmp 27) 30 rfl 5 i0 (.int .u8 0) zB 1 Tryz.underlying30 hi hz0 rfl hz1 hz2 (by simp) zB_like _ cs.length _ rfl (H'.swap.alloc' _) (some ⟨wr.heap.size, 0, none⟩) 1 1 [B b] rfl rfl (Rd.new wr #[B b] 5) (B_one [b]) (Typed.bytes [b]) (by unfold maxLen; omega) (by omega) ?_
                   intro A2 c2 w2 H2
                   have hc2 : w2.cell? ⟨p, 1, none⟩ = some (.slice A' cs.length c') := H2.swap.cell 1
                   have hf2 := H2.swap.frz 1)
      obtain ⟨k', rfl⟩ : ∃ k', k = k' + 2 := ⟨k - 2, by have : k ≠ 1 := by { rintro rfl; omega }; omega⟩
      refine ⟨⟨m / 128, k' + 1, cs ++ [b], A2, c2, rfl, ?_, by omega, by omega, by simp; omega, ?_, ?_⟩, by simp [intOf]; omega⟩
      · rw [Nat.pow_succ] at hm; omega
      · show _ = _
        rw [HS.out, sevF_more (k' + 1) m (by omega), HB.out]; simp
      · have := (H2.swap.setCell 1 (.slice A2 (cs.length + 1) c2))
        simpa using this
    · have hm8 : m < 128 := by omega
      go_wp2_with (at_builtin
                   refine wpList_append_sl rfl (.tmp 37) (.tmp 40) 30 rfl 5 i0 (.int .u8 0) zB 1 Tryz.underlying30 hi hz0 rfl hz1 hz2 (by simp) zB_like _ cs.length _ rfl (H'.swap.alloc' _) (some ⟨wr.heap.size, 0, none⟩) 1 1 [.int .u8 (m : Int)] rfl rfl (Rd.new wr #[.int .u8 (m : Int)] 5) (by simp [Value.oneCell']) (Typed.one _) (by unfold maxLen; omega) (by omega) ?_
                   intro A2 c2 w2 H2
                   have hc2 : w2.cell? ⟨p, 1, none⟩ = some (.slice A' cs.length c') := H2.swap.cell 1
                   have hf2 := H2.swap.frz 1)
      go_end0
      obtain ⟨k', rfl⟩ : ∃ k', k = k' + 1 := ⟨k - 1, by omega⟩
      refine ⟨rfl, wr_shut (A := A2) (c := c2) ?_⟩
      rw [HS.out, sevF_last k' m hm8]
      rw [byte_last m hm8] at H2
      simpa using (H2.swap.setCell 1 (.slice A2 (cs.length + 1) c2))

set_option maxRecDepth 100000 in
theorem wInt_neg {W w : World} {l : List SL} {p : Nat} {bs : List UInt8} {bad : Bool} (n : Int) (hn : n < 0) (H : Sat W w (wr p bs bad :: l)) :
    Calls Tryz.prog 64 #[.pointer (some ⟨p, 0, none⟩), .int .i64 n] w fun e w' => e = .returned (.tuple #[]) ∧ Sat W w' (wr p bs true :: l) := by
  obtain ⟨A, c, H⟩ := wr_open H
  have hc0 : w.cell? ⟨p, 0, none⟩ = some (.bool true) := H.cell 0
  have hc2 : w.cell? ⟨p, 2, none⟩ = some (.int .i64 (if bad then 5 else 0)) := H.cell 2
  have hf2 := H.frz 2
  go_enter Tryz.func64, Tryz.ntmps64
  go_wp2_with (go_at_call 115; refine (absent_any _ _ true _ hc0).mono ?_; rintro e w' ⟨rfl, rfl⟩)
  refine bodyPost_ret (results_none rfl _ _ _) rfl ⟨rfl, wr_shut (A := A) (c := c) ?_⟩
  simpa using H.setCell 2 (.int .i64 5)

/-- What a writer has behind an Int of any number. -/
def wrInt (n : Int) (bs : List UInt8) : List UInt8 := if n < 0 then bs else bs ++ sev n.toNat
theorem wInt_all {W w : World} {l : List SL} {p : Nat} {bs : List UInt8} {bad : Bool} (n : Int) (hn : n ≤ 9223372036854775807) (hb : bs.length ≤ 1000000000) (H : Sat W w (wr p bs bad :: l)) :
    Calls Tryz.prog 64 #[.pointer (some ⟨p, 0, none⟩), .int .i64 n] w fun e w' => e = .returned (.tuple #[]) ∧ Sat W w' (wr p (wrInt n bs) (bad || decide (n < 0)) :: l) := by
  by_cases h : n < 0
  · refine (wInt_neg n h H).mono ?_
    rintro e w' ⟨rfl, h'⟩
    refine ⟨rfl, ?_⟩
    simpa [wrInt, h] using h'
  · obtain ⟨m, rfl⟩ : ∃ m : Nat, n = m := ⟨n.toNat, by omega⟩
    refine (wInt_any m (by omega) hb H).mono ?_
    rintro e w' ⟨rfl, h'⟩
    refine ⟨rfl, ?_⟩
    simpa [wrInt, h] using h'

set_option maxRecDepth 100000 in
theorem wInt_none (n : Int) (w : World) : Calls Tryz.prog 64 #[.pointer none, .int .i64 n] w fun e w' => e = .returned (.tuple #[]) ∧ w = w' := by
  go_enter Tryz.func64, Tryz.ntmps64
  go_wp2_with (go_at_call 115; refine (absent_nil _).mono ?_; rintro e w' ⟨rfl, rfl⟩)
  exact bodyPost_ret (results_none rfl _ _ _) rfl ⟨rfl, rfl⟩
set_option maxRecDepth 100000 in
theorem wInt_off (p : Nat) (n : Int) (w : World) (hc0 : w.cell? ⟨p, 0, none⟩ = some (.bool false)) : Calls Tryz.prog 64 #[.pointer (some ⟨p, 0, none⟩), .int .i64 n] w fun e w' => e = .returned (.tuple #[]) ∧ w = w' := by
  go_enter Tryz.func64, Tryz.ntmps64
  go_wp2_with (go_at_call 115; refine (absent_any _ _ false _ hc0).mono ?_; rintro e w' ⟨rfl, rfl⟩)
  exact bodyPost_ret (results_none rfl _ _ _) rfl ⟨rfl, rfl⟩

theorem strC_len (s : ByteArray) : s.data.toList.length = s.size := by rw [Array.length_toList]; rfl

set_option maxRecDepth 100000 in
theorem wText_any {W w : World} {l : List SL} {p : Nat} {bs : List UInt8} {bad : Bool} (s : ByteArray) (hn : s.size ≤ 1000000000) (hb : bs.length ≤ 900000000) (H : Sat W w (wr p bs bad :: l)) :
    Calls Tryz.prog 66 #[.pointer (some ⟨p, 0, none⟩), .string s] w fun e w' => e = .returned (.tuple #[]) ∧ Sat W w' (wr p (bs ++ sev s.size ++ s.data.toList) bad :: l) := by
  obtain ⟨i0, hi, hz0, hz1, hz2⟩ := info_parts infoU8
  have hc0 : w.cell? ⟨p, 0, none⟩ = some (.bool true) := by obtain ⟨A, c, H⟩ := wr_open H; exact H.cell 0
  go_enter Tryz.func66, Tryz.ntmps66
  go_wp2_with (go_at_call 115; refine (absent_any _ _ true _ hc0).mono ?_; rintro e w' ⟨rfl, rfl⟩)
  refine (wInt_any s.size (by omega) (by omega) H).mono ?_
  rintro e w1 ⟨rfl, H1⟩
  have hl9 := sevF_len 9 s.size
  obtain ⟨cs, HC⟩ : ∃ cs, Hid (cs = bs ++ sev s.size) := ⟨_, rfl⟩
  rw [← HC.out] at H1
  have hcl : cs.length ≤ 1000000000 := by rw [HC.out, List.length_append]; unfold sev; omega
  obtain ⟨A, c, H1⟩ := wr_open H1
  clear hc0
  have hc1 : w1.cell? ⟨p, 1, none⟩ = some (.slice A cs.length c) := H1.cell 1
  have hf1 := H1.frz 1
  go_wp2_with (at_builtin
               refine wpList_append_str rfl (.tmp 15) (.tmp 16) 30 9 rfl 5 i0 Tryz.underlying30 Tryz.underlying9 hi hz0 hz1 hz2 _ cs.length _ rfl H1.swap s rfl (by unfold maxLen; omega) (by omega) ?_
               intro A2 c2 w2 H2
               have hc2 : w2.cell? ⟨p, 1, none⟩ = some (.slice A cs.length c) := H2.swap.cell 1
               have hf2 := H2.swap.frz 1)
  go_end0
  refine ⟨rfl, wr_shut (A := A2) (c := c2) ?_⟩
  rw [← HC.out]
  have := H2.swap.setCell 1 (.slice A2 (cs.length + s.size) c2)
  have e1 : (cs ++ s.data.toList).map B = cs.map B ++ strC s := by rw [List.map_append]; rfl
  rw [List.length_append, strC_len, e1]
  simpa using this

set_option maxRecDepth 100000 in
theorem wText_none (s : ByteArray) (w : World) : Calls Tryz.prog 66 #[.pointer none, .string s] w fun e w' => e = .returned (.tuple #[]) ∧ w = w' := by
  go_enter Tryz.func66, Tryz.ntmps66
  go_wp2_with (go_at_call 115; refine (absent_nil _).mono ?_; rintro e w' ⟨rfl, rfl⟩)
  exact bodyPost_ret (results_none rfl _ _ _) rfl ⟨rfl, rfl⟩
set_option maxRecDepth 100000 in
theorem wText_off (p : Nat) (s : ByteArray) (w : World) (hc0 : w.cell? ⟨p, 0, none⟩ = some (.bool false)) : Calls Tryz.prog 66 #[.pointer (some ⟨p, 0, none⟩), .string s] w fun e w' => e = .returned (.tuple #[]) ∧ w = w' := by
  go_enter Tryz.func66, Tryz.ntmps66
  go_wp2_with (go_at_call 115; refine (absent_any _ _ false _ hc0).mono ?_; rintro e w' ⟨rfl, rfl⟩)
  exact bodyPost_ret (results_none rfl _ _ _) rfl ⟨rfl, rfl⟩

set_option maxRecDepth 100000 in
theorem wOut_any {W w : World} {l : List SL} {p : Nat} {bs : List UInt8} (hb : bs.length ≤ 1000000000) (H : Sat W w (wr p bs false :: l)) :
    Calls Tryz.prog 71 #[.pointer (some ⟨p, 0, none⟩)] w fun e w' => ∃ A c, e = .returned (.tuple #[.slice A bs.length c, .int .i64 0]) ∧ Sat W w' (row 5 zB (.slice A bs.length c) bs.length (bs.map B) :: wr p bs false :: l) := by
  obtain ⟨i0, hi, hz0, hz1, hz2⟩ := info_parts infoU8
  obtain ⟨A, c, H⟩ := wr_open H
  have hc0 : w.cell? ⟨p, 0, none⟩ = some (.bool true) := H.cell 0
  have hc1 : w.cell? ⟨p, 1, none⟩ = some (.slice A bs.length c) := H.cell 1
  have hc2 : w.cell? ⟨p, 2, none⟩ = some (.int .i64 0) := H.cell 2
  have hlt := H.lt
  have hr : Rd w A (bs.map B) := H.swap.rd
  go_enter Tryz.func71, Tryz.ntmps71
  go_wp2_with (first
    | (go_at_call 115; refine (absent_any _ _ true _ hc0).mono ?_; rintro e w' ⟨rfl, rfl⟩)
    | (at_builtin
       refine wpList_append_sl rfl (.tmp 21) (.tmp 26) 30 rfl 5 i0 (.int .u8 0) zB 1 Tryz.underlying30 hi hz0 rfl hz1 hz2 (by simp) zB_like _ 0 [] rfl (H.made #[] 5 zB 0 0 (by omega) (by unfold maxLen; omega) rfl (Typed.nil _)) A bs.length c (bs.map B) rfl (by simp) (hr.below ((Below.refl _ _).alloc (Nat.le_refl _) _)) (B_one bs) (Typed.bytes bs) (by unfold maxLen; omega) (by omega) ?_
       intro A2 c2 w2 H2))
  go_ret2
  refine ⟨A2, c2, by simp, ?_⟩
  have := wr_shut ((H2.pull 2).pull 2)
  simpa [Go.Rt.pull] using this.swap

set_option maxRecDepth 100000 in
theorem wOut_bad {W w : World} {l : List SL} {p : Nat} {bs : List UInt8} (H : Sat W w (wr p bs true :: l)) :
    Calls Tryz.prog 71 #[.pointer (some ⟨p, 0, none⟩)] w fun e w' => e = .returned (.tuple #[.slice none 0 0, .int .i64 5]) ∧ ∃ n, w' = w.drewN n := by
  obtain ⟨A, c, H⟩ := wr_open H
  have hc0 : w.cell? ⟨p, 0, none⟩ = some (.bool true) := H.cell 0
  have hc2 : w.cell? ⟨p, 2, none⟩ = some (.int .i64 5) := H.cell 2
  go_enter Tryz.func71, Tryz.ntmps71
  go_wp2_with (go_at_call 115; refine (absent_any _ _ true _ hc0).mono ?_; rintro e w' ⟨rfl, rfl⟩)
  go_quiet (fail)
  go_wp2
  go_ret2
  exact ⟨rfl, _, rfl⟩

set_option maxRecDepth 100000 in
theorem wOut_none (w : World) : Calls Tryz.prog 71 #[.pointer none] w fun e w' => e = .returned (.tuple #[.slice none 0 0, .int .i64 1]) ∧ w = w' := by
  go_enter Tryz.func71, Tryz.ntmps71
  go_wp2_with (go_at_call 115; refine (absent_nil _).mono ?_; rintro e w' ⟨rfl, rfl⟩)
  go_ret2
  exact ⟨rfl, rfl⟩
set_option maxRecDepth 100000 in
theorem wOut_off (p : Nat) (w : World) (hc0 : w.cell? ⟨p, 0, none⟩ = some (.bool false)) : Calls Tryz.prog 71 #[.pointer (some ⟨p, 0, none⟩)] w fun e w' => e = .returned (.tuple #[.slice none 0 0, .int .i64 1]) ∧ w = w' := by
  go_enter Tryz.func71, Tryz.ntmps71
  go_wp2_with (go_at_call 115; refine (absent_any _ _ false _ hc0).mono ?_; rintro e w' ⟨rfl, rfl⟩)
  go_ret2
  exact ⟨rfl, rfl⟩

/-- An ID as the value that is handed over. -/
def idv (d : List UInt8) : Value := .agg (d.map B).toArray
end Go.Proofs.YtodbmeklbamcfaaGreat

/- The document's writer and the numbers' sizes, function by function. -/
namespace Go.Proofs.YtodbmeklbamcfaaGreat
open Go.RowKit Go.Rt

theorem set_last {α : Type} (xs : List α) (a b : α) (n : Nat) (h : n = xs.length) : (xs ++ [a]).set n b = xs ++ [b] := by
  subst h; simp

set_option maxRecDepth 100000 in
theorem sevens_neg (n : Int) (hn : n < 0) (w : World) : Calls Tryz.prog 116 #[.int .i64 n] w fun e w' => e = .returned (.slice none 0 0) ∧ w = w' := by
  go_enter Tryz.func116, Tryz.ntmps116
  go_wp2
  go_ret
  exact ⟨rfl, rfl⟩

set_option maxRecDepth 100000 in
theorem sevens_any {W w : World} {l : List SL} (n : Nat) (hn : n < 9223372036854775808) (H : Sat W w l) :
    Calls Tryz.prog 116 #[.int .i64 n] w fun e w' => ∃ A c, e = .returned (.slice A (sev n).length c) ∧ Sat W w' (row 5 zB (.slice A (sev n).length c) (sev n).length ((sev n).map B) :: l) := by
  obtain ⟨i0, hi, hz0, hz1, hz2⟩ := info_parts infoU8
  go_enter Tryz.func116, Tryz.ntmps116
  have hH : Sat W (w.alloc (.cells #[.int .u8 ((n : Int) % 128)] 5)) _ := H.made #[.int .u8 ((n : Int) % 128)] 5 zB 1 1 (by omega) (by unfold maxLen; omega) rfl (Typed.one _)
  have hneg : decide ((n : Int) < 0) = false := by simp
  go_wp2
  go_loopw [0, 3] (fun x v wc => ∃ (m d k : Nat) (pre : List UInt8) (A : Option Addr) (c : Nat), x = .int .i64 m ∧ v = .slice A (pre.length + 1) c ∧ m < 128 ^ k ∧ k ≤ 8 ∧ d < 128 ∧ pre.length + k ≤ 8 ∧ Hid (sev n = pre ++ sevF (k + 1) (m * 128 + d)) ∧
      Sat W wc (row 5 zB (.slice A (pre.length + 1) c) (pre.length + 1) (pre.map B ++ [.int .u8 (d : Int)]) :: l)) (fun x _ _ => (intOf x).toNat)
  case atStart =>
    refine ⟨n / 128, n % 128, 8, [], _, _, rfl, rfl, by omega, by omega, by omega, by simp, ?_, by simpa using hH⟩
    show _ = _
    rw [Nat.div_add_mod']
    rfl
  case round =>
    obtain ⟨m, d, k, pre, A, c, rfl, rfl, hm, hk, hd, hpk, HS, H'⟩ := hrel
    obtain ⟨g, rfl⟩ := H'.row_some (by omega)
    clear hH
    have hmb : (m : Int) ≤ 72057594037927936 := by
      have h1 : (128 : Nat) ^ k ≤ 128 ^ 8 := Nat.pow_le_pow_right (by omega) hk
      have h2 : (128 : Nat) ^ 8 = 72057594037927936 := by decide
      omega
    by_cases hm0 : (0 : Int) < (m : Int)
    · have hc := H'.row_cell pre.length (u := .int .u8 (d : Int)) (by simp)
      have hf := H'.row_frz pre.length
      have e1 : (pre.map B ++ [Value.int .u8 (d : Int)]).set pre.length (.int .u8 ((d : Int) + 128)) = (pre ++ [UInt8.ofNat (d + 128)]).map B := by
        rw [set_last _ _ _ _ (by simp), List.map_append]
        simp only [List.map_cons, List.map_nil, B, UInt8.toNat_ofNat']
        congr 4
        omega
      have H1 := H'.row_set pre.length (.int .u8 ((d : Int) + 128)) (zB_at _ _)
      rw [e1] at H1
      have E1 := Lib.hid e1
      clear e1
      go_wp2_with (at_builtin
                   refine wpList_append_sl rfl (.tmp 28) (.tmp 32) 30 rfl 5 i0 (.int .u8 0) zB 1 Tryz.underlying30 hi hz0 rfl hz1 hz2 (by simp) zB_like _ (pre.length + 1) _ rfl (H1.alloc' _) (some ⟨wr.heap.size, 0, none⟩) 1 1 [.int .u8 ((m : Int) % 128)] rfl rfl (by simpa using Rd.new (wr.setCell ⟨g, pre.length, none⟩ (.int .u8 ((d : Int) + 128))) #[.int .u8 ((m : Int) % 128)] 5) (by simp [Value.oneCell']) (Typed.one _) (by unfold maxLen; omega) (by omega) ?_
                   intro A2 c2 w2 H2)
      obtain ⟨k', rfl⟩ : ∃ k', k = k' + 1 := ⟨k - 1, by cases k with | zero => simp at hm; omega | succ k => omega⟩
      refine ⟨⟨m / 128, m % 128, k', pre ++ [UInt8.ofNat (d + 128)], A2, c2, rfl, by simp, ?_, by omega, by omega, by simp; omega, ?_, by simpa using H2⟩, by simp [intOf]; omega⟩
      · rw [Nat.pow_succ] at hm; omega
      · show _ = _
        rw [HS.out, sevF_more _ _ (by omega), Nat.div_add_mod', show (m * 128 + d) % 128 = d from by omega, show (m * 128 + d) / 128 = m from by omega]
        simp
    · have hm00 : m = 0 := by omega
      subst hm00
      go_wp2
      go_ret
      have hs : sev n = pre ++ [UInt8.ofNat d] := by rw [HS.out, Nat.zero_mul, Nat.zero_add, sevF_last _ _ hd]
      refine ⟨some ⟨g, 0, none⟩, c, ?_, ?_⟩
      · rw [hs]; simp
      · rw [hs, List.map_append, List.length_append]
        rw [byte_last d hd] at H'
        exact H'

set_option maxRecDepth 100000 in
theorem size_neg (n : Int) (hn : n < 0) (w : World) : Calls Tryz.prog 132 #[.int .i64 n] w fun e w' => e = .returned (.int .i64 0) ∧ w = w' := by
  go_enter Tryz.func132, Tryz.ntmps132
  go_wp2
  go_ret
  exact ⟨rfl, rfl⟩

theorem sev_len (n : Nat) : (sev n).length ≤ 9 := sevF_len 9 n

set_option maxRecDepth 100000 in
/-- How many bytes a number has. -/
theorem xsize_any (n : Nat) (hn : n < 9223372036854775808) (w : World) : Calls Tryz.prog 141 #[.int .i64 n] w fun e w' => e = .returned (.int .i64 (sev n).length) ∧ Below w.heap.size w w' := by
  go_enter Tryz.func141, Tryz.ntmps141
  go_wp2_with (go_at_call 116; refine (sevens_any n hn (Sat.start w)).mono ?_; rintro e w1 ⟨A, c, rfl, H1⟩)
  go_ret
  exact ⟨rfl, H1.bel⟩
set_option maxRecDepth 100000 in
theorem xsize_neg (n : Int) (hn : n < 0) (w : World) : Calls Tryz.prog 141 #[.int .i64 n] w fun e w' => e = .returned (.int .i64 0) ∧ w = w' := by
  go_enter Tryz.func141, Tryz.ntmps141
  go_wp2_with (go_at_call 116; refine (sevens_neg n hn _).mono ?_; rintro e w1 ⟨rfl, rfl⟩)
  go_ret
  exact ⟨rfl, rfl⟩

theorem sevF_one (k n : Nat) (h : n < 128) : (sevF (k + 1) n).length = 1 := by rw [sevF_last _ _ h]; rfl
theorem sevF_step (k n : Nat) (h : 128 ≤ n) : (sevF (k + 1) n).length = (sevF k (n / 128)).length + 1 := by rw [sevF_more _ _ h]; rfl

set_option maxRecDepth 100000 in
theorem size_any (n : Nat) (hn : n < 9223372036854775808) (w : World) : Calls Tryz.prog 132 #[.int .i64 n] w fun e w' => e = .returned (.int .i64 (sev n).length) ∧ w = w' := by
  have hneg : decide ((n : Int) < 0) = false := by simp
  go_enter Tryz.func132, Tryz.ntmps132
  go_wp2
  go_loop [0, 3] (fun x v => ∃ (m j k : Nat), x = .int .i64 m ∧ v = .int .i64 (j : Int) ∧ m < 128 ^ k ∧ j + k ≤ 9 ∧ Hid ((sev n).length = j + (if m = 0 then 0 else (sevF k m).length))) (fun x _ => (intOf x).toNat)
  case atStart =>
    refine ⟨n / 128, 1, 8, rfl, rfl, by omega, by omega, ?_⟩
    show _ = _
    unfold sev
    by_cases h : n < 128
    · rw [sevF_one _ _ h, if_pos (by omega)]
    · rw [sevF_step _ _ (by omega), if_neg (by omega)]; omega
  case round =>
    obtain ⟨m, j, k, rfl, rfl, hm, hj, HS⟩ := hrel
    have hmb : (m : Int) ≤ 9223372036854775807 := by
      have h1 : (128 : Nat) ^ k ≤ 128 ^ 9 := Nat.pow_le_pow_right (by omega) (by omega)
      have h2 : (128 : Nat) ^ 9 = 9223372036854775808 := by decide
      omega
    by_cases hm0 : (0 : Int) < (m : Int)
    · go_wp2
      obtain ⟨k', rfl⟩ : ∃ k', k = k' + 1 := ⟨k - 1, by cases k with | zero => simp at hm; omega | succ k => omega⟩
      refine ⟨⟨m / 128, j + 1, k', by simp, by go_num, by rw [Nat.pow_succ] at hm; omega, by omega, ?_⟩, by simp [intOf]; omega⟩
      show _ = _
      rw [HS.out, if_neg (by omega)]
      by_cases h : m < 128
      · rw [sevF_one _ _ h, if_pos (by omega)]
      · rw [sevF_step _ _ (by omega), if_neg (by omega)]; omega
    · go_wp2
      go_ret
      refine ⟨?_, rfl⟩
      rw [HS.out, if_pos (by omega)]
      simp

/-- The document's writer: its block, its bytes, whether a number below 0 was to be written. -/
def xr (p : Nat) (bs : List UInt8) (bad : Bool) : SL := ex fun Ac : Option Addr × Nat =>
  sep (pt p #[.slice Ac.1 bs.length Ac.2, .bool bad] 102) (row 5 zB (.slice Ac.1 bs.length Ac.2) bs.length (bs.map B))
theorem xr_open {W w : World} {l : List SL} {p : Nat} {bs : List UInt8} {bad : Bool} (H : Sat W w (xr p bs bad :: l)) :
    ∃ A c, Sat W w (pt p #[.slice A bs.length c, .bool bad] 102 :: row 5 zB (.slice A bs.length c) bs.length (bs.map B) :: l) :=
  let ⟨Ac, h⟩ := Sat.ex H; ⟨Ac.1, Ac.2, h.sep⟩
theorem xr_shut {W w : World} {l : List SL} {p : Nat} {bs : List UInt8} {bad : Bool} {A : Option Addr} {c : Nat}
    (H : Sat W w (pt p #[.slice A bs.length c, .bool bad] 102 :: row 5 zB (.slice A bs.length c) bs.length (bs.map B) :: l)) : Sat W w (xr p bs bad :: l) :=
  Sat.unex (A := fun Ac : Option Addr × Nat => sep (pt p #[.slice Ac.1 bs.length Ac.2, .bool bad] 102) (row 5 zB (.slice Ac.1 bs.length Ac.2) bs.length (bs.map B))) (A, c) H.unsep

set_option maxRecDepth 100000 in
theorem xInt_any {W w : World} {l : List SL} {p : Nat} {bs : List UInt8} {bad : Bool} (n : Nat) (hn : n < 9223372036854775808) (hb : bs.length ≤ 1000000000) (H : Sat W w (xr p bs bad :: l)) :
    Calls Tryz.prog 72 #[.pointer (some ⟨p, 0, none⟩), .int .i64 n] w fun e w' => e = .returned (.tuple #[]) ∧ Sat W w' (xr p (bs ++ sev n) bad :: l) := by
  obtain ⟨i0, hi, hz0, hz1, hz2⟩ := info_parts infoU8
  obtain ⟨A, c, H⟩ := xr_open H
  have hc0 : w.cell? ⟨p, 0, none⟩ = some (.slice A bs.length c) := H.cell 0
  have hc1 : w.cell? ⟨p, 1, none⟩ = some (.bool bad) := H.cell 1
  have hf0 := H.frz 0
  have hf1 := H.frz 1
  have hneg : decide ((n : Int) < 0) = false := by simp
  go_enter Tryz.func72, Tryz.ntmps72
  have H4 := H.setCell 1 (.bool bad)
  cases bad
  all_goals
    go_wp2
    generalize hwo : w.setCell ⟨p, 1, none⟩ _ = wo at H4 ⊢
    clear hwo hc0 hc1 hf0 hf1
    have hc0 : wo.cell? ⟨p, 0, none⟩ = some (.slice A bs.length c) := H4.cell 0
    go_region_law (first
      | (refine step_append_sl rfl (.tmp 19) (.tmp 21) 30 rfl 5 i0 (.int .u8 0) zB 1 Tryz.underlying30 hi hz0 rfl hz1 hz2 (by simp) zB_like _ bs.length _ (by simp [Act.eval]) (H5.pull 2) A' (sev n).length c' ((sev n).map B) (by simp [Act.eval]) (by simp) H5.rd (B_one _) (Typed.bytes _) (by unfold maxLen; omega) (by omega) ?_
         intro A2 c2 w2 H2
         have hc2 : w2.cell? ⟨p, 0, none⟩ = some (.slice A bs.length c) := (H2.pull 2).cell 0
         have hf2 := (H2.pull 2).frz 0)
      | (go_simp; go_at_call 116; refine (sevens_any n hn H4.drew).mono ?_
         rintro e w1 ⟨A', c', rfl, H5⟩
         have hc5 : w1.cell? ⟨p, 0, none⟩ = some (.slice A bs.length c) := H5.swap.cell 0
         have hl9 := sev_len n))
  all_goals
    go_wp2
    go_end0
    refine ⟨rfl, xr_shut (A := A2) (c := c2) ?_⟩
    rw [List.length_append, List.map_append]
    simpa [Go.Rt.pull] using (((H2.swap.tail).swap.setCell 0 (.slice A2 (bs.length + (sev n).length) c2)))

set_option maxRecDepth 100000 in
theorem xInt_neg {W w : World} {l : List SL} {p : Nat} {bs : List UInt8} {bad : Bool} (n : Int) (hn : n < 0) (hb : bs.length ≤ 1000000000) (H : Sat W w (xr p bs bad :: l)) :
    Calls Tryz.prog 72 #[.pointer (some ⟨p, 0, none⟩), .int .i64 n] w fun e w' => e = .returned (.tuple #[]) ∧ Sat W w' (xr p bs true :: l) := by
  obtain ⟨i0, hi, hz0, hz1, hz2⟩ := info_parts infoU8
  obtain ⟨A, c, H⟩ := xr_open H
  have hc0 : w.cell? ⟨p, 0, none⟩ = some (.slice A bs.length c) := H.cell 0
  have hc1 : w.cell? ⟨p, 1, none⟩ = some (.bool bad) := H.cell 1
  have hf0 := H.frz 0
  have hf1 := H.frz 1
  have hneg : decide (n < 0) = true := by simpa using hn
  go_enter Tryz.func72, Tryz.ntmps72
  have H4 := H.setCell 1 (.bool true)
  cases bad
  all_goals
    go_wp2
    generalize hwo : w.setCell ⟨p, 1, none⟩ _ = wo at H4 ⊢
    clear hwo hc0 hc1 hf0 hf1
    have hc0 : wo.cell? ⟨p, 0, none⟩ = some (.slice A bs.length c) := H4.cell 0
    go_region_law (first
      | (refine step_append_sl rfl (.tmp 19) (.tmp 21) 30 rfl 5 i0 (.int .u8 0) zB 1 Tryz.underlying30 hi hz0 rfl hz1 hz2 (by simp) zB_like _ bs.length _ (by simp [Act.eval]) H4.drew.swap none 0 0 [] (by simp [Act.eval]) rfl (Rd.nil _ _) (by simp) (Typed.nil _) (by unfold maxLen; omega) (by omega) ?_
         intro A2 c2 w2 H2
         have hc2 : w2.cell? ⟨p, 0, none⟩ = some (.slice A bs.length c) := H2.swap.cell 0
         have hf2 := H2.swap.frz 0)
      | (go_simp; go_at_call 116; refine (sevens_neg n hn _).mono ?_
         rintro e w1 ⟨rfl, rfl⟩))
  all_goals
    go_wp2
    go_end0
    refine ⟨rfl, xr_shut (A := A2) (c := c2) ?_⟩
    simpa [Go.Rt.pull] using (H2.swap.setCell 0 (.slice A2 bs.length c2))

theorem xInt_all {W w : World} {l : List SL} {p : Nat} {bs : List UInt8} {bad : Bool} (n : Int) (hn : n ≤ 9223372036854775807) (hb : bs.length ≤ 1000000000) (H : Sat W w (xr p bs bad :: l)) :
    Calls Tryz.prog 72 #[.pointer (some ⟨p, 0, none⟩), .int .i64 n] w fun e w' => e = .returned (.tuple #[]) ∧ Sat W w' (xr p (wrInt n bs) (bad || decide (n < 0)) :: l) := by
  by_cases h : n < 0
  · refine (xInt_neg n h hb H).mono ?_
    rintro e w' ⟨rfl, h'⟩
    refine ⟨rfl, ?_⟩
    simpa [wrInt, h] using h'
  · obtain ⟨m, rfl⟩ : ∃ m : Nat, n = m := ⟨n.toNat, by omega⟩
    refine (xInt_any m (by omega) hb H).mono ?_
    rintro e w' ⟨rfl, h'⟩
    refine ⟨rfl, ?_⟩
    simpa [wrInt, h] using h'

set_option maxRecDepth 100000 in
theorem xText_any {W w : World} {l : List SL} {p : Nat} {bs : List UInt8} {bad : Bool} (s : ByteArray) (hn : s.size ≤ 1000000000) (hb : bs.length ≤ 900000000) (H : Sat W w (xr p bs bad :: l)) :
    Calls Tryz.prog 73 #[.pointer (some ⟨p, 0, none⟩), .string s] w fun e w' => e = .returned (.tuple #[]) ∧ Sat W w' (xr p (bs ++ sev s.size ++ s.data.toList) bad :: l) := by
  obtain ⟨i0, hi, hz0, hz1, hz2⟩ := info_parts infoU8
  obtain ⟨A, c, H4⟩ := xr_open H
  have hc0 : w.cell? ⟨p, 0, none⟩ = some (.slice A bs.length c) := H4.cell 0
  go_enter Tryz.func73, Tryz.ntmps73
  have hl9 := sev_len s.size
  go_region_law (first
      | (refine step_append_sl rfl (.tmp 8) (.tmp 11) 30 rfl 5 i0 (.int .u8 0) zB 1 Tryz.underlying30 hi hz0 rfl hz1 hz2 (by simp) zB_like _ bs.length _ (by simp [Act.eval]) (H5.pull 2) A' (sev s.size).length c' ((sev s.size).map B) (by simp [Act.eval]) (by simp) H5.rd (B_one _) (Typed.bytes _) (by unfold maxLen; omega) (by omega) ?_
         intro A2 c2 w2 H2
         have hc2 : w2.cell? ⟨p, 0, none⟩ = some (.slice A bs.length c) := (H2.pull 2).cell 0
         have hf2 := (H2.pull 2).frz 0)
      | (refine step_append_str rfl (.tmp 12) (.tmp 13) 30 9 rfl 5 i0 Tryz.underlying30 Tryz.underlying9 hi hz0 hz1 hz2 _ (bs.length + (sev s.size).length) _ (by simp [Act.eval]) H2 s (by simp [Act.eval]) (by unfold maxLen; omega) (by omega) ?_
         intro A3 c3 w3 H3
         have hc3 : w3.cell? ⟨p, 0, none⟩ = some (.slice A bs.length c) := (H3.pull 2).cell 0
         have hf3 := (H3.pull 2).frz 0)
      | (go_simp; go_at_call 116; refine (sevens_any s.size (by omega) H4.drew).mono ?_
         rintro e w1 ⟨A', c', rfl, H5⟩
         have hc5 : w1.cell? ⟨p, 0, none⟩ = some (.slice A bs.length c) := H5.swap.cell 0))
  all_goals
    go_end0
    refine ⟨rfl, xr_shut (A := A3) (c := c3) ?_⟩
    have := (H3.swap.tail).swap.setCell 0 (.slice A3 (bs.length + (sev s.size).length + s.size) c3)
    have e1 : (bs ++ sev s.size ++ s.data.toList).length = bs.length + (sev s.size).length + s.size := by simp only [List.length_append, strC_len]
    have e2 : (bs ++ sev s.size ++ s.data.toList).map B = bs.map B ++ (sev s.size).map B ++ strC s := by simp only [List.map_append]; rfl
    rw [e1, e2]
    exact this

set_option maxRecDepth 100000 in
theorem xOut_any {W w : World} {l : List SL} {p : Nat} {bs : List UInt8} (hb : bs.length ≤ 1000000000) (H : Sat W w (xr p bs false :: l)) :
    Calls Tryz.prog 74 #[.pointer (some ⟨p, 0, none⟩)] w fun e w' => ∃ A c, e = .returned (.tuple #[.slice A bs.length c, .int .i64 0]) ∧ Sat W w' (row 5 zB (.slice A bs.length c) bs.length (bs.map B) :: xr p bs false :: l) := by
  obtain ⟨i0, hi, hz0, hz1, hz2⟩ := info_parts infoU8
  obtain ⟨A, c, H⟩ := xr_open H
  have hc0 : w.cell? ⟨p, 0, none⟩ = some (.slice A bs.length c) := H.cell 0
  have hc1 : w.cell? ⟨p, 1, none⟩ = some (.bool false) := H.cell 1
  have hlt := H.lt
  have hr : Rd w A (bs.map B) := H.swap.rd
  go_enter Tryz.func74, Tryz.ntmps74
  go_wp2_with (first
    | (at_builtin
       refine wpList_append_sl rfl (.tmp 8) (.tmp 12) 30 rfl 5 i0 (.int .u8 0) zB 1 Tryz.underlying30 hi hz0 rfl hz1 hz2 (by simp) zB_like _ 0 [] rfl (H.made #[] 5 zB 0 0 (by omega) (by unfold maxLen; omega) rfl (Typed.nil _)) A bs.length c (bs.map B) rfl (by simp) (hr.below ((Below.refl _ _).alloc (Nat.le_refl _) _)) (B_one bs) (Typed.bytes bs) (by unfold maxLen; omega) (by omega) ?_
       intro A2 c2 w2 H2))
  go_ret2
  refine ⟨A2, c2, by simp, ?_⟩
  have := xr_shut ((H2.pull 2).pull 2)
  simpa [Go.Rt.pull] using this.swap

set_option maxRecDepth 100000 in
theorem xOut_bad {W w : World} {l : List SL} {p : Nat} {bs : List UInt8} (H : Sat W w (xr p bs true :: l)) :
    Calls Tryz.prog 74 #[.pointer (some ⟨p, 0, none⟩)] w fun e w' => e = .returned (.tuple #[.slice none 0 0, .int .i64 5]) ∧ w = w' := by
  obtain ⟨A, c, H⟩ := xr_open H
  have hc1 : w.cell? ⟨p, 1, none⟩ = some (.bool true) := H.cell 1
  go_enter Tryz.func74, Tryz.ntmps74
  go_wp2
  go_ret2
  exact ⟨rfl, rfl⟩
end Go.Proofs.YtodbmeklbamcfaaGreat
