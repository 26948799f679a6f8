/- The document's writer and the numbers' sizes, function by function. -/
import Derived.Test.YtflcmhmbmippfaaWdA
namespace Go.Proofs.Ytflcmhmbmippfaa
open Go.RowKit Go.Rt

theorem set_last {α : Type} (xs : List α) (a b : α) (n : Nat) (h : n = xs.length) : (xs ++ [a]).set n b = xs ++ [b] := by
  subst h; simp

set_option maxRecDepth 100000 in
theorem sevens_neg (n : Int) (hn : n < 0) (w : World) : Calls Try.prog 85 #[.int .i64 n] w fun e w' => e = .returned (.slice none 0 0) ∧ w = w' := by
  go_enter Try.func85, Try.ntmps85
  go_wp2
  go_ret
  exact ⟨rfl, rfl⟩

set_option maxRecDepth 100000 in
theorem sevens_any {W w : World} {l : List SL} (n : Nat) (hn : n < 9223372036854775808) (H : Sat W w l) :
    Calls Try.prog 85 #[.int .i64 n] w fun e w' => ∃ A c, e = .returned (.slice A (sev n).length c) ∧ Sat W w' (row 5 zB (.slice A (sev n).length c) (sev n).length ((sev n).map B) :: l) := by
  obtain ⟨i0, hi, hz0, hz1, hz2⟩ := info_parts infoU8
  go_enter Try.func85, Try.ntmps85
  have hH : Sat W (w.alloc (.cells #[.int .u8 ((n : Int) % 128)] 5)) _ := H.made #[.int .u8 ((n : Int) % 128)] 5 zB 1 1 (by omega) (by unfold maxLen; omega) rfl (Typed.one _)
  have hneg : decide ((n : Int) < 0) = false := by simp
  go_wp2
  go_loopw [0, 3] (fun x v wc => ∃ (m d k : Nat) (pre : List UInt8) (A : Option Addr) (c : Nat), x = .int .i64 m ∧ v = .slice A (pre.length + 1) c ∧ m < 128 ^ k ∧ k ≤ 8 ∧ d < 128 ∧ pre.length + k ≤ 8 ∧ Hid (sev n = pre ++ sevF (k + 1) (m * 128 + d)) ∧
      Sat W wc (row 5 zB (.slice A (pre.length + 1) c) (pre.length + 1) (pre.map B ++ [.int .u8 (d : Int)]) :: l)) (fun x _ _ => (intOf x).toNat)
  case atStart =>
    refine ⟨n / 128, n % 128, 8, [], _, _, rfl, rfl, by omega, by omega, by omega, by simp, ?_, by simpa using hH⟩
    show _ = _
    rw [Nat.div_add_mod']
    rfl
  case round =>
    obtain ⟨m, d, k, pre, A, c, rfl, rfl, hm, hk, hd, hpk, HS, H'⟩ := hrel
    obtain ⟨g, rfl⟩ := H'.row_some (by omega)
    clear hH
    have hmb : (m : Int) ≤ 72057594037927936 := by
      have h1 : (128 : Nat) ^ k ≤ 128 ^ 8 := Nat.pow_le_pow_right (by omega) hk
      have h2 : (128 : Nat) ^ 8 = 72057594037927936 := by decide
      omega
    by_cases hm0 : (0 : Int) < (m : Int)
    · have hc := H'.row_cell pre.length (u := .int .u8 (d : Int)) (by simp)
      have hf := H'.row_frz pre.length
      have e1 : (pre.map B ++ [Value.int .u8 (d : Int)]).set pre.length (.int .u8 ((d : Int) + 128)) = (pre ++ [UInt8.ofNat (d + 128)]).map B := by
        rw [set_last _ _ _ _ (by simp), List.map_append]
        simp only [List.map_cons, List.map_nil, B, UInt8.toNat_ofNat']
        congr 4
        omega
      have H1 := H'.row_set pre.length (.int .u8 ((d : Int) + 128)) (zB_at _ _)
      rw [e1] at H1
      have E1 := Lib.hid e1
      clear e1
      go_wp2_with (at_builtin
                   refine wpList_append_sl rfl (.tmp 28) (.tmp 32) 22 rfl 5 i0 (.int .u8 0) zB 1 Try.underlying22 hi hz0 rfl hz1 hz2 (by simp) zB_like _ (pre.length + 1) _ rfl (H1.alloc' _) (some ⟨wr.heap.size, 0, none⟩) 1 1 [.int .u8 ((m : Int) % 128)] rfl rfl (by simpa using Rd.new (wr.setCell ⟨g, pre.length, none⟩ (.int .u8 ((d : Int) + 128))) #[.int .u8 ((m : Int) % 128)] 5) (by simp [Value.oneCell']) (Typed.one _) (by unfold maxLen; omega) (by omega) ?_
                   intro A2 c2 w2 H2)
      obtain ⟨k', rfl⟩ : ∃ k', k = k' + 1 := ⟨k - 1, by cases k with | zero => simp at hm; omega | succ k => omega⟩
      refine ⟨⟨m / 128, m % 128, k', pre ++ [UInt8.ofNat (d + 128)], A2, c2, rfl, by simp, ?_, by omega, by omega, by simp; omega, ?_, by simpa using H2⟩, by simp [intOf]; omega⟩
      · rw [Nat.pow_succ] at hm; omega
      · show _ = _
        rw [HS.out, sevF_more _ _ (by omega), Nat.div_add_mod', show (m * 128 + d) % 128 = d from by omega, show (m * 128 + d) / 128 = m from by omega]
        simp
    · have hm00 : m = 0 := by omega
      subst hm00
      go_wp2
      go_ret
      have hs : sev n = pre ++ [UInt8.ofNat d] := by rw [HS.out, Nat.zero_mul, Nat.zero_add, sevF_last _ _ hd]
      refine ⟨some ⟨g, 0, none⟩, c, ?_, ?_⟩
      · rw [hs]; simp
      · rw [hs, List.map_append, List.length_append]
        rw [byte_last d hd] at H'
        exact H'

set_option maxRecDepth 100000 in
theorem size_neg (n : Int) (hn : n < 0) (w : World) : Calls Try.prog 67 #[.int .i64 n] w fun e w' => e = .returned (.int .i64 0) ∧ w = w' := by
  go_enter Try.func67, Try.ntmps67
  go_wp2
  go_ret
  exact ⟨rfl, rfl⟩

theorem sev_len (n : Nat) : (sev n).length ≤ 9 := sevF_len 9 n

theorem sevF_one (k n : Nat) (h : n < 128) : (sevF (k + 1) n).length = 1 := by rw [sevF_last _ _ h]; rfl
theorem sevF_step (k n : Nat) (h : 128 ≤ n) : (sevF (k + 1) n).length = (sevF k (n / 128)).length + 1 := by rw [sevF_more _ _ h]; rfl

set_option maxRecDepth 100000 in
theorem size_any (n : Nat) (hn : n < 9223372036854775808) (w : World) : Calls Try.prog 67 #[.int .i64 n] w fun e w' => e = .returned (.int .i64 (sev n).length) ∧ w = w' := by
  have hneg : decide ((n : Int) < 0) = false := by simp
  go_enter Try.func67, Try.ntmps67
  go_wp2
  go_loop [0, 3] (fun x v => ∃ (m j k : Nat), x = .int .i64 m ∧ v = .int .i64 (j : Int) ∧ m < 128 ^ k ∧ j + k ≤ 9 ∧ Hid ((sev n).length = j + (if m = 0 then 0 else (sevF k m).length))) (fun x _ => (intOf x).toNat)
  case atStart =>
    refine ⟨n / 128, 1, 8, rfl, rfl, by omega, by omega, ?_⟩
    show _ = _
    unfold sev
    by_cases h : n < 128
    · rw [sevF_one _ _ h, if_pos (by omega)]
    · rw [sevF_step _ _ (by omega), if_neg (by omega)]; omega
  case round =>
    obtain ⟨m, j, k, rfl, rfl, hm, hj, HS⟩ := hrel
    have hmb : (m : Int) ≤ 9223372036854775807 := by
      have h1 : (128 : Nat) ^ k ≤ 128 ^ 9 := Nat.pow_le_pow_right (by omega) (by omega)
      have h2 : (128 : Nat) ^ 9 = 9223372036854775808 := by decide
      omega
    by_cases hm0 : (0 : Int) < (m : Int)
    · go_wp2
      obtain ⟨k', rfl⟩ : ∃ k', k = k' + 1 := ⟨k - 1, by cases k with | zero => simp at hm; omega | succ k => omega⟩
      refine ⟨⟨m / 128, j + 1, k', by simp, by go_num, by rw [Nat.pow_succ] at hm; omega, by omega, ?_⟩, by simp [intOf]; omega⟩
      show _ = _
      rw [HS.out, if_neg (by omega)]
      by_cases h : m < 128
      · rw [sevF_one _ _ h, if_pos (by omega)]
      · rw [sevF_step _ _ (by omega), if_neg (by omega)]; omega
    · go_wp2
      go_ret
      refine ⟨?_, rfl⟩
      rw [HS.out, if_pos (by omega)]
      simp

/-- The document's writer: its block, its bytes, whether a number below 0 was to be written. -/
def xr (p : Nat) (bs : List UInt8) (bad : Bool) : SL := ex fun Ac : Option Addr × Nat =>
  sep (pt p #[.slice Ac.1 bs.length Ac.2, .bool bad] 82) (row 5 zB (.slice Ac.1 bs.length Ac.2) bs.length (bs.map B))
theorem xr_open {W w : World} {l : List SL} {p : Nat} {bs : List UInt8} {bad : Bool} (H : Sat W w (xr p bs bad :: l)) :
    ∃ A c, Sat W w (pt p #[.slice A bs.length c, .bool bad] 82 :: row 5 zB (.slice A bs.length c) bs.length (bs.map B) :: l) :=
  let ⟨Ac, h⟩ := Sat.ex H; ⟨Ac.1, Ac.2, h.sep⟩
theorem xr_shut {W w : World} {l : List SL} {p : Nat} {bs : List UInt8} {bad : Bool} {A : Option Addr} {c : Nat}
    (H : Sat W w (pt p #[.slice A bs.length c, .bool bad] 82 :: row 5 zB (.slice A bs.length c) bs.length (bs.map B) :: l)) : Sat W w (xr p bs bad :: l) :=
  Sat.unex (A := fun Ac : Option Addr × Nat => sep (pt p #[.slice Ac.1 bs.length Ac.2, .bool bad] 82) (row 5 zB (.slice Ac.1 bs.length Ac.2) bs.length (bs.map B))) (A, c) H.unsep

set_option maxRecDepth 100000 in
theorem xInt_any {W w : World} {l : List SL} {p : Nat} {bs : List UInt8} {bad : Bool} (n : Nat) (hn : n < 9223372036854775808) (hb : bs.length ≤ 1000000000) (H : Sat W w (xr p bs bad :: l)) :
    Calls Try.prog 58 #[.pointer (some ⟨p, 0, none⟩), .int .i64 n] w fun e w' => e = .returned (.tuple #[]) ∧ Sat W w' (xr p (bs ++ sev n) bad :: l) := by
  obtain ⟨i0, hi, hz0, hz1, hz2⟩ := info_parts infoU8
  obtain ⟨A, c, H⟩ := xr_open H
  have hc0 : w.cell? ⟨p, 0, none⟩ = some (.slice A bs.length c) := H.cell 0
  have hc1 : w.cell? ⟨p, 1, none⟩ = some (.bool bad) := H.cell 1
  have hf0 := H.frz 0
  have hf1 := H.frz 1
  have hneg : decide ((n : Int) < 0) = false := by simp
  go_enter Try.func58, Try.ntmps58
  have H4 := H.setCell 1 (.bool bad)
  cases bad
  all_goals
    go_wp2
    generalize hwo : w.setCell ⟨p, 1, none⟩ _ = wo at H4 ⊢
    clear hwo hc0 hc1 hf0 hf1
    have hc0 : wo.cell? ⟨p, 0, none⟩ = some (.slice A bs.length c) := H4.cell 0
    go_region_law (first
      | (refine step_append_sl rfl (.tmp 19) (.tmp 21) 22 rfl 5 i0 (.int .u8 0) zB 1 Try.underlying22 hi hz0 rfl hz1 hz2 (by simp) zB_like _ bs.length _ (by simp [Act.eval]) (H5.pull 2) A' (sev n).length c' ((sev n).map B) (by simp [Act.eval]) (by simp) H5.rd (B_one _) (Typed.bytes _) (by unfold maxLen; omega) (by omega) ?_
         intro A2 c2 w2 H2
         have hc2 : w2.cell? ⟨p, 0, none⟩ = some (.slice A bs.length c) := (H2.pull 2).cell 0
         have hf2 := (H2.pull 2).frz 0)
      | (go_simp; go_at_call 85; refine (sevens_any n hn H4.drew).mono ?_
         rintro e w1 ⟨A', c', rfl, H5⟩
         have hc5 : w1.cell? ⟨p, 0, none⟩ = some (.slice A bs.length c) := H5.swap.cell 0
         have hl9 := sev_len n))
  all_goals
    go_wp2
    go_end0
    refine ⟨rfl, xr_shut (A := A2) (c := c2) ?_⟩
    rw [List.length_append, List.map_append]
    simpa [Go.Rt.pull] using (((H2.swap.tail).swap.setCell 0 (.slice A2 (bs.length + (sev n).length) c2)))

set_option maxRecDepth 100000 in
theorem xInt_neg {W w : World} {l : List SL} {p : Nat} {bs : List UInt8} {bad : Bool} (n : Int) (hn : n < 0) (hb : bs.length ≤ 1000000000) (H : Sat W w (xr p bs bad :: l)) :
    Calls Try.prog 58 #[.pointer (some ⟨p, 0, none⟩), .int .i64 n] w fun e w' => e = .returned (.tuple #[]) ∧ Sat W w' (xr p bs true :: l) := by
  obtain ⟨i0, hi, hz0, hz1, hz2⟩ := info_parts infoU8
  obtain ⟨A, c, H⟩ := xr_open H
  have hc0 : w.cell? ⟨p, 0, none⟩ = some (.slice A bs.length c) := H.cell 0
  have hc1 : w.cell? ⟨p, 1, none⟩ = some (.bool bad) := H.cell 1
  have hf0 := H.frz 0
  have hf1 := H.frz 1
  have hneg : decide (n < 0) = true := by simpa using hn
  go_enter Try.func58, Try.ntmps58
  have H4 := H.setCell 1 (.bool true)
  cases bad
  all_goals
    go_wp2
    generalize hwo : w.setCell ⟨p, 1, none⟩ _ = wo at H4 ⊢
    clear hwo hc0 hc1 hf0 hf1
    have hc0 : wo.cell? ⟨p, 0, none⟩ = some (.slice A bs.length c) := H4.cell 0
    go_region_law (first
      | (refine step_append_sl rfl (.tmp 19) (.tmp 21) 22 rfl 5 i0 (.int .u8 0) zB 1 Try.underlying22 hi hz0 rfl hz1 hz2 (by simp) zB_like _ bs.length _ (by simp [Act.eval]) H4.drew.swap none 0 0 [] (by simp [Act.eval]) rfl (Rd.nil _ _) (by simp) (Typed.nil _) (by unfold maxLen; omega) (by omega) ?_
         intro A2 c2 w2 H2
         have hc2 : w2.cell? ⟨p, 0, none⟩ = some (.slice A bs.length c) := H2.swap.cell 0
         have hf2 := H2.swap.frz 0)
      | (go_simp; go_at_call 85; refine (sevens_neg n hn _).mono ?_
         rintro e w1 ⟨rfl, rfl⟩))
  all_goals
    go_wp2
    go_end0
    refine ⟨rfl, xr_shut (A := A2) (c := c2) ?_⟩
    simpa [Go.Rt.pull] using (H2.swap.setCell 0 (.slice A2 bs.length c2))

theorem xInt_all {W w : World} {l : List SL} {p : Nat} {bs : List UInt8} {bad : Bool} (n : Int) (hn : n ≤ 9223372036854775807) (hb : bs.length ≤ 1000000000) (H : Sat W w (xr p bs bad :: l)) :
    Calls Try.prog 58 #[.pointer (some ⟨p, 0, none⟩), .int .i64 n] w fun e w' => e = .returned (.tuple #[]) ∧ Sat W w' (xr p (wrInt n bs) (bad || decide (n < 0)) :: l) := by
  by_cases h : n < 0
  · refine (xInt_neg n h hb H).mono ?_
    rintro e w' ⟨rfl, h'⟩
    refine ⟨rfl, ?_⟩
    simpa [wrInt, h] using h'
  · obtain ⟨m, rfl⟩ : ∃ m : Nat, n = m := ⟨n.toNat, by omega⟩
    refine (xInt_any m (by omega) hb H).mono ?_
    rintro e w' ⟨rfl, h'⟩
    refine ⟨rfl, ?_⟩
    simpa [wrInt, h] using h'

set_option maxRecDepth 100000 in
theorem xText_any {W w : World} {l : List SL} {p : Nat} {bs : List UInt8} {bad : Bool} (s : ByteArray) (hn : s.size ≤ 1000000000) (hb : bs.length ≤ 900000000) (H : Sat W w (xr p bs bad :: l)) :
    Calls Try.prog 59 #[.pointer (some ⟨p, 0, none⟩), .string s] w fun e w' => e = .returned (.tuple #[]) ∧ Sat W w' (xr p (bs ++ sev s.size ++ s.data.toList) bad :: l) := by
  obtain ⟨i0, hi, hz0, hz1, hz2⟩ := info_parts infoU8
  obtain ⟨A, c, H4⟩ := xr_open H
  have hc0 : w.cell? ⟨p, 0, none⟩ = some (.slice A bs.length c) := H4.cell 0
  go_enter Try.func59, Try.ntmps59
  have hl9 := sev_len s.size
  go_region_law (first
      | (refine step_append_sl rfl (.tmp 8) (.tmp 11) 22 rfl 5 i0 (.int .u8 0) zB 1 Try.underlying22 hi hz0 rfl hz1 hz2 (by simp) zB_like _ bs.length _ (by simp [Act.eval]) (H5.pull 2) A' (sev s.size).length c' ((sev s.size).map B) (by simp [Act.eval]) (by simp) H5.rd (B_one _) (Typed.bytes _) (by unfold maxLen; omega) (by omega) ?_
         intro A2 c2 w2 H2
         have hc2 : w2.cell? ⟨p, 0, none⟩ = some (.slice A bs.length c) := (H2.pull 2).cell 0
         have hf2 := (H2.pull 2).frz 0)
      | (refine step_append_str rfl (.tmp 12) (.tmp 13) 22 9 rfl 5 i0 Try.underlying22 Try.underlying9 hi hz0 hz1 hz2 _ (bs.length + (sev s.size).length) _ (by simp [Act.eval]) H2 s (by simp [Act.eval]) (by unfold maxLen; omega) (by omega) ?_
         intro A3 c3 w3 H3
         have hc3 : w3.cell? ⟨p, 0, none⟩ = some (.slice A bs.length c) := (H3.pull 2).cell 0
         have hf3 := (H3.pull 2).frz 0)
      | (go_simp; go_at_call 85; refine (sevens_any s.size (by omega) H4.drew).mono ?_
         rintro e w1 ⟨A', c', rfl, H5⟩
         have hc5 : w1.cell? ⟨p, 0, none⟩ = some (.slice A bs.length c) := H5.swap.cell 0))
  all_goals
    go_end0
    refine ⟨rfl, xr_shut (A := A3) (c := c3) ?_⟩
    have := (H3.swap.tail).swap.setCell 0 (.slice A3 (bs.length + (sev s.size).length + s.size) c3)
    have e1 : (bs ++ sev s.size ++ s.data.toList).length = bs.length + (sev s.size).length + s.size := by simp only [List.length_append, strC_len]
    have e2 : (bs ++ sev s.size ++ s.data.toList).map B = bs.map B ++ (sev s.size).map B ++ strC s := by simp only [List.map_append]; rfl
    rw [e1, e2]
    exact this

set_option maxRecDepth 100000 in
theorem xOut_any {W w : World} {l : List SL} {p : Nat} {bs : List UInt8} (hb : bs.length ≤ 1000000000) (H : Sat W w (xr p bs false :: l)) :
    Calls Try.prog 60 #[.pointer (some ⟨p, 0, none⟩)] w fun e w' => ∃ A c, e = .returned (.tuple #[.slice A bs.length c, .int .i64 0]) ∧ Sat W w' (row 5 zB (.slice A bs.length c) bs.length (bs.map B) :: xr p bs false :: l) := by
  obtain ⟨i0, hi, hz0, hz1, hz2⟩ := info_parts infoU8
  obtain ⟨A, c, H⟩ := xr_open H
  have hc0 : w.cell? ⟨p, 0, none⟩ = some (.slice A bs.length c) := H.cell 0
  have hc1 : w.cell? ⟨p, 1, none⟩ = some (.bool false) := H.cell 1
  have hlt := H.lt
  have hr : Rd w A (bs.map B) := H.swap.rd
  go_enter Try.func60, Try.ntmps60
  go_wp2_with (first
    | (at_builtin
       refine wpList_append_sl rfl (.tmp 8) (.tmp 12) 22 rfl 5 i0 (.int .u8 0) zB 1 Try.underlying22 hi hz0 rfl hz1 hz2 (by simp) zB_like _ 0 [] rfl (H.made #[] 5 zB 0 0 (by omega) (by unfold maxLen; omega) rfl (Typed.nil _)) A bs.length c (bs.map B) rfl (by simp) (hr.below ((Below.refl _ _).alloc (Nat.le_refl _) _)) (B_one bs) (Typed.bytes bs) (by unfold maxLen; omega) (by omega) ?_
       intro A2 c2 w2 H2))
  go_ret2
  refine ⟨A2, c2, by simp, ?_⟩
  have := xr_shut ((H2.pull 2).pull 2)
  simpa [Go.Rt.pull] using this.swap

set_option maxRecDepth 100000 in
theorem xOut_bad {W w : World} {l : List SL} {p : Nat} {bs : List UInt8} (H : Sat W w (xr p bs true :: l)) :
    Calls Try.prog 60 #[.pointer (some ⟨p, 0, none⟩)] w fun e w' => e = .returned (.tuple #[.slice none 0 0, .int .i64 5]) ∧ w = w' := by
  obtain ⟨A, c, H⟩ := xr_open H
  have hc1 : w.cell? ⟨p, 1, none⟩ = some (.bool true) := H.cell 1
  go_enter Try.func60, Try.ntmps60
  go_wp2
  go_ret2
  exact ⟨rfl, rfl⟩
end Go.Proofs.Ytflcmhmbmippfaa
