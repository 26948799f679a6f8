/- Package code's Bytes and Size: as which bytes an instruction is written. -/
import Derived.Test.YtflcmhmbmippfaaCdC
namespace Go.Proofs.Ytflcmhmbmippfaa
open Go.RowKit Go.Rt

theorem byteL_len (i : Ins) (c : UInt8) : (byteL i c).length ≤ 9 + i.s.length := by
  unfold byteL
  by_cases h : c = 115
  · rw [if_pos h, List.length_append]; have := sev_len i.s.length; omega
  · rw [if_neg h]; have := sev_len (i.get c).toNat; omega
theorem bytesL_len (i : Ins) (cs : List UInt8) : (bytesL i cs).length ≤ cs.length * (9 + i.s.length) := by
  induction cs with
  | nil => simp [bytesL]
  | cons c cs ih =>
    rw [bytesL_cons, List.length_append, List.length_cons, Nat.add_mul]
    have := byteL_len i c
    omega
theorem bytesL_snoc (i : Ins) (cs : List UInt8) (j : Nat) (c : UInt8) (h : cs[j]? = some c) : bytesL i (cs.take (j + 1)) = bytesL i (cs.take j) ++ byteL i c := by
  rw [List.take_add_one, h]
  simp [bytesL, byteL]
theorem may_short (i : Ins) (h : mayB i = true) : i.s.length ≤ 64 := by
  rw [may_eq] at h
  unfold mayR txtB at h
  simp only [Bool.and_eq_true] at h
  have h2 := h.2.2.2.2.2
  by_cases hS : hasS i.op
  · rw [if_pos hS] at h2; simpa using h2
  · rw [if_neg hS] at h2
    have : i.s = [] := by simpa using h2
    rw [this]; simp
theorem insBytes_len (i : Ins) (h : mayB i = true) : (insBytes i).length ≤ 400 := by
  have h1 := sev_len i.op.toNat
  have h2 := bytesL_len i (hasL i.op)
  have h3 := hasL_short i.op
  have h4 := may_short i h
  have h5 : (hasL i.op).length * (9 + i.s.length) ≤ 4 * 73 := Nat.mul_le_mul h3 (by omega)
  unfold insBytes
  rw [List.length_append]
  omega

set_option maxRecDepth 100000 in
set_option maxHeartbeats 8000000 in
theorem cBytes_bad {W w : World} {l : List SL} (i : Ins) (hs : i.s.length ≤ maxLen) (hm : mayB i = false) (H : Sat W w l) :
    Calls Try.prog 16 #[.agg i.cs.toArray] w fun e w' => e = .returned (.tuple #[.slice none 0 0, .int .i64 2]) ∧ Sat W w' l := by
  obtain ⟨op, ia, ib, ic, im, is⟩ := i
  have hck := cCheck_any (W := W) (w := w.alloc (.cells (Ins.cs ⟨op, ia, ib, ic, im, is⟩).toArray 26)) (l := pt w.heap.size (Ins.cs ⟨op, ia, ib, ic, im, is⟩).toArray 26 :: l) ⟨op, ia, ib, ic, im, is⟩ hs (H.alloc _ _)
  rw [hm] at hck
  have HCK := Lib.hid hck
  clear hck hm
  show Calls Try.prog 16 #[.agg #[.int .i64 op, .int .i64 ia, .int .i64 ib, .int .i64 ic, .int .i64 im, .string ⟨is.toArray⟩]] w _
  go_enter Try.func16, Try.ntmps16
  go_wp2_with fail
  refine HCK.out.mono ?_
  rintro e w1 ⟨rfl, H1⟩
  go_wp2
  go_ret2
  exact ⟨rfl, H1.tail⟩

set_option maxRecDepth 100000 in
set_option maxHeartbeats 8000000 in
theorem cBytes_fine {W w : World} {l : List SL} (i : Ins) (hm : mayB i = true) (H : Sat W w l) :
    Calls Try.prog 16 #[.agg i.cs.toArray] w fun e w' => ∃ A c, e = .returned (.tuple #[.slice A (insBytes i).length c, .int .i64 0]) ∧ Sat W w' (row 5 zB (.slice A (insBytes i).length c) (insBytes i).length ((insBytes i).map B) :: l) := by
  have hs := may_short i hm
  have hck := cCheck_any (W := W) (w := w.alloc (.cells i.cs.toArray 26)) (l := pt w.heap.size i.cs.toArray 26 :: l) i (by unfold maxLen; omega) (H.alloc _ _)
  rw [hm] at hck
  obtain ⟨hop, hin, _⟩ := may_inb i hm
  have hbl := insBytes_len i hm
  have hnum := hasL_num i.op
  have hsh := hasL_short i.op
  obtain ⟨bs, HB⟩ : ∃ bs, Hid (insBytes i = bs) := ⟨_, rfl⟩
  rw [HB.out] at hbl ⊢
  have HB2 : Hid (sev i.op.toNat ++ bytesL i (hasL i.op) = bs) := HB.out
  have HCK := Lib.hid hck
  obtain ⟨op, ia, ib, ic, im, is⟩ := i
  dsimp only at hs hop hin hbl hnum hsh HB2
  obtain ⟨o, rfl⟩ : ∃ o : Nat, op = o := ⟨op.toNat, by omega⟩
  rw [Int.toNat_natCast] at HB2
  have ho9 := sev_len o
  have HH := Lib.hid (fun w0 (l0 : List SL) (h : Sat W w0 l0) => cHas_any (W := W) (w := w0) (l := l0) (o : Int) h)
  generalize hasL (o : Int) = ls at *
  clear hck hm HB
  show Calls Try.prog 16 #[.agg #[.int .i64 o, .int .i64 ia, .int .i64 ib, .int .i64 ic, .int .i64 im, .string ⟨is.toArray⟩]] w _
  have hlen : ∀ j, (sev o ++ bytesL ⟨o, ia, ib, ic, im, is⟩ (ls.take j)).length ≤ 1000 := fun j => by
    rw [List.length_append]
    have h2 := bytesL_len ⟨o, ia, ib, ic, im, is⟩ (ls.take j)
    have h3 : (ls.take j).length ≤ 4 := Nat.le_trans (by rw [List.length_take]; exact Nat.min_le_right _ _) hsh
    have h5 : (ls.take j).length * (9 + is.length) ≤ 4 * 73 := Nat.mul_le_mul h3 (by omega)
    dsimp only at h2
    omega
  have HLEN := Lib.hid hlen
  clear hlen
  go_enter Try.func16, Try.ntmps16
  go_wp2_with fail
  refine HCK.out.mono ?_
  rintro e w1 ⟨rfl, H1⟩
  clear HCK
  generalize w.heap.size = ib' at H1 ⊢
  go_wp2_with fail
  refine (new_any H1).mono ?_
  rintro e w2 ⟨rfl, H2⟩
  generalize w1.heap.size = p at H2 ⊢
  have i0 : w2.cell? ⟨ib', 0, none⟩ = some (.int .i64 o) := H2.swap.cell 0
  go_wp2_with fail
  refine (wInt_any o (by omega) (by simp) H2).mono ?_
  rintro e w3 ⟨rfl, H3⟩
  have j0 : w3.cell? ⟨ib', 0, none⟩ = some (.int .i64 o) := H3.swap.cell 0
  go_wp2_with fail
  refine (HH.out _ _ H3).mono ?_
  rintro e w4 ⟨rfl, H4⟩
  clear HH
  have H5 := H4.iter ⟨ls.toArray⟩
  go_wp2
  generalize w4.heap.size = k at H5 ⊢
  go_loopg [7] ls.length (fun g _ wc => ∃ (j : Nat), g = ls.length - j ∧ j ≤ ls.length ∧ Sat W wc (itr k ⟨ls.toArray⟩ j :: wr p (sev o ++ bytesL ⟨o, ia, ib, ic, im, is⟩ (ls.take j)) false :: pt ib' (Ins.cs ⟨o, ia, ib, ic, im, is⟩).toArray 26 :: l))
  case atStart => exact ⟨0, rfl, by omega, by simpa [bytesL] using H5⟩
  case round =>
    obtain ⟨j, rfl, hj, H6⟩ := hrel
    clear H1 H2 H3 H4 H5
    by_cases hlt : j < ls.length
    · obtain ⟨c, hcj⟩ : ∃ c, ls[j]? = some c := ⟨_, List.getElem?_eq_getElem hlt⟩
      have hcn : c = 115 ∨ c = 97 ∨ c = 98 ∨ c = 99 ∨ c = 110 := by
        by_cases h : c = 115
        · exact .inl h
        · exact .inr (hnum c (List.mem_of_getElem? hcj) h)
      have hlt' : j < (ByteArray.mk ls.toArray).size := by rw [ba_size]; exact hlt
      have hat := ba_at ls j c hcj hlt'
      have hb := hin c (List.mem_of_getElem? hcj)
      have hst := bytesL_snoc ⟨o, ia, ib, ic, im, is⟩ ls j c hcj
      clear hcj hnum hin
      have HST := Lib.hid hst
      clear hst
      have hl0 := HLEN.out j
      rcases hcn with rfl | rfl | rfl | rfl | rfl
      · have hsz : (ByteArray.mk is.toArray).size = is.length := ba_size is
        go_wp2_with (first
          | (refine wpList_next_more rfl (.tmp 21) rfl k ⟨ls.toArray⟩ j rfl H6 115 hlt' hat (by decide) ?_
             intro w6 H7
             have k1 : w6.cell? ⟨ib', 1, none⟩ = some (.int .i64 ia) := (H7.pull 2).cell 1
             have k2 : w6.cell? ⟨ib', 2, none⟩ = some (.int .i64 ib) := (H7.pull 2).cell 2
             have k3 : w6.cell? ⟨ib', 3, none⟩ = some (.int .i64 ic) := (H7.pull 2).cell 3
             have k4 : w6.cell? ⟨ib', 4, none⟩ = some (.int .i64 im) := (H7.pull 2).cell 4
             have k5 : w6.cell? ⟨ib', 5, none⟩ = some (.string ⟨is.toArray⟩) := (H7.pull 2).cell 5))
        refine (wText_any ⟨is.toArray⟩ (by omega) (by omega) H7.swap).mono ?_
        rintro e w8 ⟨rfl, H8⟩
        go_wp2
        go_roundg (ls.length - (j + 1))
        case measure => omega
        case rel =>
          refine ⟨j + 1, rfl, by omega, ?_⟩
          have e : sev o ++ bytesL ⟨o, ia, ib, ic, im, is⟩ (ls.take j) ++ sev (ByteArray.mk is.toArray).size ++ (ByteArray.mk is.toArray).data.toList = sev o ++ bytesL ⟨o, ia, ib, ic, im, is⟩ (ls.take (j + 1)) := by
            rw [HST.out, hsz]; simp [byteL]
          rw [e] at H8
          exact H8.swap
      · obtain ⟨m, rfl⟩ : ∃ m : Nat, ia = m := ⟨(ia).toNat, by simp [InB, Ins.get, lowOf] at hb; omega⟩
        have hm : m < 9223372036854775808 := by
          simp [InB, Ins.get, highOf] at hb
          try unfold mostN at hb
          try split at hb
          all_goals omega
        clear hb
        go_wp2_with (first
          | (refine wpList_next_more rfl (.tmp 21) rfl k ⟨ls.toArray⟩ j rfl H6 97 hlt' hat (by decide) ?_
             intro w6 H7
             have k1 : w6.cell? ⟨ib', 1, none⟩ = some (.int .i64 (m : Int)) := (H7.pull 2).cell 1
             have k2 : w6.cell? ⟨ib', 2, none⟩ = some (.int .i64 ib) := (H7.pull 2).cell 2
             have k3 : w6.cell? ⟨ib', 3, none⟩ = some (.int .i64 ic) := (H7.pull 2).cell 3
             have k4 : w6.cell? ⟨ib', 4, none⟩ = some (.int .i64 im) := (H7.pull 2).cell 4
             have k5 : w6.cell? ⟨ib', 5, none⟩ = some (.string ⟨is.toArray⟩) := (H7.pull 2).cell 5)
          | (go_at_call 47; refine (cField_num ib' 97 1 (by decide) _).mono ?_; rintro e _ ⟨rfl, rfl⟩))
        refine (wInt_any m hm (by omega) H7.swap).mono ?_
        rintro e w8 ⟨rfl, H8⟩
        go_wp2
        go_roundg (ls.length - (j + 1))
        case measure => omega
        case rel =>
          refine ⟨j + 1, rfl, by omega, ?_⟩
          rw [HST.out, ← List.append_assoc]
          have e : byteL ⟨o, (m : Int), ib, ic, im, is⟩ 97 = sev m := by simp [byteL, Ins.get]
          rw [e]
          exact H8.swap
      · obtain ⟨m, rfl⟩ : ∃ m : Nat, ib = m := ⟨(ib).toNat, by simp [InB, Ins.get, lowOf] at hb; omega⟩
        have hm : m < 9223372036854775808 := by
          simp [InB, Ins.get, highOf] at hb
          try unfold mostN at hb
          try split at hb
          all_goals omega
        clear hb
        go_wp2_with (first
          | (refine wpList_next_more rfl (.tmp 21) rfl k ⟨ls.toArray⟩ j rfl H6 98 hlt' hat (by decide) ?_
             intro w6 H7
             have k1 : w6.cell? ⟨ib', 1, none⟩ = some (.int .i64 ia) := (H7.pull 2).cell 1
             have k2 : w6.cell? ⟨ib', 2, none⟩ = some (.int .i64 (m : Int)) := (H7.pull 2).cell 2
             have k3 : w6.cell? ⟨ib', 3, none⟩ = some (.int .i64 ic) := (H7.pull 2).cell 3
             have k4 : w6.cell? ⟨ib', 4, none⟩ = some (.int .i64 im) := (H7.pull 2).cell 4
             have k5 : w6.cell? ⟨ib', 5, none⟩ = some (.string ⟨is.toArray⟩) := (H7.pull 2).cell 5)
          | (go_at_call 47; refine (cField_num ib' 98 2 (by decide) _).mono ?_; rintro e _ ⟨rfl, rfl⟩))
        refine (wInt_any m hm (by omega) H7.swap).mono ?_
        rintro e w8 ⟨rfl, H8⟩
        go_wp2
        go_roundg (ls.length - (j + 1))
        case measure => omega
        case rel =>
          refine ⟨j + 1, rfl, by omega, ?_⟩
          rw [HST.out, ← List.append_assoc]
          have e : byteL ⟨o, ia, (m : Int), ic, im, is⟩ 98 = sev m := by simp [byteL, Ins.get]
          rw [e]
          exact H8.swap
      · obtain ⟨m, rfl⟩ : ∃ m : Nat, ic = m := ⟨(ic).toNat, by simp [InB, Ins.get, lowOf] at hb; omega⟩
        have hm : m < 9223372036854775808 := by
          simp [InB, Ins.get, highOf] at hb
          try unfold mostN at hb
          try split at hb
          all_goals omega
        clear hb
        go_wp2_with (first
          | (refine wpList_next_more rfl (.tmp 21) rfl k ⟨ls.toArray⟩ j rfl H6 99 hlt' hat (by decide) ?_
             intro w6 H7
             have k1 : w6.cell? ⟨ib', 1, none⟩ = some (.int .i64 ia) := (H7.pull 2).cell 1
             have k2 : w6.cell? ⟨ib', 2, none⟩ = some (.int .i64 ib) := (H7.pull 2).cell 2
             have k3 : w6.cell? ⟨ib', 3, none⟩ = some (.int .i64 (m : Int)) := (H7.pull 2).cell 3
             have k4 : w6.cell? ⟨ib', 4, none⟩ = some (.int .i64 im) := (H7.pull 2).cell 4
             have k5 : w6.cell? ⟨ib', 5, none⟩ = some (.string ⟨is.toArray⟩) := (H7.pull 2).cell 5)
          | (go_at_call 47; refine (cField_num ib' 99 3 (by decide) _).mono ?_; rintro e _ ⟨rfl, rfl⟩))
        refine (wInt_any m hm (by omega) H7.swap).mono ?_
        rintro e w8 ⟨rfl, H8⟩
        go_wp2
        go_roundg (ls.length - (j + 1))
        case measure => omega
        case rel =>
          refine ⟨j + 1, rfl, by omega, ?_⟩
          rw [HST.out, ← List.append_assoc]
          have e : byteL ⟨o, ia, ib, (m : Int), im, is⟩ 99 = sev m := by simp [byteL, Ins.get]
          rw [e]
          exact H8.swap
      · obtain ⟨m, rfl⟩ : ∃ m : Nat, im = m := ⟨(im).toNat, by simp [InB, Ins.get, lowOf] at hb; omega⟩
        have hm : m < 9223372036854775808 := by
          simp [InB, Ins.get, highOf] at hb
          try unfold mostN at hb
          try split at hb
          all_goals omega
        clear hb
        go_wp2_with (first
          | (refine wpList_next_more rfl (.tmp 21) rfl k ⟨ls.toArray⟩ j rfl H6 110 hlt' hat (by decide) ?_
             intro w6 H7
             have k1 : w6.cell? ⟨ib', 1, none⟩ = some (.int .i64 ia) := (H7.pull 2).cell 1
             have k2 : w6.cell? ⟨ib', 2, none⟩ = some (.int .i64 ib) := (H7.pull 2).cell 2
             have k3 : w6.cell? ⟨ib', 3, none⟩ = some (.int .i64 ic) := (H7.pull 2).cell 3
             have k4 : w6.cell? ⟨ib', 4, none⟩ = some (.int .i64 (m : Int)) := (H7.pull 2).cell 4
             have k5 : w6.cell? ⟨ib', 5, none⟩ = some (.string ⟨is.toArray⟩) := (H7.pull 2).cell 5)
          | (go_at_call 47; refine (cField_num ib' 110 4 (by decide) _).mono ?_; rintro e _ ⟨rfl, rfl⟩))
        refine (wInt_any m hm (by omega) H7.swap).mono ?_
        rintro e w8 ⟨rfl, H8⟩
        go_wp2
        go_roundg (ls.length - (j + 1))
        case measure => omega
        case rel =>
          refine ⟨j + 1, rfl, by omega, ?_⟩
          rw [HST.out, ← List.append_assoc]
          have e : byteL ⟨o, ia, ib, ic, (m : Int), is⟩ 110 = sev m := by simp [byteL, Ins.get]
          rw [e]
          exact H8.swap
    · obtain rfl : j = ls.length := by omega
      have hov : ¬ ls.length < (ByteArray.mk ls.toArray).size := by rw [ba_size]; omega
      rw [List.take_length, HB2.out] at H6
      clear hnum hin
      go_wp2_with (refine wpList_next_over rfl (.tmp 21) rfl k ⟨ls.toArray⟩ ls.length rfl H6 hov ?_)
      refine (wOut_any (by omega) H6.swap).mono ?_
      rintro e w8 ⟨A8, c8, rfl, H8⟩
      go_wp2
      go_ret2
      exact ⟨A8, c8, rfl, H8.swap.tail.swap.tail.swap.tail⟩
end Go.Proofs.Ytflcmhmbmippfaa
