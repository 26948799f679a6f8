/- The document's own: an instruction as bytes, and how many. -/
import Derived.Test.YtflcmhmbmippfaaCdF
import Derived.Test.YtflcmhmbmippfaaCdE
namespace Go.Proofs.Ytflcmhmbmippfaa
open Go.RowKit Go.Rt

theorem may_nats (i : Ins) (h : mayB i = true) : (1 ≤ i.op ∧ i.op ≤ 15) ∧ 0 ≤ i.a ∧ 0 ≤ i.b ∧ 0 ≤ i.c ∧ 0 ≤ i.n ∧ i.a ≤ 7 ∧ i.b ≤ 7 ∧ i.c ≤ 7 ∧ i.n ≤ 60 := by
  rw [may_eq] at h
  obtain ⟨op, a, b, c, n, s⟩ := i
  simp only [mayR, Bool.and_eq_true, decide_eq_true_eq] at h
  obtain ⟨h1, h2, h3, h4, h5, _⟩ := h
  have hr : ∀ (v : Int) (x : Bool), regB v x = true → 0 ≤ v ∧ v ≤ 7 := fun v x h => by
    cases x <;> simp [regB] at h <;> omega
  have hn : 0 ≤ n ∧ n ≤ 60 := by
    unfold numB at h5
    dsimp only at h5
    have hmm : mostN op ≤ 60 := by unfold mostN; split <;> omega
    split at h5 <;> simp at h5 <;> omega
  have := hr _ _ h2
  have := hr _ _ h3
  have := hr _ _ h4
  dsimp only
  omega

set_option maxRecDepth 100000 in
set_option maxHeartbeats 8000000 in
theorem kBytes_bad {W w : World} {l : List SL} (i : Ins) (hs : i.s.length ≤ maxLen) (hm : mayB i = false) (H : Sat W w l) :
    Calls Try.prog 17 #[.agg i.cs.toArray] w fun e w' => e = .returned (.tuple #[.slice none 0 0, .int .i64 2]) ∧ Sat W w' l := by
  obtain ⟨op, ia, ib, ic, im, is⟩ := i
  have hck := kCheck_any (W := W) (w := w.alloc (.cells (Ins.cs ⟨op, ia, ib, ic, im, is⟩).toArray 26)) (l := pt w.heap.size (Ins.cs ⟨op, ia, ib, ic, im, is⟩).toArray 26 :: l) ⟨op, ia, ib, ic, im, is⟩ hs (H.alloc _ _)
  rw [← may_eq, hm] at hck
  have HCK := Lib.hid hck
  clear hck hm
  show Calls Try.prog 17 #[.agg #[.int .i64 op, .int .i64 ia, .int .i64 ib, .int .i64 ic, .int .i64 im, .string ⟨is.toArray⟩]] w _
  go_enter Try.func17, Try.ntmps17
  go_wp2_with fail
  refine HCK.out.mono ?_
  rintro e w1 ⟨rfl, H1⟩
  go_wp2
  go_ret2
  exact ⟨rfl, H1.tail⟩

set_option maxRecDepth 100000 in
set_option maxHeartbeats 8000000 in
theorem kBytes_fine {W w : World} {l : List SL} (i : Ins) (hm : mayB i = true) (H : Sat W w l) :
    Calls Try.prog 17 #[.agg i.cs.toArray] w fun e w' => ∃ A c, e = .returned (.tuple #[.slice A (insBytes i).length c, .int .i64 0]) ∧ Sat W w' (row 5 zB (.slice A (insBytes i).length c) (insBytes i).length ((insBytes i).map B) :: l) := by
  have hs := may_short i hm
  have hck := kCheck_any (W := W) (w := w.alloc (.cells i.cs.toArray 26)) (l := pt w.heap.size i.cs.toArray 26 :: l) i (by unfold maxLen; omega) (H.alloc _ _)
  rw [← may_eq, hm] at hck
  obtain ⟨⟨p1, p2⟩, pa, pb, pc, pn, qa, qb, qc, qn⟩ := may_nats i hm
  rw [← bytes_eq i ⟨p1, p2⟩]
  obtain ⟨op, ia, ib, ic, im, is⟩ := i
  dsimp only at hs p1 p2 pa pb pc pn qa qb qc qn
  obtain ⟨o, rfl⟩ : ∃ o : Nat, op = o := ⟨op.toNat, by omega⟩
  obtain ⟨a, rfl⟩ : ∃ a : Nat, ia = a := ⟨ia.toNat, by omega⟩
  obtain ⟨b, rfl⟩ : ∃ b : Nat, ib = b := ⟨ib.toNat, by omega⟩
  obtain ⟨c, rfl⟩ : ∃ c : Nat, ic = c := ⟨ic.toNat, by omega⟩
  obtain ⟨n, rfl⟩ : ∃ n : Nat, im = n := ⟨im.toNat, by omega⟩
  have hHas := kHas_any (o : Int)
  obtain ⟨b1, hb1⟩ : ∃ x, sev o ++ (if hasA (o : Int) then sev a else []) = x := ⟨_, rfl⟩
  obtain ⟨b2, hb2⟩ : ∃ x, b1 ++ (if hasB (o : Int) then sev b else []) = x := ⟨_, rfl⟩
  obtain ⟨b3, hb3⟩ : ∃ x, b2 ++ (if hasC (o : Int) then sev c else []) = x := ⟨_, rfl⟩
  obtain ⟨b4, hb4⟩ : ∃ x, b3 ++ (if hasN (o : Int) then sev n else []) = x := ⟨_, rfl⟩
  obtain ⟨b5, hb5⟩ : ∃ x, b4 ++ (if hasS (o : Int) then sev is.length ++ is else []) = x := ⟨_, rfl⟩
  have hall : refBytes ⟨o, a, b, c, n, is⟩ = b5 := by
    rw [← hb5, ← hb4, ← hb3, ← hb2, ← hb1]
    simp [refBytes, List.append_assoc]
  rw [hall]
  clear hall hm
  generalize hasA (o : Int) = bA at *
  generalize hasB (o : Int) = bB at *
  generalize hasC (o : Int) = bC at *
  generalize hasN (o : Int) = bN at *
  generalize hasS (o : Int) = bS at *
  have z := sev_len o
  have z1 := sev_len a
  have z2 := sev_len b
  have z3 := sev_len c
  have z4 := sev_len n
  have z5 := sev_len is.length
  have l1 : b1.length ≤ 40 := by rw [← hb1, List.length_append]; split <;> (try simp) <;> omega
  have l2 : b2.length ≤ 80 := by rw [← hb2, List.length_append]; split <;> (try simp) <;> omega
  have l3 : b3.length ≤ 120 := by rw [← hb3, List.length_append]; split <;> (try simp) <;> omega
  have l4 : b4.length ≤ 160 := by rw [← hb4, List.length_append]; split <;> (try simp) <;> omega
  have l5 : b5.length ≤ 400 := by rw [← hb5, List.length_append]; split <;> (try simp) <;> omega
  have B1 := Lib.hid hb1
  have B2 := Lib.hid hb2
  have B3 := Lib.hid hb3
  have B4 := Lib.hid hb4
  have B5 := Lib.hid hb5
  have HCK := Lib.hid hck
  have HH := Lib.hid hHas
  clear hck hHas hb1 hb2 hb3 hb4 hb5
  show Calls Try.prog 17 #[.agg #[.int .i64 o, .int .i64 a, .int .i64 b, .int .i64 c, .int .i64 n, .string ⟨is.toArray⟩]] w _
  go_enter Try.func17, Try.ntmps17
  go_wp2_with fail
  refine HCK.out.mono ?_
  rintro e w1 ⟨rfl, H1⟩
  clear HCK
  generalize w.heap.size = ib' at H1 ⊢
  have i0 : w1.cell? ⟨ib', 0, none⟩ = some (.int .i64 o) := H1.cell 0
  go_wp2_with fail
  refine (HH.out _).mono ?_
  rintro e _ ⟨rfl, rfl⟩
  clear HH
  have H2 : Sat W (w1.alloc (.cells #[.slice none 0 0, .bool false] 82)) (xr w1.heap.size [] false :: pt ib' (Ins.cs ⟨o, a, b, c, n, is⟩).toArray 26 :: l) := xr_shut (A := none) (c := 0) (((H1.alloc _ _).nil 5 zB).swap)
  have j0 : (w1.alloc (.cells #[.slice none 0 0, .bool false] 82)).cell? ⟨ib', 0, none⟩ = some (.int .i64 o) := H2.swap.cell 0
  go_wp2_with fail
  refine (xInt_any o (by omega) (by simp) H2).mono ?_
  rintro e w2 ⟨rfl, H3⟩
  rw [List.nil_append] at H3
  clear H1 i0 H2 j0
  generalize w1.heap.size = p at H3 ⊢
  go_upto_if 28 with fail
  go_cut [] (fun wx => Sat W wx (xr p b1 false :: pt ib' (Ins.cs ⟨o, a, b, c, n, is⟩).toArray 26 :: l))
  case first =>
    cases bA with
    | false =>
      obtain rfl : sev o = b1 := by simpa using B1.out
      go_wp2_with fail
      go_meet
      exact H3
    | true =>
      obtain rfl : sev o ++ sev a = b1 := by simpa using B1.out
      have iv : w2.cell? ⟨ib', 1, none⟩ = some (.int .i64 a) := H3.swap.cell 1
      go_wp2_with fail
      refine (xInt_any a (by omega) (by omega) H3).mono ?_
      rintro e w9 ⟨rfl, H9⟩
      go_wp2_with fail
      go_meet
      exact H9
  case rest =>
  have K0 := hcut
  clear hcut B1 H3
  go_upto_if 33 with fail
  go_cut [] (fun wx => Sat W wx (xr p b2 false :: pt ib' (Ins.cs ⟨o, a, b, c, n, is⟩).toArray 26 :: l))
  case first =>
    cases bB with
    | false =>
      obtain rfl : b1 = b2 := by simpa using B2.out
      go_wp2_with fail
      go_meet
      exact K0
    | true =>
      obtain rfl : b1 ++ sev b = b2 := by simpa using B2.out
      have iv : wc.cell? ⟨ib', 2, none⟩ = some (.int .i64 b) := K0.swap.cell 2
      go_wp2_with fail
      refine (xInt_any b (by omega) (by omega) K0).mono ?_
      rintro e w9 ⟨rfl, H9⟩
      go_wp2_with fail
      go_meet
      exact H9
  case rest =>
  have K1 := hcut
  clear hcut B2 K0
  go_upto_if 38 with fail
  go_cut [] (fun wx => Sat W wx (xr p b3 false :: pt ib' (Ins.cs ⟨o, a, b, c, n, is⟩).toArray 26 :: l))
  case first =>
    cases bC with
    | false =>
      obtain rfl : b2 = b3 := by simpa using B3.out
      go_wp2_with fail
      go_meet
      exact K1
    | true =>
      obtain rfl : b2 ++ sev c = b3 := by simpa using B3.out
      have iv : wc.cell? ⟨ib', 3, none⟩ = some (.int .i64 c) := K1.swap.cell 3
      go_wp2_with fail
      refine (xInt_any c (by omega) (by omega) K1).mono ?_
      rintro e w9 ⟨rfl, H9⟩
      go_wp2_with fail
      go_meet
      exact H9
  case rest =>
  have K2 := hcut
  clear hcut B3 K1
  go_upto_if 43 with fail
  go_cut [] (fun wx => Sat W wx (xr p b4 false :: pt ib' (Ins.cs ⟨o, a, b, c, n, is⟩).toArray 26 :: l))
  case first =>
    cases bN with
    | false =>
      obtain rfl : b3 = b4 := by simpa using B4.out
      go_wp2_with fail
      go_meet
      exact K2
    | true =>
      obtain rfl : b3 ++ sev n = b4 := by simpa using B4.out
      have iv : wc.cell? ⟨ib', 4, none⟩ = some (.int .i64 n) := K2.swap.cell 4
      go_wp2_with fail
      refine (xInt_any n (by omega) (by omega) K2).mono ?_
      rintro e w9 ⟨rfl, H9⟩
      go_wp2_with fail
      go_meet
      exact H9
  case rest =>
  have K3 := hcut
  clear hcut B4 K2
  go_upto_if 48 with fail
  go_cut [] (fun wx => Sat W wx (xr p b5 false :: pt ib' (Ins.cs ⟨o, a, b, c, n, is⟩).toArray 26 :: l))
  case first =>
    cases bS with
    | false =>
      obtain rfl : b4 = b5 := by simpa using B5.out
      go_wp2_with fail
      go_meet
      exact K3
    | true =>
      obtain rfl : b4 ++ (sev is.length ++ is) = b5 := by simpa using B5.out
      have iv : wc.cell? ⟨ib', 5, none⟩ = some (.string ⟨is.toArray⟩) := K3.swap.cell 5
      go_wp2_with fail
      refine (xText_any ⟨is.toArray⟩ (by simp [ByteArray.size]; omega) (by omega) K3).mono ?_
      rintro e w9 ⟨rfl, H9⟩
      go_wp2_with fail
      go_meet
      simpa [ByteArray.size, List.append_assoc] using H9
  case rest =>
  have K4 := hcut
  clear hcut B5 K3
  go_wp2_with fail
  refine (xOut_any (by omega) K4).mono ?_
  rintro e w9 ⟨A, cc, rfl, H9⟩
  go_wp2
  go_ret2
  exact ⟨A, cc, rfl, H9.swap.tail.swap.tail⟩

set_option maxRecDepth 100000 in
set_option maxHeartbeats 8000000 in
theorem kSize_fine {W w : World} {l : List SL} (i : Ins) (hm : mayB i = true) (H : Sat W w l) :
    Calls Try.prog 22 #[.agg i.cs.toArray] w fun e w' => e = .returned (.int .i64 ((insBytes i).length : Nat)) ∧ Sat W w' l := by
  have hb := kBytes_fine (W := W) (w := w.alloc (.cells i.cs.toArray 26)) (l := pt w.heap.size i.cs.toArray 26 :: l) i hm (H.alloc _ _)
  obtain ⟨op, ia, ib, ic, im, is⟩ := i
  have HB := Lib.hid hb
  clear hb hm
  show Calls Try.prog 22 #[.agg #[.int .i64 op, .int .i64 ia, .int .i64 ib, .int .i64 ic, .int .i64 im, .string ⟨is.toArray⟩]] w _
  go_enter Try.func22, Try.ntmps22
  go_wp2_with fail
  refine HB.out.mono ?_
  rintro e w1 ⟨A, c, rfl, H1⟩
  go_wp2
  go_ret
  exact ⟨rfl, H1.tail.tail⟩

set_option maxRecDepth 100000 in
set_option maxHeartbeats 8000000 in
theorem kSize_bad {W w : World} {l : List SL} (i : Ins) (hs : i.s.length ≤ maxLen) (hm : mayB i = false) (H : Sat W w l) :
    Calls Try.prog 22 #[.agg i.cs.toArray] w fun e w' => e = .returned (.int .i64 0) ∧ Sat W w' l := by
  have hb := kBytes_bad (W := W) (w := w.alloc (.cells i.cs.toArray 26)) (l := pt w.heap.size i.cs.toArray 26 :: l) i hs hm (H.alloc _ _)
  obtain ⟨op, ia, ib, ic, im, is⟩ := i
  have HB := Lib.hid hb
  clear hb hm
  show Calls Try.prog 22 #[.agg #[.int .i64 op, .int .i64 ia, .int .i64 ib, .int .i64 ic, .int .i64 im, .string ⟨is.toArray⟩]] w _
  go_enter Try.func22, Try.ntmps22
  go_wp2_with fail
  refine HB.out.mono ?_
  rintro e w1 ⟨rfl, H1⟩
  go_wp2
  go_ret
  exact ⟨rfl, H1.tail⟩
end Go.Proofs.Ytflcmhmbmippfaa
