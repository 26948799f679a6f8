/- MkD, in one text: CdF, CdG, WdV, WeY, WdW, WdX, CdH, CdI. -/
import Derived.Test.YtflcmhmbmippfaaMkC
import Derived.Deep.DeepCutAuto
import Derived.Test.YtflcmhmbmippfaaMkA
import Derived.Test.YtflcmhmbmippfaaMkB
import Derived.Laws.Rows
/- The document's own: what each Op has, which instruction may be. -/
namespace Go.Proofs.Ytflcmhmbmippfaa
open Go.RowKit Go.Rt

set_option maxRecDepth 100000 in
set_option maxHeartbeats 1600000 in
theorem kHas_any (op : Int) (w : World) :
    Calls Try.prog 51 #[.int .i64 op] w fun e w' => e = .returned (.tuple #[.bool (hasA op), .bool (hasB op), .bool (hasC op), .bool (hasN op), .bool (hasS op)]) ∧ w = w' := by
  by_cases h : 1 ≤ op ∧ op ≤ 15
  · rcases op_cases op h with rfl | rfl | rfl | rfl | rfl | rfl | rfl | rfl | rfl | rfl | rfl | rfl | rfl | rfl | rfl
    all_goals
      go_enter Try.func51, Try.ntmps51
      go_wp2
      exact bodyPost_ret (by simp [results, Try.results51, go_sem, hasA, hasB, hasC, hasN, hasS, hasL]) rfl ⟨rfl, rfl⟩
  · have hl := hasL_out op (by omega)
    have e : ∀ k : Int, 1 ≤ k ∧ k ≤ 15 → (op == k) = false := fun k hk => by simp; omega
    have e1 := e 1 (by omega)
    have e2 := e 2 (by omega)
    have e3 := e 3 (by omega)
    have e4 := e 4 (by omega)
    have e5 := e 5 (by omega)
    have e6 := e 6 (by omega)
    have e7 := e 7 (by omega)
    have e8 := e 8 (by omega)
    have e9 := e 9 (by omega)
    have e10 := e 10 (by omega)
    have e11 := e 11 (by omega)
    have e12 := e 12 (by omega)
    have e13 := e 13 (by omega)
    have e14 := e 14 (by omega)
    clear e
    unfold hasA hasB hasC hasN hasS
    rw [hl]
    clear hl
    go_enter Try.func51, Try.ntmps51
    go_wp2
    exact bodyPost_ret (by simp [results, Try.results51, go_sem]) rfl ⟨rfl, rfl⟩

set_option maxRecDepth 100000 in
theorem kMost_any (op : Int) (w : World) : Calls Try.prog 52 #[.int .i64 op] w fun e w' => e = .returned (.int .i64 (mostN op)) ∧ w' = w := by
  by_cases h : op = 6
  · subst h
    go_enter Try.func52, Try.ntmps52
    go_wp2
    go_ret
    exact ⟨rfl, rfl⟩
  · have hm : mostN op = 60 := by unfold mostN; rw [if_neg h]
    have h6 : (op == 6) = false := by simpa using h
    rw [hm]
    go_enter Try.func52, Try.ntmps52
    go_wp2
    go_ret
    exact ⟨rfl, rfl⟩

set_option maxRecDepth 100000 in
theorem kreg_any (n : Int) (has : Bool) (w : World) : Calls Try.prog 61 #[.int .i64 n, .bool has] w fun e w' => e = .returned (.bool (regB n has)) ∧ w = w' := by
  cases has with
  | true =>
    by_cases h1 : 0 ≤ n
    · by_cases h2 : n < 8
      · have hr : regB n true = true := by simp [regB, h1, h2]
        rw [hr]
        go_enter Try.func61, Try.ntmps61
        go_wp2
        go_ret
        exact ⟨rfl, rfl⟩
      · have hr : regB n true = false := by simp [regB]; omega
        rw [hr]
        have e2 : decide (n < 8) = false := by simpa using h2
        go_enter Try.func61, Try.ntmps61
        go_wp2
        go_ret
        exact ⟨rfl, rfl⟩
    · have hr : regB n true = false := by simp [regB]; omega
      rw [hr]
      have e1 : decide ((0 : Int) ≤ n) = false := by simpa using h1
      go_enter Try.func61, Try.ntmps61
      go_wp2
      go_ret
      exact ⟨rfl, rfl⟩
  | false =>
    have hr : regB n false = (n == 0) := by simp only [regB, Bool.false_eq_true, if_false]; rfl
    rw [hr]
    by_cases h : n = 0
    · subst h
      go_enter Try.func61, Try.ntmps61
      go_wp2
      go_ret
      exact ⟨rfl, rfl⟩
    · have e1 : (n == 0) = false := by simpa using h
      rw [e1]
      go_enter Try.func61, Try.ntmps61
      go_wp2
      go_ret
      exact ⟨rfl, rfl⟩

set_option maxRecDepth 100000 in
set_option maxHeartbeats 8000000 in
theorem kCheck_any {W w : World} {l : List SL} (i : Ins) (hs : i.s.length ≤ maxLen) (H : Sat W w l) :
    Calls Try.prog 20 #[.agg i.cs.toArray] w fun e w' => e = .returned (.int .i64 (if mayR i then 0 else 2)) ∧ Sat W w' l := by
  obtain ⟨op, ia, ib, ic, im, is⟩ := i
  unfold maxLen at hs
  dsimp only at hs
  have H1 : Sat W (w.alloc (.cells #[.int .i64 op, .int .i64 ia, .int .i64 ib, .int .i64 ic, .int .i64 im, .string ⟨is.toArray⟩] 26)) (pt w.heap.size (Ins.cs ⟨op, ia, ib, ic, im, is⟩).toArray 26 :: l) := H.alloc _ _
  obtain ⟨N, HN⟩ : ∃ N, Hid (numB ⟨op, ia, ib, ic, im, is⟩ = N) := ⟨_, rfl⟩
  obtain ⟨T, HT⟩ : ∃ T, Hid (txtB ⟨op, ia, ib, ic, im, is⟩ = T) := ⟨_, rfl⟩
  obtain ⟨R, HR⟩ : ∃ R, Hid (mayR ⟨op, ia, ib, ic, im, is⟩ = R) := ⟨_, rfl⟩
  rw [HR.out]
  have hHas := kHas_any op
  have HRR : Hid ((decide (1 ≤ op ∧ op ≤ 15) && (regB ia (hasA op) && (regB ib (hasB op) && (regB ic (hasC op) && (N && T))))) = R) := by
    show _ = _; rw [← HR.out, ← HN.out, ← HT.out]; rfl
  have HN2 : Hid ((if hasN op then decide (1 ≤ im ∧ im ≤ mostN op) else decide (im = 0)) = N) := HN.out
  have HT2 : Hid ((if hasS op then decide (is.length ≤ 64) else decide (is = [])) = T) := HT.out
  clear HR HN HT
  generalize hasA op = bA at *
  generalize hasB op = bB at *
  generalize hasC op = bC at *
  generalize hasN op = bN at *
  generalize hasS op = bS at *
  have HH := Lib.hid hHas
  clear hHas
  show Calls Try.prog 20 #[.agg #[.int .i64 op, .int .i64 ia, .int .i64 ib, .int .i64 ic, .int .i64 im, .string ⟨is.toArray⟩]] w _
  go_enter Try.func20, Try.ntmps20
  go_upto_region 2 with (go_at_call 51; refine (HH.out _).mono ?_; rintro e _ ⟨rfl, rfl⟩)
  generalize w.heap.size = ib' at H1 ⊢
  generalize w.alloc (.cells #[.int .i64 op, .int .i64 ia, .int .i64 ib, .int .i64 ic, .int .i64 im, .string ⟨is.toArray⟩] 26) = w1 at H1 ⊢
  clear HH H
  have i0 : w1.cell? ⟨ib', 0, none⟩ = some (.int .i64 op) := H1.cell 0
  have i1 : w1.cell? ⟨ib', 1, none⟩ = some (.int .i64 ia) := H1.cell 1
  have i2 : w1.cell? ⟨ib', 2, none⟩ = some (.int .i64 ib) := H1.cell 2
  have i3 : w1.cell? ⟨ib', 3, none⟩ = some (.int .i64 ic) := H1.cell 3
  have i4 : w1.cell? ⟨ib', 4, none⟩ = some (.int .i64 im) := H1.cell 4
  have i5 : w1.cell? ⟨ib', 5, none⟩ = some (.string ⟨is.toArray⟩) := H1.cell 5
  have HHs := Lib.hid hs
  clear hs
  go_cut [8] (fun v wx => v = .bool N ∧ Sat W wx (pt ib' (Ins.cs ⟨op, ia, ib, ic, im, is⟩).toArray 26 :: l))
  case first =>
    clear i1 i2 i3 i5 HRR HT2
    cases bN with
    | false =>
      have hN := HN2.out
      simp only [Bool.false_eq_true, if_false] at hN
      clear HN2
      by_cases hm : im = 0
      · subst hm
        obtain rfl : true = N := by rw [← hN]; simp
        clear hN
        go_quiet (fail)
        go_wp2_with fail
        go_meet
        exact ⟨rfl, H1.drewN _⟩
      · have hm2 : (im == 0) = false := by simpa using hm
        obtain rfl : false = N := by rw [← hN]; simp [hm]
        clear hN hm
        go_quiet (fail)
        go_wp2_with fail
        go_meet
        exact ⟨rfl, H1.drewN _⟩
    | true =>
      have hN := HN2.out
      simp only [if_true] at hN
      clear HN2
      by_cases h1 : 1 ≤ im
      · by_cases h2 : im ≤ mostN op
        · have e1 : decide ((1 : Int) ≤ im) = true := by simpa using h1
          have e2 : decide (im ≤ mostN op) = true := by simpa using h2
          obtain rfl : true = N := by rw [← hN]; simp [h1, h2]
          clear hN h1 h2
          generalize hmm : mostN op = mm at *
          have hM : ∀ w, Calls Try.prog 52 #[.int .i64 op] w fun e w' => e = .returned (.int .i64 mm) ∧ w' = w := fun w => by rw [← hmm]; exact kMost_any op w
          have HM := Lib.hid hM
          clear hM hmm
          go_quiet ((go_at_call 52; exact Calls.quiet_of_same (HM.out _)))
          go_wp2_with fail
          go_meet
          exact ⟨rfl, H1.drewN _⟩
        · have e1 : decide ((1 : Int) ≤ im) = true := by simpa using h1
          have e2 : decide (im ≤ mostN op) = false := by simpa using h2
          obtain rfl : false = N := by rw [← hN]; simp [h2]
          clear hN h1 h2
          generalize hmm : mostN op = mm at *
          have hM : ∀ w, Calls Try.prog 52 #[.int .i64 op] w fun e w' => e = .returned (.int .i64 mm) ∧ w' = w := fun w => by rw [← hmm]; exact kMost_any op w
          have HM := Lib.hid hM
          clear hM hmm
          go_quiet ((go_at_call 52; exact Calls.quiet_of_same (HM.out _)))
          go_wp2_with fail
          go_meet
          exact ⟨rfl, H1.drewN _⟩
      · have e1 : decide ((1 : Int) ≤ im) = false := by simpa using h1
        obtain rfl : false = N := by rw [← hN]; simp [h1]
        clear hN h1
        go_quiet (fail)
        go_wp2_with fail
        go_meet
        exact ⟨rfl, H1.drewN _⟩
  case rest =>
  obtain ⟨rfl, H2⟩ := hcut
  clear i0 i1 i2 i3 i4 i5 H1 HN2
  have i5 : wc.cell? ⟨ib', 5, none⟩ = some (.string ⟨is.toArray⟩) := H2.cell 5
  go_upto_region 3 with fail
  go_cut [9] (fun v wx => v = .bool T ∧ Sat W wx (pt ib' (Ins.cs ⟨op, ia, ib, ic, im, is⟩).toArray 26 :: l))
  case first =>
    clear HRR
    cases bS with
    | false =>
      have hT := HT2.out
      simp only [Bool.false_eq_true, if_false] at hT
      clear HT2
      by_cases hm : is = []
      · subst hm
        obtain rfl : true = T := by rw [← hT]; simp
        clear hT
        go_wp2_with fail
        go_meet
        exact ⟨rfl, H2⟩
      · have hm2 : is.isEmpty = false := by
          cases is with
          | nil => exact absurd rfl hm
          | cons x xs => rfl
        obtain rfl : false = T := by rw [← hT]; simp [hm]
        clear hT hm
        go_wp2_with fail
        go_meet
        exact ⟨rfl, H2⟩
    | true =>
      have hT := HT2.out
      simp only [if_true] at hT
      clear HT2
      by_cases h1 : is.length ≤ 64
      · have e1 : decide ((is.length : Int) ≤ 64) = true := by simp; omega
        obtain rfl : true = T := by rw [← hT]; simp [h1]
        clear hT h1
        go_wp2_with fail
        go_meet
        exact ⟨rfl, H2⟩
      · have e1 : decide ((is.length : Int) ≤ 64) = false := by simp; omega
        obtain rfl : false = T := by rw [← hT]; simp [h1]
        clear hT h1
        go_wp2_with fail
        go_meet
        exact ⟨rfl, H2⟩
  case rest =>
  obtain ⟨rfl, H3⟩ := hcut
  clear H2 i5 HT2
  have i0 : wc.cell? ⟨ib', 0, none⟩ = some (.int .i64 op) := H3.cell 0
  have i1 : wc.cell? ⟨ib', 1, none⟩ = some (.int .i64 ia) := H3.cell 1
  have i2 : wc.cell? ⟨ib', 2, none⟩ = some (.int .i64 ib) := H3.cell 2
  have i3 : wc.cell? ⟨ib', 3, none⟩ = some (.int .i64 ic) := H3.cell 3
  obtain ⟨r1, hr1⟩ : ∃ r, regB ia bA = r := ⟨_, rfl⟩
  obtain ⟨r2, hr2⟩ : ∃ r, regB ib bB = r := ⟨_, rfl⟩
  obtain ⟨r3, hr3⟩ : ∃ r, regB ic bC = r := ⟨_, rfl⟩
  have k1 : ∀ w, Calls Try.prog 61 #[.int .i64 ia, .bool bA] w fun e w' => e = .returned (.bool r1) ∧ w' = w := fun w => (kreg_any ia bA w).mono fun _ _ h => ⟨by rw [← hr1]; exact h.1, h.2.symm⟩
  have k2 : ∀ w, Calls Try.prog 61 #[.int .i64 ib, .bool bB] w fun e w' => e = .returned (.bool r2) ∧ w' = w := fun w => (kreg_any ib bB w).mono fun _ _ h => ⟨by rw [← hr2]; exact h.1, h.2.symm⟩
  have k3 : ∀ w, Calls Try.prog 61 #[.int .i64 ic, .bool bC] w fun e w' => e = .returned (.bool r3) ∧ w' = w := fun w => (kreg_any ic bC w).mono fun _ _ h => ⟨by rw [← hr3]; exact h.1, h.2.symm⟩
  have hR := HRR.out
  rw [hr1, hr2, hr3] at hR
  clear HRR hr1 hr2 hr3
  have K1 := Lib.hid k1
  have K2 := Lib.hid k2
  have K3 := Lib.hid k3
  clear k1 k2 k3
  by_cases h1 : op < 1
  · have e1 : decide (op < 1) = true := by simpa using h1
    obtain rfl : false = R := by rw [← hR]; simp; omega
    clear hR
    go_wp2_with fail
    go_ret
    exact ⟨rfl, H3.tail⟩
  · have e1 : decide (op < 1) = false := by simpa using h1
    by_cases h2 : (15 : Int) < op
    · have e2 : decide ((15 : Int) < op) = true := by simpa using h2
      obtain rfl : false = R := by rw [← hR]; simp; omega
      clear hR
      go_wp2_with fail
      go_ret
      exact ⟨rfl, H3.tail⟩
    · have e2 : decide ((15 : Int) < op) = false := by simpa using h2
      have hop : decide (1 ≤ op ∧ op ≤ 15) = true := by simp; omega
      rw [hop] at hR
      clear h1 h2 hop
      cases r1 with
      | false =>
        obtain rfl : false = R := by rw [← hR]; simp
        clear hR
        go_wp2_with fail
        refine (K1.out _).mono ?_
        rintro e _ ⟨rfl, rfl⟩
        go_wp2_with fail
        go_ret
        exact ⟨rfl, H3.tail⟩
      | true =>
        cases r2 with
        | false =>
          obtain rfl : false = R := by rw [← hR]; simp
          clear hR
          go_wp2_with fail
          refine (K1.out _).mono ?_
          rintro e _ ⟨rfl, rfl⟩
          go_wp2_with fail
          refine (K2.out _).mono ?_
          rintro e _ ⟨rfl, rfl⟩
          go_wp2_with fail
          go_ret
          exact ⟨rfl, H3.tail⟩
        | true =>
          cases r3 with
          | false =>
            obtain rfl : false = R := by rw [← hR]; simp
            clear hR
            go_wp2_with fail
            refine (K1.out _).mono ?_
            rintro e _ ⟨rfl, rfl⟩
            go_wp2_with fail
            refine (K2.out _).mono ?_
            rintro e _ ⟨rfl, rfl⟩
            go_wp2_with fail
            refine (K3.out _).mono ?_
            rintro e _ ⟨rfl, rfl⟩
            go_wp2_with fail
            go_ret
            exact ⟨rfl, H3.tail⟩
          | true =>
            cases N with
            | false =>
              obtain rfl : false = R := by rw [← hR]; simp
              clear hR
              go_wp2_with fail
              refine (K1.out _).mono ?_
              rintro e _ ⟨rfl, rfl⟩
              go_wp2_with fail
              refine (K2.out _).mono ?_
              rintro e _ ⟨rfl, rfl⟩
              go_wp2_with fail
              refine (K3.out _).mono ?_
              rintro e _ ⟨rfl, rfl⟩
              go_wp2_with fail
              go_ret
              exact ⟨rfl, H3.tail⟩
            | true =>
              cases T with
              | false =>
                obtain rfl : false = R := by rw [← hR]; simp
                clear hR
                go_wp2_with fail
                refine (K1.out _).mono ?_
                rintro e _ ⟨rfl, rfl⟩
                go_wp2_with fail
                refine (K2.out _).mono ?_
                rintro e _ ⟨rfl, rfl⟩
                go_wp2_with fail
                refine (K3.out _).mono ?_
                rintro e _ ⟨rfl, rfl⟩
                go_wp2_with fail
                go_ret
                exact ⟨rfl, H3.tail⟩
              | true =>
                obtain rfl : true = R := by rw [← hR]; simp
                clear hR
                go_wp2_with fail
                refine (K1.out _).mono ?_
                rintro e _ ⟨rfl, rfl⟩
                go_wp2_with fail
                refine (K2.out _).mono ?_
                rintro e _ ⟨rfl, rfl⟩
                go_wp2_with fail
                refine (K3.out _).mono ?_
                rintro e _ ⟨rfl, rfl⟩
                go_wp2_with fail
                go_ret
                exact ⟨rfl, H3.tail⟩
end Go.Proofs.Ytflcmhmbmippfaa

/- The document's own: an instruction as bytes, and how many. -/
namespace Go.Proofs.Ytflcmhmbmippfaa
open Go.RowKit Go.Rt

theorem may_nats (i : Ins) (h : mayB i = true) : (1 ≤ i.op ∧ i.op ≤ 15) ∧ 0 ≤ i.a ∧ 0 ≤ i.b ∧ 0 ≤ i.c ∧ 0 ≤ i.n ∧ i.a ≤ 7 ∧ i.b ≤ 7 ∧ i.c ≤ 7 ∧ i.n ≤ 60 := by
  rw [may_eq] at h
  obtain ⟨op, a, b, c, n, s⟩ := i
  simp only [mayR, Bool.and_eq_true, decide_eq_true_eq] at h
  obtain ⟨h1, h2, h3, h4, h5, _⟩ := h
  have hr : ∀ (v : Int) (x : Bool), regB v x = true → 0 ≤ v ∧ v ≤ 7 := fun v x h => by
    cases x <;> simp [regB] at h <;> omega
  have hn : 0 ≤ n ∧ n ≤ 60 := by
    unfold numB at h5
    dsimp only at h5
    have hmm : mostN op ≤ 60 := by unfold mostN; split <;> omega
    split at h5 <;> simp at h5 <;> omega
  have := hr _ _ h2
  have := hr _ _ h3
  have := hr _ _ h4
  dsimp only
  omega

set_option maxRecDepth 100000 in
set_option maxHeartbeats 8000000 in
theorem kBytes_bad {W w : World} {l : List SL} (i : Ins) (hs : i.s.length ≤ maxLen) (hm : mayB i = false) (H : Sat W w l) :
    Calls Try.prog 17 #[.agg i.cs.toArray] w fun e w' => e = .returned (.tuple #[.slice none 0 0, .int .i64 2]) ∧ Sat W w' l := by
  obtain ⟨op, ia, ib, ic, im, is⟩ := i
  have hck := kCheck_any (W := W) (w := w.alloc (.cells (Ins.cs ⟨op, ia, ib, ic, im, is⟩).toArray 26)) (l := pt w.heap.size (Ins.cs ⟨op, ia, ib, ic, im, is⟩).toArray 26 :: l) ⟨op, ia, ib, ic, im, is⟩ hs (H.alloc _ _)
  rw [← may_eq, hm] at hck
  have HCK := Lib.hid hck
  clear hck hm
  show Calls Try.prog 17 #[.agg #[.int .i64 op, .int .i64 ia, .int .i64 ib, .int .i64 ic, .int .i64 im, .string ⟨is.toArray⟩]] w _
  go_enter Try.func17, Try.ntmps17
  go_wp2_with fail
  refine HCK.out.mono ?_
  rintro e w1 ⟨rfl, H1⟩
  go_wp2
  go_ret2
  exact ⟨rfl, H1.tail⟩

set_option maxRecDepth 100000 in
set_option maxHeartbeats 8000000 in
theorem kBytes_fine {W w : World} {l : List SL} (i : Ins) (hm : mayB i = true) (H : Sat W w l) :
    Calls Try.prog 17 #[.agg i.cs.toArray] w fun e w' => ∃ A c, e = .returned (.tuple #[.slice A (insBytes i).length c, .int .i64 0]) ∧ Sat W w' (row 5 zB (.slice A (insBytes i).length c) (insBytes i).length ((insBytes i).map B) :: l) := by
  have hs := may_short i hm
  have hck := kCheck_any (W := W) (w := w.alloc (.cells i.cs.toArray 26)) (l := pt w.heap.size i.cs.toArray 26 :: l) i (by unfold maxLen; omega) (H.alloc _ _)
  rw [← may_eq, hm] at hck
  obtain ⟨⟨p1, p2⟩, pa, pb, pc, pn, qa, qb, qc, qn⟩ := may_nats i hm
  rw [← bytes_eq i ⟨p1, p2⟩]
  obtain ⟨op, ia, ib, ic, im, is⟩ := i
  dsimp only at hs p1 p2 pa pb pc pn qa qb qc qn
  obtain ⟨o, rfl⟩ : ∃ o : Nat, op = o := ⟨op.toNat, by omega⟩
  obtain ⟨a, rfl⟩ : ∃ a : Nat, ia = a := ⟨ia.toNat, by omega⟩
  obtain ⟨b, rfl⟩ : ∃ b : Nat, ib = b := ⟨ib.toNat, by omega⟩
  obtain ⟨c, rfl⟩ : ∃ c : Nat, ic = c := ⟨ic.toNat, by omega⟩
  obtain ⟨n, rfl⟩ : ∃ n : Nat, im = n := ⟨im.toNat, by omega⟩
  have hHas := kHas_any (o : Int)
  obtain ⟨b1, hb1⟩ : ∃ x, sev o ++ (if hasA (o : Int) then sev a else []) = x := ⟨_, rfl⟩
  obtain ⟨b2, hb2⟩ : ∃ x, b1 ++ (if hasB (o : Int) then sev b else []) = x := ⟨_, rfl⟩
  obtain ⟨b3, hb3⟩ : ∃ x, b2 ++ (if hasC (o : Int) then sev c else []) = x := ⟨_, rfl⟩
  obtain ⟨b4, hb4⟩ : ∃ x, b3 ++ (if hasN (o : Int) then sev n else []) = x := ⟨_, rfl⟩
  obtain ⟨b5, hb5⟩ : ∃ x, b4 ++ (if hasS (o : Int) then sev is.length ++ is else []) = x := ⟨_, rfl⟩
  have hall : refBytes ⟨o, a, b, c, n, is⟩ = b5 := by
    rw [← hb5, ← hb4, ← hb3, ← hb2, ← hb1]
    simp [refBytes, List.append_assoc]
  rw [hall]
  clear hall hm
  generalize hasA (o : Int) = bA at *
  generalize hasB (o : Int) = bB at *
  generalize hasC (o : Int) = bC at *
  generalize hasN (o : Int) = bN at *
  generalize hasS (o : Int) = bS at *
  have z := sev_len o
  have z1 := sev_len a
  have z2 := sev_len b
  have z3 := sev_len c
  have z4 := sev_len n
  have z5 := sev_len is.length
  have l1 : b1.length ≤ 40 := by rw [← hb1, List.length_append]; split <;> (try simp) <;> omega
  have l2 : b2.length ≤ 80 := by rw [← hb2, List.length_append]; split <;> (try simp) <;> omega
  have l3 : b3.length ≤ 120 := by rw [← hb3, List.length_append]; split <;> (try simp) <;> omega
  have l4 : b4.length ≤ 160 := by rw [← hb4, List.length_append]; split <;> (try simp) <;> omega
  have l5 : b5.length ≤ 400 := by rw [← hb5, List.length_append]; split <;> (try simp) <;> omega
  have B1 := Lib.hid hb1
  have B2 := Lib.hid hb2
  have B3 := Lib.hid hb3
  have B4 := Lib.hid hb4
  have B5 := Lib.hid hb5
  have HCK := Lib.hid hck
  have HH := Lib.hid hHas
  clear hck hHas hb1 hb2 hb3 hb4 hb5
  show Calls Try.prog 17 #[.agg #[.int .i64 o, .int .i64 a, .int .i64 b, .int .i64 c, .int .i64 n, .string ⟨is.toArray⟩]] w _
  go_enter Try.func17, Try.ntmps17
  go_wp2_with fail
  refine HCK.out.mono ?_
  rintro e w1 ⟨rfl, H1⟩
  clear HCK
  generalize w.heap.size = ib' at H1 ⊢
  have i0 : w1.cell? ⟨ib', 0, none⟩ = some (.int .i64 o) := H1.cell 0
  go_wp2_with fail
  refine (HH.out _).mono ?_
  rintro e _ ⟨rfl, rfl⟩
  clear HH
  have H2 : Sat W (w1.alloc (.cells #[.slice none 0 0, .bool false] 82)) (xr w1.heap.size [] false :: pt ib' (Ins.cs ⟨o, a, b, c, n, is⟩).toArray 26 :: l) := xr_shut (A := none) (c := 0) (((H1.alloc _ _).nil 5 zB).swap)
  have j0 : (w1.alloc (.cells #[.slice none 0 0, .bool false] 82)).cell? ⟨ib', 0, none⟩ = some (.int .i64 o) := H2.swap.cell 0
  go_wp2_with fail
  refine (xInt_any o (by omega) (by simp) H2).mono ?_
  rintro e w2 ⟨rfl, H3⟩
  rw [List.nil_append] at H3
  clear H1 i0 H2 j0
  generalize w1.heap.size = p at H3 ⊢
  go_upto_if 28 with fail
  go_cut [] (fun wx => Sat W wx (xr p b1 false :: pt ib' (Ins.cs ⟨o, a, b, c, n, is⟩).toArray 26 :: l))
  case first =>
    cases bA with
    | false =>
      obtain rfl : sev o = b1 := by simpa using B1.out
      go_wp2_with fail
      go_meet
      exact H3
    | true =>
      obtain rfl : sev o ++ sev a = b1 := by simpa using B1.out
      have iv : w2.cell? ⟨ib', 1, none⟩ = some (.int .i64 a) := H3.swap.cell 1
      go_wp2_with fail
      refine (xInt_any a (by omega) (by omega) H3).mono ?_
      rintro e w9 ⟨rfl, H9⟩
      go_wp2_with fail
      go_meet
      exact H9
  case rest =>
  have K0 := hcut
  clear hcut B1 H3
  go_upto_if 33 with fail
  go_cut [] (fun wx => Sat W wx (xr p b2 false :: pt ib' (Ins.cs ⟨o, a, b, c, n, is⟩).toArray 26 :: l))
  case first =>
    cases bB with
    | false =>
      obtain rfl : b1 = b2 := by simpa using B2.out
      go_wp2_with fail
      go_meet
      exact K0
    | true =>
      obtain rfl : b1 ++ sev b = b2 := by simpa using B2.out
      have iv : wc.cell? ⟨ib', 2, none⟩ = some (.int .i64 b) := K0.swap.cell 2
      go_wp2_with fail
      refine (xInt_any b (by omega) (by omega) K0).mono ?_
      rintro e w9 ⟨rfl, H9⟩
      go_wp2_with fail
      go_meet
      exact H9
  case rest =>
  have K1 := hcut
  clear hcut B2 K0
  go_upto_if 38 with fail
  go_cut [] (fun wx => Sat W wx (xr p b3 false :: pt ib' (Ins.cs ⟨o, a, b, c, n, is⟩).toArray 26 :: l))
  case first =>
    cases bC with
    | false =>
      obtain rfl : b2 = b3 := by simpa using B3.out
      go_wp2_with fail
      go_meet
      exact K1
    | true =>
      obtain rfl : b2 ++ sev c = b3 := by simpa using B3.out
      have iv : wc.cell? ⟨ib', 3, none⟩ = some (.int .i64 c) := K1.swap.cell 3
      go_wp2_with fail
      refine (xInt_any c (by omega) (by omega) K1).mono ?_
      rintro e w9 ⟨rfl, H9⟩
      go_wp2_with fail
      go_meet
      exact H9
  case rest =>
  have K2 := hcut
  clear hcut B3 K1
  go_upto_if 43 with fail
  go_cut [] (fun wx => Sat W wx (xr p b4 false :: pt ib' (Ins.cs ⟨o, a, b, c, n, is⟩).toArray 26 :: l))
  case first =>
    cases bN with
    | false =>
      obtain rfl : b3 = b4 := by simpa using B4.out
      go_wp2_with fail
      go_meet
      exact K2
    | true =>
      obtain rfl : b3 ++ sev n = b4 := by simpa using B4.out
      have iv : wc.cell? ⟨ib', 4, none⟩ = some (.int .i64 n) := K2.swap.cell 4
      go_wp2_with fail
      refine (xInt_any n (by omega) (by omega) K2).mono ?_
      rintro e w9 ⟨rfl, H9⟩
      go_wp2_with fail
      go_meet
      exact H9
  case rest =>
  have K3 := hcut
  clear hcut B4 K2
  go_upto_if 48 with fail
  go_cut [] (fun wx => Sat W wx (xr p b5 false :: pt ib' (Ins.cs ⟨o, a, b, c, n, is⟩).toArray 26 :: l))
  case first =>
    cases bS with
    | false =>
      obtain rfl : b4 = b5 := by simpa using B5.out
      go_wp2_with fail
      go_meet
      exact K3
    | true =>
      obtain rfl : b4 ++ (sev is.length ++ is) = b5 := by simpa using B5.out
      have iv : wc.cell? ⟨ib', 5, none⟩ = some (.string ⟨is.toArray⟩) := K3.swap.cell 5
      go_wp2_with fail
      refine (xText_any ⟨is.toArray⟩ (by simp [ByteArray.size]; omega) (by omega) K3).mono ?_
      rintro e w9 ⟨rfl, H9⟩
      go_wp2_with fail
      go_meet
      simpa [ByteArray.size, List.append_assoc] using H9
  case rest =>
  have K4 := hcut
  clear hcut B5 K3
  go_wp2_with fail
  refine (xOut_any (by omega) K4).mono ?_
  rintro e w9 ⟨A, cc, rfl, H9⟩
  go_wp2
  go_ret2
  exact ⟨A, cc, rfl, H9.swap.tail.swap.tail⟩

set_option maxRecDepth 100000 in
set_option maxHeartbeats 8000000 in
theorem kSize_fine {W w : World} {l : List SL} (i : Ins) (hm : mayB i = true) (H : Sat W w l) :
    Calls Try.prog 22 #[.agg i.cs.toArray] w fun e w' => e = .returned (.int .i64 ((insBytes i).length : Nat)) ∧ Sat W w' l := by
  have hb := kBytes_fine (W := W) (w := w.alloc (.cells i.cs.toArray 26)) (l := pt w.heap.size i.cs.toArray 26 :: l) i hm (H.alloc _ _)
  obtain ⟨op, ia, ib, ic, im, is⟩ := i
  have HB := Lib.hid hb
  clear hb hm
  show Calls Try.prog 22 #[.agg #[.int .i64 op, .int .i64 ia, .int .i64 ib, .int .i64 ic, .int .i64 im, .string ⟨is.toArray⟩]] w _
  go_enter Try.func22, Try.ntmps22
  go_wp2_with fail
  refine HB.out.mono ?_
  rintro e w1 ⟨A, c, rfl, H1⟩
  go_wp2
  go_ret
  exact ⟨rfl, H1.tail.tail⟩

set_option maxRecDepth 100000 in
set_option maxHeartbeats 8000000 in
theorem kSize_bad {W w : World} {l : List SL} (i : Ins) (hs : i.s.length ≤ maxLen) (hm : mayB i = false) (H : Sat W w l) :
    Calls Try.prog 22 #[.agg i.cs.toArray] w fun e w' => e = .returned (.int .i64 0) ∧ Sat W w' l := by
  have hb := kBytes_bad (W := W) (w := w.alloc (.cells i.cs.toArray 26)) (l := pt w.heap.size i.cs.toArray 26 :: l) i hs hm (H.alloc _ _)
  obtain ⟨op, ia, ib, ic, im, is⟩ := i
  have HB := Lib.hid hb
  clear hb hm
  show Calls Try.prog 22 #[.agg #[.int .i64 op, .int .i64 ia, .int .i64 ib, .int .i64 ic, .int .i64 im, .string ⟨is.toArray⟩]] w _
  go_enter Try.func22, Try.ntmps22
  go_wp2_with fail
  refine HB.out.mono ?_
  rintro e w1 ⟨rfl, H1⟩
  go_wp2
  go_ret
  exact ⟨rfl, H1.tail⟩
end Go.Proofs.Ytflcmhmbmippfaa

/- The document's own reader, function by function: how a number lies in bytes. -/
namespace Go.Proofs.Ytflcmhmbmippfaa
open Go.RowKit Go.Rt

/-- The document's reader: its block; its bytes lie where A says. -/
def yrd (p : Nat) (A : Option Addr) (n c : Nat) (pl : Nat) (fe fa : Int) : SL := pt p #[.slice A n c, .int .i64 pl, .int .i64 fe, .int .i64 fa] 72

set_option maxRecDepth 100000 in
theorem xOpen_any {W w : World} {l : List SL} (A : Option Addr) (n c : Nat) (H : Sat W w l) :
    Calls Try.prog 64 #[.slice A n c] w fun e w' => e = .returned (.pointer (some ⟨w.heap.size, 0, none⟩)) ∧ Sat W w' (yrd w.heap.size A n c 0 0 0 :: l) := by
  go_enter Try.func64, Try.ntmps64
  go_wp2
  go_ret
  exact ⟨rfl, H.alloc _ _⟩

/-- How many bytes the number at a place has; 0: there is a fault, which one. -/
def sizeAt (bs : List UInt8) (pl : Nat) : Nat × Int × Int :=
  match dec (bs.drop pl) with
  | .ok _ k => (k, 0, 0)
  | .short => (0, 4, bs.length)
  | .zero => (0, 4, pl)
  | .long => (0, 5, pl)

set_option maxRecDepth 100000 in
set_option maxHeartbeats 1600000 in
theorem ysize_any {W w : World} {l : List SL} (p : Nat) (A : Option Addr) (c : Nat) (bs : List UInt8) (pl : Nat) (fe fa : Int) (hp : pl ≤ bs.length) (hb : bs.length ≤ 1000000000) (hr : RdL W l A (bs.map B)) (H : Sat W w (yrd p A bs.length c pl fe fa :: l)) :
    Calls Try.prog 95 #[.pointer (some ⟨p, 0, none⟩)] w fun e w' => e = .returned (.tuple #[.int .i64 (sizeAt bs pl).1, .agg #[.int .i64 (sizeAt bs pl).2.1, .int .i64 (sizeAt bs pl).2.2]]) ∧ Sat W w' (yrd p A bs.length c pl fe fa :: l) := by
  obtain ⟨S, HT⟩ : ∃ S, Hid (sizeAt bs pl = S) := ⟨_, rfl⟩
  rw [HT.out]
  have H0 : Sat W (w.alloc (.cells #[.int .i64 0, .int .i64 0] 29)) (pt w.heap.size #[.int .i64 0, .int .i64 0] 29 :: yrd p A bs.length c pl fe fa :: l) := H.alloc _ _
  go_enter Try.func95, Try.ntmps95
  go_wp2
  generalize w.heap.size = q at H0 ⊢
  go_loopw [4] (fun k wc => ∃ (j acc : Nat), k = .int .i64 ((j : Int) + 1) ∧ j ≤ 9 ∧ pl + j ≤ bs.length ∧ Hid (dec (bs.drop pl) = decF (9 - j) (bs.drop (pl + j)) j acc) ∧
      Sat W wc (pt q #[.int .i64 0, .int .i64 0] 29 :: yrd p A bs.length c pl fe fa :: l)) (fun k _ => 10 - (intOf k).toNat)
  case atStart => exact ⟨0, 0, rfl, by omega, by omega, rfl, H0⟩
  case round =>
    obtain ⟨j, acc, rfl, hj, hpj, HS, H1⟩ := hrel
    clear H0
    have H2 := H1.swap
    have c0 : wr.cell? ⟨p, 0, none⟩ = some (.slice A bs.length c) := H2.cell 0
    have c1 : wr.cell? ⟨p, 1, none⟩ = some (.int .i64 pl) := H2.cell 1
    have q0 : wr.cell? ⟨q, 0, none⟩ = some (.int .i64 0) := H1.cell 0
    have q1 : wr.cell? ⟨q, 1, none⟩ = some (.int .i64 0) := H1.cell 1
    have f0 := H1.frz 0
    have f1 := H1.frz 1
    clear H2
    by_cases h9 : j = 9
    · subst h9
      obtain rfl : (0, 5, (pl : Int)) = S := by
        have : dec (bs.drop pl) = .long := by rw [HS.out]; rfl
        rw [← HT.out]
        simp only [sizeAt, this]
      go_wp2
      go_region_law (fail)
      have H2 : Sat W ((wr.setCell ⟨q, 0, none⟩ (.int .i64 5)).setCell ⟨q, 1, none⟩ (.int .i64 (pl : Int))).drew (pt q #[.int .i64 5, .int .i64 (pl : Int)] 29 :: yrd p A bs.length c pl fe fa :: l) := ((H1.setCell 0 (.int .i64 5)).setCell 1 (.int .i64 (pl : Int))).drew
      generalize ((wr.setCell ⟨q, 0, none⟩ (.int .i64 5)).setCell ⟨q, 1, none⟩ (.int .i64 (pl : Int))).drew = w2 at H2 ⊢
      have z0 : w2.cell? ⟨q, 0, none⟩ = some (.int .i64 5) := H2.cell 0
      have z1 : w2.cell? ⟨q, 1, none⟩ = some (.int .i64 pl) := H2.cell 1
      go_wp2
      exact bodyPost_ret (v := .tuple #[.int .i64 0, .agg #[.int .i64 5, .int .i64 (pl : Int)]]) (by simp [results, Try.results95, go_sem, z0, z1]) rfl ⟨rfl, H2.tail⟩
    · by_cases hend : pl + j = bs.length
      · obtain rfl : (0, 4, (bs.length : Int)) = S := by
          have : dec (bs.drop pl) = .short := by
            rw [HS.out, hend, List.drop_length, show 9 - j = (8 - j) + 1 by omega]; rfl
          rw [← HT.out]
          simp only [sizeAt, this]
        have hat : decide ((bs.length : Int) ≤ (pl : Int) + ((j : Int) + 1) - 1) = true := by simp; omega
        go_wp2
        go_region_law (fail)
        have H2 : Sat W ((wr.setCell ⟨q, 0, none⟩ (.int .i64 4)).setCell ⟨q, 1, none⟩ (.int .i64 (bs.length : Int))).drew (pt q #[.int .i64 4, .int .i64 (bs.length : Int)] 29 :: yrd p A bs.length c pl fe fa :: l) := ((H1.setCell 0 (.int .i64 4)).setCell 1 (.int .i64 (bs.length : Int))).drew
        generalize ((wr.setCell ⟨q, 0, none⟩ (.int .i64 4)).setCell ⟨q, 1, none⟩ (.int .i64 (bs.length : Int))).drew = w2 at H2 ⊢
        have z0 : w2.cell? ⟨q, 0, none⟩ = some (.int .i64 4) := H2.cell 0
        have z1 : w2.cell? ⟨q, 1, none⟩ = some (.int .i64 bs.length) := H2.cell 1
        go_wp2
        exact bodyPost_ret (v := .tuple #[.int .i64 0, .agg #[.int .i64 4, .int .i64 (bs.length : Int)]]) (by simp [results, Try.results95, go_sem, z0, z1]) rfl ⟨rfl, H2.tail⟩
      · obtain ⟨x, hx⟩ : ∃ x, bs[pl + j]? = some x := ⟨bs[pl + j]'(by omega), List.getElem?_eq_getElem _⟩
        have hdrop : bs.drop (pl + j) = x :: bs.drop (pl + (j + 1)) := by
          obtain ⟨h1, h2⟩ := List.getElem?_eq_some_iff.1 hx
          rw [List.drop_eq_getElem_cons h1, h2]; rfl
        have HD := Lib.hid hdrop
        have hlt := x.toNat_lt
        have hrd := hr _ H1.tail.tail
        have hne : bs.map B ≠ [] := by
          intro h
          have h0 : bs.length = 0 := by simpa using congrArg List.length h
          omega
        obtain ⟨b, o, rfl⟩ := hrd.open hne
        clear hne
        have hcx : wr.cell? ⟨b, o + (pl + j), none⟩ = some (.int .u8 (x.toNat : Int)) := hrd.at (pl + j) (by rw [List.getElem?_map, hx]; rfl)
        have hat : decide ((bs.length : Int) ≤ (pl : Int) + ((j : Int) + 1) - 1) = false := by simp; omega
        clear hdrop hx hrd
        by_cases h128 : (x.toNat : Int) < 128
        · have e128 : decide ((x.toNat : Int) < 128) = true := by simpa using h128
          by_cases hx0 : x.toNat = 0
          · have ez : ((x.toNat : Int) == 0) = true := by simp [hx0]
            by_cases hj0 : 0 < j
            · have e1 : decide (1 < (j : Int) + 1) = true := by simp; omega
              obtain rfl : (0, 4, (pl : Int)) = S := by
                have : dec (bs.drop pl) = .zero := by
                  rw [HS.out, HD.out, show 9 - j = (8 - j) + 1 by omega]; simp only [decF]
                  rw [if_pos (by omega), if_pos ⟨hx0, hj0⟩]
                rw [← HT.out]
                simp only [sizeAt, this]
              clear hx0
              go_wp2
              go_region_law (fail)
              have H2 : Sat W ((wr.setCell ⟨q, 0, none⟩ (.int .i64 4)).setCell ⟨q, 1, none⟩ (.int .i64 (pl : Int))).drew (pt q #[.int .i64 4, .int .i64 (pl : Int)] 29 :: yrd p (some ⟨b, o, none⟩) bs.length c pl fe fa :: l) := ((H1.setCell 0 (.int .i64 4)).setCell 1 (.int .i64 (pl : Int))).drew
              generalize ((wr.setCell ⟨q, 0, none⟩ (.int .i64 4)).setCell ⟨q, 1, none⟩ (.int .i64 (pl : Int))).drew = w2 at H2 ⊢
              have z0 : w2.cell? ⟨q, 0, none⟩ = some (.int .i64 4) := H2.cell 0
              have z1 : w2.cell? ⟨q, 1, none⟩ = some (.int .i64 pl) := H2.cell 1
              go_wp2
              exact bodyPost_ret (v := .tuple #[.int .i64 0, .agg #[.int .i64 4, .int .i64 (pl : Int)]]) (by simp [results, Try.results95, go_sem, z0, z1]) rfl ⟨rfl, H2.tail⟩
            · have e1 : decide (1 < (j : Int) + 1) = false := by simp; omega
              obtain rfl : (j + 1, 0, 0) = S := by
                rw [← HT.out]
                have : dec (bs.drop pl) = .ok (acc + x.toNat * 128 ^ j) (j + 1) := by
                  rw [HS.out, HD.out, show 9 - j = (8 - j) + 1 by omega]; simp only [decF]
                  rw [if_pos (by omega), if_neg (by omega)]
                simp only [sizeAt, this]
              have H2 : Sat W ((wr.setCell ⟨q, 0, none⟩ (.int .i64 0)).setCell ⟨q, 1, none⟩ (.int .i64 0)) (pt q #[.int .i64 0, .int .i64 0] 29 :: yrd p (some ⟨b, o, none⟩) bs.length c pl fe fa :: l) := (H1.setCell 0 (.int .i64 0)).setCell 1 (.int .i64 0)
              have z0 : ((wr.setCell ⟨q, 0, none⟩ (.int .i64 0)).setCell ⟨q, 1, none⟩ (.int .i64 0)).cell? ⟨q, 0, none⟩ = some (.int .i64 0) := H2.cell 0
              have z1 : ((wr.setCell ⟨q, 0, none⟩ (.int .i64 0)).setCell ⟨q, 1, none⟩ (.int .i64 0)).cell? ⟨q, 1, none⟩ = some (.int .i64 0) := H2.cell 1
              go_wp2
              exact bodyPost_ret (v := .tuple #[.int .i64 ((j + 1 : Nat) : Int), .agg #[.int .i64 0, .int .i64 0]]) (by simp [results, Try.results95, go_sem, z0, z1]) rfl ⟨rfl, H2.tail⟩
          · have ez : ((x.toNat : Int) == 0) = false := by simpa using hx0
            obtain rfl : (j + 1, 0, 0) = S := by
              rw [← HT.out]
              have : dec (bs.drop pl) = .ok (acc + x.toNat * 128 ^ j) (j + 1) := by
                rw [HS.out, HD.out, show 9 - j = (8 - j) + 1 by omega]; simp only [decF]
                rw [if_pos (by omega), if_neg (by omega)]
              simp only [sizeAt, this]
            have H2 : Sat W ((wr.setCell ⟨q, 0, none⟩ (.int .i64 0)).setCell ⟨q, 1, none⟩ (.int .i64 0)) (pt q #[.int .i64 0, .int .i64 0] 29 :: yrd p (some ⟨b, o, none⟩) bs.length c pl fe fa :: l) := (H1.setCell 0 (.int .i64 0)).setCell 1 (.int .i64 0)
            have z0 : ((wr.setCell ⟨q, 0, none⟩ (.int .i64 0)).setCell ⟨q, 1, none⟩ (.int .i64 0)).cell? ⟨q, 0, none⟩ = some (.int .i64 0) := H2.cell 0
            have z1 : ((wr.setCell ⟨q, 0, none⟩ (.int .i64 0)).setCell ⟨q, 1, none⟩ (.int .i64 0)).cell? ⟨q, 1, none⟩ = some (.int .i64 0) := H2.cell 1
            go_wp2
            exact bodyPost_ret (v := .tuple #[.int .i64 ((j + 1 : Nat) : Int), .agg #[.int .i64 0, .int .i64 0]]) (by simp [results, Try.results95, go_sem, z0, z1]) rfl ⟨rfl, H2.tail⟩
        · have e128 : decide ((x.toNat : Int) < 128) = false := by simpa using h128
          have ez : ((x.toNat : Int) == 0) = false := by simp; omega
          go_wp2
          refine ⟨⟨j + 1, acc + (x.toNat % 128) * 128 ^ j, by go_num, by omega, by omega, ?_, H1⟩, by simp [intOf]; omega⟩
          show _ = _
          rw [HS.out, HD.out, show 9 - j = (8 - j) + 1 by omega]; simp only [decF]
          rw [if_neg (by omega)]
          by_cases h8 : j = 8
          · subst h8; rfl
          · rw [if_neg (by omega), show 8 - j = 9 - (j + 1) by omega]
end Go.Proofs.Ytflcmhmbmippfaa

/- Plain law: a number's value out of its bytes, the highest first. No program in sight. -/
namespace Go.Proofs.Ytflcmhmbmippfaa

def dval : List UInt8 → Nat
  | [] => 0
  | c :: r => c.toNat % 128 + 128 * dval r
theorem dval_lt (l : List UInt8) : dval l < 128 ^ l.length := by
  induction l with
  | nil => simp [dval]
  | cons c r ih =>
    simp only [dval, List.length_cons, Nat.pow_succ]
    have : c.toNat % 128 < 128 := Nat.mod_lt _ (by decide)
    omega
theorem decF_val (f : Nat) (bs : List UInt8) (j acc N K : Nat) (h : decF f bs j acc = .ok N K) :
    ∃ k, K = j + k ∧ 1 ≤ k ∧ k ≤ f ∧ k ≤ bs.length ∧ N = acc + dval (bs.take k) * 128 ^ j := by
  induction f generalizing bs j acc with
  | zero => simp [decF] at h
  | succ f ih =>
    cases bs with
    | nil => simp [decF] at h
    | cons c r =>
      simp only [decF] at h
      by_cases h1 : c.toNat < 128
      · rw [if_pos h1] at h
        by_cases h2 : c.toNat = 0 ∧ 0 < j
        · rw [if_pos h2] at h; cases h
        · rw [if_neg h2] at h
          cases h
          refine ⟨1, rfl, by omega, by omega, by simp, ?_⟩
          simp [dval, Nat.mod_eq_of_lt h1]
      · rw [if_neg h1] at h
        by_cases h2 : f = 0
        · rw [if_pos h2] at h; cases h
        · rw [if_neg h2] at h
          obtain ⟨k, rfl, hk1, hk2, hk3, hN⟩ := ih _ _ _ h
          refine ⟨k + 1, by omega, by omega, by omega, by simpa using hk3, ?_⟩
          rw [hN, List.take_succ_cons, dval, Nat.add_mul, Nat.pow_succ]
          have e : dval (r.take k) * (128 ^ j * 128) = 128 * dval (r.take k) * 128 ^ j := by
            rw [Nat.mul_comm (128 ^ j) 128, ← Nat.mul_assoc, Nat.mul_comm (dval (r.take k)) 128]
          omega
theorem dec_val (bs : List UInt8) (N K : Nat) (h : dec bs = .ok N K) : 1 ≤ K ∧ K ≤ 9 ∧ K ≤ bs.length ∧ N = dval (bs.take K) := by
  obtain ⟨k, h1, h2, h3, h4, h5⟩ := decF_val 9 bs 0 0 N K h
  have e : K = k := by omega
  subst e
  exact ⟨h2, h3, h4, by simpa using h5⟩
theorem dval_step (l : List UInt8) (u : Nat) (x : UInt8) (h : l[u]? = some x) : dval (l.drop u) = x.toNat % 128 + 128 * dval (l.drop (u + 1)) := by
  obtain ⟨h1, h2⟩ := List.getElem?_eq_some_iff.1 h
  rw [List.drop_eq_getElem_cons h1, h2, dval]
end Go.Proofs.Ytflcmhmbmippfaa

/- The document's own reader: a number at its place. -/
namespace Go.Proofs.Ytflcmhmbmippfaa
open Go.RowKit Go.Rt

set_option maxRecDepth 100000 in
theorem ypeek_stuck {W w : World} {l : List SL} (p : Nat) (A : Option Addr) (n c : Nat) (pl : Nat) (fe fa : Int) (hf : ¬ fe = 0) (low high above : Int) (H : Sat W w (yrd p A n c pl fe fa :: l)) :
    Calls Try.prog 82 #[.pointer (some ⟨p, 0, none⟩), .int .i64 low, .int .i64 high, .int .i64 above] w fun e w' => e = .returned (.tuple #[.int .i64 0, .int .i64 0]) ∧ w = w' := by
  have c2 : w.cell? ⟨p, 2, none⟩ = some (.int .i64 fe) := H.cell 2
  have e1 : (fe != 0) = true := by simpa using hf
  go_enter Try.func82, Try.ntmps82
  go_wp2
  go_ret2
  exact ⟨rfl, rfl⟩

set_option maxRecDepth 100000 in
set_option maxHeartbeats 1600000 in
theorem ypeek_zero {W w : World} {l : List SL} (p : Nat) (A : Option Addr) (c : Nat) (bs : List UInt8) (pl : Nat) (hp : pl ≤ bs.length) (hb : bs.length ≤ 1000000000) (hr : RdL W l A (bs.map B)) (low high above : Int) (er a : Int) (hS : sizeAt bs pl = (0, er, a)) (H : Sat W w (yrd p A bs.length c pl 0 0 :: l)) :
    Calls Try.prog 82 #[.pointer (some ⟨p, 0, none⟩), .int .i64 low, .int .i64 high, .int .i64 above] w fun e w' => e = .returned (.tuple #[.int .i64 0, .int .i64 0]) ∧ Sat W w' (yrd p A bs.length c pl er a :: l) := by
  have c2 : w.cell? ⟨p, 2, none⟩ = some (.int .i64 0) := H.cell 2
  have hs := ysize_any p A c bs pl 0 0 hp hb hr H
  rw [hS] at hs
  have HS := Lib.hid hs
  clear hs hS
  go_enter Try.func82, Try.ntmps82
  go_wp2_with fail
  refine HS.out.mono ?_
  rintro e w1 ⟨rfl, H1⟩
  have H2 : Sat W (w1.alloc (.cells #[.int .i64 er, .int .i64 a] 29)) (pt w1.heap.size #[.int .i64 er, .int .i64 a] 29 :: yrd p A bs.length c pl 0 0 :: l) := H1.alloc _ _
  clear H1
  go_wp2
  generalize w1.heap.size = q at H2 ⊢
  go_loopw [12, 13] (fun x y wc => x = .int .i64 0 ∧ y = .int .i64 (-1) ∧ Sat W wc (pt q #[.int .i64 er, .int .i64 a] 29 :: yrd p A bs.length c pl 0 0 :: l)) (fun _ _ _ => 0)
  case atStart => exact ⟨rfl, rfl, H2⟩
  case round =>
    obtain ⟨rfl, rfl, H3⟩ := hrel
    have q0 : wr.cell? ⟨q, 0, none⟩ = some (.int .i64 er) := H3.cell 0
    have q1 : wr.cell? ⟨q, 1, none⟩ = some (.int .i64 a) := H3.cell 1
    have p2 : wr.cell? ⟨p, 2, none⟩ = some (.int .i64 0) := H3.swap.cell 2
    have p3 : wr.cell? ⟨p, 3, none⟩ = some (.int .i64 0) := H3.swap.cell 3
    have f2 := H3.swap.frz 2
    have f3 := H3.swap.frz 3
    go_wp2
    go_ret2
    exact ⟨rfl, (H3.tail.setCell 2 (.int .i64 er)).setCell 3 (.int .i64 a)⟩

def PeekPost (W : World) (l : List SL) (p : Nat) (A : Option Addr) (n c : Nat) (pl : Nat) : Num → Ending → World → Prop
  | .ok N k, e, w' => e = .returned (.tuple #[.int .i64 N, .int .i64 k]) ∧ Sat W w' (yrd p A n c pl 0 0 :: l)
  | .bad er a, e, w' => e = .returned (.tuple #[.int .i64 0, .int .i64 0]) ∧ Sat W w' (yrd p A n c pl er a :: l)

set_option maxRecDepth 100000 in
set_option maxHeartbeats 3200000 in
theorem ypeek_any {W w : World} {l : List SL} (p : Nat) (A : Option Addr) (c : Nat) (bs : List UInt8) (pl : Nat) (hp : pl ≤ bs.length) (hb : bs.length ≤ 1000000000) (hr : RdL W l A (bs.map B)) (low high above : Int) (H : Sat W w (yrd p A bs.length c pl 0 0 :: l)) :
    Calls Try.prog 82 #[.pointer (some ⟨p, 0, none⟩), .int .i64 low, .int .i64 high, .int .i64 above] w fun e w' => PeekPost W l p A bs.length c pl (numAt bs pl low high above) e w' := by
  cases hd : dec (bs.drop pl) with
  | short => rw [show numAt bs pl low high above = .bad 4 bs.length by simp only [numAt, hd]]; exact ypeek_zero p A c bs pl hp hb hr low high above 4 bs.length (by simp only [sizeAt, hd]) H
  | zero => rw [show numAt bs pl low high above = .bad 4 pl by simp only [numAt, hd]]; exact ypeek_zero p A c bs pl hp hb hr low high above 4 pl (by simp only [sizeAt, hd]) H
  | long => rw [show numAt bs pl low high above = .bad 5 pl by simp only [numAt, hd]]; exact ypeek_zero p A c bs pl hp hb hr low high above 5 pl (by simp only [sizeAt, hd]) H
  | ok N k =>
    obtain ⟨R, HR⟩ : ∃ R, Hid (numAt bs pl low high above = R) := ⟨_, rfl⟩
    have hR := HR.out
    simp only [numAt, hd] at hR
    have HRR := Lib.hid hR
    rw [HR.out]
    clear HR hR
    obtain ⟨hk1, hk9, hkl, hN⟩ := dec_val _ _ _ hd
    have HN := Lib.hid hN
    have c2 : w.cell? ⟨p, 2, none⟩ = some (.int .i64 0) := H.cell 2
    have hs := ysize_any p A c bs pl 0 0 hp hb hr H
    rw [show sizeAt bs pl = (k, 0, 0) by simp only [sizeAt, hd]] at hs
    have HS := Lib.hid hs
    clear hs hd hN
    rw [List.length_drop] at hkl
    go_enter Try.func82, Try.ntmps82
    go_wp2_with fail
    refine HS.out.mono ?_
    rintro e w1 ⟨rfl, H1⟩
    have H2 : Sat W (w1.alloc (.cells #[.int .i64 0, .int .i64 0] 29)) (pt w1.heap.size #[.int .i64 0, .int .i64 0] 29 :: yrd p A bs.length c pl 0 0 :: l) := H1.alloc _ _
    clear H1 HS
    go_wp2
    generalize w1.heap.size = q at H2 ⊢
    go_loopw [12, 13] (fun x y wc => ∃ (t n : Nat), t ≤ k ∧ y = .int .i64 ((t : Int) - 1) ∧ x = .int .i64 n ∧ Hid (n = dval (((bs.drop pl).take k).drop t)) ∧ Sat W wc (pt q #[.int .i64 0, .int .i64 0] 29 :: yrd p A bs.length c pl 0 0 :: l)) (fun _ y _ => (intOf y + 1).toNat)
    case atStart => exact ⟨k, 0, Nat.le_refl _, rfl, rfl, by show _ = _; rw [List.drop_eq_nil_of_le (by rw [List.length_take]; exact Nat.min_le_left _ _)]; rfl, H2⟩
    case round =>
      obtain ⟨t, n, ht, rfl, rfl, hn, H3⟩ := hrel
      clear H2
      have H4 := H3.swap
      have p0 : wr.cell? ⟨p, 0, none⟩ = some (.slice A bs.length c) := H4.cell 0
      have p1 : wr.cell? ⟨p, 1, none⟩ = some (.int .i64 pl) := H4.cell 1
      cases t with
      | zero =>
        obtain rfl : n = N := by rw [hn.out, HN.out, List.drop_zero]
        have p2 : wr.cell? ⟨p, 2, none⟩ = some (.int .i64 0) := H4.cell 2
        have p3 : wr.cell? ⟨p, 3, none⟩ = some (.int .i64 0) := H4.cell 3
        have f2 := H4.frz 2
        have f3 := H4.frz 3
        have hk0 : ((k : Int) == 0) = false := by simp; omega
        clear H4
        by_cases hl : (n : Int) < low
        · obtain rfl : Num.bad 5 pl = R := by have := HRR.out; rwa [if_pos hl] at this
          go_wp2
          go_ret2
          exact ⟨rfl, (H3.tail.setCell 2 (.int .i64 5)).setCell 3 (.int .i64 pl)⟩
        · by_cases hh : high < (n : Int)
          · obtain rfl : Num.bad above pl = R := by have := HRR.out; rwa [if_neg hl, if_pos hh] at this
            go_wp2
            go_ret2
            exact ⟨rfl, (H3.tail.setCell 2 (.int .i64 above)).setCell 3 (.int .i64 pl)⟩
          · obtain rfl : Num.ok n k = R := by have := HRR.out; rwa [if_neg hl, if_neg hh] at this
            go_wp2
            go_ret2
            exact ⟨rfl, H3.tail⟩
      | succ u =>
        obtain ⟨x, hx⟩ : ∃ x, bs[pl + u]? = some x := ⟨bs[pl + u]'(by omega), List.getElem?_eq_getElem _⟩
        have hxk : ((bs.drop pl).take k)[u]? = some x := by
          rw [List.getElem?_take, if_pos (by omega), List.getElem?_drop, hx]
        have hstep := dval_step _ _ _ hxk
        have hbd := dval_lt (((bs.drop pl).take k).drop u)
        have hlen : (((bs.drop pl).take k).drop u).length ≤ 9 := by rw [List.length_drop, List.length_take]; omega
        have hbd9 : dval (((bs.drop pl).take k).drop u) < 9223372036854775808 := Nat.lt_of_lt_of_le hbd (by have := Nat.pow_le_pow_right (show 0 < 128 by decide) hlen; exact Nat.le_trans this (by decide))
        rw [← hn.out] at hstep
        have HST := Lib.hid hstep
        have hrd := hr _ H3.tail.tail
        have hne : bs.map B ≠ [] := by
          intro h
          have h0 : bs.length = 0 := by simpa using congrArg List.length h
          omega
        obtain ⟨b, o, rfl⟩ := hrd.open hne
        have hcx : wr.cell? ⟨b, o + (pl + u), none⟩ = some (.int .u8 (x.toNat : Int)) := hrd.at (pl + u) (by rw [List.getElem?_map, hx]; rfl)
        have hlt := x.toNat_lt
        rw [hstep] at hbd9
        clear hstep hne hbd hlen hx hxk hrd hn H4
        have hu : (((u + 1 : Nat) : Int) - 1) = u := by omega
        rw [hu]
        clear hu
        go_wp2
        have w1 : IntKind.i64.wrap (128 * (n : Int)) = 128 * (n : Int) := IntWalk.i64_in _ (by omega)
        have w2 : IntKind.i64.wrap ((pl : Int) + (u : Int)) = (pl : Int) + (u : Int) := IntWalk.i64_in _ (by omega)
        have w3 : (0 : Int) ≤ (pl : Int) + (u : Int) := by omega
        have w4 : ((pl : Int) + (u : Int)).toNat = pl + u := by omega
        have w5 : (pl : Int) + (u : Int) < (bs.length : Int) := by omega
        have w6 : Int.tmod (x.toNat : Int) 128 = ((x.toNat % 128 : Nat) : Int) := by rw [Int.tmod_eq_emod_of_nonneg (by omega)]; omega
        have w7 : IntKind.i64.wrap (128 * (n : Int) + ((x.toNat % 128 : Nat) : Int)) = 128 * (n : Int) + ((x.toNat % 128 : Nat) : Int) := IntWalk.i64_in _ (by omega)
        go_quiet (fail)
        clear w1 w2 w3 w4 w5 w6 w7
        go_wp2
        refine ⟨⟨u, x.toNat % 128 + 128 * n, by omega, rfl, by congr 1; omega, ?_, H3.drewN nq⟩, by simp [intOf]⟩
        show _ = _
        rw [HST.out]
end Go.Proofs.Ytflcmhmbmippfaa

/- The document's own reader: Int, Count, Text, ID, Left, End. -/
namespace Go.Proofs.Ytflcmhmbmippfaa
open Go.RowKit Go.Rt

set_option maxRecDepth 100000 in
set_option maxHeartbeats 800000 in
theorem yInt_any {W w : World} {l : List SL} (p : Nat) (A : Option Addr) (c : Nat) (bs : List UInt8) (pl : Nat) (fe fa : Int) (hp : pl ≤ bs.length) (hb : bs.length ≤ 1000000000) (hf : fe = 0 → fa = 0) (hr : RdL W l A (bs.map B)) (low high : Int) (H : Sat W w (yrd p A bs.length c pl fe fa :: l)) :
    Calls Try.prog 50 #[.pointer (some ⟨p, 0, none⟩), .int .i64 low, .int .i64 high] w fun e w' =>
      e = .returned (.int .i64 (toldInt bs pl fe fa low high 5).n) ∧ Sat W w' (yrd p A bs.length c (toldInt bs pl fe fa low high 5).pl (toldInt bs pl fe fa low high 5).fe (toldInt bs pl fe fa low high 5).fa :: l) := by
  have hpl : (pl : Int) ≤ 1000000000 := by omega
  by_cases h0 : fe = 0
  · subst h0
    obtain rfl : fa = 0 := hf rfl
    have hk := ypeek_any p A c bs pl hp hb hr low high 5 H
    unfold toldInt
    rw [if_pos rfl]
    have hback := numAt_back bs pl low high 5
    generalize numAt bs pl low high 5 = R at hk hback ⊢
    cases R with
    | ok N k =>
      obtain ⟨_, hkl, hN, _, _⟩ := hback N k hp rfl
      have HK := Lib.hid hk
      clear hk hback
      dsimp only
      go_enter Try.func50, Try.ntmps50
      go_wp2_with fail
      refine HK.out.mono ?_
      rintro e w1 ⟨rfl, H1⟩
      have p1 : w1.cell? ⟨p, 1, none⟩ = some (.int .i64 pl) := H1.cell 1
      have f1 := H1.frz 1
      go_wp2
      go_ret
      exact ⟨rfl, H1.setCell 1 (.int .i64 ((pl + k : Nat) : Int))⟩
    | bad er a =>
      have HK := Lib.hid hk
      clear hk hback
      dsimp only
      go_enter Try.func50, Try.ntmps50
      go_wp2_with fail
      refine HK.out.mono ?_
      rintro e w1 ⟨rfl, H1⟩
      have p1 : w1.cell? ⟨p, 1, none⟩ = some (.int .i64 pl) := H1.cell 1
      have f1 := H1.frz 1
      go_wp2
      go_ret
      exact ⟨rfl, H1.setCell 1 (.int .i64 (pl : Int))⟩
  · unfold toldInt
    rw [if_neg h0]
    dsimp only
    go_enter Try.func50, Try.ntmps50
    go_wp2_with fail
    refine (ypeek_stuck p A bs.length c pl fe fa h0 low high 5 H).mono ?_
    rintro e _ ⟨rfl, rfl⟩
    have p1 : w.cell? ⟨p, 1, none⟩ = some (.int .i64 pl) := H.cell 1
    have f1 := H.frz 1
    go_wp2
    go_ret
    exact ⟨rfl, H.setCell 1 (.int .i64 (pl : Int))⟩

set_option maxRecDepth 100000 in
set_option maxHeartbeats 800000 in
theorem yCount_any {W w : World} {l : List SL} (p : Nat) (A : Option Addr) (c : Nat) (bs : List UInt8) (pl : Nat) (fe fa : Int) (hp : pl ≤ bs.length) (hb : bs.length ≤ 1000000000) (hf : fe = 0 → fa = 0) (hr : RdL W l A (bs.map B)) (high : Int) (H : Sat W w (yrd p A bs.length c pl fe fa :: l)) :
    Calls Try.prog 65 #[.pointer (some ⟨p, 0, none⟩), .int .i64 high] w fun e w' =>
      e = .returned (.int .i64 (toldInt bs pl fe fa 0 high 3).n) ∧ Sat W w' (yrd p A bs.length c (toldInt bs pl fe fa 0 high 3).pl (toldInt bs pl fe fa 0 high 3).fe (toldInt bs pl fe fa 0 high 3).fa :: l) := by
  have hpl : (pl : Int) ≤ 1000000000 := by omega
  by_cases h0 : fe = 0
  · subst h0
    obtain rfl : fa = 0 := hf rfl
    have hk := ypeek_any p A c bs pl hp hb hr 0 high 3 H
    unfold toldInt
    rw [if_pos rfl]
    have hback := numAt_back bs pl 0 high 3
    generalize numAt bs pl 0 high 3 = R at hk hback ⊢
    cases R with
    | ok N k =>
      obtain ⟨_, hkl, hN, _, _⟩ := hback N k hp rfl
      have HK := Lib.hid hk
      clear hk hback
      dsimp only
      go_enter Try.func65, Try.ntmps65
      go_wp2_with fail
      refine HK.out.mono ?_
      rintro e w1 ⟨rfl, H1⟩
      have p1 : w1.cell? ⟨p, 1, none⟩ = some (.int .i64 pl) := H1.cell 1
      have f1 := H1.frz 1
      go_wp2
      go_ret
      exact ⟨rfl, H1.setCell 1 (.int .i64 ((pl + k : Nat) : Int))⟩
    | bad er a =>
      have HK := Lib.hid hk
      clear hk hback
      dsimp only
      go_enter Try.func65, Try.ntmps65
      go_wp2_with fail
      refine HK.out.mono ?_
      rintro e w1 ⟨rfl, H1⟩
      have p1 : w1.cell? ⟨p, 1, none⟩ = some (.int .i64 pl) := H1.cell 1
      have f1 := H1.frz 1
      go_wp2
      go_ret
      exact ⟨rfl, H1.setCell 1 (.int .i64 (pl : Int))⟩
  · unfold toldInt
    rw [if_neg h0]
    dsimp only
    go_enter Try.func65, Try.ntmps65
    go_wp2_with fail
    refine (ypeek_stuck p A bs.length c pl fe fa h0 0 high 3 H).mono ?_
    rintro e _ ⟨rfl, rfl⟩
    have p1 : w.cell? ⟨p, 1, none⟩ = some (.int .i64 pl) := H.cell 1
    have f1 := H.frz 1
    go_wp2
    go_ret
    exact ⟨rfl, H.setCell 1 (.int .i64 (pl : Int))⟩

set_option maxRecDepth 100000 in
theorem ypass_stuck {W w : World} {l : List SL} (p : Nat) (A : Option Addr) (m c : Nat) (pl : Nat) (fe fa : Int) (hf : ¬ fe = 0) (k n : Int) (H : Sat W w (yrd p A m c pl fe fa :: l)) :
    Calls Try.prog 83 #[.pointer (some ⟨p, 0, none⟩), .int .i64 k, .int .i64 n] w fun e w' => e = .returned (.slice none 0 0) ∧ w = w' := by
  have p1 : w.cell? ⟨p, 1, none⟩ = some (.int .i64 pl) := H.cell 1
  have p2 : w.cell? ⟨p, 2, none⟩ = some (.int .i64 fe) := H.cell 2
  have e1 : (fe != 0) = true := by simpa using hf
  go_enter Try.func83, Try.ntmps83
  go_wp2
  go_ret
  exact ⟨rfl, rfl⟩

set_option maxRecDepth 100000 in
theorem ypass_short {W w : World} {l : List SL} (p : Nat) (A : Option Addr) (c : Nat) (bs : List UInt8) (pl : Nat) (hb : bs.length ≤ 1000000000) (k n : Nat) (hp : pl + k ≤ bs.length) (hn : bs.length - (pl + k) < n) (_hn63 : n < 9223372036854775808) (H : Sat W w (yrd p A bs.length c pl 0 0 :: l)) :
    Calls Try.prog 83 #[.pointer (some ⟨p, 0, none⟩), .int .i64 k, .int .i64 n] w fun e w' => e = .returned (.slice none 0 0) ∧ Sat W w' (yrd p A bs.length c pl 4 bs.length :: l) := by
  have p0 : w.cell? ⟨p, 0, none⟩ = some (.slice A bs.length c) := H.cell 0
  have p1 : w.cell? ⟨p, 1, none⟩ = some (.int .i64 pl) := H.cell 1
  have p2 : w.cell? ⟨p, 2, none⟩ = some (.int .i64 0) := H.cell 2
  have p3 : w.cell? ⟨p, 3, none⟩ = some (.int .i64 0) := H.cell 3
  have f2 := H.frz 2
  have f3 := H.frz 3
  have hd : decide ((bs.length : Int) - ((pl : Int) + (k : Int)) < (n : Int)) = true := by simp; omega
  go_enter Try.func83, Try.ntmps83
  go_wp2
  go_ret
  exact ⟨rfl, (H.setCell 2 (.int .i64 4)).setCell 3 (.int .i64 bs.length)⟩

set_option maxRecDepth 100000 in
theorem ypass_fits {W w : World} {l l0 : List SL} (p : Nat) (A : Option Addr) (c : Nat) (bs : List UInt8) (pl : Nat) (hb : bs.length ≤ 1000000000) (hA : Bsl A bs.length c) (hr : RdL W l0 A (bs.map B)) (hl0 : ∀ w, Sat W w l → Sat W w l0) (k n : Nat) (hp : pl + k ≤ bs.length) (hn : n ≤ bs.length - (pl + k)) (H : Sat W w (yrd p A bs.length c pl 0 0 :: l)) :
    Calls Try.prog 83 #[.pointer (some ⟨p, 0, none⟩), .int .i64 k, .int .i64 n] w fun e w' => ∃ A' c', e = .returned (.slice A' n c') ∧ Sat W w' (yrd p A bs.length c (pl + k + n) 0 0 :: l) ∧ RdL W l0 A' (((bs.drop (pl + k)).take n).map B) := by
  have p0 : w.cell? ⟨p, 0, none⟩ = some (.slice A bs.length c) := H.cell 0
  have p1 : w.cell? ⟨p, 1, none⟩ = some (.int .i64 pl) := H.cell 1
  have p2 : w.cell? ⟨p, 2, none⟩ = some (.int .i64 0) := H.cell 2
  have f1 := H.frz 1
  have hd : decide ((bs.length : Int) - ((pl : Int) + (k : Int)) < (n : Int)) = false := by simp; omega
  obtain ⟨hle, hnone, hmax⟩ := hA
  unfold maxLen at hmax
  have H2 := H.setCell 1 (.int .i64 ((pl + k + n : Nat) : Int))
  cases A with
  | none =>
    obtain rfl : c = 0 := hnone rfl
    obtain rfl : n = 0 := by omega
    obtain rfl : k = 0 := by omega
    obtain rfl : pl = 0 := by omega
    clear hnone
    go_enter Try.func83, Try.ntmps83
    go_wp2
    go_ret
    exact ⟨none, 0, rfl, H2, fun _ _ => Rd.nil _ _⟩
  | some ad =>
    clear hnone
    by_cases hcp : c = pl + k
    · subst hcp
      obtain rfl : n = 0 := by omega
      go_enter Try.func83, Try.ntmps83
      go_wp2
      go_ret
      exact ⟨some ad, _, rfl, H2, fun _ _ => Rd.nil _ _⟩
    · have hlt : pl + k < c := by omega
      clear hcp
      have e0 : (0 : Int) ≤ (pl : Int) + (k : Int) := by omega
      have e1 : (pl : Int) + (k : Int) ≤ (pl : Int) + (k : Int) + (n : Int) := by omega
      have e2 : (pl : Int) + (k : Int) + (n : Int) ≤ (c : Int) := by omega
      have e3 : ((pl : Int) + (k : Int)).toNat = pl + k := by omega
      by_cases hbs : bs = []
      · subst hbs
        simp only [List.length_nil] at *
        obtain rfl : n = 0 := by omega
        obtain rfl : k = 0 := by omega
        obtain rfl : pl = 0 := by omega
        go_enter Try.func83, Try.ntmps83
        go_wp2
        go_ret
        exact ⟨_, _, rfl, H2, fun _ _ => by simpa using Rd.nil _ _⟩
      · obtain ⟨b, o, hbo⟩ := (hr _ (hl0 _ H.tail)).open (by simpa using hbs)
        cases hbo
        go_enter Try.func83, Try.ntmps83
        go_wp2
        go_ret
        refine ⟨some ⟨b, o + (pl + k), none⟩, c - (pl + k), ?_, H2, fun w' h => by rw [List.map_take, List.map_drop]; exact ((hr w' h).drop (pl + k)).take n⟩
        show Ending.returned (.slice (some ⟨b, o + (pl + k), none⟩) (pl + k + n - (pl + k)) (c - (pl + k))) = _
        rw [show pl + k + n - (pl + k) = n by omega]

set_option maxRecDepth 100000 in
set_option maxHeartbeats 800000 in
theorem yText_any {W w : World} {l : List SL} (p : Nat) (A : Option Addr) (c : Nat) (bs : List UInt8) (pl : Nat) (fe fa : Int) (hp : pl ≤ bs.length) (hb : bs.length ≤ 1000000000) (hf : fe = 0 → fa = 0) (hA : Bsl A bs.length c) (hr : RdL W l A (bs.map B)) (high : Int) (H : Sat W w (yrd p A bs.length c pl fe fa :: l)) :
    Calls Try.prog 53 #[.pointer (some ⟨p, 0, none⟩), .int .i64 high] w fun e w' =>
      e = .returned (.string ⟨(toldTxt bs pl fe fa high).s.toArray⟩) ∧ Sat W w' (yrd p A bs.length c (toldTxt bs pl fe fa high).pl (toldTxt bs pl fe fa high).fe (toldTxt bs pl fe fa high).fa :: l) := by
  have hcv0 : ∀ w', (convert 22 9 (.slice none 0 0)).run Try.prog w' = .ok (.string ⟨#[]⟩) w' := fun w' => run_str (P := Try.prog) (w := w') 22 9 5 Try.underlying22 Try.underlying5 Try.underlying9 none 0 0 [] rfl (Rd.nil _ _)
  by_cases h0 : fe = 0
  · subst h0
    obtain rfl : fa = 0 := hf rfl
    have hk := ypeek_any p A c bs pl hp hb hr 0 high 3 H
    unfold toldTxt txtAt
    rw [if_pos rfl]
    have hback := numAt_back bs pl 0 high 3
    have hbad := numAt_bad bs pl 0 high
    generalize hR : numAt bs pl 0 high 3 = R at hk hback ⊢
    cases R with
    | ok N k =>
      obtain ⟨_, hkl, hN, _, _⟩ := hback N k hp rfl
      have HK := Lib.hid hk
      clear hk hback hR hbad
      dsimp only
      by_cases hfit : N ≤ bs.length - (pl + k)
      · rw [if_pos hfit]
        dsimp only
        go_enter Try.func53, Try.ntmps53
        go_wp2_with fail
        refine HK.out.mono ?_
        rintro e w1 ⟨rfl, H1⟩
        go_wp2_with fail
        refine (ypass_fits p A c bs pl hb hA hr (fun _ h => h) k N hkl hfit H1).mono ?_
        rintro e w2 ⟨A', c', rfl, H2, hr2⟩
        have hl : ((bs.drop (pl + k)).take N).length = N := by rw [List.length_take, List.length_drop]; omega
        have hcv := run_str (P := Try.prog) (w := w2) 22 9 5 Try.underlying22 Try.underlying5 Try.underlying9 A' N c' ((bs.drop (pl + k)).take N) hl (hr2 _ H2.tail)
        clear hl
        go_wp2
        go_ret
        exact ⟨rfl, by rw [← Nat.add_assoc]; exact H2⟩
      · rw [if_neg hfit]
        dsimp only
        go_enter Try.func53, Try.ntmps53
        go_wp2_with fail
        refine HK.out.mono ?_
        rintro e w1 ⟨rfl, H1⟩
        go_wp2_with fail
        refine (ypass_short p A c bs pl hb k N hkl (by omega) hN H1).mono ?_
        rintro e w2 ⟨rfl, H2⟩
        go_wp2
        go_ret
        exact ⟨rfl, H2⟩
    | bad er a =>
      have her : ¬ er = 0 := hbad 3 er a (by decide) hR
      have HK := Lib.hid hk
      clear hk hback hR hbad
      dsimp only
      go_enter Try.func53, Try.ntmps53
      go_wp2_with fail
      refine HK.out.mono ?_
      rintro e w1 ⟨rfl, H1⟩
      go_wp2_with fail
      refine (ypass_stuck p A bs.length c pl er a her 0 0 H1).mono ?_
      rintro e _ ⟨rfl, rfl⟩
      go_wp2
      go_ret
      exact ⟨rfl, H1⟩
  · unfold toldTxt
    rw [if_neg h0]
    dsimp only
    go_enter Try.func53, Try.ntmps53
    go_wp2_with fail
    refine (ypeek_stuck p A bs.length c pl fe fa h0 0 high 3 H).mono ?_
    rintro e _ ⟨rfl, rfl⟩
    go_wp2_with fail
    refine (ypass_stuck p A bs.length c pl fe fa h0 0 0 H).mono ?_
    rintro e _ ⟨rfl, rfl⟩
    go_wp2
    go_ret
    exact ⟨rfl, H⟩

/-- The first j bytes, noughts behind them. -/
def idF (d : List UInt8) (j : Nat) : List UInt8 := d.take j ++ List.replicate (32 - j) 0
theorem idF_len (d : List UInt8) (hd : d.length = 32) (j : Nat) (hj : j ≤ 32) : (idF d j).length = 32 := by
  simp only [idF, List.length_append, List.length_take, List.length_replicate]; omega
theorem idF_end (d : List UInt8) (hd : d.length = 32) : idF d 32 = d := by
  rw [idF, List.take_of_length_le (by omega)]; simp
theorem idF_step (d : List UInt8) (hd : d.length = 32) (j : Nat) (x : UInt8) (hx : d[j]? = some x) : ((idF d j).map B).toArray.setIfInBounds j (B x) = ((idF d (j + 1)).map B).toArray := by
  obtain ⟨hj, _⟩ := List.getElem?_eq_some_iff.1 hx
  apply Array.toList_inj.1
  rw [Array.toList_setIfInBounds]
  show ((idF d j).map B).set j (B x) = (idF d (j + 1)).map B
  rw [← List.map_set]
  congr 1
  unfold idF
  rw [List.take_add_one, hx, show 32 - j = (32 - (j + 1)) + 1 by omega, List.replicate_succ, List.set_append_right _ _ (by rw [List.length_take]; omega), List.length_take, show j - min j d.length = 0 by omega]
  simp
theorem idF_at (d : List UInt8) (hd : d.length = 32) (j : Nat) (hj : j < 32) : ((idF d j).map B).toArray[j]? = some (.int .u8 0) := by
  have : (idF d j)[j]? = some 0 := by
    unfold idF
    rw [List.getElem?_append_right (by rw [List.length_take]; omega), List.getElem?_replicate, if_pos (by rw [List.length_take]; omega)]
  simp [this, B]

end Go.Proofs.Ytflcmhmbmippfaa

/- The document's own: which instruction stands in bytes. -/
namespace Go.Proofs.Ytflcmhmbmippfaa
open Go.RowKit Go.Rt

def stepIf (bs : List UInt8) (op : Int) (c : UInt8) (h : Bool) (st : Rst) : Rst := if h then stepL bs op c st else st
theorem readL_ifs (bs : List UInt8) (op : Int) (st : Rst) : readL bs op (hasL op) st =
    stepIf bs op 115 (hasS op) (stepIf bs op 110 (hasN op) (stepIf bs op 99 (hasC op) (stepIf bs op 98 (hasB op) (stepIf bs op 97 (hasA op) st)))) := by
  by_cases h : 1 ≤ op ∧ op ≤ 15
  · rcases op_cases op h with rfl | rfl | rfl | rfl | rfl | rfl | rfl | rfl | rfl | rfl | rfl | rfl | rfl | rfl | rfl
    all_goals simp [readL, hasL, hasA, hasB, hasC, hasN, hasS, stepIf]
  · simp [hasA, hasB, hasC, hasN, hasS, hasL_out op (by omega), readL, stepIf]
theorem stepIf_fine (bs : List UInt8) (op : Int) (c : UInt8) (h : Bool) (st : Rst) (hf : st.Fine bs) : (stepIf bs op c h st).Fine bs := by
  cases h with
  | false => exact hf
  | true => exact stepL_fine bs op c st hf
theorem stepIf_op (bs : List UInt8) (op : Int) (c : UInt8) (h : Bool) (st : Rst) : (stepIf bs op c h st).i.op = st.i.op := by
  cases h with
  | false => rfl
  | true => exact stepL_op bs op c st
/-- What the document's reader tells of its way. -/
def outR (st : Rst) : Ins × Int × Int × Int := if st.fe ≠ 0 then (Ins.zero, 0, st.fe, st.fa) else (st.i, (st.pl : Int), 0, 0)

set_option maxRecDepth 100000 in
theorem kRead_out {W w : World} {l : List SL} (A : Option Addr) (n c : Nat) (at_ : Int) (h : at_ < 0 ∨ (n : Int) < at_) (H : Sat W w l) :
    Calls Try.prog 14 #[.slice A n c, .int .i64 at_] w fun e w' => e = .returned (.tuple #[.agg Ins.zero.cs.toArray, .int .i64 0, .agg #[.int .i64 5, .int .i64 0]]) ∧ Sat W w' l := by
  by_cases h0 : at_ < 0
  · go_enter Try.func14, Try.ntmps14
    go_wp2
    refine bodyPost_ret (v := .tuple #[.agg Ins.zero.cs.toArray, .int .i64 0, .agg #[.int .i64 5, .int .i64 0]]) ?_ rfl ⟨rfl, ?_⟩
    · simp [results, Try.results14, go_sem, Ins.zero, Ins.cs]
    · exact (H.alloc' _).alloc' _
  · have h1 : (n : Int) < at_ := by omega
    clear h
    go_enter Try.func14, Try.ntmps14
    go_wp2
    refine bodyPost_ret (v := .tuple #[.agg Ins.zero.cs.toArray, .int .i64 0, .agg #[.int .i64 5, .int .i64 0]]) ?_ rfl ⟨rfl, ?_⟩
    · simp [results, Try.results14, go_sem, Ins.zero, Ins.cs]
    · exact (H.alloc' _).alloc' _

set_option maxRecDepth 100000 in
set_option maxHeartbeats 16000000 in
theorem kRead_in {W w : World} {l : List SL} (A : Option Addr) (c : Nat) (bs : List UInt8) (hA : Bsl A bs.length c) (hr : RdL W l A (bs.map B)) (hb : bs.length ≤ 1000000000) (k0 : Nat) (hk : k0 ≤ bs.length) (H : Sat W w l) :
    Calls Try.prog 14 #[.slice A bs.length c, .int .i64 k0] w fun e w' => ReadPost W l (insAt bs k0) e w' := by
  obtain ⟨T, HT⟩ : ∃ T, Hid (insAt bs k0 = T) := ⟨_, rfl⟩
  have hT : outR (readI bs k0) = T := by
    rw [← HT.out, insAt, if_neg (by omega), Int.toNat_natCast]; rfl
  rw [HT.out]
  clear HT
  have H1 : Sat W (((w.alloc (.cells Ins.zero.cs.toArray 26)).alloc (.cells #[.int .i64 0, .int .i64 0] 29)).alloc (.cells #[.slice A bs.length c, .int .i64 k0, .int .i64 0, .int .i64 0] 72)) (yrd (w.heap.size + 2) A bs.length c k0 0 0 :: pt (w.heap.size + 1) #[.int .i64 0, .int .i64 0] 29 :: pt w.heap.size Ins.zero.cs.toArray 26 :: l) := by
    have h := ((H.alloc Ins.zero.cs.toArray 26).alloc #[.int .i64 0, .int .i64 0] 29).alloc #[.slice A bs.length c, .int .i64 k0, .int .i64 0, .int .i64 0] 72
    simp only [World.size_alloc] at h
    exact h
  have hI := yInt_any (w.heap.size + 2) A c bs k0 0 0 hk hb (fun _ => rfl) (RdL.tail (RdL.tail hr)) 1 15 H1
  have hfin := iv_int bs k0 0 0 1 15 5 (by decide) hk (fun _ => rfl)
  unfold readI at hT
  generalize toldInt bs k0 0 0 1 15 5 = t0 at hI hfin hT
  obtain ⟨op, pl0, fe0, fa0⟩ := t0
  dsimp only at hI hfin hT
  rw [readL_ifs] at hT
  have HI := Lib.hid hI
  clear hI
  have hHas := kHas_any op
  obtain ⟨st0, h0⟩ : ∃ st, (⟨⟨op, 0, 0, 0, 0, []⟩, pl0, fe0, fa0⟩ : Rst) = st := ⟨_, rfl⟩
  have o0 : st0.i.op = op := by rw [← h0]
  have F0 : st0.Fine bs := by rw [← h0]; exact hfin
  rw [h0] at hT
  generalize hasA op = bA at *
  generalize hasB op = bB at *
  generalize hasC op = bC at *
  generalize hasN op = bN at *
  generalize hasS op = bS at *
  obtain ⟨st1, h1⟩ : ∃ st, stepIf bs op 97 bA st0 = st := ⟨_, rfl⟩
  have o1 : st1.i.op = op := by rw [← h1, stepIf_op, o0]
  have F1 : st1.Fine bs := by rw [← h1]; exact stepIf_fine _ _ _ _ _ F0
  rw [h1] at hT
  obtain ⟨st2, h2⟩ : ∃ st, stepIf bs op 98 bB st1 = st := ⟨_, rfl⟩
  have o2 : st2.i.op = op := by rw [← h2, stepIf_op, o1]
  have F2 : st2.Fine bs := by rw [← h2]; exact stepIf_fine _ _ _ _ _ F1
  rw [h2] at hT
  obtain ⟨st3, h3⟩ : ∃ st, stepIf bs op 99 bC st2 = st := ⟨_, rfl⟩
  have o3 : st3.i.op = op := by rw [← h3, stepIf_op, o2]
  have F3 : st3.Fine bs := by rw [← h3]; exact stepIf_fine _ _ _ _ _ F2
  rw [h3] at hT
  obtain ⟨st4, h4⟩ : ∃ st, stepIf bs op 110 bN st3 = st := ⟨_, rfl⟩
  have o4 : st4.i.op = op := by rw [← h4, stepIf_op, o3]
  have F4 : st4.Fine bs := by rw [← h4]; exact stepIf_fine _ _ _ _ _ F3
  rw [h4] at hT
  obtain ⟨st5, h5⟩ : ∃ st, stepIf bs op 115 bS st4 = st := ⟨_, rfl⟩
  have o5 : st5.i.op = op := by rw [← h5, stepIf_op, o4]
  have F5 : st5.Fine bs := by rw [← h5]; exact stepIf_fine _ _ _ _ _ F4
  rw [h5] at hT
  have HT := Lib.hid hT
  have HH := Lib.hid hHas
  have HA := Lib.hid hA
  clear hT hHas hA hfin
  have S0 := Lib.hid h0
  have O0 := Lib.hid o0
  have G0 := Lib.hid F0
  clear h0 o0 F0
  have S1 := Lib.hid h1
  have O1 := Lib.hid o1
  have G1 := Lib.hid F1
  clear h1 o1 F1
  have S2 := Lib.hid h2
  have O2 := Lib.hid o2
  have G2 := Lib.hid F2
  clear h2 o2 F2
  have S3 := Lib.hid h3
  have O3 := Lib.hid o3
  have G3 := Lib.hid F3
  clear h3 o3 F3
  have S4 := Lib.hid h4
  have O4 := Lib.hid o4
  have G4 := Lib.hid F4
  clear h4 o4 F4
  have S5 := Lib.hid h5
  have O5 := Lib.hid o5
  have G5 := Lib.hid F5
  clear h5 o5 F5
  have hk0 : ¬ (k0 : Int) < 0 := by omega
  have hk1 : ¬ (bs.length : Int) < (k0 : Int) := by omega
  go_enter Try.func14, Try.ntmps14
  go_wp2_with fail
  refine HI.out.mono ?_
  rintro e w1 ⟨rfl, H2⟩
  clear HI H1
  generalize w.heap.size + 2 = p at H2 ⊢
  generalize w.heap.size + 1 = q6 at H2 ⊢
  generalize w.heap.size = q4 at H2 ⊢
  have H3 : Sat W (w1.alloc (.cells #[.int .i64 op, .int .i64 0, .int .i64 0, .int .i64 0, .int .i64 0, .string ⟨#[]⟩] 26)) (pt w1.heap.size (Ins.cs ⟨op, 0, 0, 0, 0, []⟩).toArray 26 :: yrd p A bs.length c pl0 fe0 fa0 :: pt q6 #[.int .i64 0, .int .i64 0] 29 :: pt q4 Ins.zero.cs.toArray 26 :: l) := H2.alloc _ _
  have i0 : (w1.alloc (.cells #[.int .i64 op, .int .i64 0, .int .i64 0, .int .i64 0, .int .i64 0, .string ⟨#[]⟩] 26)).cell? ⟨w1.heap.size, 0, none⟩ = some (.int .i64 op) := H3.cell 0
  go_wp2_with fail
  refine (HH.out _).mono ?_
  rintro e _ ⟨rfl, rfl⟩
  clear HH H2 i0
  generalize w1.heap.size = q8 at H3 ⊢
  generalize w1.alloc (.cells #[.int .i64 op, .int .i64 0, .int .i64 0, .int .i64 0, .int .i64 0, .string ⟨#[]⟩] 26) = w2 at H3 ⊢
  have K0 : Sat W w2 (yrd p A bs.length c st0.pl st0.fe st0.fa :: pt q8 st0.i.cs.toArray 26 :: pt q6 #[.int .i64 0, .int .i64 0] 29 :: pt q4 Ins.zero.cs.toArray 26 :: l) := by rw [← S0.out]; exact H3.swap
  clear H3 S0
  go_upto_if 40 with fail
  go_cut [] (fun wx => Sat W wx (yrd p A bs.length c st1.pl st1.fe st1.fa :: pt q8 st1.i.cs.toArray 26 :: pt q6 #[.int .i64 0, .int .i64 0] 29 :: pt q4 Ins.zero.cs.toArray 26 :: l))
  case first =>
    cases bA with
    | false =>
      obtain rfl : st0 = st1 := S1.out
      go_wp2_with fail
      go_meet
      exact K0
    | true =>
      obtain ⟨⟨so, sa, sb, sc, sn, ss⟩, pl, fe, fa⟩ := st0
      dsimp only at K0
      have ho : so = op := O0.out
      obtain rfl : (⟨⟨so, (toldInt bs pl fe fa 0 7 5).n, sb, sc, sn, ss⟩, (toldInt bs pl fe fa 0 7 5).pl, (toldInt bs pl fe fa 0 7 5).fe, (toldInt bs pl fe fa 0 7 5).fa⟩ : Rst) = st1 := by
        rw [← S1.out]; simp [stepIf, stepL, Ins.set, lowOf, highOf]
      clear S1 O1 G1
      clear ho
      go_wp2_with fail
      refine (yInt_any p A c bs pl fe fa G0.out.1 hb G0.out.2 (RdL.tail (RdL.tail (RdL.tail hr))) 0 7 K0).mono ?_
      rintro e w9 ⟨rfl, H9⟩
      have iv : w9.cell? ⟨q8, 1, none⟩ = some (.int .i64 sa) := H9.swap.cell 1
      have fv := H9.swap.frz 1
      go_wp2_with fail
      go_meet
      exact (H9.swap.setCell 1 (.int .i64 (toldInt bs pl fe fa 0 7 5).n)).swap
  case rest =>
  have K1 := hcut
  clear hcut S1 O0 G0 K0
  go_upto_if 44 with fail
  go_cut [] (fun wx => Sat W wx (yrd p A bs.length c st2.pl st2.fe st2.fa :: pt q8 st2.i.cs.toArray 26 :: pt q6 #[.int .i64 0, .int .i64 0] 29 :: pt q4 Ins.zero.cs.toArray 26 :: l))
  case first =>
    cases bB with
    | false =>
      obtain rfl : st1 = st2 := S2.out
      go_wp2_with fail
      go_meet
      exact K1
    | true =>
      obtain ⟨⟨so, sa, sb, sc, sn, ss⟩, pl, fe, fa⟩ := st1
      dsimp only at K1
      have ho : so = op := O1.out
      obtain rfl : (⟨⟨so, sa, (toldInt bs pl fe fa 0 7 5).n, sc, sn, ss⟩, (toldInt bs pl fe fa 0 7 5).pl, (toldInt bs pl fe fa 0 7 5).fe, (toldInt bs pl fe fa 0 7 5).fa⟩ : Rst) = st2 := by
        rw [← S2.out]; simp [stepIf, stepL, Ins.set, lowOf, highOf]
      clear S2 O2 G2
      clear ho
      go_wp2_with fail
      refine (yInt_any p A c bs pl fe fa G1.out.1 hb G1.out.2 (RdL.tail (RdL.tail (RdL.tail hr))) 0 7 K1).mono ?_
      rintro e w9 ⟨rfl, H9⟩
      have iv : w9.cell? ⟨q8, 2, none⟩ = some (.int .i64 sb) := H9.swap.cell 2
      have fv := H9.swap.frz 2
      go_wp2_with fail
      go_meet
      exact (H9.swap.setCell 2 (.int .i64 (toldInt bs pl fe fa 0 7 5).n)).swap
  case rest =>
  have K2 := hcut
  clear hcut S2 O1 G1 K1
  go_upto_if 48 with fail
  go_cut [] (fun wx => Sat W wx (yrd p A bs.length c st3.pl st3.fe st3.fa :: pt q8 st3.i.cs.toArray 26 :: pt q6 #[.int .i64 0, .int .i64 0] 29 :: pt q4 Ins.zero.cs.toArray 26 :: l))
  case first =>
    cases bC with
    | false =>
      obtain rfl : st2 = st3 := S3.out
      go_wp2_with fail
      go_meet
      exact K2
    | true =>
      obtain ⟨⟨so, sa, sb, sc, sn, ss⟩, pl, fe, fa⟩ := st2
      dsimp only at K2
      have ho : so = op := O2.out
      obtain rfl : (⟨⟨so, sa, sb, (toldInt bs pl fe fa 0 7 5).n, sn, ss⟩, (toldInt bs pl fe fa 0 7 5).pl, (toldInt bs pl fe fa 0 7 5).fe, (toldInt bs pl fe fa 0 7 5).fa⟩ : Rst) = st3 := by
        rw [← S3.out]; simp [stepIf, stepL, Ins.set, lowOf, highOf]
      clear S3 O3 G3
      clear ho
      go_wp2_with fail
      refine (yInt_any p A c bs pl fe fa G2.out.1 hb G2.out.2 (RdL.tail (RdL.tail (RdL.tail hr))) 0 7 K2).mono ?_
      rintro e w9 ⟨rfl, H9⟩
      have iv : w9.cell? ⟨q8, 3, none⟩ = some (.int .i64 sc) := H9.swap.cell 3
      have fv := H9.swap.frz 3
      go_wp2_with fail
      go_meet
      exact (H9.swap.setCell 3 (.int .i64 (toldInt bs pl fe fa 0 7 5).n)).swap
  case rest =>
  have K3 := hcut
  clear hcut S3 O2 G2 K2
  go_upto_if 52 with fail
  go_cut [] (fun wx => Sat W wx (yrd p A bs.length c st4.pl st4.fe st4.fa :: pt q8 st4.i.cs.toArray 26 :: pt q6 #[.int .i64 0, .int .i64 0] 29 :: pt q4 Ins.zero.cs.toArray 26 :: l))
  case first =>
    cases bN with
    | false =>
      obtain rfl : st3 = st4 := S4.out
      go_wp2_with fail
      go_meet
      exact K3
    | true =>
      obtain ⟨⟨so, sa, sb, sc, sn, ss⟩, pl, fe, fa⟩ := st3
      dsimp only at K3
      have ho : so = op := O3.out
      obtain rfl : (⟨⟨so, sa, sb, sc, (toldInt bs pl fe fa 1 (mostN op) 5).n, ss⟩, (toldInt bs pl fe fa 1 (mostN op) 5).pl, (toldInt bs pl fe fa 1 (mostN op) 5).fe, (toldInt bs pl fe fa 1 (mostN op) 5).fa⟩ : Rst) = st4 := by
        rw [← S4.out]; simp [stepIf, stepL, Ins.set, lowOf, highOf]
      clear S4 O4 G4
      have i0 : wc.cell? ⟨q8, 0, none⟩ = some (.int .i64 so) := K3.swap.cell 0
      rw [ho] at i0
      go_wp2_with fail
      refine (kMost_any op _).mono ?_
      rintro e _ ⟨rfl, rfl⟩
      clear ho
      go_wp2_with fail
      refine (yInt_any p A c bs pl fe fa G3.out.1 hb G3.out.2 (RdL.tail (RdL.tail (RdL.tail hr))) 1 (mostN op) K3).mono ?_
      rintro e w9 ⟨rfl, H9⟩
      have iv : w9.cell? ⟨q8, 4, none⟩ = some (.int .i64 sn) := H9.swap.cell 4
      have fv := H9.swap.frz 4
      go_wp2_with fail
      go_meet
      exact (H9.swap.setCell 4 (.int .i64 (toldInt bs pl fe fa 1 (mostN op) 5).n)).swap
  case rest =>
  have K4 := hcut
  clear hcut S4 O3 G3 K3
  go_upto_if 59 with fail
  go_cut [] (fun wx => Sat W wx (yrd p A bs.length c st5.pl st5.fe st5.fa :: pt q8 st5.i.cs.toArray 26 :: pt q6 #[.int .i64 0, .int .i64 0] 29 :: pt q4 Ins.zero.cs.toArray 26 :: l))
  case first =>
    cases bS with
    | false =>
      obtain rfl : st4 = st5 := S5.out
      go_wp2_with fail
      go_meet
      exact K4
    | true =>
      obtain ⟨⟨so, sa, sb, sc, sn, ss⟩, pl, fe, fa⟩ := st4
      dsimp only at K4
      have ho : so = op := O4.out
      obtain rfl : (⟨⟨so, sa, sb, sc, sn, (toldTxt bs pl fe fa 64).s⟩, (toldTxt bs pl fe fa 64).pl, (toldTxt bs pl fe fa 64).fe, (toldTxt bs pl fe fa 64).fa⟩ : Rst) = st5 := by
        rw [← S5.out]; simp [stepIf, stepL]
      clear S5 O5 G5
      clear ho
      go_wp2_with fail
      refine (yText_any p A c bs pl fe fa G4.out.1 hb G4.out.2 HA.out (RdL.tail (RdL.tail (RdL.tail hr))) 64 K4).mono ?_
      rintro e w9 ⟨rfl, H9⟩
      have iv : w9.cell? ⟨q8, 5, none⟩ = some (.string ⟨ss.toArray⟩) := H9.swap.cell 5
      have fv := H9.swap.frz 5
      go_wp2_with fail
      go_meet
      exact (H9.swap.setCell 5 (.string ⟨(toldTxt bs pl fe fa 64).s.toArray⟩)).swap
  case rest =>
  have K5 := hcut
  clear hcut S5 O4 G4 K4
  clear O5
  obtain ⟨⟨so, sa, sb, sc, sn, ss⟩, pl, fe, fa⟩ := st5
  dsimp only at K5
  have r1 : wc.cell? ⟨p, 1, none⟩ = some (.int .i64 pl) := K5.cell 1
  have r2 : wc.cell? ⟨p, 2, none⟩ = some (.int .i64 fe) := K5.cell 2
  have r3 : wc.cell? ⟨p, 3, none⟩ = some (.int .i64 fa) := K5.cell 3
  have m0 : wc.cell? ⟨q8, 0, none⟩ = some (.int .i64 so) := (K5.pull 1).cell 0
  have m1 : wc.cell? ⟨q8, 1, none⟩ = some (.int .i64 sa) := (K5.pull 1).cell 1
  have m2 : wc.cell? ⟨q8, 2, none⟩ = some (.int .i64 sb) := (K5.pull 1).cell 2
  have m3 : wc.cell? ⟨q8, 3, none⟩ = some (.int .i64 sc) := (K5.pull 1).cell 3
  have m4 : wc.cell? ⟨q8, 4, none⟩ = some (.int .i64 sn) := (K5.pull 1).cell 4
  have m5 : wc.cell? ⟨q8, 5, none⟩ = some (.string ⟨ss.toArray⟩) := (K5.pull 1).cell 5
  have q40 : wc.cell? ⟨q4, 0, none⟩ = some (.int .i64 0) := (K5.pull 3).cell 0
  have gq40 := (K5.pull 3).frz 0
  have q41 : wc.cell? ⟨q4, 1, none⟩ = some (.int .i64 0) := (K5.pull 3).cell 1
  have gq41 := (K5.pull 3).frz 1
  have q42 : wc.cell? ⟨q4, 2, none⟩ = some (.int .i64 0) := (K5.pull 3).cell 2
  have gq42 := (K5.pull 3).frz 2
  have q43 : wc.cell? ⟨q4, 3, none⟩ = some (.int .i64 0) := (K5.pull 3).cell 3
  have gq43 := (K5.pull 3).frz 3
  have q44 : wc.cell? ⟨q4, 4, none⟩ = some (.int .i64 0) := (K5.pull 3).cell 4
  have gq44 := (K5.pull 3).frz 4
  have q45 : wc.cell? ⟨q4, 5, none⟩ = some (.string ⟨#[]⟩) := (K5.pull 3).cell 5
  have gq45 := (K5.pull 3).frz 5
  have q60 : wc.cell? ⟨q6, 0, none⟩ = some (.int .i64 0) := (K5.pull 2).cell 0
  have gq60 := (K5.pull 2).frz 0
  have q61 : wc.cell? ⟨q6, 1, none⟩ = some (.int .i64 0) := (K5.pull 2).cell 1
  have gq61 := (K5.pull 2).frz 1
  have hne : q6 ≠ q4 := ((K5.pull 3).pull 3).ne
  have hne' : q4 ≠ q6 := fun h => hne h.symm
  have hn4 : q4 ≠ p := (K5.pull 3).ne
  have hn4' : p ≠ q4 := fun h => hn4 h.symm
  have hn6 : q6 ≠ p := (K5.pull 2).ne
  have hn6' : p ≠ q6 := fun h => hn6 h.symm
  have hn8 : q4 ≠ q8 := ((K5.pull 1).pull 3).ne
  have hn8' : q8 ≠ q4 := fun h => hn8 h.symm
  have hm8 : q6 ≠ q8 := ((K5.pull 1).pull 2).ne
  have hm8' : q8 ≠ q6 := fun h => hm8 h.symm
  have hT3 : outR ⟨⟨so, sa, sb, sc, sn, ss⟩, pl, fe, fa⟩ = T := HT.out
  clear HT
  by_cases h0 : fe = 0
  · have e0 : (fe != 0) = false := by simpa using h0
    obtain rfl : (⟨so, sa, sb, sc, sn, ss⟩, (pl : Int), 0, 0) = T := by rw [← hT3, outR, if_neg (by simpa using h0)]
    clear h0 hT3
    go_wp2_with fail
    go_region_law (fail)
    all_goals
      have HZ := ((((((((((K5.pull 3).setCell 0 (.int .i64 so)).setCell 1 (.int .i64 sa)).setCell 2 (.int .i64 sb)).setCell 3 (.int .i64 sc)).setCell 4 (.int .i64 sn)).setCell 5 (.string ⟨ss.toArray⟩)).pull 3).setCell 0 (.int .i64 0)).setCell 1 (.int .i64 0)).drew
      generalize ((((((((wc.setCell ⟨q4, 0, none⟩ (.int .i64 so)).setCell ⟨q4, 1, none⟩ (.int .i64 sa)).setCell ⟨q4, 2, none⟩ (.int .i64 sb)).setCell ⟨q4, 3, none⟩ (.int .i64 sc)).setCell ⟨q4, 4, none⟩ (.int .i64 sn)).setCell ⟨q4, 5, none⟩ (.string ⟨ss.toArray⟩)).setCell ⟨q6, 0, none⟩ (.int .i64 0)).setCell ⟨q6, 1, none⟩ (.int .i64 0)).drew = wz at HZ ⊢
      have z0 : wz.cell? ⟨q4, 0, none⟩ = some (.int .i64 so) := HZ.swap.cell 0
      have z1 : wz.cell? ⟨q4, 1, none⟩ = some (.int .i64 sa) := HZ.swap.cell 1
      have z2 : wz.cell? ⟨q4, 2, none⟩ = some (.int .i64 sb) := HZ.swap.cell 2
      have z3 : wz.cell? ⟨q4, 3, none⟩ = some (.int .i64 sc) := HZ.swap.cell 3
      have z4 : wz.cell? ⟨q4, 4, none⟩ = some (.int .i64 sn) := HZ.swap.cell 4
      have z5 : wz.cell? ⟨q4, 5, none⟩ = some (.string ⟨ss.toArray⟩) := HZ.swap.cell 5
      have y0 : wz.cell? ⟨q6, 0, none⟩ = some (.int .i64 0) := HZ.cell 0
      have y1 : wz.cell? ⟨q6, 1, none⟩ = some (.int .i64 0) := HZ.cell 1
      go_wp2
      refine bodyPost_ret (v := .tuple #[.agg #[.int .i64 so, .int .i64 sa, .int .i64 sb, .int .i64 sc, .int .i64 sn, .string ⟨ss.toArray⟩], .int .i64 (pl : Int), .agg #[.int .i64 0, .int .i64 0]]) ?_ rfl ⟨rfl, HZ.tail.tail.tail.tail⟩
      simp [results, Try.results14, go_sem, z0, z1, z2, z3, z4, z5, y0, y1]
  · have e0 : (fe != 0) = true := by simpa using h0
    obtain rfl : (Ins.zero, 0, fe, fa) = T := by rw [← hT3, outR, if_pos h0]
    clear h0 hT3
    go_wp2_with fail
    go_region_law (fail)
    all_goals
      have HZ := ((((((((((K5.pull 3).setCell 0 (.int .i64 0)).setCell 1 (.int .i64 0)).setCell 2 (.int .i64 0)).setCell 3 (.int .i64 0)).setCell 4 (.int .i64 0)).setCell 5 (.string ⟨#[]⟩)).pull 3).setCell 0 (.int .i64 fe)).setCell 1 (.int .i64 fa)).drew
      generalize ((((((((wc.setCell ⟨q4, 0, none⟩ (.int .i64 0)).setCell ⟨q4, 1, none⟩ (.int .i64 0)).setCell ⟨q4, 2, none⟩ (.int .i64 0)).setCell ⟨q4, 3, none⟩ (.int .i64 0)).setCell ⟨q4, 4, none⟩ (.int .i64 0)).setCell ⟨q4, 5, none⟩ (.string ⟨#[]⟩)).setCell ⟨q6, 0, none⟩ (.int .i64 fe)).setCell ⟨q6, 1, none⟩ (.int .i64 fa)).drew = wz at HZ ⊢
      have z0 : wz.cell? ⟨q4, 0, none⟩ = some (.int .i64 0) := HZ.swap.cell 0
      have z1 : wz.cell? ⟨q4, 1, none⟩ = some (.int .i64 0) := HZ.swap.cell 1
      have z2 : wz.cell? ⟨q4, 2, none⟩ = some (.int .i64 0) := HZ.swap.cell 2
      have z3 : wz.cell? ⟨q4, 3, none⟩ = some (.int .i64 0) := HZ.swap.cell 3
      have z4 : wz.cell? ⟨q4, 4, none⟩ = some (.int .i64 0) := HZ.swap.cell 4
      have z5 : wz.cell? ⟨q4, 5, none⟩ = some (.string ⟨#[]⟩) := HZ.swap.cell 5
      have y0 : wz.cell? ⟨q6, 0, none⟩ = some (.int .i64 fe) := HZ.cell 0
      have y1 : wz.cell? ⟨q6, 1, none⟩ = some (.int .i64 fa) := HZ.cell 1
      go_wp2
      refine bodyPost_ret (v := .tuple #[.agg #[.int .i64 0, .int .i64 0, .int .i64 0, .int .i64 0, .int .i64 0, .string ⟨#[]⟩], .int .i64 0, .agg #[.int .i64 fe, .int .i64 fa]]) ?_ rfl ⟨rfl, HZ.tail.tail.tail.tail⟩
      simp [results, Try.results14, go_sem, z0, z1, z2, z3, z4, z5, y0, y1]
end Go.Proofs.Ytflcmhmbmippfaa

/- The laws' helpers on instructions: just these bytes, this fault, the chapter's examples. -/
namespace Go.Proofs.Ytflcmhmbmippfaa
open Go.RowKit Go.Rt

theorem insAt_out (bs : List UInt8) (at_ : Int) (h : at_ < 0 ∨ (bs.length : Int) < at_) : insAt bs at_ = (Ins.zero, 0, 5, 0) := by unfold insAt; rw [if_pos h]
theorem cRead_any {W w : World} {l : List SL} (A : Option Addr) (c : Nat) (bs : List UInt8) (hA : Bsl A bs.length c) (hr : RdL W l A (bs.map B)) (hb : bs.length ≤ 1000000000) (at_ : Int) (H : Sat W w l) :
    Calls Try.prog 13 #[.slice A bs.length c, .int .i64 at_] w fun e w' => ReadPost W l (insAt bs at_) e w' := by
  by_cases h : at_ < 0 ∨ (bs.length : Int) < at_
  · rw [insAt_out bs at_ h]
    exact cRead_out A bs.length c at_ h H
  · obtain ⟨k, rfl⟩ : ∃ k : Nat, at_ = k := ⟨at_.toNat, by omega⟩
    exact cRead_in A c bs hA hr hb k (by omega) H
theorem kRead_any {W w : World} {l : List SL} (A : Option Addr) (c : Nat) (bs : List UInt8) (hA : Bsl A bs.length c) (hr : RdL W l A (bs.map B)) (hb : bs.length ≤ 1000000000) (at_ : Int) (H : Sat W w l) :
    Calls Try.prog 14 #[.slice A bs.length c, .int .i64 at_] w fun e w' => ReadPost W l (insAt bs at_) e w' := by
  by_cases h : at_ < 0 ∨ (bs.length : Int) < at_
  · rw [insAt_out bs at_ h]
    exact kRead_out A bs.length c at_ h H
  · obtain ⟨k, rfl⟩ : ∃ k : Nat, at_ = k := ⟨at_.toNat, by omega⟩
    exact kRead_in A c bs hA hr hb k (by omega) H

theorem eqi_zero : insEq Ins.zero Ins.zero = true := by decide

set_option maxRecDepth 100000 in
set_option maxHeartbeats 4000000 in
theorem ifails_true {W w : World} {l : List SL} (A : Option Addr) (c : Nat) (bs : List UInt8) (hA : Bsl A bs.length c) (hr : RdL W l A (bs.map B)) (hb : bs.length ≤ 1000000000) (at_ we wa : Int) (h : insAt bs at_ = (Ins.zero, 0, we, wa)) (H : Sat W w l) :
    Calls Try.prog 25 #[.slice A bs.length c, .int .i64 at_, .agg #[.int .i64 we, .int .i64 wa]] w fun e w' => e = .returned (.bool true) ∧ Sat W w' l := by
  have hc := cRead_any (W := W) (w := w.alloc (.cells #[.int .i64 we, .int .i64 wa] 29)) (l := pt w.heap.size #[.int .i64 we, .int .i64 wa] 29 :: l) A c bs hA (RdL.tail hr) hb at_ (H.alloc _ _)
  rw [h] at hc
  have HC := Lib.hid hc
  clear hc h
  have hz := eqi_zero
  go_enter Try.func25, Try.ntmps25
  go_wp2_with fail
  refine HC.out.mono ?_
  rintro e w1 hp
  obtain ⟨rfl, H1⟩ : e = .returned (.tuple #[.agg #[.int .i64 0, .int .i64 0, .int .i64 0, .int .i64 0, .int .i64 0, .string ⟨#[]⟩], .int .i64 0, .agg #[.int .i64 we, .int .i64 wa]]) ∧ Sat W w1 (pt w.heap.size #[.int .i64 we, .int .i64 wa] 29 :: l) := hp
  clear HC
  generalize w.heap.size = ff at H1 ⊢
  have f0 : w1.cell? ⟨ff, 0, none⟩ = some (.int .i64 we) := H1.cell 0
  have f1 : w1.cell? ⟨ff, 1, none⟩ = some (.int .i64 wa) := H1.cell 1
  have hlt := H1.lt
  go_wp2_with (first | (refine wpList_eqi (by rfl) (.tmp 25) (.tmp 26) 26 false rfl Ins.zero Ins.zero rfl rfl ?_))
  go_ret
  exact ⟨rfl, (H1.tail.alloc' _).alloc' _⟩

set_option maxRecDepth 100000 in
set_option maxHeartbeats 4000000 in
theorem iis_true {W w : World} {l : List SL} (i : Ins) (hm : mayB i = true) (A' : Option Addr) (c' : Nat) (ys : List UInt8) (hy : insBytes i = ys) (hr : RdL W l A' (ys.map B)) (H : Sat W w l) :
    Calls Try.prog 24 #[.agg i.cs.toArray, .slice A' ys.length c'] w fun e w' => e = .returned (.bool true) ∧ Sat W w' l := by
  subst hy
  have hc := cBytes_fine (W := W) (w := w.alloc (.cells i.cs.toArray 26)) (l := pt w.heap.size i.cs.toArray 26 :: l) i hm (H.alloc _ _)
  obtain ⟨op, ia, ib, ic, im, is⟩ := i
  generalize insBytes ⟨op, ia, ib, ic, im, is⟩ = ys at *
  have HC := Lib.hid hc
  clear hc hm
  show Calls Try.prog 24 #[.agg #[.int .i64 op, .int .i64 ia, .int .i64 ib, .int .i64 ic, .int .i64 im, .string ⟨is.toArray⟩], .slice A' ys.length c'] w _
  go_enter Try.func24, Try.ntmps24
  go_wp2_with fail
  refine HC.out.mono ?_
  rintro e w1 ⟨A, c, rfl, H1⟩
  clear HC
  have h1 : Rd w1 A (ys.map B) := H1.rd
  have h2 : Rd w1 A' (ys.map B) := hr w1 H1.tail.tail
  go_wp2_with fail
  refine (same_any A A' c c' ys ys w1 h1 h2).mono ?_
  rintro e _ ⟨rfl, rfl⟩
  rw [show (ys == ys) = true by simp]
  go_wp2
  go_ret
  exact ⟨rfl, H1.tail.tail⟩

set_option maxRecDepth 100000 in
set_option maxHeartbeats 4000000 in
theorem iawake_any {W w : World} {l : List SL} (H : Sat W w l) :
    Calls Try.prog 11 #[] w fun e w' => e = .returned (.bool true) ∧ Sat W w' l := by
  go_enter Try.func11, Try.ntmps11
  have H1 : Sat W (w.alloc (.cells (([1, 1, 2, 97, 98] : List UInt8).map B).toArray 5)) _ := H.alloc _ _
  go_wp2_with fail
  refine (iis_true ⟨1, 1, 0, 0, 0, [97, 98]⟩ (by decide) (some ⟨w.heap.size, 0, none⟩) 5 [1, 1, 2, 97, 98] (by decide) RdL.pt H1).mono ?_
  rintro e w1 ⟨rfl, H2⟩
  clear H1
  have H3 : Sat W (w1.alloc (.cells (([15] : List UInt8).map B).toArray 5)) _ := H2.tail.alloc _ _
  go_wp2_with fail
  refine (iis_true ⟨15, 0, 0, 0, 0, []⟩ (by decide) (some ⟨w1.heap.size, 0, none⟩) 1 [15] (by decide) RdL.pt H3).mono ?_
  rintro e w2 ⟨rfl, H4⟩
  clear H2 H3
  go_wp2_with fail
  refine (cCheck_any ⟨15, 1, 0, 0, 0, []⟩ (by decide) H4.tail).mono ?_
  rintro e w3 ⟨rfl, H5⟩
  rw [if_neg (show ¬ mayB ⟨15, 1, 0, 0, 0, []⟩ = true by decide)]
  clear H4
  have H7 : Sat W (w3.alloc (.cells (([2, 8] : List UInt8).map B).toArray 5)) _ := H5.alloc _ _
  go_wp2_with fail
  refine (ifails_true (some ⟨w3.heap.size, 0, none⟩) 2 [2, 8] ⟨by decide, by simp, by decide⟩ RdL.pt (by decide) 0 5 1 (by kernel_rfl) H7).mono ?_
  rintro e w4 ⟨rfl, H8⟩
  clear H5 H7
  go_wp2
  go_ret
  exact ⟨rfl, H8.tail⟩

set_option maxRecDepth 100000 in
theorem Pick_any (x : Int) (n : Nat) (hn : 1 ≤ n ∧ n ≤ 1000000) (w : World) :
    Calls Try.prog 27 #[.int .i64 x, .int .i64 n] w fun e w' => (∃ t : Nat, t < n ∧ e = .returned (.int .i64 t)) ∧ w = w' := by
  have e1 : decide ((n : Int) < 1) = false := by simp; omega
  have hn0 : ¬ (n : Int) = 0 := by omega
  have hb1 : Int.tmod x n < n := Int.tmod_lt_of_pos x (by omega)
  have hb2 : -(n : Int) < Int.tmod x n := by
    have h := Int.lt_tmod_of_pos x (show (0 : Int) < n by omega)
    exact h
  have hw1 : IntKind.i64.wrap (Int.tmod x n) = Int.tmod x n := IntWalk.i64_in _ (by omega)
  have hw2 : IntKind.i64.wrap (Int.tmod x n + n) = Int.tmod x n + n := IntWalk.i64_in _ (by omega)
  by_cases h : Int.tmod x n < 0
  · have e2 : decide (Int.tmod x n < 0) = true := by simpa using h
    have e3 : ((Int.tmod x n + n).toNat : Int) = Int.tmod x n + n := Int.toNat_of_nonneg (by omega)
    have h4 : (Int.tmod x n + n).toNat < n := by omega
    have E3 := Lib.hid e3
    clear h e3
    go_enter Try.func27, Try.ntmps27
    go_wp2
    go_ret
    exact ⟨⟨(Int.tmod x n + n).toNat, h4, by rw [E3.out]; rfl⟩, rfl⟩
  · have e2 : decide (Int.tmod x n < 0) = false := by simpa using h
    have e3 : ((Int.tmod x n).toNat : Int) = Int.tmod x n := Int.toNat_of_nonneg (by omega)
    have h4 : (Int.tmod x n).toNat < n := by omega
    have E3 := Lib.hid e3
    clear h e3
    go_enter Try.func27, Try.ntmps27
    go_wp2
    go_ret
    exact ⟨⟨(Int.tmod x n).toNat, h4, by rw [E3.out]; rfl⟩, rfl⟩
end Go.Proofs.Ytflcmhmbmippfaa
