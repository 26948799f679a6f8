/- The document's own: what each Op has, which instruction may be. -/
import Derived.Test.YtflcmhmbmippfaaCdD
import Derived.Deep.DeepCutAuto
namespace Go.Proofs.Ytflcmhmbmippfaa
open Go.RowKit Go.Rt

set_option maxRecDepth 100000 in
set_option maxHeartbeats 1600000 in
theorem kHas_any (op : Int) (w : World) :
    Calls Try.prog 51 #[.int .i64 op] w fun e w' => e = .returned (.tuple #[.bool (hasA op), .bool (hasB op), .bool (hasC op), .bool (hasN op), .bool (hasS op)]) ∧ w = w' := by
  by_cases h : 1 ≤ op ∧ op ≤ 15
  · rcases op_cases op h with rfl | rfl | rfl | rfl | rfl | rfl | rfl | rfl | rfl | rfl | rfl | rfl | rfl | rfl | rfl
    all_goals
      go_enter Try.func51, Try.ntmps51
      go_wp2
      exact bodyPost_ret (by simp [results, Try.results51, go_sem, hasA, hasB, hasC, hasN, hasS, hasL]) rfl ⟨rfl, rfl⟩
  · have hl := hasL_out op (by omega)
    have e : ∀ k : Int, 1 ≤ k ∧ k ≤ 15 → (op == k) = false := fun k hk => by simp; omega
    have e1 := e 1 (by omega)
    have e2 := e 2 (by omega)
    have e3 := e 3 (by omega)
    have e4 := e 4 (by omega)
    have e5 := e 5 (by omega)
    have e6 := e 6 (by omega)
    have e7 := e 7 (by omega)
    have e8 := e 8 (by omega)
    have e9 := e 9 (by omega)
    have e10 := e 10 (by omega)
    have e11 := e 11 (by omega)
    have e12 := e 12 (by omega)
    have e13 := e 13 (by omega)
    have e14 := e 14 (by omega)
    clear e
    unfold hasA hasB hasC hasN hasS
    rw [hl]
    clear hl
    go_enter Try.func51, Try.ntmps51
    go_wp2
    exact bodyPost_ret (by simp [results, Try.results51, go_sem]) rfl ⟨rfl, rfl⟩

set_option maxRecDepth 100000 in
theorem kMost_any (op : Int) (w : World) : Calls Try.prog 52 #[.int .i64 op] w fun e w' => e = .returned (.int .i64 (mostN op)) ∧ w' = w := by
  by_cases h : op = 6
  · subst h
    go_enter Try.func52, Try.ntmps52
    go_wp2
    go_ret
    exact ⟨rfl, rfl⟩
  · have hm : mostN op = 60 := by unfold mostN; rw [if_neg h]
    have h6 : (op == 6) = false := by simpa using h
    rw [hm]
    go_enter Try.func52, Try.ntmps52
    go_wp2
    go_ret
    exact ⟨rfl, rfl⟩

set_option maxRecDepth 100000 in
theorem kreg_any (n : Int) (has : Bool) (w : World) : Calls Try.prog 61 #[.int .i64 n, .bool has] w fun e w' => e = .returned (.bool (regB n has)) ∧ w = w' := by
  cases has with
  | true =>
    by_cases h1 : 0 ≤ n
    · by_cases h2 : n < 8
      · have hr : regB n true = true := by simp [regB, h1, h2]
        rw [hr]
        go_enter Try.func61, Try.ntmps61
        go_wp2
        go_ret
        exact ⟨rfl, rfl⟩
      · have hr : regB n true = false := by simp [regB]; omega
        rw [hr]
        have e2 : decide (n < 8) = false := by simpa using h2
        go_enter Try.func61, Try.ntmps61
        go_wp2
        go_ret
        exact ⟨rfl, rfl⟩
    · have hr : regB n true = false := by simp [regB]; omega
      rw [hr]
      have e1 : decide ((0 : Int) ≤ n) = false := by simpa using h1
      go_enter Try.func61, Try.ntmps61
      go_wp2
      go_ret
      exact ⟨rfl, rfl⟩
  | false =>
    have hr : regB n false = (n == 0) := by simp only [regB, Bool.false_eq_true, if_false]; rfl
    rw [hr]
    by_cases h : n = 0
    · subst h
      go_enter Try.func61, Try.ntmps61
      go_wp2
      go_ret
      exact ⟨rfl, rfl⟩
    · have e1 : (n == 0) = false := by simpa using h
      rw [e1]
      go_enter Try.func61, Try.ntmps61
      go_wp2
      go_ret
      exact ⟨rfl, rfl⟩

set_option maxRecDepth 100000 in
set_option maxHeartbeats 8000000 in
theorem kCheck_any {W w : World} {l : List SL} (i : Ins) (hs : i.s.length ≤ maxLen) (H : Sat W w l) :
    Calls Try.prog 20 #[.agg i.cs.toArray] w fun e w' => e = .returned (.int .i64 (if mayR i then 0 else 2)) ∧ Sat W w' l := by
  obtain ⟨op, ia, ib, ic, im, is⟩ := i
  unfold maxLen at hs
  dsimp only at hs
  have H1 : Sat W (w.alloc (.cells #[.int .i64 op, .int .i64 ia, .int .i64 ib, .int .i64 ic, .int .i64 im, .string ⟨is.toArray⟩] 26)) (pt w.heap.size (Ins.cs ⟨op, ia, ib, ic, im, is⟩).toArray 26 :: l) := H.alloc _ _
  obtain ⟨N, HN⟩ : ∃ N, Hid (numB ⟨op, ia, ib, ic, im, is⟩ = N) := ⟨_, rfl⟩
  obtain ⟨T, HT⟩ : ∃ T, Hid (txtB ⟨op, ia, ib, ic, im, is⟩ = T) := ⟨_, rfl⟩
  obtain ⟨R, HR⟩ : ∃ R, Hid (mayR ⟨op, ia, ib, ic, im, is⟩ = R) := ⟨_, rfl⟩
  rw [HR.out]
  have hHas := kHas_any op
  have HRR : Hid ((decide (1 ≤ op ∧ op ≤ 15) && (regB ia (hasA op) && (regB ib (hasB op) && (regB ic (hasC op) && (N && T))))) = R) := by
    show _ = _; rw [← HR.out, ← HN.out, ← HT.out]; rfl
  have HN2 : Hid ((if hasN op then decide (1 ≤ im ∧ im ≤ mostN op) else decide (im = 0)) = N) := HN.out
  have HT2 : Hid ((if hasS op then decide (is.length ≤ 64) else decide (is = [])) = T) := HT.out
  clear HR HN HT
  generalize hasA op = bA at *
  generalize hasB op = bB at *
  generalize hasC op = bC at *
  generalize hasN op = bN at *
  generalize hasS op = bS at *
  have HH := Lib.hid hHas
  clear hHas
  show Calls Try.prog 20 #[.agg #[.int .i64 op, .int .i64 ia, .int .i64 ib, .int .i64 ic, .int .i64 im, .string ⟨is.toArray⟩]] w _
  go_enter Try.func20, Try.ntmps20
  go_upto_region 2 with (go_at_call 51; refine (HH.out _).mono ?_; rintro e _ ⟨rfl, rfl⟩)
  generalize w.heap.size = ib' at H1 ⊢
  generalize w.alloc (.cells #[.int .i64 op, .int .i64 ia, .int .i64 ib, .int .i64 ic, .int .i64 im, .string ⟨is.toArray⟩] 26) = w1 at H1 ⊢
  clear HH H
  have i0 : w1.cell? ⟨ib', 0, none⟩ = some (.int .i64 op) := H1.cell 0
  have i1 : w1.cell? ⟨ib', 1, none⟩ = some (.int .i64 ia) := H1.cell 1
  have i2 : w1.cell? ⟨ib', 2, none⟩ = some (.int .i64 ib) := H1.cell 2
  have i3 : w1.cell? ⟨ib', 3, none⟩ = some (.int .i64 ic) := H1.cell 3
  have i4 : w1.cell? ⟨ib', 4, none⟩ = some (.int .i64 im) := H1.cell 4
  have i5 : w1.cell? ⟨ib', 5, none⟩ = some (.string ⟨is.toArray⟩) := H1.cell 5
  have HHs := Lib.hid hs
  clear hs
  go_cut [8] (fun v wx => v = .bool N ∧ Sat W wx (pt ib' (Ins.cs ⟨op, ia, ib, ic, im, is⟩).toArray 26 :: l))
  case first =>
    clear i1 i2 i3 i5 HRR HT2
    cases bN with
    | false =>
      have hN := HN2.out
      simp only [Bool.false_eq_true, if_false] at hN
      clear HN2
      by_cases hm : im = 0
      · subst hm
        obtain rfl : true = N := by rw [← hN]; simp
        clear hN
        go_quiet (fail)
        go_wp2_with fail
        go_meet
        exact ⟨rfl, H1.drewN _⟩
      · have hm2 : (im == 0) = false := by simpa using hm
        obtain rfl : false = N := by rw [← hN]; simp [hm]
        clear hN hm
        go_quiet (fail)
        go_wp2_with fail
        go_meet
        exact ⟨rfl, H1.drewN _⟩
    | true =>
      have hN := HN2.out
      simp only [if_true] at hN
      clear HN2
      by_cases h1 : 1 ≤ im
      · by_cases h2 : im ≤ mostN op
        · have e1 : decide ((1 : Int) ≤ im) = true := by simpa using h1
          have e2 : decide (im ≤ mostN op) = true := by simpa using h2
          obtain rfl : true = N := by rw [← hN]; simp [h1, h2]
          clear hN h1 h2
          generalize hmm : mostN op = mm at *
          have hM : ∀ w, Calls Try.prog 52 #[.int .i64 op] w fun e w' => e = .returned (.int .i64 mm) ∧ w' = w := fun w => by rw [← hmm]; exact kMost_any op w
          have HM := Lib.hid hM
          clear hM hmm
          go_quiet ((go_at_call 52; exact Calls.quiet_of_same (HM.out _)))
          go_wp2_with fail
          go_meet
          exact ⟨rfl, H1.drewN _⟩
        · have e1 : decide ((1 : Int) ≤ im) = true := by simpa using h1
          have e2 : decide (im ≤ mostN op) = false := by simpa using h2
          obtain rfl : false = N := by rw [← hN]; simp [h2]
          clear hN h1 h2
          generalize hmm : mostN op = mm at *
          have hM : ∀ w, Calls Try.prog 52 #[.int .i64 op] w fun e w' => e = .returned (.int .i64 mm) ∧ w' = w := fun w => by rw [← hmm]; exact kMost_any op w
          have HM := Lib.hid hM
          clear hM hmm
          go_quiet ((go_at_call 52; exact Calls.quiet_of_same (HM.out _)))
          go_wp2_with fail
          go_meet
          exact ⟨rfl, H1.drewN _⟩
      · have e1 : decide ((1 : Int) ≤ im) = false := by simpa using h1
        obtain rfl : false = N := by rw [← hN]; simp [h1]
        clear hN h1
        go_quiet (fail)
        go_wp2_with fail
        go_meet
        exact ⟨rfl, H1.drewN _⟩
  case rest =>
  obtain ⟨rfl, H2⟩ := hcut
  clear i0 i1 i2 i3 i4 i5 H1 HN2
  have i5 : wc.cell? ⟨ib', 5, none⟩ = some (.string ⟨is.toArray⟩) := H2.cell 5
  go_upto_region 3 with fail
  go_cut [9] (fun v wx => v = .bool T ∧ Sat W wx (pt ib' (Ins.cs ⟨op, ia, ib, ic, im, is⟩).toArray 26 :: l))
  case first =>
    clear HRR
    cases bS with
    | false =>
      have hT := HT2.out
      simp only [Bool.false_eq_true, if_false] at hT
      clear HT2
      by_cases hm : is = []
      · subst hm
        obtain rfl : true = T := by rw [← hT]; simp
        clear hT
        go_wp2_with fail
        go_meet
        exact ⟨rfl, H2⟩
      · have hm2 : is.isEmpty = false := by
          cases is with
          | nil => exact absurd rfl hm
          | cons x xs => rfl
        obtain rfl : false = T := by rw [← hT]; simp [hm]
        clear hT hm
        go_wp2_with fail
        go_meet
        exact ⟨rfl, H2⟩
    | true =>
      have hT := HT2.out
      simp only [if_true] at hT
      clear HT2
      by_cases h1 : is.length ≤ 64
      · have e1 : decide ((is.length : Int) ≤ 64) = true := by simp; omega
        obtain rfl : true = T := by rw [← hT]; simp [h1]
        clear hT h1
        go_wp2_with fail
        go_meet
        exact ⟨rfl, H2⟩
      · have e1 : decide ((is.length : Int) ≤ 64) = false := by simp; omega
        obtain rfl : false = T := by rw [← hT]; simp [h1]
        clear hT h1
        go_wp2_with fail
        go_meet
        exact ⟨rfl, H2⟩
  case rest =>
  obtain ⟨rfl, H3⟩ := hcut
  clear H2 i5 HT2
  have i0 : wc.cell? ⟨ib', 0, none⟩ = some (.int .i64 op) := H3.cell 0
  have i1 : wc.cell? ⟨ib', 1, none⟩ = some (.int .i64 ia) := H3.cell 1
  have i2 : wc.cell? ⟨ib', 2, none⟩ = some (.int .i64 ib) := H3.cell 2
  have i3 : wc.cell? ⟨ib', 3, none⟩ = some (.int .i64 ic) := H3.cell 3
  obtain ⟨r1, hr1⟩ : ∃ r, regB ia bA = r := ⟨_, rfl⟩
  obtain ⟨r2, hr2⟩ : ∃ r, regB ib bB = r := ⟨_, rfl⟩
  obtain ⟨r3, hr3⟩ : ∃ r, regB ic bC = r := ⟨_, rfl⟩
  have k1 : ∀ w, Calls Try.prog 61 #[.int .i64 ia, .bool bA] w fun e w' => e = .returned (.bool r1) ∧ w' = w := fun w => (kreg_any ia bA w).mono fun _ _ h => ⟨by rw [← hr1]; exact h.1, h.2.symm⟩
  have k2 : ∀ w, Calls Try.prog 61 #[.int .i64 ib, .bool bB] w fun e w' => e = .returned (.bool r2) ∧ w' = w := fun w => (kreg_any ib bB w).mono fun _ _ h => ⟨by rw [← hr2]; exact h.1, h.2.symm⟩
  have k3 : ∀ w, Calls Try.prog 61 #[.int .i64 ic, .bool bC] w fun e w' => e = .returned (.bool r3) ∧ w' = w := fun w => (kreg_any ic bC w).mono fun _ _ h => ⟨by rw [← hr3]; exact h.1, h.2.symm⟩
  have hR := HRR.out
  rw [hr1, hr2, hr3] at hR
  clear HRR hr1 hr2 hr3
  have K1 := Lib.hid k1
  have K2 := Lib.hid k2
  have K3 := Lib.hid k3
  clear k1 k2 k3
  by_cases h1 : op < 1
  · have e1 : decide (op < 1) = true := by simpa using h1
    obtain rfl : false = R := by rw [← hR]; simp; omega
    clear hR
    go_wp2_with fail
    go_ret
    exact ⟨rfl, H3.tail⟩
  · have e1 : decide (op < 1) = false := by simpa using h1
    by_cases h2 : (15 : Int) < op
    · have e2 : decide ((15 : Int) < op) = true := by simpa using h2
      obtain rfl : false = R := by rw [← hR]; simp; omega
      clear hR
      go_wp2_with fail
      go_ret
      exact ⟨rfl, H3.tail⟩
    · have e2 : decide ((15 : Int) < op) = false := by simpa using h2
      have hop : decide (1 ≤ op ∧ op ≤ 15) = true := by simp; omega
      rw [hop] at hR
      clear h1 h2 hop
      cases r1 with
      | false =>
        obtain rfl : false = R := by rw [← hR]; simp
        clear hR
        go_wp2_with fail
        refine (K1.out _).mono ?_
        rintro e _ ⟨rfl, rfl⟩
        go_wp2_with fail
        go_ret
        exact ⟨rfl, H3.tail⟩
      | true =>
        cases r2 with
        | false =>
          obtain rfl : false = R := by rw [← hR]; simp
          clear hR
          go_wp2_with fail
          refine (K1.out _).mono ?_
          rintro e _ ⟨rfl, rfl⟩
          go_wp2_with fail
          refine (K2.out _).mono ?_
          rintro e _ ⟨rfl, rfl⟩
          go_wp2_with fail
          go_ret
          exact ⟨rfl, H3.tail⟩
        | true =>
          cases r3 with
          | false =>
            obtain rfl : false = R := by rw [← hR]; simp
            clear hR
            go_wp2_with fail
            refine (K1.out _).mono ?_
            rintro e _ ⟨rfl, rfl⟩
            go_wp2_with fail
            refine (K2.out _).mono ?_
            rintro e _ ⟨rfl, rfl⟩
            go_wp2_with fail
            refine (K3.out _).mono ?_
            rintro e _ ⟨rfl, rfl⟩
            go_wp2_with fail
            go_ret
            exact ⟨rfl, H3.tail⟩
          | true =>
            cases N with
            | false =>
              obtain rfl : false = R := by rw [← hR]; simp
              clear hR
              go_wp2_with fail
              refine (K1.out _).mono ?_
              rintro e _ ⟨rfl, rfl⟩
              go_wp2_with fail
              refine (K2.out _).mono ?_
              rintro e _ ⟨rfl, rfl⟩
              go_wp2_with fail
              refine (K3.out _).mono ?_
              rintro e _ ⟨rfl, rfl⟩
              go_wp2_with fail
              go_ret
              exact ⟨rfl, H3.tail⟩
            | true =>
              cases T with
              | false =>
                obtain rfl : false = R := by rw [← hR]; simp
                clear hR
                go_wp2_with fail
                refine (K1.out _).mono ?_
                rintro e _ ⟨rfl, rfl⟩
                go_wp2_with fail
                refine (K2.out _).mono ?_
                rintro e _ ⟨rfl, rfl⟩
                go_wp2_with fail
                refine (K3.out _).mono ?_
                rintro e _ ⟨rfl, rfl⟩
                go_wp2_with fail
                go_ret
                exact ⟨rfl, H3.tail⟩
              | true =>
                obtain rfl : true = R := by rw [← hR]; simp
                clear hR
                go_wp2_with fail
                refine (K1.out _).mono ?_
                rintro e _ ⟨rfl, rfl⟩
                go_wp2_with fail
                refine (K2.out _).mono ?_
                rintro e _ ⟨rfl, rfl⟩
                go_wp2_with fail
                refine (K3.out _).mono ?_
                rintro e _ ⟨rfl, rfl⟩
                go_wp2_with fail
                go_ret
                exact ⟨rfl, H3.tail⟩
end Go.Proofs.Ytflcmhmbmippfaa
