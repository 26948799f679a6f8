/- MrProgParts, in one text: ClPParts, WrProgParts. -/
import Derived.Test.YtflcmhmbmippfaaMkE
import Derived.Test.YtflcmhmbmippfaaRows
import Derived.Test.YtflcmhmbmippfaaMkB
/- ProgParts answers true. -/
namespace Go.Proofs.Ytflcmhmbmippfaa
open Go.RowKit Go.Rt

theorem outP_len (l : List Ins) : (outP l).length ≤ 512 := by
  by_cases h : (checkP l).1 = 0
  · rw [outP_fine h]; exact (checkP_fine h).2.2.2.1
  · rw [outP_bad h]; exact (by decide : (0 : Nat) ≤ 512)
theorem eqZ (m : List Ins) : (decide (m = []) == ((m.length : Int) == 0)) = true := by
  cases m with
  | nil => rfl
  | cons x m =>
    have h : (((x :: m).length : Int) == 0) = false := beq_eq_false_iff_ne.2 (by rw [List.length_cons]; omega)
    rw [h]
    simp

set_option maxRecDepth 100000 in
theorem pSame_any {w : World} (A A' : Option Addr) (c c' : Nat) (l m : List Ins) (hl : l.length ≤ maxLen) (hr : Rd w A (insC l)) (hr' : Rd w A' (insC m)) :
    Calls Try.prog 37 #[.slice A l.length c, .slice A' m.length c'] w fun e w' => e = .returned (.bool (sameP l m)) ∧ Below w.heap.size w w' := by
  have h := pEqual_any A A' c c' l m hl hr hr'
  have HH := Lib.hid h
  clear h
  go_enter Try.func37, Try.ntmps37
  go_wp2_with fail
  refine HH.out.mono ?_
  rintro e w1 ⟨rfl, hB⟩
  go_wp2
  go_ret
  exact ⟨rfl, hB⟩

set_option maxRecDepth 100000 in
set_option maxHeartbeats 16000000 in
theorem lawProgParts_any {W : World} (A : Option Addr) (c : Nat) (l : List Ins) (hA : Bsl A l.length c) (hs : ∀ x ∈ l, x.s.length ≤ 140737488355328) (hr : Rd W A (insC l))
    (A' : Option Addr) (c' : Nat) (m : List Ins) (hA' : Bsl A' m.length c') (hs' : ∀ x ∈ m, x.s.length ≤ 140737488355328) (hr' : Rd W A' (insC m)) (cut : Int) :
    Calls Try.prog 9 #[.slice A l.length c, .slice A' m.length c', .int .i64 cut] W fun e w' => e = .returned (.bool true) ∧ Sat W w' [] := by
  obtain ⟨iS, hiS, hS0, hS1, hS2⟩ := info_parts infoIns
  have hlc := hA.le
  have hcm := hA.max
  have hlm : l.length ≤ maxLen := Nat.le_trans hA.le hA.max
  have hmm : m.length ≤ maxLen := Nat.le_trans hA'.le hA'.max
  have hb1 := fun w0 (h : Sat W w0 []) => BigProg_any A c l hs hlm (hr.old h)
  have hb2 := fun w0 (h : Sat W w0 []) => BigProg_any A' c' m hs' hmm (hr'.old h)
  have hsl : ∀ x ∈ l, x.s.length ≤ maxLen := fun x hx => Nat.le_trans (hs x hx) (by unfold maxLen; omega)
  have hsm : ∀ x ∈ m, x.s.length ≤ maxLen := fun x hx => Nat.le_trans (hs' x hx) (by unfold maxLen; omega)
  have HB1 := Lib.hid hb1
  have HB2 := Lib.hid hb2
  have HSL := Lib.hid hsl
  have HSM := Lib.hid hsm
  have HLM := Lib.hid hlm
  have HMM := Lib.hid hmm
  unfold maxLen at hcm
  clear hb1 hb2 hs hs' hsl hsm hlm hmm hA hA'
  go_enter Try.func9, Try.ntmps9
  go_wp2_with fail
  refine (pawake_any (Sat.start W)).mono ?_
  rintro e w1 ⟨rfl, H1⟩
  cases hbl : bigP l with
  | true =>
    rw [hbl] at HB1
    go_wp2_with fail
    refine (HB1.out _ H1).mono ?_
    rintro e _ ⟨rfl, rfl⟩
    go_wp2
    go_ret
    exact ⟨rfl, H1⟩
  | false =>
    rw [hbl] at HB1
    go_wp2_with fail
    refine (HB1.out _ H1).mono ?_
    rintro e _ ⟨rfl, rfl⟩
    cases hbm : bigP m with
    | true =>
      rw [hbm] at HB2
      go_wp2_with fail
      refine (HB2.out _ H1).mono ?_
      rintro e _ ⟨rfl, rfl⟩
      go_wp2
      go_ret
      exact ⟨rfl, H1⟩
    | false =>
      rw [hbm] at HB2
      have hn1 := (bigP_no hbl).1
      have hn2 := (bigP_no hbm).1
      clear hbl hbm
      go_wp2_with fail
      refine (HB2.out _ H1).mono ?_
      rintro e _ ⟨rfl, rfl⟩
      clear HB1 HB2
      go_wp2_with fail
      refine (pCheck_any A c l HSL.out HLM.out (RdL.old hr) H1).mono ?_
      rintro e w2 ⟨rfl, H2⟩
      go_wp2_with fail
      refine (pCheck_any A' c' m HSM.out HMM.out (RdL.old hr') H2).mono ?_
      rintro e w3 ⟨rfl, H3⟩
      clear H1 H2
      by_cases hE : (checkP l).1 = 0
      · have hpick := Pick_any cut (l.length + 1) ⟨by omega, by omega⟩
        rw [Int.natCast_add] at hpick
        have HPICK := Lib.hid hpick
        clear hpick
        rw [hE]
        go_wp2_with fail
        refine (HPICK.out _).mono ?_
        rintro e _ ⟨⟨t, ht, rfl⟩, rfl⟩
        clear HPICK
        have htl : t ≤ l.length := by omega
        have hlt : (l.take t).length = t := by rw [List.length_take]; omega
        have hrt : RdL W [] A (insC (l.take t)) := RdL.old (by rw [insC_take]; exact hr.take _)
        have hst : ∀ x ∈ l.take t, x.s.length ≤ maxLen := fun x hx => HSL.out x (List.mem_of_mem_take hx)
        have hck := fun w0 (h : Sat W w0 []) => pCheck_any A c (l.take t) hst (by rw [hlt]; unfold maxLen; omega) hrt h
        have hby := fun w0 (L0 : List SL) (hr0 : RdL W L0 A (insC (l.take t))) (h : Sat W w0 L0) => pBytes_any A c (l.take t) hst (by rw [hlt]; unfold maxLen; omega) hr0 h
        rw [hlt] at hck hby
        have HCK := Lib.hid hck
        have HBY := Lib.hid hby
        have HRT : RdL W [] A (insC (l.take t)) := hrt
        clear hck hby hst hrt hlt
        go_wp2_with fail
        refine (HCK.out _ H3).mono ?_
        rintro e w4 ⟨rfl, H4⟩
        clear HCK H3
        go_wp2_with fail
        refine (pBytes_any A c l HSL.out HLM.out (RdL.old hr) H4).mono ?_
        rintro e w5 ⟨A5, c5, rfl, H5⟩
        clear H4
        go_wp2_with fail
        refine (HBY.out _ _ (RdL.tail HRT) H5).mono ?_
        rintro e w6 ⟨A6, c6, rfl, H6⟩
        clear HBY H5
        have hol : outP l = progBytes l := outP_fine hE
        have hG : (checkP (l.take t) = (0, 0) ∧ (outP (l.take t)).length ≤ (outP l).length) ∨ ∃ k : Nat, k < t ∧ checkP (l.take t) = (5, (k : Int)) := by
          rcases take_law l t htl hE with ⟨h1, h2⟩ | h1
          · left
            refine ⟨h1, ?_⟩
            rw [outP_fine (by rw [h1]), hol]; exact h2
          · exact .inr h1
        have hAP := append_law l m hE
        have hD : (checkP m).1 ≠ 0 ∨ ((checkP m).1 = 0 ∧ 60 < l.length + m.length) ∨ ((checkP m).1 = 0 ∧ l.length + m.length ≤ 60 ∧ 512 < (outP l).length + (outP m).length) ∨ ((checkP m).1 = 0 ∧ l.length + m.length ≤ 60 ∧ (outP l).length + (outP m).length ≤ 512 ∧ (checkP (l ++ m)).1 = 0) := by
          by_cases h1 : (checkP m).1 = 0
          · by_cases h2 : l.length + m.length ≤ 60
            · by_cases h3 : (outP l).length + (outP m).length ≤ 512
              · refine .inr (.inr (.inr ⟨h1, h2, h3, ?_⟩))
                rw [hol, outP_fine h1] at h3
                rw [hAP h1 h2 h3]
              · exact .inr (.inr (.inl ⟨h1, h2, by omega⟩))
            · exact .inr (.inl ⟨h1, by omega⟩)
          · exact .inl h1
        have hcb := fun w0 (A9 : Option Addr) (c9 : Nat) (L0 : List SL) (hr0 : RdL W L0 A9 (insC (l ++ m))) (h : Sat W w0 L0) => pCheck_any A9 c9 (l ++ m) (fun x hx => by
          rcases List.mem_append.1 hx with h | h
          · exact HSL.out x h
          · exact HSM.out x h) (by rw [List.length_append]; unfold maxLen; omega) hr0 h
        rw [List.length_append] at hcb
        have hsame1 := fun w0 (r1 : Rd w0 A (insC l)) => pSame_any A A c c l l HLM.out r1 r1
        have hsame2 := fun w0 (A9 : Option Addr) (c9 : Nat) (r1 : Rd w0 A (insC l)) (r2 : Rd w0 A9 (insC (l ++ m))) => pSame_any A A9 c c9 l (l ++ m) HLM.out r1 r2
        rw [(sameP_iff l l).2 rfl] at hsame1
        rw [sameP_app, List.length_append] at hsame2
        have hbm := fun w0 (L0 : List SL) (h : Sat W w0 L0) => pBytes_any A' c' m HSM.out HMM.out (RdL.old hr') h
        have hca := insC_append l m
        have HBM := Lib.hid hbm
        have HCB := Lib.hid hcb
        have HS1 := Lib.hid hsame1
        have HS2 := Lib.hid hsame2
        have HCA := Lib.hid hca
        clear hbm hcb hsame1 hsame2 hca hAP hol hE HSL HSM HLM HMM
        have hxa := outP_len l
        have hxc := outP_len m
        generalize outP l = xa at *
        generalize outP (l.take t) = xb at *
        generalize outP m = xc at *
        generalize checkP (l.take t) = cT at *
        generalize checkP m = cM at *
        generalize checkP (l ++ m) = cB at *
        generalize (checkP l).2 = cL at *
        obtain ⟨cT1, cT2⟩ := cT
        obtain ⟨cM1, cM2⟩ := cM
        obtain ⟨cB1, cB2⟩ := cB
        dsimp only at hG hD HCB HBM ⊢
        have HD := Lib.hid hD
        clear hD
        have key : ∀ {Q : Prop}, ((cT1 = 0 ∧ cT2 = 0 ∧ ¬ xa.length < xb.length) → Q) → (∀ k : Nat, k < t → cT1 = 5 ∧ cT2 = (k : Int) → Q) → Q := fun f g => by
          rcases hG with ⟨h1, h2⟩ | ⟨k, hk, h1⟩
          · cases h1; exact f ⟨rfl, rfl, by omega⟩
          · cases h1; exact g k hk ⟨rfl, rfl⟩
        clear hG
        refine key ?_ ?_
        · rintro ⟨rfl, rfl, hxx⟩
          clear key
          go_wp2_with fail
          refine (HBM.out _ _ H6).mono ?_
          rintro e w7 ⟨A7, c7, rfl, H7⟩
          clear HBM H6
          go_wp2_with fail
          refine (CopyProg_any A c l (by omega) (hr.old H7) H7).mono ?_
          rintro e w8 ⟨A8, c8, rfl, H8⟩
          clear H7
          go_wp2_with (refine wpList_append_sl rfl (.tmp 100) (.tmp 101) 45 rfl 26 iS _ zI 56 Try.underlying45 hiS hS0 rfl hS1 hS2 (by simp) zI_like _ l.length _ rfl H8 A' m.length c' (insC m) rfl (insC_len m) (hr'.old H8) (insC_oneC m) (insC_typed m) (by unfold maxLen; omega) (by omega) ?_
                       intro A9 c9 w9 H9)
          rw [← HCA.out] at H9
          clear H8
          refine (HCB.out _ A9 c9 _ RdL.row H9).mono ?_
          rintro e w10 ⟨rfl, H10⟩
          clear HCB H9
          rcases HD.out with h1 | ⟨rfl, h2⟩ | ⟨rfl, h2, h3⟩ | ⟨rfl, h2, h3, h4⟩
          · have e1 : (cM1 == 0) = false := by simpa using h1
            go_wp2_with fail
            refine (HS1.out _ (hr.old H10)).mono ?_
            rintro e w11 ⟨rfl, hB⟩
            have H11 := H10.below hB
            go_wp2_with fail
            refine (HS2.out _ A9 c9 (hr.old H11) H11.rd).mono ?_
            rintro e w12 ⟨rfl, hB2⟩
            have H12 := H11.below hB2
            go_wp2
            go_ret
            refine ⟨congrArg (fun b => Ending.returned (Value.bool b)) (?_ : _ = true), H12.tail.tail.tail.tail⟩
            exact eqZ m
          all_goals
            go_wp2_with fail
            refine (HS1.out _ (hr.old H10)).mono ?_
            rintro e w11 ⟨rfl, hB⟩
            have H11 := H10.below hB
            go_wp2_with fail
            refine (HS2.out _ A9 c9 (hr.old H11) H11.rd).mono ?_
            rintro e w12 ⟨rfl, hB2⟩
            have H12 := H11.below hB2
            go_wp2
            go_ret
            refine ⟨congrArg (fun b => Ending.returned (Value.bool b)) (?_ : _ = true), H12.tail.tail.tail.tail⟩
            exact eqZ m
        · rintro k hk ⟨rfl, rfl⟩
          clear key
          go_wp2_with fail
          refine (HBM.out _ _ H6).mono ?_
          rintro e w7 ⟨A7, c7, rfl, H7⟩
          clear HBM H6
          go_wp2_with fail
          refine (CopyProg_any A c l (by omega) (hr.old H7) H7).mono ?_
          rintro e w8 ⟨A8, c8, rfl, H8⟩
          clear H7
          go_wp2_with (refine wpList_append_sl rfl (.tmp 100) (.tmp 101) 45 rfl 26 iS _ zI 56 Try.underlying45 hiS hS0 rfl hS1 hS2 (by simp) zI_like _ l.length _ rfl H8 A' m.length c' (insC m) rfl (insC_len m) (hr'.old H8) (insC_oneC m) (insC_typed m) (by unfold maxLen; omega) (by omega) ?_
                       intro A9 c9 w9 H9)
          rw [← HCA.out] at H9
          clear H8
          refine (HCB.out _ A9 c9 _ RdL.row H9).mono ?_
          rintro e w10 ⟨rfl, H10⟩
          clear HCB H9
          rcases HD.out with h1 | ⟨rfl, h2⟩ | ⟨rfl, h2, h3⟩ | ⟨rfl, h2, h3, h4⟩
          · have e1 : (cM1 == 0) = false := by simpa using h1
            go_wp2_with fail
            refine (HS1.out _ (hr.old H10)).mono ?_
            rintro e w11 ⟨rfl, hB⟩
            have H11 := H10.below hB
            go_wp2_with fail
            refine (HS2.out _ A9 c9 (hr.old H11) H11.rd).mono ?_
            rintro e w12 ⟨rfl, hB2⟩
            have H12 := H11.below hB2
            go_wp2
            go_ret
            refine ⟨congrArg (fun b => Ending.returned (Value.bool b)) (?_ : _ = true), H12.tail.tail.tail.tail⟩
            exact eqZ m
          all_goals
            go_wp2_with fail
            refine (HS1.out _ (hr.old H10)).mono ?_
            rintro e w11 ⟨rfl, hB⟩
            have H11 := H10.below hB
            go_wp2_with fail
            refine (HS2.out _ A9 c9 (hr.old H11) H11.rd).mono ?_
            rintro e w12 ⟨rfl, hB2⟩
            have H12 := H11.below hB2
            go_wp2
            go_ret
            refine ⟨congrArg (fun b => Ending.returned (Value.bool b)) (?_ : _ = true), H12.tail.tail.tail.tail⟩
            exact eqZ m
      · have e1 : ((checkP l).1 != 0) = true := by simpa using hE
        generalize (checkP l).1 = E at *
        go_wp2
        go_ret
        exact ⟨rfl, H3⟩
end Go.Proofs.Ytflcmhmbmippfaa

/- The row of ProgParts: for every input it answers true, and the input reads as it did. -/
namespace Go.Proofs.Ytflcmhmbmippfaa
open Go.ChangeShapes Go.WideShapes Go.ChangeMaps Go.RowKit Go.Rt

theorem progParts_own : ownKnob Try.prog.godebug = none := by kernel_rfl
theorem progParts_laid : laidOutB Try.prog = true := by kernel_rfl

set_option maxRecDepth 100000 in
theorem progParts_lifted (os : Os) (started : os.Started) (H : Type) (enc : TypeId × Value → H) :
    ReturnsInHanded {} Try.checked os 9 .any (Rows.progPartsSpec.pre6 enc Try.prog Try.f9 Rows.progPartsRow.domain false) (Rows.progPartsSpec.post enc Try.prog Try.f9 false true false false) := by
  refine returnsInHanded_of_change_sized (C := Try.checked) progParts_own started (by kernel_rfl) Try.func9
    (ChangeSpec.witness6 (enc := enc) (C := Try.checked) false ⟨#[], #[.slice none 0 0, .slice none 0 0, .int .i64 0], []⟩ 8 (by kernel_rfl) (by kernel_rfl) (by kernel_rfl) (by kernel_rfl)) ?_
  intro W base args ds gs before hval0 hW _ hsz _
  have hval : ∀ (j : Nat) t v, Try.f9.params[j]? = some t → args[j]? = some v → Value.okWide Try.prog W .any base t v := hval0
  have hW' := hW
  obtain ⟨p, q, hA0, hV, rfl, _, _⟩ := hW
  have hA : DataW.TrodAll enc Try.prog W 0 (fun _ => true) true Try.f9.params.toList args.toList ds p := hA0
  rw [Try.params9] at hA hval
  obtain ⟨rfl, rfl⟩ := trodVars_none hV
  obtain ⟨v0, v1, v2, d0, d1, d2, p0, p1, p2, rfl, rfl, rfl, h0, h1, h2⟩ := trodAll_three hA
  obtain ⟨a0, l0, c0, rfl⟩ := okWide_slice Try.underlying45 (hval 0 45 v0 rfl rfl)
  obtain ⟨f0, hf0⟩ := h0
  obtain ⟨A0, k0, x0, hv0, hc0, hr0, hw0⟩ := open_insl hf0
  have hB0 : ∀ x ∈ x0, x.s.length ≤ 140737488355328 := fun x hx => by
    have hsz' : (DataW.weightsEach Try.prog (Try.f9.params.toList ++ Rows.progPartsSpec.plain.varTypes Try.prog) ([d0, d1, d2] ++ [])).all (· ≤ reachBytes) = true := hsz
    have h1 := List.all_eq_true.1 hsz' _ (DataW.weights_mem_each (j := 0) (t := 45) (d := d0) (by rw [Try.params9]; rfl) rfl _ (hw0 x hx))
    have h2 : x.s.length ≤ reachBytes := by simpa using h1
    exact Nat.le_trans h2 (by decide)
  obtain ⟨a1, l1, c1, rfl⟩ := okWide_slice Try.underlying45 (hval 1 45 v1 rfl rfl)
  obtain ⟨f1, hf1⟩ := h1
  obtain ⟨A1, k1, x1, hv1, hc1, hr1, hw1⟩ := open_insl hf1
  have hB1 : ∀ x ∈ x1, x.s.length ≤ 140737488355328 := fun x hx => by
    have hsz' : (DataW.weightsEach Try.prog (Try.f9.params.toList ++ Rows.progPartsSpec.plain.varTypes Try.prog) ([d0, d1, d2] ++ [])).all (· ≤ reachBytes) = true := hsz
    have h1 := List.all_eq_true.1 hsz' _ (DataW.weights_mem_each (j := 1) (t := 45) (d := d1) (by rw [Try.params9]; rfl) rfl _ (hw1 x hx))
    have h2 : x.s.length ≤ reachBytes := by simpa using h1
    exact Nat.le_trans h2 (by decide)
  obtain ⟨x2, rfl, rfl, rfl, wf2⟩ := open_int Try.underlying3 (hval 2 3 v2 rfl rfl) h2
  have w2 := wf_i64 wf2
  rw [hv0, hv1] at hW' ⊢
  refine (lawProgParts_any A0 k0 x0 hc0 hB0 hr0 A1 k1 x1 hc1 hB1 hr1 x2).mono fun e W' ⟨he, hw⟩ => ?_
  subst he
  exact ⟨_, rfl, post_law (tB := 4) hW' rfl rfl (by kernel_rfl) Try.underlying4 progParts_laid (by rw [Try.params9]; decide +kernel) hw.bel⟩

theorem progParts_holds : Rows.ProgPartsSaid :=
  OpenClaim.holds_of_wide 9 Try.f9 rfl rfl rfl rfl rfl rfl rfl ⟨rfl, rfl, rfl, rfl, rfl⟩ rfl rfl rfl rfl rfl (by kernel_rfl) Try.func9 (by kernel_rfl)
    (of_decide_eq_true (by kernel_rfl)) (by unfold Func.isWrapper; rw [if_neg (of_decide_eq_false (by kernel_rfl))]; exact ⟨rfl, rfl⟩)
    (fun os started H enc _ => progParts_lifted os started H enc)
#print axioms progParts_holds
end Go.Proofs.Ytflcmhmbmippfaa
