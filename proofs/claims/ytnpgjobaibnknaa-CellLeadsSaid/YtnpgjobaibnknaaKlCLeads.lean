/- CellLeads answers true. -/
import Derived.Test.YtnpgjobaibnknaaKeQ
namespace Go.Proofs.Ytnpgjobaibnknaa
open Go.RowKit Go.Rt

theorem diffE_of {a b : List Pr} (h0 : checkS a = 0) (h1 : checkS b = 0) : diffE a b = diffP a b := by unfold diffE; rw [if_pos ⟨h0, h1⟩]
theorem apply_diff {a b : List Pr} (h0 : checkS a = 0) (h1 : checkS b = 0) : applyE a (diffE a b) = (b, 0) := by
  have hm := diff_may (good_of h0).1 (good_of h1).1
  have hl := checkS_len h1
  rw [diffE_of h0 h1]
  unfold applyE
  rw [if_pos h0, if_pos (List.all_eq_true.2 hm), diff_leads (good_of h0).2 (good_of h1).2, if_neg (by omega)]
theorem rise_changed {a b : List Pr} (h0 : checkS a = 0) (h1 : checkS b = 0) : Rise (changedE a b) := by
  unfold changedE
  rw [diffE_of h0 h1]
  exact diff_rise (good_of h0).2 (good_of h1).2
theorem has_changed {a b : List Pr} (h0 : checkS a = 0) (h1 : checkS b = 0) (k : Str) : hasK (changedE a b) k = (!((getE a k).1 == (getE b k).1) || ((getE a k).2 != (getE b k).2)) := by
  have h := diff_has (good_of h0).2 (good_of h1).2 k
  unfold hasK changedE getE
  rw [diffE_of h0 h1, if_pos h0, if_pos h1]
  by_cases e : lookP a k = lookP b k
  · rw [decide_eq_false (fun hm => h.1 hm e), e]; simp
  · rw [decide_eq_true (h.2 e)]
    cases ha : lookP a k <;> cases hb : lookP b k
    · rw [ha, hb] at e; exact absurd rfl e
    · simp
    · simp
    · rw [ha, hb] at e
      simp
      intro e2
      exact e (by rw [e2])
theorem changed_nil {a b : List Pr} (h0 : checkS a = 0) (h1 : checkS b = 0) : ((changedE a b).length == 0) = decide (a = b) := by
  have h := diff_nil (good_of h0).2 (good_of h1).2
  rw [changed_len, diffE_of h0 h1, Bool.eq_iff_iff, decide_eq_true_iff, beq_iff_eq, ← h, List.length_eq_zero_iff]
theorem diff_keys {a b : List Pr} (h0 : checkS a = 0) (h1 : checkS b = 0) : ∀ x ∈ diffE a b, x.k.length ≤ maxLen := fun x hx => by
  rw [diffE_of h0 h1] at hx
  have := diff_may (good_of h0).1 (good_of h1).1 x hx
  unfold mayW keyB at this
  simp at this
  unfold maxLen
  omega

set_option maxRecDepth 100000 in
set_option maxHeartbeats 16000000 in
theorem lawCellLeads_any {W : World} (A : Option Addr) (c : Nat) (a : List Pr) (hA : Bsl A a.length c) (hra : Rd W A (prC a)) (A' : Option Addr) (c' : Nat) (b : List Pr) (hA' : Bsl A' b.length c') (hrb : Rd W A' (prC b)) (k : Str) :
    Calls Try.prog 14 #[.slice A a.length c, .slice A' b.length c', .string ⟨k.toArray⟩] W fun e w' => e = .returned (.bool true) ∧ Sat W w' [] := by
  have HLA := Lib.hid (Nat.le_trans hA.le hA.max)
  have HLB := Lib.hid (Nat.le_trans hA'.le hA'.max)
  have hac := hA.le
  have hbc := hA'.le
  clear hA hA'
  have RA : ∀ L, RdL W L A (prC a) := fun L w h => hra.old h
  have RB : ∀ L, RdL W L A' (prC b) := fun L w h => hrb.old h
  go_enter Try.func14, Try.ntmps14
  go_wp2_with fail
  refine (cawake_any (Sat.start W)).mono ?_
  rintro e w0 ⟨rfl, H0⟩
  have HLK := Lib.hid (LongPairs_any A c a 100 (by omega) HLA.out (RA _ _ H0))
  have HLK2 := Lib.hid (LongPairs_any A' c' b 100 (by omega) HLB.out (RB _ _ H0))
  cases hb : longPr a 100 with
  | true =>
    rw [hb] at HLK
    go_wp2_with fail
    refine (HLK.out).mono ?_
    rintro e _ ⟨rfl, rfl⟩
    go_wp2
    go_ret
    exact ⟨rfl, H0⟩
  | false =>
  rw [hb] at HLK
  have hna := (longPr_no hb).1
  clear hb
  cases hb : longPr b 100 with
  | true =>
    rw [hb] at HLK2
    go_wp2_with fail
    refine (HLK.out).mono ?_
    rintro e _ ⟨rfl, rfl⟩
    go_wp2_with fail
    refine (HLK2.out).mono ?_
    rintro e _ ⟨rfl, rfl⟩
    go_wp2
    go_ret
    exact ⟨rfl, H0⟩
  | false =>
  rw [hb] at HLK2
  have hnb := (longPr_no hb).1
  clear hb
  by_cases hk : 100 < k.length
  · have hk2 : (100 : Int) < (k.length : Int) := by omega
    go_wp2_with fail
    refine (HLK.out).mono ?_
    rintro e _ ⟨rfl, rfl⟩
    go_wp2_with fail
    refine (HLK2.out).mono ?_
    rintro e _ ⟨rfl, rfl⟩
    go_wp2
    go_ret
    exact ⟨rfl, H0⟩
  have hk2 : decide ((100 : Int) < (k.length : Int)) = false := decide_eq_false (by omega)
  have hc1 := fun w0 L (h : Sat W w0 L) => cChk_any A c a HLA.out (RA L) h
  have hc2 := fun w0 L (h : Sat W w0 L) => cChk_any A' c' b HLB.out (RB L) h
  by_cases h0 : checkS a ≠ 0
  · have e1 : (checkS a != 0) = true := by simpa using h0
    generalize checkS a = C at *
    have HC1 := Lib.hid (hc1)
    clear hc1 hc2 h0
    go_wp2_with fail
    refine (HLK.out).mono ?_
    rintro e _ ⟨rfl, rfl⟩
    go_wp2_with fail
    refine (HLK2.out).mono ?_
    rintro e _ ⟨rfl, rfl⟩
    go_wp2_with fail
    refine (HC1.out _ _ H0).mono ?_
    rintro e w1 ⟨rfl, H1⟩
    go_wp2
    go_ret
    exact ⟨rfl, H1⟩
  replace h0 : checkS a = 0 := Decidable.not_not.1 h0
  rw [h0] at hc1
  by_cases h1 : checkS b ≠ 0
  · have e1 : (checkS b != 0) = true := by simpa using h1
    generalize checkS b = C at *
    have HC1 := Lib.hid (hc1)
    have HC2 := Lib.hid (hc2)
    clear hc1 hc2 h0 h1
    go_wp2_with fail
    refine (HLK.out).mono ?_
    rintro e _ ⟨rfl, rfl⟩
    go_wp2_with fail
    refine (HLK2.out).mono ?_
    rintro e _ ⟨rfl, rfl⟩
    go_wp2_with fail
    refine (HC1.out _ _ H0).mono ?_
    rintro e w1 ⟨rfl, H1⟩
    go_wp2_with fail
    refine (HC2.out _ _ H1).mono ?_
    rintro e w2 ⟨rfl, H2⟩
    go_wp2
    go_ret
    exact ⟨rfl, H2⟩
  replace h1 : checkS b = 0 := Decidable.not_not.1 h1
  rw [h1] at hc2
  have HC1 := Lib.hid (hc1)
  have HC2 := Lib.hid (hc2)
  have hce : changedE a b = (diffE a b).map Wt.k := rfl
  have hdl := diffE_len a b
  have hcl : (changedE a b).length = (diffE a b).length := changed_len a b
  have hd1 := fun w0 L (h : Sat W w0 L) => cDiff_any A A' c c' a b HLA.out HLB.out hac hbc (RA L) (RB L) h
  have hd2 := fun w0 L (h : Sat W w0 L) => cChanged_any A A' c c' a b HLA.out HLB.out hac hbc (RA L) (RB L) h
  have hap := fun w0 L (A2 : Option Addr) c2 (r : RdL W L A2 (wtC (diffE a b))) (h : Sat W w0 L) => cApply_any A A2 c c2 a (diffE a b) HLA.out (by omega) (diff_keys h0 h1) (RA L) r h
  rw [apply_diff h0 h1] at hap
  have hck := fun w0 (A2 : Option Addr) c2 (r : Rd w0 A2 (tsC (changedE a b))) => eCheck_any A2 c2 (changedE a b) (by unfold maxLen; omega) r
  rw [(rise_changed h0 h1).check] at hck
  have hhk := fun w0 (A2 : Option Addr) c2 (r : Rd w0 A2 (tsC (changedE a b))) => eHas_any A2 c2 (changedE a b) k (by unfold maxLen; omega) r
  rw [has_changed h0 h1] at hhk
  have hnil := changed_nil h0 h1
  have hg1 := fun w0 L (h : Sat W w0 L) => cGet_any A c a k HLA.out (RA L) h
  have hg2 := fun w0 L (h : Sat W w0 L) => cGet_any A' c' b k HLB.out (RB L) h
  have hs1 := fun w0 (A2 : Option Addr) c2 L (r : Rd w0 A2 (prC b)) (h : Sat W w0 L) => SamePairs_any A2 A' c2 c' b b HLB.out r (RB L _ h)
  rw [decide_eq_true (show b = b from rfl)] at hs1
  have hs2 := fun w0 L (h : Sat W w0 L) => SamePairs_any A A' c c' a b HLA.out (RA L _ h) (RB L _ h)
  have HCE := Lib.hid (hce)
  generalize changedE a b = ch at *
  generalize diffE a b = ds at *
  generalize getE a k = ga at *
  generalize getE b k = gb at *
  generalize hab : decide (a = b) = dab at *
  simp only [hcl] at hd2 hck hhk
  have HD1 := Lib.hid (hd1)
  have HD2 := Lib.hid (hd2)
  have HAP := Lib.hid (hap)
  have HCK := Lib.hid (hck)
  have HHK := Lib.hid (hhk)
  have HG1 := Lib.hid (hg1)
  have HG2 := Lib.hid (hg2)
  have HS1 := Lib.hid (hs1)
  have HS2 := Lib.hid (hs2)
  have HNIL := Lib.hid (hnil)
  have HCL := Lib.hid (hcl)
  have g3 : ((ds.length : Int) == 0) = dab := by rw [← hnil, hcl, Bool.eq_iff_iff]; simp
  have g4 : (dab == dab) = true := by simp
  have hds : ds.length ≤ 200 := by omega
  clear hc1 hc2 hce hdl hcl hd1 hd2 hap hck hhk hnil hg1 hg2 hs1 hs2 hab h0 h1 hk hna hnb
  go_wp2_with fail
  refine (HLK.out).mono ?_
  rintro e _ ⟨rfl, rfl⟩
  go_wp2_with fail
  refine (HLK2.out).mono ?_
  rintro e _ ⟨rfl, rfl⟩
  go_wp2_with fail
  refine (HC1.out _ _ H0).mono ?_
  rintro e w1 ⟨rfl, H1⟩
  go_wp2_with fail
  refine (HC2.out _ _ H1).mono ?_
  rintro e w2 ⟨rfl, H2⟩
  clear HLK HLK2 HC1 HC2 H0 H1
  go_wp2_with fail
  refine (HD1.out _ _ H2).mono ?_
  rintro e w3 ⟨A3, c3, rfl, H3⟩
  go_wp2_with fail
  refine (HD2.out _ _ H3).mono ?_
  rintro e w4 ⟨A4, c4, rfl, H4⟩
  clear HD1 HD2 H2 H3
  go_wp2_with fail
  refine (HAP.out _ _ A3 c3 (RdL.tail RdL.row) H4).mono ?_
  rintro e w5 ⟨A5, c5, rfl, H5⟩
  clear HAP H4
  go_wp2_with fail
  refine (HS1.out _ A5 c5 _ H5.rd H5).mono ?_
  rintro e w6 ⟨rfl, hB6⟩
  have H6 := (H5.below hB6).tail
  clear HS1 H5
  go_wp2_with fail
  refine (HCK.out _ A4 c4 H6.new_rd).mono ?_
  rintro e w7 ⟨rfl, hB7⟩
  have H7 := H6.below hB7
  clear HCK H6
  go_wp2
  go_loopw [12] (fun i wc => ∃ j : Nat, j ≤ ds.length ∧ i = .int .i64 j ∧ Sat W wc [seenS 9 (.slice A4 ds.length c4) ds.length (tsC ch), row 51 zWt (.slice A3 ds.length c3) ds.length (wtC ds)]) (fun i _ => ds.length - (intOf i).toNat)
  case atStart => exact ⟨0, by omega, rfl, H7⟩
  case round =>
    clear H7
    obtain ⟨j, hj, rfl, H⟩ := hrel
    by_cases hlt : j < ds.length
    · have hlt2 : decide (j < ds.length) = true := decide_eq_true hlt
      obtain ⟨x, hx⟩ : ∃ x, ds[j]? = some x := ⟨_, List.getElem?_eq_getElem (by omega)⟩
      have hy : ch[j]? = some x.k := by rw [HCE.out, List.getElem?_map, hx]; rfl
      have hltc : j < ch.length := by rw [HCL.out]; exact hlt
      obtain ⟨g', o', rfl, y0⟩ := ts_at H.new_rd j x.k hy
      obtain ⟨g, o, rfl, x0, _⟩ := wt_cells H.tail.rd j x hx
      obtain ⟨xk, xv, xd⟩ := x
      dsimp only at x0 y0
      have e5 : (xk == xk) = true := by simp
      clear hx hy
      go_wp2
      go_quiet (fail)
      go_wp2
      exact ⟨⟨j + 1, by omega, by go_num, H.drewN _⟩, by simp [intOf]; omega⟩
    · obtain rfl : j = ds.length := by omega
      obtain ⟨gs1, p⟩ := ga
      obtain ⟨gs2, q⟩ := gb
      dsimp only at HG1 HG2 HHK
      cases hv : (gs1 == gs2) with
      | true =>
        rw [hv] at HHK
        cases p with
        | true =>
          cases q with
          | true =>
            go_wp2_with fail
            refine (HG1.out _ _ H).mono ?_
            rintro e w8 ⟨rfl, H8⟩
            go_wp2_with fail
            refine (HG2.out _ _ H8).mono ?_
            rintro e w9 ⟨rfl, H9⟩
            go_wp2_with fail
            refine (HHK.out _ A4 c4 H9.new_rd).mono ?_
            rintro e _ ⟨rfl, rfl⟩
            go_wp2_with fail
            refine (HS2.out _ _ H9).mono ?_
            rintro e w10 ⟨rfl, hB10⟩
            have H10 := H9.below hB10
            go_wp2
            go_ret
            exact ⟨rfl, H10.tail.tail⟩
          | false =>
            go_wp2_with fail
            refine (HG1.out _ _ H).mono ?_
            rintro e w8 ⟨rfl, H8⟩
            go_wp2_with fail
            refine (HG2.out _ _ H8).mono ?_
            rintro e w9 ⟨rfl, H9⟩
            go_wp2_with fail
            refine (HHK.out _ A4 c4 H9.new_rd).mono ?_
            rintro e _ ⟨rfl, rfl⟩
            go_wp2_with fail
            refine (HS2.out _ _ H9).mono ?_
            rintro e w10 ⟨rfl, hB10⟩
            have H10 := H9.below hB10
            go_wp2
            go_ret
            exact ⟨rfl, H10.tail.tail⟩
        | false =>
          cases q with
          | true =>
            go_wp2_with fail
            refine (HG1.out _ _ H).mono ?_
            rintro e w8 ⟨rfl, H8⟩
            go_wp2_with fail
            refine (HG2.out _ _ H8).mono ?_
            rintro e w9 ⟨rfl, H9⟩
            go_wp2_with fail
            refine (HHK.out _ A4 c4 H9.new_rd).mono ?_
            rintro e _ ⟨rfl, rfl⟩
            go_wp2_with fail
            refine (HS2.out _ _ H9).mono ?_
            rintro e w10 ⟨rfl, hB10⟩
            have H10 := H9.below hB10
            go_wp2
            go_ret
            exact ⟨rfl, H10.tail.tail⟩
          | false =>
            go_wp2_with fail
            refine (HG1.out _ _ H).mono ?_
            rintro e w8 ⟨rfl, H8⟩
            go_wp2_with fail
            refine (HG2.out _ _ H8).mono ?_
            rintro e w9 ⟨rfl, H9⟩
            go_wp2_with fail
            refine (HHK.out _ A4 c4 H9.new_rd).mono ?_
            rintro e _ ⟨rfl, rfl⟩
            go_wp2_with fail
            refine (HS2.out _ _ H9).mono ?_
            rintro e w10 ⟨rfl, hB10⟩
            have H10 := H9.below hB10
            go_wp2
            go_ret
            exact ⟨rfl, H10.tail.tail⟩
      | false =>
        rw [hv] at HHK
        go_wp2_with fail
        refine (HG1.out _ _ H).mono ?_
        rintro e w8 ⟨rfl, H8⟩
        go_wp2_with fail
        refine (HG2.out _ _ H8).mono ?_
        rintro e w9 ⟨rfl, H9⟩
        go_wp2_with fail
        refine (HHK.out _ A4 c4 H9.new_rd).mono ?_
        rintro e _ ⟨rfl, rfl⟩
        go_wp2_with fail
        refine (HS2.out _ _ H9).mono ?_
        rintro e w10 ⟨rfl, hB10⟩
        have H10 := H9.below hB10
        go_wp2
        go_ret
        exact ⟨rfl, H10.tail.tail⟩
end Go.Proofs.Ytnpgjobaibnknaa
