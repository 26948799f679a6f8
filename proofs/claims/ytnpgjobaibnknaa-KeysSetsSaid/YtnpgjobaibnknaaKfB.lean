/- The document's set of keys. -/
import Derived.Test.YtnpgjobaibnknaaKfA
import Derived.Deep.RegionHeld3
namespace Go.Proofs.Ytnpgjobaibnknaa
open Go.RowKit Go.Rt

theorem insS_skip {x : Str} : ∀ {os : List Str} {k : Nat}, (∀ m y, m < k → os[m]? = some y → y < x) → k ≤ os.length → insS x os = os.take k ++ insS x (os.drop k)
  | os, 0, _, _ => by simp
  | [], k + 1, _, hk => by simp at hk
  | y :: os, k + 1, h, hk => by
    have h0 := h 0 y (by omega) rfl
    have ih := insS_skip (os := os) (k := k) (fun m z hm hz => h (m + 1) z (by omega) (by simpa using hz)) (by simpa using hk)
    show (if y < x then y :: insS x os else if y = x then y :: os else x :: y :: os) = _
    rw [if_pos h0, ih]
    simp
theorem insS_end {x : Str} {os : List Str} (h : ∀ m y, m < os.length → os[m]? = some y → y < x) : insS x os = os.take os.length ++ [x] ++ os.drop os.length := by
  rw [insS_skip h (Nat.le_refl _)]
  simp [insS]
theorem insS_in {x y : Str} {os : List Str} {k : Nat} (h : ∀ m z, m < k → os[m]? = some z → z < x) (hy : os[k]? = some y) (h1 : ¬ y < x) (h2 : y ≠ x) : insS x os = os.take k ++ [x] ++ os.drop k := by
  have hk := (List.getElem?_eq_some_iff.1 hy).1
  rw [insS_skip h (by omega), List.append_assoc]
  congr 1
  have e : os.drop k = y :: os.drop (k + 1) := by rw [List.drop_eq_getElem_cons hk]; congr 1; rw [List.getElem?_eq_getElem hk] at hy; exact Option.some.inj hy
  rw [e]
  simp [insS, h1, h2]
theorem insS_eq {x y : Str} {os : List Str} {k : Nat} (h : ∀ m z, m < k → os[m]? = some z → z < x) (hy : os[k]? = some y) (h2 : y = x) : insS x os = os := by
  subst h2
  have hk := (List.getElem?_eq_some_iff.1 hy).1
  have h1 : ¬ y < y := str_irrefl y
  rw [insS_skip h (by omega)]
  have e : os.drop k = y :: os.drop (k + 1) := by rw [List.drop_eq_getElem_cons hk]; congr 1; rw [List.getElem?_eq_getElem hk] at hy; exact Option.some.inj hy
  conv => rhs; rw [← List.take_append_drop k os]
  congr 1
  rw [e]
  simp [insS, h1]
theorem sortS_snoc (l : List Str) (x : Str) : sortS (l ++ [x]) = insS x (sortS l) := by
  unfold sortS
  rw [List.foldl_append]
  rfl
theorem tsC_drop (l : List Str) (i : Nat) : (tsC l).drop i = tsC (l.drop i) := by
  unfold tsC
  rw [List.map_drop]

set_option maxRecDepth 100000 in
set_option maxHeartbeats 8000000 in
theorem hSort_any {W w : World} {L : List SL} (A : Option Addr) (c : Nat) (l : List Str) (hl : l.length ≤ 1000000) (hr : RdL W L A (tsC l)) (H : Sat W w L) :
    Calls Try.prog 26 #[.slice A l.length c] w fun e w' => ∃ A2 c2, e = .returned (.slice A2 (sortS l).length c2) ∧ Sat W w' (seenS 9 (.slice A2 (sortS l).length c2) (sortS l).length (tsC (sortS l)) :: L) := by
  obtain ⟨i0, hi, hz0, hz1, hz2⟩ := info_parts infoStr
  have hlen : ∀ j, (sortS (l.take j)).length ≤ 1000000 := fun j => by have := sortS_len (l.take j); rw [List.length_take] at this; omega
  have hstep : ∀ j x, l[j]? = some x → sortS (l.take (j + 1)) = insS x (sortS (l.take j)) := fun j x h => by
    rw [List.take_add_one, h]; exact sortS_snoc _ _
  have HLEN := Lib.hid hlen
  have HSTEP := Lib.hid hstep
  clear hlen hstep
  go_enter Try.func26, Try.ntmps26
  go_wp2
  go_loopw [3, 4] (fun ou i wc => ∃ (j : Nat) (Ao : Option Addr) (co : Nat), j ≤ l.length ∧ i = .int .i64 j ∧ ou = .slice Ao (sortS (l.take j)).length co ∧ Sat W wc (seenS 9 (.slice Ao (sortS (l.take j)).length co) (sortS (l.take j)).length (tsC (sortS (l.take j))) :: L)) (fun _ i _ => l.length - (intOf i).toNat)
  case atStart => exact ⟨0, none, 0, by omega, rfl, rfl, H.new_nil _ _⟩
  case round =>
    obtain ⟨j, Ao, co, hj, rfl, rfl, H1⟩ := hrel
    by_cases hlt : j < l.length
    · obtain ⟨x, hx⟩ : ∃ x, l[j]? = some x := ⟨_, List.getElem?_eq_getElem hlt⟩
      have hst := HSTEP.out j x hx
      have HST := Lib.hid hst
      have hle := HLEN.out j
      have hle1 := HLEN.out (j + 1)
      rw [hst] at hle1
      clear hst HSTEP HLEN
      generalize sortS (l.take j) = os at *
      have hrx := hr.tail (B := seenS 9 (.slice Ao os.length co) os.length (tsC os))
      obtain ⟨b, o, rfl, hcx⟩ := ts_at (hrx _ H1) j x hx
      have hcx2 : ∀ w', Sat W w' (seenS 9 (.slice Ao os.length co) os.length (tsC os) :: L) → w'.cell? ⟨b, o + j, none⟩ = some (.string ⟨x.toArray⟩) := fun w' h => by
        obtain ⟨b', o', e, h2⟩ := ts_at (hrx _ h) j x hx
        cases e
        exact h2
      have HCX := Lib.hid hcx2
      clear hx hcx hcx2 H
      have hpl : ∀ k, (os.take k ++ [x] ++ os.drop k).length = os.length + 1 := fun k => by
        have := congrArg List.length (List.take_append_drop k os)
        simp only [List.length_append] at this
        simp; omega
      have HPL := Lib.hid hpl
      clear hpl
      go_wp2
      go_loopw [5] (fun i wc => ∃ k : Nat, k ≤ os.length ∧ i = .int .i64 k ∧ Hid (∀ m z, m < k → os[m]? = some z → z < x) ∧ Sat W wc (seenS 9 (.slice Ao os.length co) os.length (tsC os) :: L)) (fun i _ => os.length - (intOf i).toNat)
      case atStart => exact ⟨0, by omega, rfl, (fun m z h => by omega), H1⟩
      case round =>
        rename_i wr2 _
        obtain ⟨k, hk, rfl, hN, H2⟩ := hrel
        clear H1
        have hcx := HCX.out _ H2
        by_cases hkl : k < os.length
        · obtain ⟨y, hy⟩ : ∃ y, os[k]? = some y := ⟨_, List.getElem?_eq_getElem hkl⟩
          obtain ⟨b', o', rfl, hcy⟩ := ts_at H2.new_rd k y hy
          by_cases hq : y < x
          · have h1 := less_yes hq
            have HQ := Lib.hid hq
            have HY := Lib.hid hy
            clear hq hy
            go_wp2
            go_quiet (fail)
            go_wp2
            refine ⟨⟨k + 1, by omega, by go_num, fun m z hm hz => ?_, H2.drewN _⟩, by simp [intOf]; omega⟩
            rcases Nat.lt_or_ge m k with h | h
            · exact hN.out m z h hz
            · obtain rfl : m = k := by omega
              rw [HY.out] at hz; cases hz; exact HQ.out
          · have h1 := less_no hq
            have hne : ((k : Int) == (os.length : Int)) = false := beq_eq_false_iff_ne.2 (by omega)
            by_cases he : y = x
            · have hE := beq_yes he
              have hins := insS_eq hN.out hy he
              have HIN := Lib.hid hins
              clear hins hq hy he
              go_wp2
              go_quiet (fail)
              go_wp2
              go_quiet (fail)
              go_wp2
              refine ⟨⟨j + 1, _, co, by omega, by go_num, by rw [HST.out, HIN.out], ?_⟩, by simp [intOf]; omega⟩
              rw [HST.out, HIN.out]
              exact H2.drewN _
            · have hE := beq_no he
              have hins := insS_in hN.out hy hq he
              have HIN := Lib.hid hins
              clear hins hq hy he
              go_wp2
              go_quiet (fail)
              go_wp2
              go_quiet (fail)
              go_wp2
              clear hcy
              generalize hz0' : wr.drewN _ = wz0
              generalize hz : wz0.drewN _ = wz
              have H3 : Sat W wz (seenS 9 (.slice (some ⟨b',o',none⟩) os.length co) os.length (tsC os) :: L) := by rw [← hz, ← hz0']; exact (H2.drewN _).drewN _
              have hkc : k ≤ co := by obtain ⟨_, _, _, e, h, _⟩ := H3.new_slice; cases e; omega
              have hlc : os.length ≤ co := by obtain ⟨_, _, _, e, h, _⟩ := H3.new_slice; cases e; exact h
              clear hz hz0' H2 hcx
              have HM := H3.drew.new_made 9 zS
              have HXX := H3.drew.alloc #[.string ⟨x.toArray⟩] 9
              have HN := (HM.alloc #[.string ⟨x.toArray⟩] 9).swap
              have HO := HXX.new_made 9 zS
              have c0 := HCX.out _ H3.drew
              have c1 := HCX.out _ HM.tail
              have c2 := HCX.out _ HXX.tail
              have c3 := HCX.out _ HN.tail.tail
              have c4 := HCX.out _ HO.tail.tail
              have HRT : RdL W (seenS 9 (.slice (some ⟨b',o',none⟩) os.length co) os.length (tsC os) :: L) (some ⟨b',o',none⟩) (tsC (os.take k)) := fun w' h => by rw [← tsC_take]; exact h.new_rd.take _
              have HRD0 : RdL W (seenS 9 (.slice (some ⟨b',o',none⟩) os.length co) os.length (tsC os) :: L) (subZ 1 (some ⟨b',o',none⟩) co k) (tsC (os.drop k)) := fun w' h => by
                have h := subZ_rd (sz := 1) h.new_rd (n := os.length) (by rw [tsC_len]; omega) hlc k (os.length - k) (by omega)
                rw [Nat.mul_one, Nat.mul_one, tsC_drop, List.take_of_length_le (by rw [tsC_len, List.length_drop]; omega)] at h
                exact h
              have hlt1 : (tsC (os.take k)).length = k * zS.length := by rw [tsC_len, List.length_take]; simp <;> omega
              have hlt2 : (tsC (os.drop k)).length = (os.length - k) * zS.length := by rw [tsC_len, List.length_drop]; simp
              go_region_held3 (fun w' => w'.cell? ⟨b, o + j, none⟩ = some (.string ⟨x.toArray⟩)) (assumption) (first
                | (refine step_append_new rfl (.tmp 44) (.tmp 47) 22 rfl 9 i0 _ zS 16 Try.underlying22 hi hz0 rfl hz1 hz2 (by simp) _ (0) [] (by simp [Act.eval]) HM (some ⟨b',o',none⟩) (k) (co) (tsC (os.take k)) (by simp [Act.eval]) hlt1 (HRT _ HM.tail) (tsC_one _) (by unfold maxLen; omega) (by omega) ?_
                   intro A4 c4' w4 H4
                   have H4b := (H4.alloc #[.string ⟨x.toArray⟩] 9).swap
                   have c5 := HCX.out _ H4.tail
                   have c6 := HCX.out _ H4b.tail.tail
                   have HRX : Rd _ _ [.string ⟨x.toArray⟩] := RdL.pt _ H4b.swap)
                | (refine step_append_new rfl (.tmp 44) (.tmp 47) 22 rfl 9 i0 _ zS 16 Try.underlying22 hi hz0 rfl hz1 hz2 (by simp) _ (0) [] (by simp [Act.eval]) HN (some ⟨b',o',none⟩) (k) (co) (tsC (os.take k)) (by simp [Act.eval]) hlt1 (HRT _ HN.tail.tail) (tsC_one _) (by unfold maxLen; omega) (by omega) ?_
                   intro A4 c4' w4 H4b
                   have c6 := HCX.out _ H4b.tail.tail
                   have HRX : Rd _ _ [.string ⟨x.toArray⟩] := RdL.pt _ H4b.swap)
                | (refine step_append_new rfl (.tmp 44) (.tmp 47) 22 rfl 9 i0 _ zS 16 Try.underlying22 hi hz0 rfl hz1 hz2 (by simp) _ (0) [] (by simp [Act.eval]) HO (some ⟨b',o',none⟩) (k) (co) (tsC (os.take k)) (by simp [Act.eval]) hlt1 (HRT _ HO.tail.tail) (tsC_one _) (by unfold maxLen; omega) (by omega) ?_
                   intro A4 c4' w4 H4b
                   have c6 := HCX.out _ H4b.tail.tail
                   have HRX : Rd _ _ [.string ⟨x.toArray⟩] := RdL.pt _ H4b.swap)
                | (refine step_append_new rfl (.tmp 48) (.tmp 53) 22 rfl 9 i0 _ zS 16 Try.underlying22 hi hz0 rfl hz1 hz2 (by simp) _ (0 + k) _ (by simp [Act.eval]) H4b _ (1) (1) ([.string ⟨x.toArray⟩]) (by simp [Act.eval]) rfl HRX (by simp [Value.oneCell']) (by unfold maxLen; omega) (by omega) ?_
                   intro A5 c5' w5 H5
                   have c7 := HCX.out _ H5.tail.tail
                   have HRD := HRD0 _ H5.tail.tail)
                | (refine step_append_new rfl (.tmp 54) (.tmp 57) 22 rfl 9 i0 _ zS 16 Try.underlying22 hi hz0 rfl hz1 hz2 (by simp) _ (0 + k + 1) _ (by simp [Act.eval]) H5 (subZ 1 (some ⟨b',o',none⟩) co k) (os.length - k) (co - k) (tsC (os.drop k)) (by simp [Act.eval, subZ, Addr.add_lit]) hlt2 HRD (tsC_one _) (by unfold maxLen; omega) (by omega) ?_
                   intro A6 c6' w6 H6
                   have c8 := HCX.out _ H6.tail.tail))
              all_goals
                have H7 := H6.swap.tail.swap.tail
                have e7 : 0 + k + 1 + (os.length - k) = os.length + 1 := by omega
                have e8 : ([] : List Value) ++ tsC (os.take k) ++ [.string ⟨x.toArray⟩] ++ tsC (os.drop k) = tsC (os.take k ++ [x] ++ os.drop k) := by
                  rw [tsC_append, tsC_append]; rfl
                rw [e8, e7] at H7
                go_wp2
                refine ⟨⟨j + 1, A6, c6', by omega, by go_num, ?_, ?_⟩, by simp [intOf]; omega⟩
                · rw [HST.out, HIN.out, HPL.out] <;> first | rfl | (congr 1 <;> omega)
                · rw [HST.out, HIN.out, HPL.out]
                  exact H7
        · obtain rfl : k = os.length := by omega
          have hins := insS_end hN.out
          have HIN := Lib.hid hins
          clear hins
          go_wp2
          go_quiet (fail)
          go_wp2
          go_quiet (fail)
          go_wp2
          generalize hz0' : wr.drewN _ = wz0
          generalize hz : wz0.drewN _ = wz
          have H3 : Sat W wz (seenS 9 (.slice Ao os.length co) os.length (tsC os) :: L) := by rw [← hz, ← hz0']; exact (H2.drewN _).drewN _
          have hkc : os.length ≤ co := by obtain ⟨_, _, _, e, h, _⟩ := H3.new_slice; cases e; omega
          have hlc : os.length ≤ co := by obtain ⟨_, _, _, e, h, _⟩ := H3.new_slice; cases e; exact h
          clear hz hz0' H2 hcx
          have HM := H3.drew.new_made 9 zS
          have HXX := H3.drew.alloc #[.string ⟨x.toArray⟩] 9
          have HN := (HM.alloc #[.string ⟨x.toArray⟩] 9).swap
          have HO := HXX.new_made 9 zS
          have c0 := HCX.out _ H3.drew
          have c1 := HCX.out _ HM.tail
          have c2 := HCX.out _ HXX.tail
          have c3 := HCX.out _ HN.tail.tail
          have c4 := HCX.out _ HO.tail.tail
          have HRT : RdL W (seenS 9 (.slice Ao os.length co) os.length (tsC os) :: L) Ao (tsC (os.take os.length)) := fun w' h => by rw [← tsC_take]; exact h.new_rd.take _
          have HRD0 : RdL W (seenS 9 (.slice Ao os.length co) os.length (tsC os) :: L) (subZ 1 Ao co os.length) (tsC (os.drop os.length)) := fun w' h => by
            have h := subZ_rd (sz := 1) h.new_rd (n := os.length) (by rw [tsC_len]; omega) hlc os.length (os.length - os.length) (by omega)
            rw [Nat.mul_one, Nat.mul_one, tsC_drop, List.take_of_length_le (by rw [tsC_len, List.length_drop]; omega)] at h
            exact h
          have hlt1 : (tsC (os.take os.length)).length = os.length * zS.length := by rw [tsC_len, List.length_take]; simp <;> omega
          have hlt2 : (tsC (os.drop os.length)).length = (os.length - os.length) * zS.length := by rw [tsC_len, List.length_drop]; simp
          go_region_held3 (fun w' => w'.cell? ⟨b, o + j, none⟩ = some (.string ⟨x.toArray⟩)) (assumption) (first
            | (refine step_append_new rfl (.tmp 44) (.tmp 47) 22 rfl 9 i0 _ zS 16 Try.underlying22 hi hz0 rfl hz1 hz2 (by simp) _ (0) [] (by simp [Act.eval]) HM Ao (os.length) (co) (tsC (os.take os.length)) (by simp [Act.eval]) hlt1 (HRT _ HM.tail) (tsC_one _) (by unfold maxLen; omega) (by omega) ?_
               intro A4 c4' w4 H4
               have H4b := (H4.alloc #[.string ⟨x.toArray⟩] 9).swap
               have c5 := HCX.out _ H4.tail
               have c6 := HCX.out _ H4b.tail.tail
               have HRX : Rd _ _ [.string ⟨x.toArray⟩] := RdL.pt _ H4b.swap)
            | (refine step_append_new rfl (.tmp 44) (.tmp 47) 22 rfl 9 i0 _ zS 16 Try.underlying22 hi hz0 rfl hz1 hz2 (by simp) _ (0) [] (by simp [Act.eval]) HN Ao (os.length) (co) (tsC (os.take os.length)) (by simp [Act.eval]) hlt1 (HRT _ HN.tail.tail) (tsC_one _) (by unfold maxLen; omega) (by omega) ?_
               intro A4 c4' w4 H4b
               have c6 := HCX.out _ H4b.tail.tail
               have HRX : Rd _ _ [.string ⟨x.toArray⟩] := RdL.pt _ H4b.swap)
            | (refine step_append_new rfl (.tmp 44) (.tmp 47) 22 rfl 9 i0 _ zS 16 Try.underlying22 hi hz0 rfl hz1 hz2 (by simp) _ (0) [] (by simp [Act.eval]) HO Ao (os.length) (co) (tsC (os.take os.length)) (by simp [Act.eval]) hlt1 (HRT _ HO.tail.tail) (tsC_one _) (by unfold maxLen; omega) (by omega) ?_
               intro A4 c4' w4 H4b
               have c6 := HCX.out _ H4b.tail.tail
               have HRX : Rd _ _ [.string ⟨x.toArray⟩] := RdL.pt _ H4b.swap)
            | (refine step_append_new rfl (.tmp 48) (.tmp 53) 22 rfl 9 i0 _ zS 16 Try.underlying22 hi hz0 rfl hz1 hz2 (by simp) _ (0 + os.length) _ (by simp [Act.eval]) H4b _ (1) (1) ([.string ⟨x.toArray⟩]) (by simp [Act.eval]) rfl HRX (by simp [Value.oneCell']) (by unfold maxLen; omega) (by omega) ?_
               intro A5 c5' w5 H5
               have c7 := HCX.out _ H5.tail.tail
               have HRD := HRD0 _ H5.tail.tail)
            | (refine step_append_new rfl (.tmp 54) (.tmp 57) 22 rfl 9 i0 _ zS 16 Try.underlying22 hi hz0 rfl hz1 hz2 (by simp) _ (0 + os.length + 1) _ (by simp [Act.eval]) H5 (subZ 1 Ao co os.length) (os.length - os.length) (co - os.length) (tsC (os.drop os.length)) (by simp [Act.eval, subZ]) hlt2 HRD (tsC_one _) (by unfold maxLen; omega) (by omega) ?_
               intro A6 c6' w6 H6
               have c8 := HCX.out _ H6.tail.tail))
          all_goals
            have H7 := H6.swap.tail.swap.tail
            have e7 : 0 + os.length + 1 + (os.length - os.length) = os.length + 1 := by omega
            have e8 : ([] : List Value) ++ tsC (os.take os.length) ++ [.string ⟨x.toArray⟩] ++ tsC (os.drop os.length) = tsC (os.take os.length ++ [x] ++ os.drop os.length) := by
              rw [tsC_append, tsC_append]; rfl
            rw [e8, e7] at H7
            go_wp2
            refine ⟨⟨j + 1, A6, c6', by omega, by go_num, ?_, ?_⟩, by simp [intOf]; omega⟩
            · rw [HST.out, HIN.out, HPL.out] <;> first | rfl | (congr 1 <;> omega)
            · rw [HST.out, HIN.out, HPL.out]
              exact H7
    · obtain rfl : j = l.length := by omega
      rw [List.take_length] at H1
      go_wp2
      go_ret
      rw [List.take_length]
      exact ⟨_, co, rfl, H1⟩
end Go.Proofs.Ytnpgjobaibnknaa
