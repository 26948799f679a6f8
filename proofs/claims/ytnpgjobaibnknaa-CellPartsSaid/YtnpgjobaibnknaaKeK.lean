/- A state behind a write, as the document tells it. -/
import Derived.Test.YtnpgjobaibnknaaKeJ
namespace Go.Proofs.Ytnpgjobaibnknaa
open Go.RowKit Go.Rt Go.Maps

theorem prC_take (l : List Pr) (n : Nat) : prC (l.take n) = (prC l).take (n * 2) := by
  rcases Nat.lt_or_ge l.length n with h | h
  · rw [List.take_of_length_le (by omega), List.take_of_length_le (by rw [prC_len]; omega)]
  · have h1 : prC l = prC (l.take n) ++ prC (l.drop n) := by rw [← prC_append, List.take_append_drop]
    rw [h1, List.take_left' (by rw [prC_len, List.length_take]; congr 1; omega)]

set_option maxRecDepth 100000 in
set_option maxHeartbeats 4000000 in
theorem qone_any {W w : World} {L : List SL} (A : Option Addr) (c : Nat) (l : List Pr) (x : Wt) (hl : l.length ≤ 1000000) (hlc : l.length ≤ c) (hr : RdL W L A (prC l)) (H : Sat W w L) :
    Calls Try.prog 83 #[.slice A l.length c, .agg #[.string ⟨x.k.toArray⟩, .string ⟨x.v.toArray⟩, .bool x.d]] w fun e w' => ∃ A2 c2, e = .returned (.slice A2 (oneP x l).length c2) ∧ Sat W w' (row 64 zPr (.slice A2 (oneP x l).length c2) (oneP x l).length (prC (oneP x l)) :: L) := by
  obtain ⟨i0, hi, hz0, hz1, hz2⟩ := info_parts infoPr
  have hone := oneP_atP x l
  have hat := atP_le l x.k
  obtain ⟨k, v, d⟩ := x
  dsimp only at hone hat
  have H1 := H.alloc #[.string ⟨k.toArray⟩, .string ⟨v.toArray⟩, .bool d] 51
  have c0 := H1.cell 0
  have HAT := Lib.hid (qat_any A c l k (by unfold maxLen; omega) hr.tail H1)
  generalize oneP ⟨k, v, d⟩ l = R at *
  generalize atP l k = n at *
  have HONE := Lib.hid (hone)
  clear hone
  go_enter Try.func83, Try.ntmps83
  go_wp2_with fail
  refine (HAT.out).mono ?_
  rintro e w2 ⟨rfl, H2⟩
  have HM := H2.made #[] 64 zPr 0 0 (by omega) (by unfold maxLen; omega) rfl (Typed.nil _)
  have hl1 : (prC (l.take n)).length = n * zPr.length := by rw [prC_len, List.length_take, Nat.min_eq_left hat]; rfl
  have HRT0 : RdL W L A (prC (l.take n)) := fun w' h => by rw [prC_take]; exact (hr w' h).take _
  have HRT := Lib.hid HRT0
  clear HRT0
  have HRD := Lib.hid (fun m (hm : m ≤ l.length) => prC_rdl hr hlc m hm)
  by_cases hnl : n < l.length
  · have hg : decide (n < l.length) = true := decide_eq_true hnl
    obtain ⟨p, hp⟩ : ∃ x, l[n]? = some x := ⟨_, List.getElem?_eq_getElem (by omega)⟩
    have hrd := fun w' (h : Sat W w' L) => pr_cells (hr w' h) n p hp
    have HP := Lib.hid (hp)
    obtain ⟨pk, pv⟩ := p
    dsimp only at hrd
    have HCE := Lib.hid (hrd)
    clear hp hrd
    by_cases hpk : pk = k
    · have hq : (pk == k) = true := beq_yes hpk
      have hRR : R = (l.take n ++ if d = true then [] else [⟨k, v⟩]) ++ l.drop (n + 1) := by rw [HONE.out, HP.out]; simp [hpk]
      have hm : n + 1 ≤ l.length := hnl
      clear HONE
      have HRR := Lib.hid (hRR)
      clear hRR
      cases d with
      | true =>
        go_wp2_with (first
          | (at_builtin
             refine wpList_append_sl rfl (.tmp 11) (.tmp 14) 40 rfl 64 i0 _ zPr 32 Try.underlying40 hi hz0 rfl hz1 hz2 (by simp) zPr_like _ 0 [] rfl HM A n c (prC (l.take n)) rfl hl1 (HRT.out.tail.tail _ HM) (prC_one _) (prC_typed _) (by unfold maxLen; omega) (by omega) ?_
             intro A4 c4 w5 H6
             rw [Nat.zero_add, List.nil_append] at H6
             rw [Nat.zero_add]
             have e2 : w5.cell? ⟨w.heap.size, 2, none⟩ = some (.bool true) := H6.tail.cell 2
             have e1 : w5.cell? ⟨w.heap.size, 1, none⟩ = some (.string ⟨v.toArray⟩) := H6.tail.cell 1
             have e0 : w5.cell? ⟨w.heap.size, 0, none⟩ = some (.string ⟨k.toArray⟩) := H6.tail.cell 0))
        have HH : Sat W w5 (row 64 zPr (.slice A4 n c4) n (prC (l.take n)) :: pt w.heap.size #[.string ⟨k.toArray⟩, .string ⟨v.toArray⟩, .bool true] 51 :: L) := H6
        obtain ⟨g, o, rfl, x0, x1, _⟩ := HCE.out _ HH.tail.tail
        go_quiet (fail)
        have HD := HH.drewN nq
        generalize w5.drewN nq = w7 at HD
        go_wp2_with (first
          | (refine wpList_slice_fromZ (by rfl) (.tmp 44) (.tmp 45) 40 rfl 64 i0 2 Try.underlying40 hi hz1 _ l.length c (n + 1) rfl rfl hm ?_)
          | (at_builtin
             refine wpList_append_sl rfl (.tmp 43) (.tmp 46) 40 rfl 64 i0 _ zPr 32 Try.underlying40 hi hz0 rfl hz1 hz2 (by simp) zPr_like _ n _ rfl HD _ (l.length - (n + 1)) (c - (n + 1)) (prC (l.drop (n + 1))) rfl (by rw [prC_len, List.length_drop]; rfl) ((HRD.out (n + 1) hm).tail.tail _ HD) (prC_one _) (prC_typed _) (by unfold maxLen; omega) (by omega) ?_
             intro A6 c6 w8 H9))
        go_ret
        have hRl : R.length = n + (l.length - (n + 1)) := by rw [HRR.out]; simp <;> omega
        have hRc : prC R = prC (l.take n) ++ prC (l.drop (n + 1)) := by rw [HRR.out, ← prC_append]; simp
        exact ⟨A6, c6, by rw [hRl]; first | rfl | (show Ending.returned (Value.slice A6 l.length c6) = Ending.returned (Value.slice A6 _ c6); congr 2; omega), by rw [hRl, hRc]; exact H9.swap.tail⟩
      | false =>
        go_wp2_with (first
          | (at_builtin
             refine wpList_append_sl rfl (.tmp 11) (.tmp 14) 40 rfl 64 i0 _ zPr 32 Try.underlying40 hi hz0 rfl hz1 hz2 (by simp) zPr_like _ 0 [] rfl HM A n c (prC (l.take n)) rfl hl1 (HRT.out.tail.tail _ HM) (prC_one _) (prC_typed _) (by unfold maxLen; omega) (by omega) ?_
             intro A4 c4 w5 H6
             rw [Nat.zero_add, List.nil_append] at H6
             rw [Nat.zero_add]
             have e2 : w5.cell? ⟨w.heap.size, 2, none⟩ = some (.bool false) := H6.tail.cell 2
             have e1 : w5.cell? ⟨w.heap.size, 1, none⟩ = some (.string ⟨v.toArray⟩) := H6.tail.cell 1
             have e0 : w5.cell? ⟨w.heap.size, 0, none⟩ = some (.string ⟨k.toArray⟩) := H6.tail.cell 0
             have H7 := H6.alloc #[.string ⟨k.toArray⟩, .string ⟨v.toArray⟩] 64)
          | (at_builtin
             refine wpList_append_sl rfl (.tmp 19) (.tmp 25) 40 rfl 64 i0 _ zPr 32 Try.underlying40 hi hz0 rfl hz1 hz2 (by simp) zPr_like _ n _ rfl H7.swap (some ⟨w5.heap.size, 0, none⟩) 1 1 [.string ⟨k.toArray⟩, .string ⟨v.toArray⟩] rfl rfl (RdL.pt _ H7) (pr_one ⟨k, v⟩) (pr_typed ⟨k, v⟩) (by unfold maxLen; omega) (by omega) ?_
             intro A5 c5 w6 H8
             have f0 : w6.cell? ⟨w.heap.size, 0, none⟩ = some (.string ⟨k.toArray⟩) := H8.tail.tail.cell 0))
        have HH : Sat W w6 (row 64 zPr (.slice A5 (n + 1) c5) (n + 1) (prC (l.take n ++ [⟨k, v⟩])) :: pt w.heap.size #[.string ⟨k.toArray⟩, .string ⟨v.toArray⟩, .bool false] 51 :: L) := by rw [prC_append]; exact H8.swap.tail
        obtain ⟨g, o, rfl, x0, x1, _⟩ := HCE.out _ HH.tail.tail
        go_quiet (fail)
        have HD := HH.drewN nq
        generalize w6.drewN nq = w7 at HD
        go_wp2_with (first
          | (refine wpList_slice_fromZ (by rfl) (.tmp 44) (.tmp 45) 40 rfl 64 i0 2 Try.underlying40 hi hz1 _ l.length c (n + 1) rfl rfl hm ?_)
          | (at_builtin
             refine wpList_append_sl rfl (.tmp 43) (.tmp 46) 40 rfl 64 i0 _ zPr 32 Try.underlying40 hi hz0 rfl hz1 hz2 (by simp) zPr_like _ (n + 1) _ rfl HD _ (l.length - (n + 1)) (c - (n + 1)) (prC (l.drop (n + 1))) rfl (by rw [prC_len, List.length_drop]; rfl) ((HRD.out (n + 1) hm).tail.tail _ HD) (prC_one _) (prC_typed _) (by unfold maxLen; omega) (by omega) ?_
             intro A6 c6 w8 H9))
        go_ret
        have hRl : R.length = (n + 1) + (l.length - (n + 1)) := by rw [HRR.out]; simp <;> omega
        have hRc : prC R = prC (l.take n ++ [⟨k, v⟩]) ++ prC (l.drop (n + 1)) := by rw [HRR.out, ← prC_append]; simp
        exact ⟨A6, c6, by rw [hRl]; first | rfl | (show Ending.returned (Value.slice A6 l.length c6) = Ending.returned (Value.slice A6 _ c6); congr 2; omega), by rw [hRl, hRc]; exact H9.swap.tail⟩
    · have hq : (pk == k) = false := beq_no hpk
      have hRR : R = (l.take n ++ if d = true then [] else [⟨k, v⟩]) ++ l.drop n := by rw [HONE.out, HP.out]; simp [hpk]
      have hm : n ≤ l.length := hat
      clear HONE
      have HRR := Lib.hid (hRR)
      clear hRR
      cases d with
      | true =>
        go_wp2_with (first
          | (at_builtin
             refine wpList_append_sl rfl (.tmp 11) (.tmp 14) 40 rfl 64 i0 _ zPr 32 Try.underlying40 hi hz0 rfl hz1 hz2 (by simp) zPr_like _ 0 [] rfl HM A n c (prC (l.take n)) rfl hl1 (HRT.out.tail.tail _ HM) (prC_one _) (prC_typed _) (by unfold maxLen; omega) (by omega) ?_
             intro A4 c4 w5 H6
             rw [Nat.zero_add, List.nil_append] at H6
             rw [Nat.zero_add]
             have e2 : w5.cell? ⟨w.heap.size, 2, none⟩ = some (.bool true) := H6.tail.cell 2
             have e1 : w5.cell? ⟨w.heap.size, 1, none⟩ = some (.string ⟨v.toArray⟩) := H6.tail.cell 1
             have e0 : w5.cell? ⟨w.heap.size, 0, none⟩ = some (.string ⟨k.toArray⟩) := H6.tail.cell 0))
        have HH : Sat W w5 (row 64 zPr (.slice A4 n c4) n (prC (l.take n)) :: pt w.heap.size #[.string ⟨k.toArray⟩, .string ⟨v.toArray⟩, .bool true] 51 :: L) := H6
        obtain ⟨g, o, rfl, x0, x1, _⟩ := HCE.out _ HH.tail.tail
        go_quiet (fail)
        have HD := HH.drewN nq
        generalize w5.drewN nq = w7 at HD
        go_wp2_with (first
          | (refine wpList_slice_fromZ (by rfl) (.tmp 44) (.tmp 45) 40 rfl 64 i0 2 Try.underlying40 hi hz1 _ l.length c n rfl rfl hm ?_)
          | (at_builtin
             refine wpList_append_sl rfl (.tmp 43) (.tmp 46) 40 rfl 64 i0 _ zPr 32 Try.underlying40 hi hz0 rfl hz1 hz2 (by simp) zPr_like _ n _ rfl HD _ (l.length - n) (c - n) (prC (l.drop n)) rfl (by rw [prC_len, List.length_drop]; rfl) ((HRD.out n hm).tail.tail _ HD) (prC_one _) (prC_typed _) (by unfold maxLen; omega) (by omega) ?_
             intro A6 c6 w8 H9))
        go_ret
        have hRl : R.length = n + (l.length - n) := by rw [HRR.out]; simp <;> omega
        have hRc : prC R = prC (l.take n) ++ prC (l.drop n) := by rw [HRR.out, ← prC_append]; simp
        exact ⟨A6, c6, by rw [hRl]; first | rfl | (show Ending.returned (Value.slice A6 l.length c6) = Ending.returned (Value.slice A6 _ c6); congr 2; omega), by rw [hRl, hRc]; exact H9.swap.tail⟩
      | false =>
        go_wp2_with (first
          | (at_builtin
             refine wpList_append_sl rfl (.tmp 11) (.tmp 14) 40 rfl 64 i0 _ zPr 32 Try.underlying40 hi hz0 rfl hz1 hz2 (by simp) zPr_like _ 0 [] rfl HM A n c (prC (l.take n)) rfl hl1 (HRT.out.tail.tail _ HM) (prC_one _) (prC_typed _) (by unfold maxLen; omega) (by omega) ?_
             intro A4 c4 w5 H6
             rw [Nat.zero_add, List.nil_append] at H6
             rw [Nat.zero_add]
             have e2 : w5.cell? ⟨w.heap.size, 2, none⟩ = some (.bool false) := H6.tail.cell 2
             have e1 : w5.cell? ⟨w.heap.size, 1, none⟩ = some (.string ⟨v.toArray⟩) := H6.tail.cell 1
             have e0 : w5.cell? ⟨w.heap.size, 0, none⟩ = some (.string ⟨k.toArray⟩) := H6.tail.cell 0
             have H7 := H6.alloc #[.string ⟨k.toArray⟩, .string ⟨v.toArray⟩] 64)
          | (at_builtin
             refine wpList_append_sl rfl (.tmp 19) (.tmp 25) 40 rfl 64 i0 _ zPr 32 Try.underlying40 hi hz0 rfl hz1 hz2 (by simp) zPr_like _ n _ rfl H7.swap (some ⟨w5.heap.size, 0, none⟩) 1 1 [.string ⟨k.toArray⟩, .string ⟨v.toArray⟩] rfl rfl (RdL.pt _ H7) (pr_one ⟨k, v⟩) (pr_typed ⟨k, v⟩) (by unfold maxLen; omega) (by omega) ?_
             intro A5 c5 w6 H8
             have f0 : w6.cell? ⟨w.heap.size, 0, none⟩ = some (.string ⟨k.toArray⟩) := H8.tail.tail.cell 0))
        have HH : Sat W w6 (row 64 zPr (.slice A5 (n + 1) c5) (n + 1) (prC (l.take n ++ [⟨k, v⟩])) :: pt w.heap.size #[.string ⟨k.toArray⟩, .string ⟨v.toArray⟩, .bool false] 51 :: L) := by rw [prC_append]; exact H8.swap.tail
        obtain ⟨g, o, rfl, x0, x1, _⟩ := HCE.out _ HH.tail.tail
        go_quiet (fail)
        have HD := HH.drewN nq
        generalize w6.drewN nq = w7 at HD
        go_wp2_with (first
          | (refine wpList_slice_fromZ (by rfl) (.tmp 44) (.tmp 45) 40 rfl 64 i0 2 Try.underlying40 hi hz1 _ l.length c n rfl rfl hm ?_)
          | (at_builtin
             refine wpList_append_sl rfl (.tmp 43) (.tmp 46) 40 rfl 64 i0 _ zPr 32 Try.underlying40 hi hz0 rfl hz1 hz2 (by simp) zPr_like _ (n + 1) _ rfl HD _ (l.length - n) (c - n) (prC (l.drop n)) rfl (by rw [prC_len, List.length_drop]; rfl) ((HRD.out n hm).tail.tail _ HD) (prC_one _) (prC_typed _) (by unfold maxLen; omega) (by omega) ?_
             intro A6 c6 w8 H9))
        go_ret
        have hRl : R.length = (n + 1) + (l.length - n) := by rw [HRR.out]; simp <;> omega
        have hRc : prC R = prC (l.take n ++ [⟨k, v⟩]) ++ prC (l.drop n) := by rw [HRR.out, ← prC_append]; simp
        exact ⟨A6, c6, by rw [hRl]; first | rfl | (show Ending.returned (Value.slice A6 l.length c6) = Ending.returned (Value.slice A6 _ c6); congr 2; omega), by rw [hRl, hRc]; exact H9.swap.tail⟩
  · have hg : decide (n < l.length) = false := decide_eq_false hnl
    have hRR : R = (l.take n ++ if d = true then [] else [⟨k, v⟩]) ++ l.drop n := by rw [HONE.out, List.getElem?_eq_none (by omega)]; simp
    have hm : n ≤ l.length := hat
    clear HONE
    have HRR := Lib.hid (hRR)
    clear hRR
    cases d with
    | true =>
      go_wp2_with (first
        | (at_builtin
           refine wpList_append_sl rfl (.tmp 11) (.tmp 14) 40 rfl 64 i0 _ zPr 32 Try.underlying40 hi hz0 rfl hz1 hz2 (by simp) zPr_like _ 0 [] rfl HM A n c (prC (l.take n)) rfl hl1 (HRT.out.tail.tail _ HM) (prC_one _) (prC_typed _) (by unfold maxLen; omega) (by omega) ?_
           intro A4 c4 w5 H6
           rw [Nat.zero_add, List.nil_append] at H6
           rw [Nat.zero_add]
           have e2 : w5.cell? ⟨w.heap.size, 2, none⟩ = some (.bool true) := H6.tail.cell 2
           have e1 : w5.cell? ⟨w.heap.size, 1, none⟩ = some (.string ⟨v.toArray⟩) := H6.tail.cell 1
           have e0 : w5.cell? ⟨w.heap.size, 0, none⟩ = some (.string ⟨k.toArray⟩) := H6.tail.cell 0))
      have HH : Sat W w5 (row 64 zPr (.slice A4 n c4) n (prC (l.take n)) :: pt w.heap.size #[.string ⟨k.toArray⟩, .string ⟨v.toArray⟩, .bool true] 51 :: L) := H6
      go_quiet (fail)
      have HD := HH.drewN nq
      generalize w5.drewN nq = w7 at HD
      go_wp2_with (first
        | (refine wpList_slice_fromZ (by rfl) (.tmp 44) (.tmp 45) 40 rfl 64 i0 2 Try.underlying40 hi hz1 _ l.length c n rfl rfl hm ?_)
        | (at_builtin
           refine wpList_append_sl rfl (.tmp 43) (.tmp 46) 40 rfl 64 i0 _ zPr 32 Try.underlying40 hi hz0 rfl hz1 hz2 (by simp) zPr_like _ n _ rfl HD _ (l.length - n) (c - n) (prC (l.drop n)) rfl (by rw [prC_len, List.length_drop]; rfl) ((HRD.out n hm).tail.tail _ HD) (prC_one _) (prC_typed _) (by unfold maxLen; omega) (by omega) ?_
           intro A6 c6 w8 H9))
      go_ret
      have hRl : R.length = n + (l.length - n) := by rw [HRR.out]; simp <;> omega
      have hRc : prC R = prC (l.take n) ++ prC (l.drop n) := by rw [HRR.out, ← prC_append]; simp
      exact ⟨A6, c6, by rw [hRl]; first | rfl | (show Ending.returned (Value.slice A6 l.length c6) = Ending.returned (Value.slice A6 _ c6); congr 2; omega), by rw [hRl, hRc]; exact H9.swap.tail⟩
    | false =>
      go_wp2_with (first
        | (at_builtin
           refine wpList_append_sl rfl (.tmp 11) (.tmp 14) 40 rfl 64 i0 _ zPr 32 Try.underlying40 hi hz0 rfl hz1 hz2 (by simp) zPr_like _ 0 [] rfl HM A n c (prC (l.take n)) rfl hl1 (HRT.out.tail.tail _ HM) (prC_one _) (prC_typed _) (by unfold maxLen; omega) (by omega) ?_
           intro A4 c4 w5 H6
           rw [Nat.zero_add, List.nil_append] at H6
           rw [Nat.zero_add]
           have e2 : w5.cell? ⟨w.heap.size, 2, none⟩ = some (.bool false) := H6.tail.cell 2
           have e1 : w5.cell? ⟨w.heap.size, 1, none⟩ = some (.string ⟨v.toArray⟩) := H6.tail.cell 1
           have e0 : w5.cell? ⟨w.heap.size, 0, none⟩ = some (.string ⟨k.toArray⟩) := H6.tail.cell 0
           have H7 := H6.alloc #[.string ⟨k.toArray⟩, .string ⟨v.toArray⟩] 64)
        | (at_builtin
           refine wpList_append_sl rfl (.tmp 19) (.tmp 25) 40 rfl 64 i0 _ zPr 32 Try.underlying40 hi hz0 rfl hz1 hz2 (by simp) zPr_like _ n _ rfl H7.swap (some ⟨w5.heap.size, 0, none⟩) 1 1 [.string ⟨k.toArray⟩, .string ⟨v.toArray⟩] rfl rfl (RdL.pt _ H7) (pr_one ⟨k, v⟩) (pr_typed ⟨k, v⟩) (by unfold maxLen; omega) (by omega) ?_
           intro A5 c5 w6 H8
           have f0 : w6.cell? ⟨w.heap.size, 0, none⟩ = some (.string ⟨k.toArray⟩) := H8.tail.tail.cell 0))
      have HH : Sat W w6 (row 64 zPr (.slice A5 (n + 1) c5) (n + 1) (prC (l.take n ++ [⟨k, v⟩])) :: pt w.heap.size #[.string ⟨k.toArray⟩, .string ⟨v.toArray⟩, .bool false] 51 :: L) := by rw [prC_append]; exact H8.swap.tail
      go_quiet (fail)
      have HD := HH.drewN nq
      generalize w6.drewN nq = w7 at HD
      go_wp2_with (first
        | (refine wpList_slice_fromZ (by rfl) (.tmp 44) (.tmp 45) 40 rfl 64 i0 2 Try.underlying40 hi hz1 _ l.length c n rfl rfl hm ?_)
        | (at_builtin
           refine wpList_append_sl rfl (.tmp 43) (.tmp 46) 40 rfl 64 i0 _ zPr 32 Try.underlying40 hi hz0 rfl hz1 hz2 (by simp) zPr_like _ (n + 1) _ rfl HD _ (l.length - n) (c - n) (prC (l.drop n)) rfl (by rw [prC_len, List.length_drop]; rfl) ((HRD.out n hm).tail.tail _ HD) (prC_one _) (prC_typed _) (by unfold maxLen; omega) (by omega) ?_
           intro A6 c6 w8 H9))
      go_ret
      have hRl : R.length = (n + 1) + (l.length - n) := by rw [HRR.out]; simp <;> omega
      have hRc : prC R = prC (l.take n ++ [⟨k, v⟩]) ++ prC (l.drop n) := by rw [HRR.out, ← prC_append]; simp
      exact ⟨A6, c6, by rw [hRl]; first | rfl | (show Ending.returned (Value.slice A6 l.length c6) = Ending.returned (Value.slice A6 _ c6); congr 2; omega), by rw [hRl, hRc]; exact H9.swap.tail⟩

end Go.Proofs.Ytnpgjobaibnknaa
