/- The keys in which two states differ. -/
import Derived.Test.YtnpgjobaibnknaaKeN
namespace Go.Proofs.Ytnpgjobaibnknaa
open Go.RowKit Go.Rt Go.Maps

theorem changed_len (a b : List Pr) : (changedE a b).length = (diffE a b).length := by simp [changedE]
set_option maxRecDepth 100000 in
set_option maxHeartbeats 4000000 in
theorem cChanged_any {W w : World} {L : List SL} (A A' : Option Addr) (c c' : Nat) (a b : List Pr) (hl : a.length ≤ maxLen) (hl' : b.length ≤ maxLen) (hac : a.length ≤ c) (hbc : b.length ≤ c') (hr : RdL W L A (prC a)) (hr' : RdL W L A' (prC b)) (H : Sat W w L) :
    Calls Try.prog 58 #[.slice A a.length c, .slice A' b.length c'] w fun e w' => ∃ A2 c2, e = .returned (.slice A2 (changedE a b).length c2) ∧ Sat W w' (seenS 9 (.slice A2 (changedE a b).length c2) (changedE a b).length (tsC (changedE a b)) :: L) := by
  have hd := cDiff_any A A' c c' a b hl hl' hac hbc hr hr' H
  obtain ⟨i0, hi, hz0, hz1, hz2⟩ := info_parts infoStr
  have hce : changedE a b = (diffE a b).map Wt.k := rfl
  have hdl : (diffE a b).length ≤ 131072 ∨ (diffE a b).length = 0 := by
    unfold diffE
    split
    · rename_i h
      have h1 := diff_len a b
      have h2 := checkS_len h.1
      have h3 := checkS_len h.2
      omega
    · exact .inr rfl
  have hdl2 : (diffE a b).length ≤ 131072 := by omega
  rw [hce]
  clear hce hdl
  generalize diffE a b = ds at *
  have HD := Lib.hid (hd)
  clear hd
  go_enter Try.func58, Try.ntmps58
  go_wp2_with fail
  refine (HD.out).mono ?_
  rintro e w2 ⟨A1, c1, rfl, H2⟩
  clear HD H
  go_wp2
  go_loopw [5, 12] (fun ou i wc => ∃ (j : Nat) (Ao : Option Addr) (co : Nat), j ≤ ds.length ∧ i = .int .i64 j ∧ ou = .slice Ao j co ∧ Sat W wc (seenS 9 (.slice Ao j co) j (tsC ((ds.take j).map Wt.k)) :: row 51 zWt (.slice A1 ds.length c1) ds.length (wtC ds) :: L)) (fun _ i _ => ds.length - (intOf i).toNat)
  case atStart => exact ⟨0, none, 0, by omega, rfl, rfl, H2.new_nil _ _⟩
  case round =>
    clear H2
    obtain ⟨j, Ao, co, hj, rfl, rfl, H⟩ := hrel
    by_cases hlt : j < ds.length
    · obtain ⟨x, hx⟩ : ∃ x, ds[j]? = some x := ⟨_, List.getElem?_eq_getElem (by omega)⟩
      obtain ⟨g, o, rfl, x0, x1, x2, _⟩ := wt_cells H.tail.rd j x hx
      have ht : (ds.take (j + 1)).map Wt.k = (ds.take j).map Wt.k ++ [x.k] := by rw [List.take_add_one, hx]; simp
      have HT := Lib.hid (ht)
      obtain ⟨xk, xv, xd⟩ := x
      dsimp only at x0 x1 x2
      clear hx ht
      have HP := H.alloc #[.string ⟨xk.toArray⟩, .string ⟨xv.toArray⟩, .bool xd] 51
      have H5 := HP.alloc #[.string ⟨xk.toArray⟩] 9
      try simp only [World.size_alloc] at H5
      go_wp2_with (first
        | (at_builtin
           refine wpList_append_new rfl (.tmp 16) (.tmp 19) 22 rfl 9 i0 _ zS 16 Try.underlying22 hi hz0 rfl hz1 hz2 (by simp) _ j _ rfl (H5.pull 2) (some ⟨_, 0, none⟩) 1 1 [.string ⟨xk.toArray⟩] rfl rfl (RdL.pt _ H5) (by simp [Value.oneCell']) (by unfold maxLen; omega) (by omega) ?_
           intro A4 c4 w4 H6))
      refine ⟨⟨j + 1, A4, c4, by omega, by go_num, rfl, ?_⟩, by simp [intOf]; omega⟩
      rw [HT.out, tsC_append]
      exact H6.swap.tail.swap.tail
    · obtain rfl : j = ds.length := by omega
      rw [List.take_length] at H
      go_wp2
      go_ret
      exact ⟨Ao, co, by simp, by rw [List.length_map]; exact H.swap.tail⟩
set_option maxRecDepth 100000 in
set_option maxHeartbeats 4000000 in
theorem qChanged_any {W w : World} {L : List SL} (A A' : Option Addr) (c c' : Nat) (a b : List Pr) (hl : a.length ≤ maxLen) (hl' : b.length ≤ maxLen) (hr : RdL W L A (prC a)) (hr' : RdL W L A' (prC b)) (H : Sat W w L) :
    Calls Try.prog 61 #[.slice A a.length c, .slice A' b.length c'] w fun e w' => ∃ A2 c2, e = .returned (.slice A2 (changedE a b).length c2) ∧ Sat W w' (seenS 9 (.slice A2 (changedE a b).length c2) (changedE a b).length (tsC (changedE a b)) :: L) := by
  have hd := qDiff_any A A' c c' a b hl hl' hr hr' H
  obtain ⟨i0, hi, hz0, hz1, hz2⟩ := info_parts infoStr
  have hce : changedE a b = (diffE a b).map Wt.k := rfl
  have hdl : (diffE a b).length ≤ 131072 ∨ (diffE a b).length = 0 := by
    unfold diffE
    split
    · rename_i h
      have h1 := diff_len a b
      have h2 := checkS_len h.1
      have h3 := checkS_len h.2
      omega
    · exact .inr rfl
  have hdl2 : (diffE a b).length ≤ 131072 := by omega
  rw [hce]
  clear hce hdl
  generalize diffE a b = ds at *
  have HD := Lib.hid (hd)
  clear hd
  go_enter Try.func61, Try.ntmps61
  go_wp2_with fail
  refine (HD.out).mono ?_
  rintro e w2 ⟨A1, c1, rfl, H2⟩
  clear HD H
  go_wp2
  go_loopw [6, 7] (fun ou i wc => ∃ (j : Nat) (Ao : Option Addr) (co : Nat), j ≤ ds.length ∧ i = .int .i64 j ∧ ou = .slice Ao j co ∧ Sat W wc (seenS 9 (.slice Ao j co) j (tsC ((ds.take j).map Wt.k)) :: row 51 zWt (.slice A1 ds.length c1) ds.length (wtC ds) :: L)) (fun _ i _ => ds.length - (intOf i).toNat)
  case atStart => exact ⟨0, none, 0, by omega, rfl, rfl, H2.new_nil _ _⟩
  case round =>
    clear H2
    obtain ⟨j, Ao, co, hj, rfl, rfl, H⟩ := hrel
    by_cases hlt : j < ds.length
    · obtain ⟨x, hx⟩ : ∃ x, ds[j]? = some x := ⟨_, List.getElem?_eq_getElem (by omega)⟩
      obtain ⟨g, o, rfl, x0, x1, x2, _⟩ := wt_cells H.tail.rd j x hx
      have ht : (ds.take (j + 1)).map Wt.k = (ds.take j).map Wt.k ++ [x.k] := by rw [List.take_add_one, hx]; simp
      have HT := Lib.hid (ht)
      obtain ⟨xk, xv, xd⟩ := x
      dsimp only at x0 x1 x2
      clear hx ht
      have HP := H
      have H5 := HP.alloc #[.string ⟨xk.toArray⟩] 9
      try simp only [World.size_alloc] at H5
      go_wp2_with (first
        | (at_builtin
           refine wpList_append_new rfl (.tmp 17) (.tmp 23) 22 rfl 9 i0 _ zS 16 Try.underlying22 hi hz0 rfl hz1 hz2 (by simp) _ j _ rfl H5.swap (some ⟨_, 0, none⟩) 1 1 [.string ⟨xk.toArray⟩] rfl rfl (RdL.pt _ H5) (by simp [Value.oneCell']) (by unfold maxLen; omega) (by omega) ?_
           intro A4 c4 w4 H6))
      refine ⟨⟨j + 1, A4, c4, by omega, by go_num, rfl, ?_⟩, by simp [intOf]; omega⟩
      rw [HT.out, tsC_append]
      exact H6.swap.tail
    · obtain rfl : j = ds.length := by omega
      rw [List.take_length] at H
      go_wp2
      go_ret
      exact ⟨Ao, co, by simp, by rw [List.length_map]; exact H.swap.tail⟩
end Go.Proofs.Ytnpgjobaibnknaa
