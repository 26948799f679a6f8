/- The document's Apply. -/
import Derived.Test.YtnpgjobaibnknaaKeK
namespace Go.Proofs.Ytnpgjobaibnknaa
open Go.RowKit Go.Rt Go.Maps

set_option maxRecDepth 100000 in
set_option maxHeartbeats 4000000 in
theorem qApply_any {W w : World} {L : List SL} (A A' : Option Addr) (c c' : Nat) (l : List Pr) (ws : List Wt) (hl : l.length ≤ maxLen) (hw : ws.length ≤ 900000) (hr : RdL W L A (prC l)) (hr' : RdL W L A' (wtC ws)) (H : Sat W w L) :
    Calls Try.prog 56 #[.slice A l.length c, .slice A' ws.length c'] w fun e w' => ∃ A2 c2, e = .returned (.tuple #[.slice A2 (applyE l ws).1.length c2, .int .i64 (applyE l ws).2]) ∧ Sat W w' (row 64 zPr (.slice A2 (applyE l ws).1.length c2) (applyE l ws).1.length (prC (applyE l ws).1) :: L) := by
  obtain ⟨i0, hi, hz0, hz1, hz2⟩ := info_parts infoPr
  have hck := qChk_any A c l hl hr H
  by_cases h0 : checkS l = 0
  · have hlen := checkS_len h0
    rw [h0] at hck
    have HCK := Lib.hid (hck)
    have HBAD := Lib.hid (fun (j : Nat) (x : Wt) (hx : ws[j]? = some x) (hm : mayW x = false) => applyE_may (l := l) h0 hx hm)
    have HALL := Lib.hid (fun hm => applyE_all (l := l) (ws := ws) h0 hm)
    have HST := Lib.hid (fun j x (hx : ws[j]? = some x) => apply_step l ws j x hx)
    have HAL := Lib.hid (fun j => (by have h1 := len_applyP l (ws.take j); have h2 := List.length_take_le j ws; omega : (applyP l (ws.take j)).length ≤ l.length + j))
    generalize applyE l ws = R at *
    clear hck h0
    go_enter Try.func56, Try.ntmps56
    go_wp2_with fail
    refine (HCK.out).mono ?_
    rintro e w2 ⟨rfl, H2⟩
    go_wp2
    go_loopw [7] (fun i wc => ∃ j : Nat, j ≤ ws.length ∧ i = .int .i64 j ∧ Hid (∀ k x, k < j → ws[k]? = some x → mayW x = true) ∧ Sat W wc L) (fun i _ => ws.length - (intOf i).toNat)
    case atStart => exact ⟨0, by omega, rfl, (fun k x h => by omega), H2⟩
    case round =>
      clear H2 H
      obtain ⟨j, hj, rfl, HN, H⟩ := hrel
      by_cases hlt : j < ws.length
      · obtain ⟨x, hx⟩ : ∃ x, ws[j]? = some x := ⟨_, List.getElem?_eq_getElem (by omega)⟩
        obtain ⟨g, o, rfl, c0, c1, c2, _⟩ := wt_cells (hr' _ H) j x hx
        have HBD := Lib.hid (fun h => HBAD.out j x hx h)
        have HX := Lib.hid (hx)
        obtain ⟨xk, xv, xd⟩ := x
        dsimp only at c0 c1 c2
        have hmy := qMay_any ⟨xk, xv, xd⟩ H
        clear hx
        cases hm : mayW ⟨xk, xv, xd⟩ with
        | false =>
          rw [hm] at hmy
          obtain rfl := HBD.out hm
          have HMY := Lib.hid (hmy)
          clear hmy hm HALL HBAD HBD HST HAL
          go_wp2_with fail
          refine (HMY.out).mono ?_
          rintro e w4 ⟨rfl, H6⟩
          go_wp2
          go_ret2
          exact ⟨none, 0, rfl, H6.nil _ _⟩
        | true =>
          rw [hm] at hmy
          have HMY := Lib.hid (hmy)
          have HMT := Lib.hid (hm)
          clear hmy hm HALL HBAD HBD HST HAL
          go_wp2_with fail
          refine (HMY.out).mono ?_
          rintro e w4 ⟨rfl, H6⟩
          go_wp2
          refine ⟨⟨j + 1, by omega, by go_num, fun k y hk hy => ?_, H6⟩, by simp [intOf]; omega⟩
          rcases Nat.lt_or_ge k j with h | h
          · exact HN.out k y h hy
          · obtain rfl : k = j := by omega
            rw [HX.out] at hy; cases hy; exact HMT.out
      · obtain rfl : j = ws.length := by omega
        have hall := HALL.out HN.out
        have HA := Lib.hid (hall)
        clear hall HALL HBAD HN
        have HM := H.made #[] 64 zPr 0 0 (by omega) (by unfold maxLen; omega) rfl (Typed.nil _)
        go_wp2_with (first
          | (at_builtin
             refine wpList_append_sl rfl (.tmp 27) (.tmp 28) 40 rfl 64 i0 _ zPr 32 Try.underlying40 hi hz0 rfl hz1 hz2 (by simp) zPr_like _ 0 [] rfl HM A l.length c (prC l) rfl (prC_len l) (hr.tail _ HM) (prC_one _) (prC_typed _) (by unfold maxLen; omega) (by omega) ?_
             intro A4 c4 w5 H6
             rw [Nat.zero_add, List.nil_append] at H6
             rw [Nat.zero_add]))
        go_loopw [8, 9] (fun ou i wc => ∃ (j : Nat) (s : List Pr) (Ao : Option Addr) (co : Nat), j ≤ ws.length ∧ i = .int .i64 j ∧ ou = .slice Ao s.length co ∧ Hid (s = applyP l (ws.take j)) ∧ Sat W wc (row 64 zPr (.slice Ao s.length co) s.length (prC s) :: L)) (fun _ i _ => ws.length - (intOf i).toNat)
        case atStart => exact ⟨0, l, A4, c4, by omega, rfl, rfl, rfl, H6⟩
        case round =>
          clear H6 HM H
          obtain ⟨j, s, Ao, co, hj, rfl, rfl, HS, H⟩ := hrel
          have hsl : s.length ≤ l.length + j := by rw [HS.out]; exact HAL.out j
          by_cases hlt : j < ws.length
          · obtain ⟨x, hx⟩ : ∃ x, ws[j]? = some x := ⟨_, List.getElem?_eq_getElem (by omega)⟩
            obtain ⟨g, o, rfl, c0, c1, c2, _⟩ := wt_cells (hr' _ H.tail) j x hx
            have hs2 : oneP x s = applyP l (ws.take (j + 1)) := by rw [HST.out j x hx, HS.out]
            have HS2 := Lib.hid (hs2)
            obtain ⟨_, A0, co', hv, hnc, _⟩ := H.slice
            cases hv
            have hon := qone_any Ao co s x (by omega) hnc RdL.row H
            obtain ⟨xk, xv, xd⟩ := x
            dsimp only at c0 c1 c2 hon
            generalize oneP ⟨xk, xv, xd⟩ s = s2 at *
            have HON := Lib.hid (hon)
            clear hx hs2 hon
            go_wp2_with fail
            refine (HON.out).mono ?_
            rintro e w4 ⟨A7, c7, rfl, H7⟩
            go_wp2
            exact ⟨⟨j + 1, s2, A7, c7, by omega, by go_num, rfl, HS2, H7.swap.tail⟩, by simp [intOf]; omega⟩
          · obtain rfl : j = ws.length := by omega
            have e2 := HS.out
            rw [List.take_length] at e2
            have h9 := HA.out
            rw [← e2] at h9
            by_cases hbig : 65536 < s.length
            · rw [if_pos hbig] at h9
              subst h9
              have hb2 : (65536 : Int) < (s.length : Int) := by omega
              clear HA e2
              go_wp2
              go_ret2
              exact ⟨none, 0, rfl, H.tail.nil _ _⟩
            · rw [if_neg hbig] at h9
              subst h9
              have hb2 : ¬ (65536 : Int) < (s.length : Int) := by omega
              clear HA e2
              go_wp2
              go_ret2
              exact ⟨Ao, co, rfl, H⟩
  · rw [applyE_check _ h0]
    have e1 : (checkS l != 0) = true := by simpa using h0
    generalize checkS l = C at *
    have HCK := Lib.hid (hck)
    clear hck h0
    go_enter Try.func56, Try.ntmps56
    go_wp2_with fail
    refine (HCK.out).mono ?_
    rintro e w2 ⟨rfl, H2⟩
    go_wp2
    go_ret2
    exact ⟨none, 0, rfl, H2.nil _ _⟩
end Go.Proofs.Ytnpgjobaibnknaa
