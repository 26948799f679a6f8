/- KeysSorted answers true. -/
import Derived.Test.YtnpgjobaibnknaaKdD
namespace Go.Proofs.Ytnpgjobaibnknaa
open Go.RowKit Go.Rt

theorem sortS_pos (l : List Str) (h : 0 < l.length) : 0 < (sortS l).length := by
  rcases Nat.eq_zero_or_pos (sortS l).length with h0 | h0
  · have := (sortS_nil l).1 (List.eq_nil_of_length_eq_zero h0)
    rw [this] at h; simp at h
  · exact h0

set_option maxRecDepth 100000 in
set_option maxHeartbeats 8000000 in
theorem lawKeysSorted_any {W : World} (A : Option Addr) (c : Nat) (l : List Str) (hA : Bsl A l.length c) (hx : ∀ x ∈ l, x.length ≤ maxLen) (hr : Rd W A (tsC l)) (which : Int) :
    Calls Try.prog 3 #[.slice A l.length c, .int .i64 which] W fun e w' => e = .returned (.bool true) ∧ Sat W w' [] := by
  have hlm : l.length ≤ maxLen := Nat.le_trans hA.le hA.max
  have HLM := Lib.hid hlm
  have HX := Lib.hid hx
  clear hlm hx hA
  go_enter Try.func3, Try.ntmps3
  go_wp2_with fail
  refine (eawake_any (Sat.start W)).mono ?_
  rintro e w1 ⟨rfl, H1⟩
  have hlk := LongKeys_any A c l 100 (by omega) HLM.out (hr.old H1)
  cases hb : longK l 100 with
  | true =>
    rw [hb] at hlk
    go_wp2_with fail
    refine hlk.mono ?_
    rintro e _ ⟨rfl, rfl⟩
    go_wp2
    go_ret
    exact ⟨rfl, H1⟩
  | false =>
    rw [hb] at hlk
    have hn := (longK_no hb).1
    go_wp2_with fail
    refine hlk.mono ?_
    rintro e _ ⟨rfl, rfl⟩
    clear hlk hb
    go_wp2_with fail
    refine (eSort_sat A c l (by omega) HX.out (hr.old H1) H1).mono ?_
    rintro e w2 ⟨A1, c1, rfl, H2⟩
    clear H1
    have hsl := sortS_len l
    have hxs : ∀ x ∈ sortS l, x.length ≤ maxLen := fun x h => HX.out x ((mem_sortS l x).1 h)
    have hc1 := checkK_sortS l
    have hid := sortS_idem l
    have hcs := check_same l
    have hpos := sortS_pos l
    have hmem := fun x => mem_sortS l x
    have hck := fun w0 (r : Rd w0 A1 (tsC (sortS l))) => eCheck_any A1 c1 (sortS l) (by unfold maxLen; omega) r
    have hso := fun w0 (L : List SL) (r : Rd w0 A1 (tsC (sortS l))) (h : Sat W w0 L) => eSort_sat A1 c1 (sortS l) (by omega) hxs r h
    have hst := fun w0 (A2 : Option Addr) (c2 : Nat) (r1 : Rd w0 A2 (tsC (sortS l))) (r2 : Rd w0 A1 (tsC (sortS l))) => SameTexts_any A2 A1 c2 c1 (sortS l) (sortS l) (by unfold maxLen; omega) r1 r2
    have hck2 := fun w0 (r : Rd w0 A (tsC l)) => eCheck_any A c l HLM.out r
    have hst2 := fun w0 (r1 : Rd w0 A1 (tsC (sortS l))) (r2 : Rd w0 A (tsC l)) => SameTexts_any A1 A c1 c (sortS l) l (by unfold maxLen; omega) r1 r2
    rw [hc1] at hck
    rw [hid] at hso
    rw [decide_eq_true (show sortS l = sortS l from rfl)] at hst
    rw [hcs] at hck2
    have HCK := Lib.hid hck
    have HSO := Lib.hid hso
    have HST := Lib.hid hst
    have HCK2 := Lib.hid hck2
    have HST2 := Lib.hid hst2
    have HPOS := Lib.hid hpos
    have HMEM := Lib.hid hmem
    clear hck hso hst hck2 hst2 hcs hid hc1 hxs hpos hmem HX
    generalize decide (sortS l = l) = d at *
    generalize sortS l = s at *
    have hsn : ¬ l.length < s.length := by omega
    go_wp2_with fail
    refine (HCK.out _ H2.seen_rd).mono ?_
    rintro e w3 ⟨rfl, hB3⟩
    have H3 := H2.below hB3
    clear H2 HCK
    go_wp2_with fail
    refine (HSO.out _ _ H3.seen_rd H3).mono ?_
    rintro e w4 ⟨A4, c4, rfl, H4⟩
    clear H3 HSO
    go_wp2_with fail
    refine (HST.out _ A4 c4 H4.seen_rd H4.swap.seen_rd).mono ?_
    rintro e w5 ⟨rfl, hB5⟩
    have H5 := (H4.below hB5).tail
    clear H4 HST
    go_wp2_with fail
    refine (HCK2.out _ (hr.old H5)).mono ?_
    rintro e w6 ⟨rfl, hB6⟩
    have H6 := H5.below hB6
    clear H5 HCK2
    go_wp2_with fail
    refine (HST2.out _ H6.seen_rd (hr.old H6)).mono ?_
    rintro e w7 ⟨rfl, hB7⟩
    have H7 := H6.below hB7
    clear H6 HST2
    have hdd : (d != d) = false := by cases d <;> rfl
    go_wp2
    go_loopw [7] (fun i wc => ∃ j : Nat, j ≤ s.length ∧ i = .int .i64 j ∧ Sat W wc [seenS 9 (.slice A1 s.length c1) (tsC s)]) (fun i _ => s.length - (intOf i).toNat)
    case atStart => exact ⟨0, by omega, rfl, H7⟩
    case round =>
      obtain ⟨j, hj, rfl, H8⟩ := hrel
      clear H7
      by_cases hlt : j < s.length
      · obtain ⟨x, hx⟩ : ∃ x, s[j]? = some x := ⟨_, List.getElem?_eq_getElem hlt⟩
        have hm : hasK l x = true := decide_eq_true ((HMEM.out x).1 (List.mem_of_getElem? hx))
        obtain ⟨b, o, rfl, hc⟩ := ts_at H8.seen_rd j x hx
        have hh := eHas_any A c l x HLM.out (hr.old H8)
        rw [hm] at hh
        have HH := Lib.hid hh
        clear hh hm hx
        go_wp2_with fail
        refine HH.out.mono ?_
        rintro e _ ⟨rfl, rfl⟩
        go_wp2
        exact ⟨⟨j + 1, by omega, by go_num, H8⟩, by simp [intOf]; omega⟩
      · obtain rfl : j = s.length := by omega
        by_cases hl0 : l.length = 0
        · have hs0 : s.length = 0 := by omega
          go_wp2
          go_ret
          exact ⟨rfl, H8.tail⟩
        · have hs0 : 0 < s.length := HPOS.out (by omega)
          have e1 : ((l.length : Int) == 0) = false := beq_eq_false_iff_ne.2 (by omega)
          have e2 : ((s.length : Int) == 0) = false := beq_eq_false_iff_ne.2 (by omega)
          have hpick := kPick_any which l.length ⟨by omega, by omega⟩ wr
          have HPICK := Lib.hid hpick
          clear hpick
          go_wp2_with fail
          refine HPICK.out.mono ?_
          rintro e _ ⟨⟨t, ht, rfl⟩, rfl⟩
          clear HPICK
          obtain ⟨x, hx⟩ : ∃ x, l[t]? = some x := ⟨_, List.getElem?_eq_getElem ht⟩
          have hm : hasK s x = true := decide_eq_true ((HMEM.out x).2 (List.mem_of_getElem? hx))
          obtain ⟨b, o, rfl, hc⟩ := ts_at (hr.old H8) t x hx
          have hh := eHas_any A1 c1 s x (by unfold maxLen; omega) H8.seen_rd
          rw [hm] at hh
          have HH := Lib.hid hh
          clear hh hm hx
          go_wp2_with fail
          refine HH.out.mono ?_
          rintro e _ ⟨rfl, rfl⟩
          go_wp2
          go_ret
          exact ⟨rfl, H8.tail⟩
end Go.Proofs.Ytnpgjobaibnknaa
