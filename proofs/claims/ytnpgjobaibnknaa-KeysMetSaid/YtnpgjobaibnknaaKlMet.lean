/- KeysMet answers true. -/
import Derived.Test.YtnpgjobaibnknaaKdK
namespace Go.Proofs.Ytnpgjobaibnknaa
open Go.RowKit Go.Rt

theorem mem_amongS (l : List Str) (s : List Sp) (x : Str) : x ∈ amongS l s ↔ x ∈ l ∧ hasSp s x = true := by
  unfold amongS; rw [List.mem_filter, mem_sortS]
theorem rise_amongS (l : List Str) (s : List Sp) : Rise (amongS l s) := rise_filter (rise_sortS _) _
theorem hasK_among (l : List Str) (s : List Sp) (x : Str) (h : x ∈ l) : hasK (amongS l s) x = hasSp s x := by
  unfold hasK
  cases hb : hasSp s x with
  | true => exact decide_eq_true ((mem_amongS l s x).2 ⟨h, hb⟩)
  | false => exact decide_eq_false fun h2 => by rw [((mem_amongS l s x).1 h2).2] at hb; cases hb
theorem meets_of_has (l o : List Str) (s : List Sp) (x : Str) (h : x ∈ l) (hb : hasSp s x = true ∨ hasK o x = true) : meetsB l o s = true := by
  unfold meetsB
  rw [Bool.or_eq_true, decide_eq_true_iff, decide_eq_true_iff]
  rcases hb with hb | hb
  · exact .inr (List.length_pos_of_mem ((mem_amongS l s x).2 ⟨h, hb⟩))
  · exact .inl (List.length_pos_of_mem ((mem_bothS l o x).2 ⟨h, of_decide_eq_true hb⟩))
theorem both_among (l : List Str) (s : List Sp) : bothS (amongS l s) l = amongS l s :=
  (rise_bothS _ _).ext (rise_amongS l s) fun x => by rw [mem_bothS, mem_amongS]; exact ⟨fun h => h.1, fun h => ⟨h, h.1⟩⟩
theorem meets_len (l o : List Str) (s : List Sp) : meetsB l o s = decide (0 < (bothS l o).length + (amongS l s).length) := by
  unfold meetsB
  rw [Bool.eq_iff_iff]
  simp
  omega

set_option maxRecDepth 100000 in
set_option maxHeartbeats 16000000 in
theorem lawKeysMet_any {W : World} (A : Option Addr) (c : Nat) (l : List Str) (hA : Bsl A l.length c) (hxl : ∀ x ∈ l, x.length ≤ maxLen) (hrl : Rd W A (tsC l))
    (A' : Option Addr) (c' : Nat) (o : List Str) (hA' : Bsl A' o.length c') (hxo : ∀ x ∈ o, x.length ≤ maxLen) (hro : Rd W A' (tsC o))
    (A2 : Option Addr) (c2 : Nat) (s : List Sp) (hA2 : Bsl A2 s.length c2) (hrs : Rd W A2 (spC s)) (which : Int) :
    Calls Try.prog 7 #[.slice A l.length c, .slice A' o.length c', .slice A2 s.length c2, .int .i64 which] W fun e w' => e = .returned (.bool true) ∧ Sat W w' [] := by
  have HLA := Lib.hid (Nat.le_trans hA.le hA.max)
  have HLB := Lib.hid (Nat.le_trans hA'.le hA'.max)
  have HLS := Lib.hid (Nat.le_trans hA2.le hA2.max)
  have HXA := Lib.hid hxl
  have HXB := Lib.hid hxo
  have RL : ∀ L, RdL W L A (tsC l) := fun L w h => hrl.old h
  have RO : ∀ L, RdL W L A' (tsC o) := fun L w h => hro.old h
  have RS : ∀ L, RdL W L A2 (spC s) := fun L w h => hrs.old h
  clear hA hA' hA2 hxl hxo
  go_enter Try.func7, Try.ntmps7
  go_wp2_with fail
  refine (eawake_any (Sat.start W)).mono ?_
  rintro e w1 ⟨rfl, H1⟩
  have HLK := Lib.hid (LongKeys_any A c l 100 (by omega) HLA.out (RL _ _ H1))
  have HLK2 := Lib.hid (LongKeys_any A' c' o 100 (by omega) HLB.out (RO _ _ H1))
  have HLK3 := Lib.hid (LongSpans_any A2 c2 s 60 (by omega) HLS.out (RS _ _ H1))
  cases hb : longK l 100 with
  | true =>
    rw [hb] at HLK
    go_wp2_with fail
    refine HLK.out.mono ?_
    rintro e _ ⟨rfl, rfl⟩
    go_wp2
    go_ret
    exact ⟨rfl, H1⟩
  | false =>
  rw [hb] at HLK
  have hnl := (longK_no hb).1
  clear hb
  cases hb : longK o 100 with
  | true =>
    rw [hb] at HLK2
    go_wp2_with fail
    refine HLK.out.mono ?_
    rintro e _ ⟨rfl, rfl⟩
    go_wp2_with fail
    refine HLK2.out.mono ?_
    rintro e _ ⟨rfl, rfl⟩
    go_wp2
    go_ret
    exact ⟨rfl, H1⟩
  | false =>
  rw [hb] at HLK2
  have hno := (longK_no hb).1
  clear hb
  cases hb : longS s 60 with
  | true =>
    rw [hb] at HLK3
    go_wp2_with fail
    refine HLK.out.mono ?_
    rintro e _ ⟨rfl, rfl⟩
    go_wp2_with fail
    refine HLK2.out.mono ?_
    rintro e _ ⟨rfl, rfl⟩
    go_wp2_with fail
    refine HLK3.out.mono ?_
    rintro e _ ⟨rfl, rfl⟩
    go_wp2
    go_ret
    exact ⟨rfl, H1⟩
  | false =>
  rw [hb] at HLK3
  clear hb
  go_wp2_with fail
  refine HLK.out.mono ?_
  rintro e _ ⟨rfl, rfl⟩
  go_wp2_with fail
  refine HLK2.out.mono ?_
  rintro e _ ⟨rfl, rfl⟩
  go_wp2_with fail
  refine HLK3.out.mono ?_
  rintro e _ ⟨rfl, rfl⟩
  clear HLK HLK2 HLK3
  have hin := among_len l s
  have hbo := both_len l o
  have HA := Lib.hid (eAmong_any A A2 c c2 l s (by omega) HXA.out HLS.out (RL _) (RS _) H1)
  have HM := Lib.hid (fun (w0 : World) (L : List SL) (h : Sat W w0 L) => eMeets_any A A' A2 c c' c2 l o s (by omega) HXA.out (by omega) HXB.out HLS.out (RL L) (RO L) (RS L) h)
  have HB := Lib.hid (fun (w0 : World) (L : List SL) (h : Sat W w0 L) => eBoth_any A A' c c' l o (by omega) (by omega) HXA.out HXB.out (RL L) (RO L) h)
  have hck := fun (w0 : World) (A0 : Option Addr) (c0 : Nat) (r : Rd w0 A0 (tsC (amongS l s))) => eCheck_any A0 c0 (amongS l s) (by unfold maxLen; omega) r
  rw [(rise_amongS l s).check] at hck
  have HCK := Lib.hid hck
  have hxi : ∀ x ∈ amongS l s, x.length ≤ maxLen := fun x h => HXA.out x ((mem_amongS l s x).1 h).1
  have HXI := Lib.hid hxi
  have HSP := Lib.hid (fun (w0 : World) (L : List SL) (x : Str) (h : Sat W w0 L) => sHas_any x A2 c2 s HLS.out (RS L) h)
  have HHI := Lib.hid (fun (w0 : World) (A0 : Option Addr) (c0 : Nat) (x : Str) (r : Rd w0 A0 (tsC (amongS l s))) => eHas_any A0 c0 (amongS l s) x (by unfold maxLen; omega) r)
  have HHO := Lib.hid (fun (w0 : World) (x : Str) (r : Rd w0 A' (tsC o)) => eHas_any A' c' o x HLB.out r)
  have hbi := fun (w0 : World) (L : List SL) (A0 : Option Addr) (c0 : Nat) (r : RdL W L A0 (tsC (amongS l s))) (h : Sat W w0 L) => eBoth_any A0 A c0 c (amongS l s) l (by omega) (by omega) HXI.out HXA.out r (RL L) h
  rw [both_among] at hbi
  have HBI := Lib.hid hbi
  have hsm := fun (w0 : World) (A0 A1 : Option Addr) (c0 c1 : Nat) (r : Rd w0 A0 (tsC (amongS l s))) (r1 : Rd w0 A1 (tsC (amongS l s))) => SameTexts_any A0 A1 c0 c1 (amongS l s) (amongS l s) (by unfold maxLen; omega) r r1
  rw [decide_eq_true (show amongS l s = amongS l s from rfl)] at hsm
  have HSM := Lib.hid hsm
  have HF1 := Lib.hid (fun x (h : x ∈ l) => hasK_among l s x h)
  have HF2 := Lib.hid (fun x (h : x ∈ l) (hb : hasSp s x = true ∨ hasK o x = true) => meets_of_has l o s x h hb)
  have hml := meets_len l o s
  clear hck hxi hbi hsm HXI
  generalize amongS l s = am at *
  generalize bothS l o = bo at *
  go_wp2_with fail
  refine HA.out.mono ?_
  rintro e w2 ⟨A3, c3, rfl, H2⟩
  clear HA H1
  cases hm : meetsB l o s with
  | true =>
    rw [hm] at HM HF2 hml
    have hg : (0 : Int) < (bo.length : Int) + (am.length : Int) := by have := of_decide_eq_true hml.symm; omega
    clear hm hml
    go_wp2_with fail
    refine (HM.out _ _ H2).mono ?_
    rintro e w3 ⟨rfl, H3⟩
    go_wp2_with fail
    refine (HB.out _ _ H3).mono ?_
    rintro e w4 ⟨A4, c4, rfl, H4⟩
    clear H2 H3
    go_wp2_with fail
    refine (HCK.out _ _ _ H4.tail.seen_rd).mono ?_
    rintro e w5 ⟨rfl, hB⟩
    have H5 := (H4.below hB).tail
    clear H4 HB
    by_cases h0 : l.length = 0
    · have h1 : am.length = 0 := by omega
      exfalso; omega
    · have e1 : ((l.length : Int) == 0) = false := beq_eq_false_iff_ne.2 (by omega)
      have HP := Lib.hid (kPick_any which l.length ⟨by omega, by omega⟩ w5)
      go_wp2_with fail
      refine HP.out.mono ?_
      rintro e _ ⟨⟨t, ht, rfl⟩, rfl⟩
      clear HP
      obtain ⟨x, hx⟩ : ∃ x, l[t]? = some x := ⟨_, List.getElem?_eq_getElem ht⟩
      have hxm := List.mem_of_getElem? hx
      obtain ⟨b, o', rfl, hc⟩ := ts_at (RL _ _ H5) t x hx
      have HS5 := Lib.hid (HSP.out _ _ x H5)
      have hf1 := HF1.out x hxm
      have HI5 := Lib.hid (fun w0 r => HHI.out w0 A3 c3 x r)
      rw [hf1] at HI5
      have HO5 := Lib.hid (fun w0 r => HHO.out w0 x r)
      clear hf1 hxm hx HF1 HF2
      go_wp2_with fail
      refine HS5.out.mono ?_
      rintro e w6 ⟨rfl, H6⟩
      clear HS5 H5
      generalize hasSp s x = th at *
      go_wp2_with fail
      refine (HI5.out _ H6.seen_rd).mono ?_
      rintro e _ ⟨rfl, rfl⟩
      clear HI5
      have ht : (th == th) = true := by cases th <;> rfl
      cases th with
      | true =>
        go_wp2_with fail
        refine (HM.out _ _ H6).mono ?_
        rintro e w7 ⟨rfl, H7⟩
        go_wp2_with fail
        refine (HBI.out _ _ A3 c3 RdL.seenS H7).mono ?_
        rintro e w8 ⟨A8, c8, rfl, H8⟩
        go_wp2_with fail
        refine (HSM.out _ A8 A3 c8 c3 H8.rd H8.tail.seen_rd).mono ?_
        rintro e w9 ⟨rfl, hB⟩
        have H9 := H8.below hB
        go_wp2
        go_ret
        exact ⟨rfl, H9.tail.tail⟩
      | false =>
        go_wp2_with fail
        refine (HO5.out _ (RO _ _ H6)).mono ?_
        rintro e _ ⟨rfl, rfl⟩
        clear HO5
        cases hk : hasK o x with
        | true =>
          clear hk
          go_wp2_with fail
          refine (HM.out _ _ H6).mono ?_
          rintro e w7 ⟨rfl, H7⟩
          go_wp2_with fail
          refine (HBI.out _ _ A3 c3 RdL.seenS H7).mono ?_
          rintro e w8 ⟨A8, c8, rfl, H8⟩
          go_wp2_with fail
          refine (HSM.out _ A8 A3 c8 c3 H8.rd H8.tail.seen_rd).mono ?_
          rintro e w9 ⟨rfl, hB⟩
          have H9 := H8.below hB
          go_wp2
          go_ret
          exact ⟨rfl, H9.tail.tail⟩
        | false =>
          clear hk
          go_wp2_with fail
          refine (HBI.out _ _ A3 c3 RdL.seenS H6).mono ?_
          rintro e w8 ⟨A8, c8, rfl, H8⟩
          go_wp2_with fail
          refine (HSM.out _ A8 A3 c8 c3 H8.rd H8.tail.seen_rd).mono ?_
          rintro e w9 ⟨rfl, hB⟩
          have H9 := H8.below hB
          go_wp2
          go_ret
          exact ⟨rfl, H9.tail.tail⟩
  | false =>
    rw [hm] at HM HF2 hml
    have hg0 : bo.length = 0 ∧ am.length = 0 := by have := of_decide_eq_false hml.symm; omega
    have hg : ¬ (0 : Int) < (bo.length : Int) + (am.length : Int) := by omega
    have HG0 := Lib.hid hg0
    clear hm hml hg0
    go_wp2_with fail
    refine (HM.out _ _ H2).mono ?_
    rintro e w3 ⟨rfl, H3⟩
    go_wp2_with fail
    refine (HB.out _ _ H3).mono ?_
    rintro e w4 ⟨A4, c4, rfl, H4⟩
    clear H2 H3
    go_wp2_with fail
    refine (HCK.out _ _ _ H4.tail.seen_rd).mono ?_
    rintro e w5 ⟨rfl, hB⟩
    have H5 := (H4.below hB).tail
    clear H4 HB
    by_cases h0 : l.length = 0
    · have e1 : ((l.length : Int) == 0) = true := by simp [h0]
      have e2 : ((am.length : Int) == 0) = true := by simp [HG0.out.2]
      clear h0
      go_wp2
      go_ret
      exact ⟨rfl, H5.tail⟩
    · have e1 : ((l.length : Int) == 0) = false := beq_eq_false_iff_ne.2 (by omega)
      have HP := Lib.hid (kPick_any which l.length ⟨by omega, by omega⟩ w5)
      go_wp2_with fail
      refine HP.out.mono ?_
      rintro e _ ⟨⟨t, ht, rfl⟩, rfl⟩
      clear HP
      obtain ⟨x, hx⟩ : ∃ x, l[t]? = some x := ⟨_, List.getElem?_eq_getElem ht⟩
      have hxm := List.mem_of_getElem? hx
      obtain ⟨b, o', rfl, hc⟩ := ts_at (RL _ _ H5) t x hx
      have HS5 := Lib.hid (HSP.out _ _ x H5)
      have hf1 := HF1.out x hxm
      have hth : hasSp s x = false := by
        cases h : hasSp s x with
        | true => exact absurd (HF2.out x hxm (.inl h)) (by simp)
        | false => rfl
      have hko : hasK o x = false := by
        cases h : hasK o x with
        | true => exact absurd (HF2.out x hxm (.inr h)) (by simp)
        | false => rfl
      have HI5 := Lib.hid (fun w0 r => HHI.out w0 A3 c3 x r)
      rw [hf1, hth] at HI5
      rw [hth] at HS5
      have HO5 := Lib.hid (fun w0 r => HHO.out w0 x r)
      rw [hko] at HO5
      clear hf1 hxm hx HF1 HF2 hth hko
      go_wp2_with fail
      refine HS5.out.mono ?_
      rintro e w6 ⟨rfl, H6⟩
      clear HS5 H5
      go_wp2_with fail
      refine (HI5.out _ H6.seen_rd).mono ?_
      rintro e _ ⟨rfl, rfl⟩
      clear HI5
      go_wp2_with fail
      refine (HO5.out _ (RO _ _ H6)).mono ?_
      rintro e _ ⟨rfl, rfl⟩
      clear HO5
      go_wp2_with fail
      refine (HBI.out _ _ A3 c3 RdL.seenS H6).mono ?_
      rintro e w8 ⟨A8, c8, rfl, H8⟩
      go_wp2_with fail
      refine (HSM.out _ A8 A3 c8 c3 H8.rd H8.tail.seen_rd).mono ?_
      rintro e w9 ⟨rfl, hB⟩
      have H9 := H8.below hB
      go_wp2
      go_ret
      exact ⟨rfl, H9.tail.tail⟩
end Go.Proofs.Ytnpgjobaibnknaa
