/- KeysMeets answers true. -/
import Derived.Test.YtnpgjobaibnknaaKlSets
namespace Go.Proofs.Ytnpgjobaibnknaa
open Go.RowKit Go.Rt

theorem texts_among {l : List Str} {s : List Sp} {m : Nat} (h : ∀ x ∈ l, x.length ≤ m) : ∀ x ∈ amongS l s, x.length ≤ m := fun x hx => h x ((mem_sortS l x).1 (List.mem_filter.1 hx).1)

set_option maxRecDepth 100000 in
set_option maxHeartbeats 16000000 in
theorem lawKeysMeets_any {W : World} (A : Option Addr) (c : Nat) (l : List Str) (hA : Bsl A l.length c) (hrl : Rd W A (tsC l))
    (A' : Option Addr) (c' : Nat) (o : List Str) (hA' : Bsl A' o.length c') (hro : Rd W A' (tsC o))
    (A2 : Option Addr) (c2 : Nat) (s : List Sp) (hA2 : Bsl A2 s.length c2) (hrs : Rd W A2 (spC s)) :
    Calls Try.prog 6 #[.slice A l.length c, .slice A' o.length c', .slice A2 s.length c2] W fun e w' => e = .returned (.bool true) ∧ Sat W w' [] := by
  have HLA := Lib.hid (Nat.le_trans hA.le hA.max)
  have HLB := Lib.hid (Nat.le_trans hA'.le hA'.max)
  have HLS := Lib.hid (Nat.le_trans hA2.le hA2.max)
  clear hA hA' hA2
  have H0 := Sat.start W
  have HLK := Lib.hid (LongKeys_any A c l 100 (by omega) HLA.out (hrl.old H0))
  have HLK2 := Lib.hid (LongKeys_any A' c' o 100 (by omega) HLB.out (hro.old H0))
  have HLK3 := Lib.hid (LongSpans_any A2 c2 s 60 (by omega) HLS.out (hrs.old H0))
  go_enter Try.func6, Try.ntmps6
  cases hb : longK l 100 with
  | true =>
    rw [hb] at HLK
    go_wp2_with fail
    refine (HLK.out).mono ?_
    rintro e _ ⟨rfl, rfl⟩
    go_wp2
    go_ret
    exact ⟨rfl, H0⟩
  | false =>
  rw [hb] at HLK
  obtain ⟨hna, hxa⟩ := longK_no hb
  have HXA := Lib.hid (hxa)
  clear hb hxa
  cases hb : longK o 100 with
  | true =>
    rw [hb] at HLK2
    go_wp2_with fail
    refine (HLK.out).mono ?_
    rintro e _ ⟨rfl, rfl⟩
    go_wp2_with fail
    refine (HLK2.out).mono ?_
    rintro e _ ⟨rfl, rfl⟩
    go_wp2
    go_ret
    exact ⟨rfl, H0⟩
  | false =>
  rw [hb] at HLK2
  obtain ⟨hnb, hxb⟩ := longK_no hb
  have HXB := Lib.hid (hxb)
  clear hb hxb
  cases hb : longS s 60 with
  | true =>
    rw [hb] at HLK3
    go_wp2_with fail
    refine (HLK.out).mono ?_
    rintro e _ ⟨rfl, rfl⟩
    go_wp2_with fail
    refine (HLK2.out).mono ?_
    rintro e _ ⟨rfl, rfl⟩
    go_wp2_with fail
    refine (HLK3.out).mono ?_
    rintro e _ ⟨rfl, rfl⟩
    go_wp2
    go_ret
    exact ⟨rfl, H0⟩
  | false =>
  rw [hb] at HLK3
  have hns := (longS_no hb).1
  clear hb
  have HM := Lib.hid (fun (l : List Str) (h : ∀ x ∈ l, x.length ≤ 100) => (fun x hx => by have := h x hx; unfold maxLen; omega : ∀ x ∈ l, x.length ≤ maxLen))
  have HMM := Lib.hid (fun (l : List Str) (h : ∀ x ∈ l, x.length ≤ 100) => (fun x hx => by have := h x hx; omega : ∀ x ∈ l, x.length ≤ 1000000))
  have HCA := Lib.hid (CopyTexts_any A c l (by omega) (hrl.old H0) H0)
  go_wp2_with fail
  refine (HLK.out).mono ?_
  rintro e _ ⟨rfl, rfl⟩
  go_wp2_with fail
  refine (HLK2.out).mono ?_
  rintro e _ ⟨rfl, rfl⟩
  go_wp2_with fail
  refine (HLK3.out).mono ?_
  rintro e _ ⟨rfl, rfl⟩
  clear HLK HLK2 HLK3
  go_wp2_with fail
  refine (HCA.out).mono ?_
  rintro e w1 ⟨Ax, cx, rfl, H1⟩
  clear HCA H0
  have RL : ∀ L, RdL W L A (tsC l) := fun L w h => hrl.old h
  have RO : ∀ L, RdL W L A' (tsC o) := fun L w h => hro.old h
  have RS : ∀ L, RdL W L A2 (spC s) := fun L w h => hrs.old h
  go_wp2_with fail
  refine (eAmong_any Ax A2 cx c2 l s (by omega) (HM.out _ HXA.out) HLS.out RdL.row (RS _) H1).mono ?_
  rintro e w2 ⟨A3, c3, rfl, H2⟩
  clear H1
  go_wp2_with fail
  refine (hAmong_any A A2 c c2 l s (by omega) HLS.out (RL _) (RS _) H2).mono ?_
  rintro e w3 ⟨A4, c4, rfl, H3⟩
  clear H2
  have hnm := among_len l s
  have HTM := Lib.hid (texts_among (s := s) HXA.out)
  generalize hgm : meetsB l o s = me
  have hm1 := fun w0 (L : List SL) (h : Sat W w0 L) => eMeets_any A A' A2 c c' c2 l o s (by omega) (HM.out _ HXA.out) (by omega) (HM.out _ HXB.out) HLS.out (RL L) (RO L) (RS L) h
  have hm2 := fun w0 (L : List SL) (h : Sat W w0 L) => hMeets_any A A' A2 c c' c2 l o s (by omega) (by unfold maxLen; omega) HLS.out (RL L) (RO L) (RS L) h
  rw [hgm] at hm1 hm2
  have HM1 := Lib.hid (hm1)
  have HM2 := Lib.hid (hm2)
  have hx := fun w0 (L : List SL) (r : Rd w0 Ax (tsC l)) (h : Sat W w0 L) => SameTexts_any Ax A cx c l l (by unfold maxLen; omega) r (hrl.old h)
  rw [decide_eq_true (show l = l from rfl)] at hx
  have HSX := Lib.hid (hx)
  clear hm1 hm2 hgm hx
  generalize amongS l s = am at *
  have hs := SameTexts_any A3 A4 c3 c4 am am (by unfold maxLen; omega) H3.tail.new_rd H3.new_rd
  rw [decide_eq_true (show am = am from rfl)] at hs
  go_wp2_with fail
  refine (hs).mono ?_
  rintro e w4 ⟨rfl, hB⟩
  have H4 := (H3.below hB).tail
  clear hs H3
  have ho := OverTexts_any (W := W) A3 c3 am (HMM.out _ HTM.out) H4
  go_wp2_with fail
  refine (ho).mono ?_
  rintro e w5 ⟨rfl, H5⟩
  clear ho H4
  go_wp2_with fail
  refine (HSX.out _ _ H5.rd H5).mono ?_
  rintro e w6 ⟨rfl, hB6⟩
  have H6 := H5.below hB6
  clear H5 HSX
  go_wp2_with fail
  refine (HM1.out _ _ H6).mono ?_
  rintro e w7 ⟨rfl, H7⟩
  clear H6 HM1
  go_wp2_with fail
  refine (HM2.out _ _ H7).mono ?_
  rintro e w8 ⟨rfl, H8⟩
  clear H7 HM2
  have q1 : (me == me) = true := by simp
  go_wp2_with fail
  refine (eawake_any H8).mono ?_
  rintro e w9 ⟨rfl, H9⟩
  go_wp2
  go_ret
  exact ⟨rfl, H9.tail⟩
end Go.Proofs.Ytnpgjobaibnknaa
