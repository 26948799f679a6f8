/- KeysSets answers true. -/
import Derived.Test.YtnpgjobaibnknaaKfD
import Derived.Deep.RegionHeld3
namespace Go.Proofs.Ytnpgjobaibnknaa
open Go.RowKit Go.Rt

theorem texts_sort {l : List Str} {m : Nat} (h : ∀ x ∈ l, x.length ≤ m) : ∀ x ∈ sortS l, x.length ≤ m := fun x hx => h x ((mem_sortS l x).1 hx)
theorem texts_union {a b : List Str} {m : Nat} (h : ∀ x ∈ a, x.length ≤ m) (h' : ∀ x ∈ b, x.length ≤ m) : ∀ x ∈ unionS a b, x.length ≤ m := fun x hx => by
  rcases (mem_unionS a b x).1 hx with h1 | h1
  · exact h x h1
  · exact h' x h1
theorem texts_minus {a b : List Str} {m : Nat} (h : ∀ x ∈ a, x.length ≤ m) : ∀ x ∈ minusS a b, x.length ≤ m := fun x hx => h x ((mem_minusS a b x).1 hx).1
theorem texts_both {a b : List Str} {m : Nat} (h : ∀ x ∈ a, x.length ≤ m) : ∀ x ∈ bothS a b, x.length ≤ m := fun x hx => h x ((mem_bothS a b x).1 hx).1

set_option maxRecDepth 100000 in
set_option maxHeartbeats 16000000 in
theorem lawKeysSets_any {W : World} (A : Option Addr) (c : Nat) (a : List Str) (hA : Bsl A a.length c) (hra : Rd W A (tsC a))
    (A' : Option Addr) (c' : Nat) (b : List Str) (hA' : Bsl A' b.length c') (hrb : Rd W A' (tsC b)) (k : Str) :
    Calls Try.prog 4 #[.slice A a.length c, .slice A' b.length c', .string ⟨k.toArray⟩] W fun e w' => e = .returned (.bool true) ∧ Sat W w' [] := by
  have HLA := Lib.hid (Nat.le_trans hA.le hA.max)
  have HLB := Lib.hid (Nat.le_trans hA'.le hA'.max)
  clear hA hA'
  have H0 := Sat.start W
  have HLK := Lib.hid (LongKeys_any A c a 100 (by omega) HLA.out (hra.old H0))
  have HLK2 := Lib.hid (LongKeys_any A' c' b 100 (by omega) HLB.out (hrb.old H0))
  go_enter Try.func4, Try.ntmps4
  cases hb : longK a 100 with
  | true =>
    rw [hb] at HLK
    go_wp2_with fail
    refine (HLK.out).mono ?_
    rintro e _ ⟨rfl, rfl⟩
    go_wp2
    go_ret
    exact ⟨rfl, H0⟩
  | false =>
  rw [hb] at HLK
  obtain ⟨hna, hxa⟩ := longK_no hb
  have HXA := Lib.hid (hxa)
  clear hb hxa
  cases hb : longK b 100 with
  | true =>
    rw [hb] at HLK2
    go_wp2_with fail
    refine (HLK.out).mono ?_
    rintro e _ ⟨rfl, rfl⟩
    go_wp2_with fail
    refine (HLK2.out).mono ?_
    rintro e _ ⟨rfl, rfl⟩
    go_wp2
    go_ret
    exact ⟨rfl, H0⟩
  | false =>
  rw [hb] at HLK2
  obtain ⟨hnb, hxb⟩ := longK_no hb
  have HXB := Lib.hid (hxb)
  clear hb hxb
  by_cases hk : 100 < k.length
  · have hk2 : (100 : Int) < (k.length : Int) := by omega
    go_wp2_with fail
    refine (HLK.out).mono ?_
    rintro e _ ⟨rfl, rfl⟩
    go_wp2_with fail
    refine (HLK2.out).mono ?_
    rintro e _ ⟨rfl, rfl⟩
    go_wp2
    go_ret
    exact ⟨rfl, H0⟩
  have hk2 : decide ((100 : Int) < (k.length : Int)) = false := decide_eq_false (by omega)
  have hk3 : k.length ≤ 100 := by omega
  have HM := Lib.hid (fun (l : List Str) (h : ∀ x ∈ l, x.length ≤ 100) => (fun x hx => by have := h x hx; unfold maxLen; omega : ∀ x ∈ l, x.length ≤ maxLen))
  have HMM := Lib.hid (fun (l : List Str) (h : ∀ x ∈ l, x.length ≤ 100) => (fun x hx => by have := h x hx; omega : ∀ x ∈ l, x.length ≤ 1000000))
  have HCA := Lib.hid (fun w0 L (h : Sat W w0 L) => CopyTexts_any A c a (by omega) (hra.old h) h)
  have HCB := Lib.hid (fun w0 L (h : Sat W w0 L) => CopyTexts_any A' c' b (by omega) (hrb.old h) h)
  go_wp2_with fail
  refine (HLK.out).mono ?_
  rintro e _ ⟨rfl, rfl⟩
  go_wp2_with fail
  refine (HLK2.out).mono ?_
  rintro e _ ⟨rfl, rfl⟩
  clear HLK HLK2 hk hk2
  go_wp2_with fail
  refine (HCA.out _ _ H0).mono ?_
  rintro e w1 ⟨Ax, cx, rfl, H1⟩
  go_wp2_with fail
  refine (HCB.out _ _ H1).mono ?_
  rintro e w2 ⟨Ay, cy, rfl, H2⟩
  clear HCA HCB H1 H0
  have HRX := Lib.hid ((RdL.tail RdL.row : RdL W (row 9 zS (.slice Ay b.length cy) b.length (tsC b) :: [row 9 zS (.slice Ax a.length cx) a.length (tsC a)]) Ax (tsC a)))
  have HRY := Lib.hid ((RdL.row : RdL W (row 9 zS (.slice Ay b.length cy) b.length (tsC b) :: [row 9 zS (.slice Ax a.length cx) a.length (tsC a)]) Ay (tsC b)))
  obtain ⟨X, hX⟩ : ∃ X, row 9 zS (.slice Ay b.length cy) b.length (tsC b) :: [row 9 zS (.slice Ax a.length cx) a.length (tsC a)] = X := ⟨_, rfl⟩
  rw [hX] at H2 HRX HRY
  clear hX
  go_wp2_with fail
  refine (eSort_sat Ax cx a (by omega) (HM.out _ HXA.out) (HRX.out _ H2) H2).mono ?_
  rintro e w3 ⟨A0, c0, rfl, H3⟩
  clear H2
  go_wp2_with fail
  refine (eUnion_any Ax Ay cx cy a b (by omega) (by omega) (HM.out _ HXA.out) (HM.out _ HXB.out) HRX.out.tail HRY.out.tail H3).mono ?_
  rintro e w4 ⟨A1, c1, rfl, H4⟩
  clear H3
  go_wp2_with fail
  refine (eMinus_any Ax Ay cx cy a b (by omega) (by omega) (HM.out _ HXA.out) (HM.out _ HXB.out) HRX.out.tail.tail HRY.out.tail.tail H4).mono ?_
  rintro e w5 ⟨A2, c2, rfl, H5⟩
  clear H4
  go_wp2_with fail
  refine (eBoth_any Ax Ay cx cy a b (by omega) (by omega) (HM.out _ HXA.out) (HM.out _ HXB.out) HRX.out.tail.tail.tail HRY.out.tail.tail.tail H5).mono ?_
  rintro e w6 ⟨A3, c3, rfl, H6⟩
  clear H5
  have H7 := H6.alloc #[.slice A0 (sortS a).length c0, .slice A1 (unionS a b).length c1, .slice A2 (minusS a b).length c2, .slice A3 (bothS a b).length c3] 22
  clear H6
  go_wp2_with fail
  refine (hSort_any A c a (by omega) (RdL.old hra) H7).mono ?_
  rintro e w7 ⟨B0, d0, rfl, H8⟩
  clear H7
  go_wp2_with fail
  refine (hUnion_any A A' c c' a b (by omega) (by omega) (RdL.old hra) (RdL.old hrb) H8).mono ?_
  rintro e w8 ⟨B1, d1, rfl, H9⟩
  clear H8
  go_wp2_with fail
  refine (hMinus_any A A' c c' a b (by omega) (by unfold maxLen; omega) (RdL.old hra) (RdL.old hrb) H9).mono ?_
  rintro e w9 ⟨B2, d2, rfl, H10⟩
  clear H9
  go_wp2_with fail
  refine (hBoth_any A A' c c' a b (by omega) (by unfold maxLen; omega) (RdL.old hra) (RdL.old hrb) H10).mono ?_
  rintro e w10 ⟨B3, d3, rfl, H11⟩
  clear H10
  have H12 := H11.alloc #[.slice B0 (sortS a).length d0, .slice B1 (unionS a b).length d1, .slice B2 (minusS a b).length d2, .slice B3 (bothS a b).length d3] 22
  have hw := w10.heap.size
  have HT0 := Lib.hid (texts_sort HXA.out)
  have HT1 := Lib.hid (texts_union HXA.out HXB.out)
  have HT2 := Lib.hid (texts_minus (b := b) HXA.out)
  have HT3 := Lib.hid (texts_both (b := b) HXA.out)
  have hn0 := sortS_len a
  have hn1 := union_le a b
  have hn2 := minus_len a b
  have hn3 := both_len a b
  generalize sortS a = s0 at *
  generalize unionS a b = s1 at *
  generalize minusS a b = s2 at *
  generalize bothS a b = s3 at *
  go_wp2
  go_loopw [11] (fun i wc => ∃ j : Nat, j ≤ 4 ∧ i = .int .i64 j ∧ Sat W wc (pt w10.heap.size #[.slice B0 s0.length d0, .slice B1 s1.length d1, .slice B2 s2.length d2, .slice B3 s3.length d3] 22 :: seenS 9 (.slice B3 s3.length d3) s3.length (tsC s3) :: seenS 9 (.slice B2 s2.length d2) s2.length (tsC s2) :: seenS 9 (.slice B1 s1.length d1) s1.length (tsC s1) :: seenS 9 (.slice B0 s0.length d0) s0.length (tsC s0) :: pt w6.heap.size #[.slice A0 s0.length c0, .slice A1 s1.length c1, .slice A2 s2.length c2, .slice A3 s3.length c3] 22 ::
    (List.take (4 - j) [seenS 9 (.slice A3 s3.length c3) s3.length (tsC s3), seenS 9 (.slice A2 s2.length c2) s2.length (tsC s2), seenS 9 (.slice A1 s1.length c1) s1.length (tsC s1), seenS 9 (.slice A0 s0.length c0) s0.length (tsC s0)] ++ X))) (fun i _ => 4 - (intOf i).toNat)
  case atStart => exact ⟨0, by omega, rfl, H12⟩
  case round =>
    clear H11 H12
    obtain ⟨j, hj, rfl, H1⟩ := hrel
    rcases (show j = 0 ∨ j = 1 ∨ j = 2 ∨ j = 3 ∨ j = 4 by omega) with rfl | rfl | rfl | rfl | rfl
    · have e0 : wr.cell? ⟨w10.heap.size, 0, none⟩ = some (.slice B0 s0.length d0) := H1.cell 0
      have e1 : wr.cell? ⟨w6.heap.size, 0, none⟩ = some (.slice A0 s0.length c0) := (H1.pull 5).cell 0
      have rb : Rd wr.drew B0 (tsC s0) := Sat.new_rd (H1.drew.pull 4)
      have ra : Rd wr.drew A0 (tsC s0) := Sat.new_rd (H1.drew.pull 9)
      have hs := SameTexts_any A0 B0 c0 d0 s0 s0 (by unfold maxLen; omega) ra rb
      rw [decide_eq_true (show s0 = s0 from rfl)] at hs
      have HS := Lib.hid (hs)
      have HO := Lib.hid (fun w0 (L : List SL) h => OverTexts_any (W := W) (w := w0) (L := L) A0 c0 s0 (HMM.out _ HT0.out) h)
      clear hs ra rb
      go_wp2_with fail
      go_region_held3 (fun w' => w'.cell? ⟨w10.heap.size, 0, none⟩ = some (.slice B0 s0.length d0) ∧ w'.cell? ⟨w6.heap.size, 0, none⟩ = some (.slice A0 s0.length c0)) (exact ⟨‹_›, ‹_›⟩) (first
        | (go_at_call 19; refine HS.out.mono ?_; rintro e w11 ⟨rfl, hB⟩
           have e2 : w11.cell? ⟨w10.heap.size, 0, none⟩ = some (.slice B0 s0.length d0) := (H1.drew.below hB).cell 0
           have e3 : w11.cell? ⟨w6.heap.size, 0, none⟩ = some (.slice A0 s0.length c0) := ((H1.drew.below hB).pull 5).cell 0))
      have H2 := (H1.drew.below hB).pull 9
      clear HS H1 e0 e1
      go_wp2_with fail
      refine (HO.out _ _ H2).mono ?_
      rintro e w12 ⟨rfl, H3⟩
      go_wp2
      exact ⟨⟨0 + 1, by omega, by go_num, H3⟩, by simp [intOf]⟩
    · have e0 : wr.cell? ⟨w10.heap.size, 1, none⟩ = some (.slice B1 s1.length d1) := H1.cell 1
      have e1 : wr.cell? ⟨w6.heap.size, 1, none⟩ = some (.slice A1 s1.length c1) := (H1.pull 5).cell 1
      have rb : Rd wr.drew B1 (tsC s1) := Sat.new_rd (H1.drew.pull 3)
      have ra : Rd wr.drew A1 (tsC s1) := Sat.new_rd (H1.drew.pull 8)
      have hs := SameTexts_any A1 B1 c1 d1 s1 s1 (by unfold maxLen; omega) ra rb
      rw [decide_eq_true (show s1 = s1 from rfl)] at hs
      have HS := Lib.hid (hs)
      have HO := Lib.hid (fun w0 (L : List SL) h => OverTexts_any (W := W) (w := w0) (L := L) A1 c1 s1 (HMM.out _ HT1.out) h)
      clear hs ra rb
      go_wp2_with fail
      go_region_held3 (fun w' => w'.cell? ⟨w10.heap.size, 1, none⟩ = some (.slice B1 s1.length d1) ∧ w'.cell? ⟨w6.heap.size, 1, none⟩ = some (.slice A1 s1.length c1)) (exact ⟨‹_›, ‹_›⟩) (first
        | (go_at_call 19; refine HS.out.mono ?_; rintro e w11 ⟨rfl, hB⟩
           have e2 : w11.cell? ⟨w10.heap.size, 1, none⟩ = some (.slice B1 s1.length d1) := (H1.drew.below hB).cell 1
           have e3 : w11.cell? ⟨w6.heap.size, 1, none⟩ = some (.slice A1 s1.length c1) := ((H1.drew.below hB).pull 5).cell 1))
      have H2 := (H1.drew.below hB).pull 8
      clear HS H1 e0 e1
      go_wp2_with fail
      refine (HO.out _ _ H2).mono ?_
      rintro e w12 ⟨rfl, H3⟩
      go_wp2
      exact ⟨⟨1 + 1, by omega, by go_num, H3⟩, by simp [intOf]⟩
    · have e0 : wr.cell? ⟨w10.heap.size, 2, none⟩ = some (.slice B2 s2.length d2) := H1.cell 2
      have e1 : wr.cell? ⟨w6.heap.size, 2, none⟩ = some (.slice A2 s2.length c2) := (H1.pull 5).cell 2
      have rb : Rd wr.drew B2 (tsC s2) := Sat.new_rd (H1.drew.pull 2)
      have ra : Rd wr.drew A2 (tsC s2) := Sat.new_rd (H1.drew.pull 7)
      have hs := SameTexts_any A2 B2 c2 d2 s2 s2 (by unfold maxLen; omega) ra rb
      rw [decide_eq_true (show s2 = s2 from rfl)] at hs
      have HS := Lib.hid (hs)
      have HO := Lib.hid (fun w0 (L : List SL) h => OverTexts_any (W := W) (w := w0) (L := L) A2 c2 s2 (HMM.out _ HT2.out) h)
      clear hs ra rb
      go_wp2_with fail
      go_region_held3 (fun w' => w'.cell? ⟨w10.heap.size, 2, none⟩ = some (.slice B2 s2.length d2) ∧ w'.cell? ⟨w6.heap.size, 2, none⟩ = some (.slice A2 s2.length c2)) (exact ⟨‹_›, ‹_›⟩) (first
        | (go_at_call 19; refine HS.out.mono ?_; rintro e w11 ⟨rfl, hB⟩
           have e2 : w11.cell? ⟨w10.heap.size, 2, none⟩ = some (.slice B2 s2.length d2) := (H1.drew.below hB).cell 2
           have e3 : w11.cell? ⟨w6.heap.size, 2, none⟩ = some (.slice A2 s2.length c2) := ((H1.drew.below hB).pull 5).cell 2))
      have H2 := (H1.drew.below hB).pull 7
      clear HS H1 e0 e1
      go_wp2_with fail
      refine (HO.out _ _ H2).mono ?_
      rintro e w12 ⟨rfl, H3⟩
      go_wp2
      exact ⟨⟨2 + 1, by omega, by go_num, H3⟩, by simp [intOf]⟩
    · have e0 : wr.cell? ⟨w10.heap.size, 3, none⟩ = some (.slice B3 s3.length d3) := H1.cell 3
      have e1 : wr.cell? ⟨w6.heap.size, 3, none⟩ = some (.slice A3 s3.length c3) := (H1.pull 5).cell 3
      have rb : Rd wr.drew B3 (tsC s3) := Sat.new_rd (H1.drew.pull 1)
      have ra : Rd wr.drew A3 (tsC s3) := Sat.new_rd (H1.drew.pull 6)
      have hs := SameTexts_any A3 B3 c3 d3 s3 s3 (by unfold maxLen; omega) ra rb
      rw [decide_eq_true (show s3 = s3 from rfl)] at hs
      have HS := Lib.hid (hs)
      have HO := Lib.hid (fun w0 (L : List SL) h => OverTexts_any (W := W) (w := w0) (L := L) A3 c3 s3 (HMM.out _ HT3.out) h)
      clear hs ra rb
      go_wp2_with fail
      go_region_held3 (fun w' => w'.cell? ⟨w10.heap.size, 3, none⟩ = some (.slice B3 s3.length d3) ∧ w'.cell? ⟨w6.heap.size, 3, none⟩ = some (.slice A3 s3.length c3)) (exact ⟨‹_›, ‹_›⟩) (first
        | (go_at_call 19; refine HS.out.mono ?_; rintro e w11 ⟨rfl, hB⟩
           have e2 : w11.cell? ⟨w10.heap.size, 3, none⟩ = some (.slice B3 s3.length d3) := (H1.drew.below hB).cell 3
           have e3 : w11.cell? ⟨w6.heap.size, 3, none⟩ = some (.slice A3 s3.length c3) := ((H1.drew.below hB).pull 5).cell 3))
      have H2 := (H1.drew.below hB).pull 6
      clear HS H1 e0 e1
      go_wp2_with fail
      refine (HO.out _ _ H2).mono ?_
      rintro e w12 ⟨rfl, H3⟩
      go_wp2
      exact ⟨⟨3 + 1, by omega, by go_num, H3⟩, by simp [intOf]⟩
    · have H2 : Sat W wr (pt w10.heap.size #[.slice B0 s0.length d0, .slice B1 s1.length d1, .slice B2 s2.length d2, .slice B3 s3.length d3] 22 :: seenS 9 (.slice B3 s3.length d3) s3.length (tsC s3) :: seenS 9 (.slice B2 s2.length d2) s2.length (tsC s2) :: seenS 9 (.slice B1 s1.length d1) s1.length (tsC s1) :: seenS 9 (.slice B0 s0.length d0) s0.length (tsC s0) :: pt w6.heap.size #[.slice A0 s0.length c0, .slice A1 s1.length c1, .slice A2 s2.length c2, .slice A3 s3.length c3] 22 :: X) := H1
      have H3 := H2.tail.tail.tail.tail.tail.tail
      clear H1 H2
      have hx := fun w0 (h : Sat W w0 X) => SameTexts_any Ax A cx c a a (by unfold maxLen; omega) (HRX.out w0 h) (hra.old h)
      have hy := fun w0 (h : Sat W w0 X) => SameTexts_any Ay A' cy c' b b (by unfold maxLen; omega) (HRY.out w0 h) (hrb.old h)
      rw [decide_eq_true (show a = a from rfl)] at hx
      rw [decide_eq_true (show b = b from rfl)] at hy
      have HSX := Lib.hid (hx)
      have HSY := Lib.hid (hy)
      have HC1 := Lib.hid (fun w0 (h : Sat W w0 X) => eCheck_any A c a (by unfold maxLen; omega) (hra.old h))
      have HC2 := Lib.hid (fun w0 (h : Sat W w0 X) => hCheck_any A c a (by unfold maxLen; omega) (hra.old h))
      have HH1 := Lib.hid (fun w0 (h : Sat W w0 X) => eHas_any A c a k (by unfold maxLen; omega) (hra.old h))
      have HH2 := Lib.hid (fun w0 (h : Sat W w0 X) => hHas_any A c a k (by unfold maxLen; omega) (hra.old h))
      clear hx hy
      have q1 : (checkK a == checkK a) = true := by simp
      have q2 : (hasK a k == hasK a k) = true := by simp
      generalize checkK a = ca at *
      generalize hasK a k = ha at *
      go_wp2_with fail
      refine (HSX.out _ H3).mono ?_
      rintro e w13 ⟨rfl, hB⟩
      have H4 := H3.below hB
      clear H3 HSX
      go_wp2_with fail
      refine (HSY.out _ H4).mono ?_
      rintro e w14 ⟨rfl, hB4⟩
      have H5 := H4.below hB4
      clear H4 HSY
      go_wp2_with fail
      refine (HC1.out _ H5).mono ?_
      rintro e w15 ⟨rfl, hB5⟩
      have H6 := H5.below hB5
      clear H5 HC1
      go_wp2_with fail
      refine (HC2.out _ H6).mono ?_
      rintro e w16 ⟨rfl, hB6⟩
      have H7 := H6.below hB6
      clear H6 HC2
      go_wp2_with fail
      refine (HH1.out _ H7).mono ?_
      rintro e _ ⟨rfl, rfl⟩
      go_wp2_with fail
      refine (HH2.out _ H7).mono ?_
      rintro e _ ⟨rfl, rfl⟩
      go_wp2_with fail
      refine (eawake_any H7).mono ?_
      rintro e w17 ⟨rfl, H8⟩
      go_wp2
      go_ret
      refine ⟨rfl, ?_⟩
      exact ⟨H8.bel, H8.has.imp fun h hh => ⟨trivial, hh.2⟩⟩
end Go.Proofs.Ytnpgjobaibnknaa
