/- CellTurns answers true. -/
import Derived.Test.YtnpgjobaibnknaaKeQ
namespace Go.Proofs.Ytnpgjobaibnknaa
open Go.RowKit Go.Rt

set_option maxRecDepth 100000 in
set_option maxHeartbeats 16000000 in
theorem lawCellTurns_any {W : World} (A : Option Addr) (c : Nat) (a : List Pr) (hA : Bsl A a.length c) (hra : Rd W A (prC a)) (A' : Option Addr) (c' : Nat) (b : List Pr) (hA' : Bsl A' b.length c') (hrb : Rd W A' (prC b))
    (Aw : Option Addr) (cw : Nat) (ws : List Wt) (hAw : Bsl Aw ws.length cw) (hrw : Rd W Aw (wtC ws)) :
    Calls Try.prog 12 #[.slice A a.length c, .slice A' b.length c', .slice Aw ws.length cw] W fun e w' => e = .returned (.bool true) ∧ Sat W w' [] := by
  have HLA := Lib.hid (Nat.le_trans hA.le hA.max)
  have HLB := Lib.hid (Nat.le_trans hA'.le hA'.max)
  have HLW := Lib.hid (Nat.le_trans hAw.le hAw.max)
  have hac := hA.le
  have hbc := hA'.le
  clear hA hA' hAw
  have H0 := Sat.start W
  have RA : ∀ L, RdL W L A (prC a) := fun L w h => hra.old h
  have RB : ∀ L, RdL W L A' (prC b) := fun L w h => hrb.old h
  have RW : ∀ L, RdL W L Aw (wtC ws) := fun L w h => hrw.old h
  have HLK := Lib.hid (LongPairs_any A c a 100 (by omega) HLA.out (RA _ _ H0))
  have HLK2 := Lib.hid (LongPairs_any A' c' b 100 (by omega) HLB.out (RB _ _ H0))
  have HLK3 := Lib.hid (LongWrites_any Aw cw ws 60 (by omega) HLW.out (RW _ _ H0))
  go_enter Try.func12, Try.ntmps12
  cases hb : longPr a 100 with
  | true =>
    rw [hb] at HLK
    go_wp2_with fail
    refine (HLK.out).mono ?_
    rintro e _ ⟨rfl, rfl⟩
    go_wp2
    go_ret
    exact ⟨rfl, H0⟩
  | false =>
  rw [hb] at HLK
  have hna := (longPr_no hb).1
  clear hb
  cases hb : longPr b 100 with
  | true =>
    rw [hb] at HLK2
    go_wp2_with fail
    refine (HLK.out).mono ?_
    rintro e _ ⟨rfl, rfl⟩
    go_wp2_with fail
    refine (HLK2.out).mono ?_
    rintro e _ ⟨rfl, rfl⟩
    go_wp2
    go_ret
    exact ⟨rfl, H0⟩
  | false =>
  rw [hb] at HLK2
  have hnb := (longPr_no hb).1
  clear hb
  cases hb : longWt ws 60 with
  | true =>
    rw [hb] at HLK3
    go_wp2_with fail
    refine (HLK.out).mono ?_
    rintro e _ ⟨rfl, rfl⟩
    go_wp2_with fail
    refine (HLK2.out).mono ?_
    rintro e _ ⟨rfl, rfl⟩
    go_wp2_with fail
    refine (HLK3.out).mono ?_
    rintro e _ ⟨rfl, rfl⟩
    go_wp2
    go_ret
    exact ⟨rfl, H0⟩
  | false =>
  rw [hb] at HLK3
  obtain ⟨hnw, hxw⟩ := longWt_no hb
  clear hb
  go_wp2_with fail
  refine (HLK.out).mono ?_
  rintro e _ ⟨rfl, rfl⟩
  go_wp2_with fail
  refine (HLK2.out).mono ?_
  rintro e _ ⟨rfl, rfl⟩
  go_wp2_with fail
  refine (HLK3.out).mono ?_
  rintro e _ ⟨rfl, rfl⟩
  clear HLK HLK2 HLK3
  go_wp2_with fail
  refine (CopyPairs_any A c a (by omega) (RA _ _ H0) H0).mono ?_
  rintro e w1 ⟨A1, c1, rfl, H1⟩
  clear H0
  obtain ⟨_, _, _, hv, hc1, _⟩ := H1.slice
  cases hv
  have hkw : ∀ x ∈ ws, x.k.length ≤ maxLen := fun x hx => by have := (hxw x hx).1; unfold maxLen; omega
  generalize hae : applyE a ws = ae
  have ha1 := fun w0 L (r : RdL W L A1 (prC a)) (h : Sat W w0 L) => cApply_any A1 Aw c1 cw a ws HLA.out (by omega) hkw r (RW L) h
  have ha2 := fun w0 L (h : Sat W w0 L) => qApply_any A Aw c cw a ws HLA.out (by omega) (RA L) (RW L) h
  have hal := applyE_len a ws
  rw [hae] at ha1 ha2 hal
  have hc5 : changedE a b = (diffE a b).map Wt.k := rfl
  have hdl := diffE_len a b
  have hcl : (changedE a b).length = (diffE a b).length := changed_len a b
  have hd1 := fun w0 L (r : RdL W L A1 (prC a)) (h : Sat W w0 L) => cDiff_any A1 A' c1 c' a b HLA.out HLB.out hc1 hbc r (RB L) h
  have hd2 := fun w0 L (h : Sat W w0 L) => qDiff_any A A' c c' a b HLA.out HLB.out (RA L) (RB L) h
  have hc3 := fun w0 L (r : RdL W L A1 (prC a)) (h : Sat W w0 L) => cChanged_any A1 A' c1 c' a b HLA.out HLB.out hc1 hbc r (RB L) h
  have hc4 := fun w0 L (h : Sat W w0 L) => qChanged_any A A' c c' a b HLA.out HLB.out (RA L) (RB L) h
  generalize changedE a b = ch at *
  generalize diffE a b = ds at *
  clear hc5
  have HA1 := Lib.hid (ha1)
  have HA2 := Lib.hid (ha2)
  have HD1 := Lib.hid (hd1)
  have HD2 := Lib.hid (hd2)
  have HC3 := Lib.hid (hc3)
  have HC4 := Lib.hid (hc4)
  have hx := fun w0 L (r : Rd w0 A1 (prC a)) (h : Sat W w0 L) => SamePairs_any A1 A c1 c a a HLA.out r (RA L _ h)
  rw [decide_eq_true (show a = a from rfl)] at hx
  have HX := Lib.hid (hx)
  obtain ⟨sa, ac⟩ := ae
  dsimp only at HA1 HA2 hal
  have hy := fun w0 (A2 A3 : Option Addr) c2 c3 (r2 : Rd w0 A2 (prC sa)) (r3 : Rd w0 A3 (prC sa)) => SamePairs_any A2 A3 c2 c3 sa sa (by unfold maxLen; omega) r2 r3
  rw [decide_eq_true (show sa = sa from rfl)] at hy
  have HY := Lib.hid (hy)
  have hz := fun w0 (A2 A3 : Option Addr) c2 c3 (r2 : Rd w0 A2 (wtC ds)) (r3 : Rd w0 A3 (wtC ds)) => SameWrites_any A2 A3 c2 c3 ds ds (by unfold maxLen; omega) r2 r3
  rw [decide_eq_true (show ds = ds from rfl)] at hz
  have HZ := Lib.hid (hz)
  have ht := fun w0 (A2 A3 : Option Addr) c2 c3 (r2 : Rd w0 A2 (tsC ch)) (r3 : Rd w0 A3 (tsC ch)) => SameTexts_any A2 A3 c2 c3 ch ch (by unfold maxLen; omega) r2 r3
  rw [decide_eq_true (show ch = ch from rfl)] at ht
  have HT := Lib.hid (ht)
  clear hcl hdl ha1 ha2 hae hd1 hd2 hc3 hc4 hx hy hz ht hkw hxw
  have e1 : (ac == ac) = true := by simp
  go_wp2_with fail
  refine (HA1.out _ _ RdL.row H1).mono ?_
  rintro e w2 ⟨A2, c2, rfl, H2⟩
  clear H1
  go_wp2_with fail
  refine (HA2.out _ _ H2).mono ?_
  rintro e w3 ⟨A3, c3, rfl, H3⟩
  clear H2
  go_wp2_with fail
  refine (HY.out _ A2 A3 c2 c3 H3.tail.rd H3.rd).mono ?_
  rintro e w4 ⟨rfl, hB4⟩
  have H4 := (H3.below hB4).tail
  clear H3
  go_wp2_with fail
  refine (OverPairs_any A2 sa.length c2 _ H4).mono ?_
  rintro e w5 ⟨rfl, H5⟩
  clear H4
  go_wp2_with fail
  refine (HD1.out _ _ RdL.row H5).mono ?_
  rintro e w6 ⟨A6, c6, rfl, H6⟩
  clear H5
  go_wp2_with fail
  refine (HC3.out _ _ (RdL.tail RdL.row) H6).mono ?_
  rintro e w7 ⟨A7, c7, rfl, H7⟩
  clear H6
  go_wp2_with fail
  refine (HD2.out _ _ H7).mono ?_
  rintro e w8 ⟨A8, c8, rfl, H8⟩
  clear H7
  go_wp2_with fail
  refine (HZ.out _ A6 A8 c6 c8 H8.tail.tail.rd H8.rd).mono ?_
  rintro e w9 ⟨rfl, hB9⟩
  have H9 := (H8.below hB9).tail
  clear H8
  go_wp2_with fail
  refine (HC4.out _ _ H9).mono ?_
  rintro e w10 ⟨A10, c10, rfl, H10⟩
  clear H9
  go_wp2_with fail
  refine (HT.out _ A7 A10 c7 c10 H10.tail.new_rd H10.new_rd).mono ?_
  rintro e w11 ⟨rfl, hB11⟩
  have H11 := (H10.below hB11).tail.tail
  clear H10
  go_wp2_with fail
  refine (OverWrites_any A6 ds.length c6 _ H11).mono ?_
  rintro e w12 ⟨rfl, H12⟩
  clear H11
  go_wp2_with fail
  refine (HX.out _ _ H12.rd H12).mono ?_
  rintro e w13 ⟨rfl, hB13⟩
  have H13 := H12.below hB13
  clear H12
  go_wp2_with fail
  refine (cawake_any H13).mono ?_
  rintro e w14 ⟨rfl, H14⟩
  go_wp2
  go_ret
  exact ⟨rfl, H14.tail⟩
end Go.Proofs.Ytnpgjobaibnknaa
