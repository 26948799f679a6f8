/- KeysParts answers true. -/
import Derived.Test.YtnpgjobaibnknaaKdG
namespace Go.Proofs.Ytnpgjobaibnknaa
open Go.RowKit Go.Rt

set_option maxRecDepth 100000 in
set_option maxHeartbeats 16000000 in
theorem lawKeysParts_any {W : World} (A : Option Addr) (c : Nat) (a : List Str) (hA : Bsl A a.length c) (hxa : ∀ x ∈ a, x.length ≤ maxLen) (hra : Rd W A (tsC a))
    (A' : Option Addr) (c' : Nat) (b : List Str) (hA' : Bsl A' b.length c') (hxb : ∀ x ∈ b, x.length ≤ maxLen) (hrb : Rd W A' (tsC b)) (k : Str) :
    Calls Try.prog 5 #[.slice A a.length c, .slice A' b.length c', .string ⟨k.toArray⟩] W fun e w' => e = .returned (.bool true) ∧ Sat W w' [] := by
  have HLA := Lib.hid (Nat.le_trans hA.le hA.max)
  have HLB := Lib.hid (Nat.le_trans hA'.le hA'.max)
  have HXA := Lib.hid hxa
  have HXB := Lib.hid hxb
  clear hA hA' hxa hxb
  go_enter Try.func5, Try.ntmps5
  go_wp2_with fail
  refine (eawake_any (Sat.start W)).mono ?_
  rintro e w1 ⟨rfl, H1⟩
  have hlk := LongKeys_any A c a 100 (by omega) HLA.out (hra.old H1)
  have hlk2 := LongKeys_any A' c' b 100 (by omega) HLB.out (hrb.old H1)
  have HLK := Lib.hid hlk
  have HLK2 := Lib.hid hlk2
  clear hlk hlk2
  cases hb : longK a 100 with
  | true =>
    rw [hb] at HLK
    go_wp2_with fail
    refine HLK.out.mono ?_
    rintro e _ ⟨rfl, rfl⟩
    go_wp2
    go_ret
    exact ⟨rfl, H1⟩
  | false =>
    rw [hb] at HLK
    have hna := (longK_no hb).1
    clear hb
    cases hb : longK b 100 with
    | true =>
      rw [hb] at HLK2
      go_wp2_with fail
      refine HLK.out.mono ?_
      rintro e _ ⟨rfl, rfl⟩
      go_wp2_with fail
      refine HLK2.out.mono ?_
      rintro e _ ⟨rfl, rfl⟩
      go_wp2
      go_ret
      exact ⟨rfl, H1⟩
    | false =>
      rw [hb] at HLK2
      have hnb := (longK_no hb).1
      clear hb
      by_cases hk : 100 < k.length
      · have hk2 : (100 : Int) < (k.length : Int) := by omega
        go_wp2_with fail
        refine HLK.out.mono ?_
        rintro e _ ⟨rfl, rfl⟩
        go_wp2_with fail
        refine HLK2.out.mono ?_
        rintro e _ ⟨rfl, rfl⟩
        go_wp2
        go_ret
        exact ⟨rfl, H1⟩
      · have hk2 : decide ((100 : Int) < (k.length : Int)) = false := decide_eq_false (by omega)
        have hk3 : k.length ≤ 100 := by omega
        go_wp2_with fail
        refine HLK.out.mono ?_
        rintro e _ ⟨rfl, rfl⟩
        go_wp2_with fail
        refine HLK2.out.mono ?_
        rintro e w1 ⟨rfl, rfl⟩
        clear HLK HLK2 hk hk2
        go_wp2_with fail
        refine (eUnion_any A A' c c' a b (by omega) (by omega) HXA.out HXB.out (RdL.old hra) (RdL.old hrb) H1).mono ?_
        rintro e w2 ⟨Au, cu, rfl, H2⟩
        clear H1
        go_wp2_with fail
        refine (eMinus_any A A' c c' a b (by omega) (by omega) HXA.out HXB.out (RdL.old hra) (RdL.old hrb) H2).mono ?_
        rintro e w3 ⟨Ax, cx, rfl, H3⟩
        clear H2
        go_wp2_with fail
        refine (eMinus_any A' A c' c b a (by omega) (by omega) HXB.out HXA.out (RdL.old hrb) (RdL.old hra) H3).mono ?_
        rintro e w4 ⟨Ay, cy, rfl, H4⟩
        clear H3
        go_wp2_with fail
        refine (eBoth_any A A' c c' a b (by omega) (by omega) HXA.out HXB.out (RdL.old hra) (RdL.old hrb) H4).mono ?_
        rintro e w5 ⟨Az, cz, rfl, H5⟩
        clear H4
        have hul := union_len a b
        have hule := union_le a b
        have hu1 := hasK_union a b k
        have hx1 := hasK_minus a b k
        have hy1 := hasK_minus b a k
        have hz1 := hasK_both a b k
        have hparts := union_parts a b
        have hzc := both_comm b a
        have huc := union_comm' b a
        have hcu := (rise_unionS a b).check
        have hcx := (rise_minusS a b).check
        have hcy := (rise_minusS b a).check
        have hcz := (rise_bothS a b).check
        have hmx : ∀ x ∈ minusS a b, x.length ≤ maxLen := fun x h => HXA.out x ((mem_minusS a b x).1 h).1
        have hmy : ∀ x ∈ minusS b a, x.length ≤ maxLen := fun x h => HXB.out x ((mem_minusS b a x).1 h).1
        have hmz : ∀ x ∈ bothS a b, x.length ≤ maxLen := fun x h => HXA.out x ((mem_bothS a b x).1 h).1
        have hu5 := fun w0 (L : List SL) (h : Sat W w0 L) => eUnion_any A' A c' c b a (by omega) (by omega) HXB.out HXA.out (RdL.old hrb) (RdL.old hra) h
        have hb5 := fun w0 (L : List SL) (h : Sat W w0 L) => eBoth_any A' A c' c b a (by omega) (by omega) HXB.out HXA.out (RdL.old hrb) (RdL.old hra) h
        rw [huc] at hu5
        rw [hzc] at hb5
        have hha := fun w0 (h : Rd w0 A (tsC a)) => eHas_any A c a k HLA.out h
        have hhb := fun w0 (h : Rd w0 A' (tsC b)) => eHas_any A' c' b k HLB.out h
        generalize unionS a b = U at *
        generalize minusS a b = X at *
        generalize minusS b a = Y at *
        generalize bothS a b = Z at *
        have hV := union_le X Y
        have hmv : ∀ x ∈ unionS X Y, x.length ≤ maxLen := fun x h => by
          rcases (mem_unionS X Y x).1 h with h | h
          · exact hmx x h
          · exact hmy x h
        obtain ⟨V, hVe⟩ : ∃ V, unionS X Y = V := ⟨_, rfl⟩
        rw [hVe] at hparts hV hmv
        have hcku := fun w0 (r : Rd w0 Au (tsC U)) => eCheck_any Au cu U (by unfold maxLen; omega) r
        have hckx := fun w0 (r : Rd w0 Ax (tsC X)) => eCheck_any Ax cx X (by unfold maxLen; omega) r
        have hcky := fun w0 (r : Rd w0 Ay (tsC Y)) => eCheck_any Ay cy Y (by unfold maxLen; omega) r
        have hckz := fun w0 (r : Rd w0 Az (tsC Z)) => eCheck_any Az cz Z (by unfold maxLen; omega) r
        rw [hcu] at hcku
        rw [hcx] at hckx
        rw [hcy] at hcky
        rw [hcz] at hckz
        have hhu := fun w0 (r : Rd w0 Au (tsC U)) => eHas_any Au cu U k (by unfold maxLen; omega) r
        have hhx := fun w0 (r : Rd w0 Ax (tsC X)) => eHas_any Ax cx X k (by unfold maxLen; omega) r
        have hhy := fun w0 (r : Rd w0 Ay (tsC Y)) => eHas_any Ay cy Y k (by unfold maxLen; omega) r
        have hhz := fun w0 (r : Rd w0 Az (tsC Z)) => eHas_any Az cz Z k (by unfold maxLen; omega) r
        rw [hu1] at hhu
        rw [hx1] at hhx
        rw [hy1] at hhy
        rw [hz1] at hhz
        have hxy := fun w0 (L : List SL) (r1 : RdL W L Ax (tsC X)) (r2 : RdL W L Ay (tsC Y)) (h : Sat W w0 L) => eUnion_any Ax Ay cx cy X Y (by omega) (by omega) hmx hmy r1 r2 h
        rw [hVe] at hxy
        have hvz := fun w0 (L : List SL) (Av : Option Addr) (cv : Nat) (r1 : RdL W L Av (tsC V)) (r2 : RdL W L Az (tsC Z)) (h : Sat W w0 L) => eUnion_any Av Az cv cz V Z (by omega) (by omega) hmv hmz r1 r2 h
        rw [hparts] at hvz
        have hst := fun w0 (A8 : Option Addr) (c8 : Nat) (r1 : Rd w0 A8 (tsC U)) (r2 : Rd w0 Au (tsC U)) => SameTexts_any A8 Au c8 cu U U (by unfold maxLen; omega) r1 r2
        have hst2 := fun w0 (A8 : Option Addr) (c8 : Nat) (r1 : Rd w0 Az (tsC Z)) (r2 : Rd w0 A8 (tsC Z)) => SameTexts_any Az A8 cz c8 Z Z (by unfold maxLen; omega) r1 r2
        have hst3 := fun w0 (A8 : Option Addr) (c8 : Nat) (r1 : Rd w0 Au (tsC U)) (r2 : Rd w0 A8 (tsC U)) => SameTexts_any Au A8 cu c8 U U (by unfold maxLen; omega) r1 r2
        rw [decide_eq_true (show U = U from rfl)] at hst hst3
        rw [decide_eq_true (show Z = Z from rfl)] at hst2
        have CU := Lib.hid hcku
        have CX := Lib.hid hckx
        have CY := Lib.hid hcky
        have CZ := Lib.hid hckz
        have HU := Lib.hid hhu
        have HX := Lib.hid hhx
        have HY := Lib.hid hhy
        have HZ := Lib.hid hhz
        have HA := Lib.hid hha
        have HB := Lib.hid hhb
        have XY := Lib.hid hxy
        have VZ := Lib.hid hvz
        have U5 := Lib.hid hu5
        have B5 := Lib.hid hb5
        have ST := Lib.hid hst
        have ST2 := Lib.hid hst2
        have ST3 := Lib.hid hst3
        clear hcku hckx hcky hckz hhu hhx hhy hhz hha hhb hxy hvz hu5 hb5 hst hst2 hst3 hcu hcx hcy hcz hu1 hx1 hy1 hz1 hparts hzc huc hmx hmy hmz hmv hVe HXA HXB HLA HLB
        generalize hasK a k = p at *
        generalize hasK b k = q at *
        have hbx : X.length ≤ 200 := by omega
        have hbz : Z.length ≤ 200 := by omega
        have hby : Y.length ≤ 200 := by omega
        have hsum : ((U.length : Int) != (X.length : Int) + (Y.length : Int) + (Z.length : Int)) = false := by simp; omega
        clear hul
        go_wp2_with fail
        refine (CU.out _ (H5.pull 3).seen_rd).mono ?_
        rintro e w6 ⟨rfl, hB⟩
        have H6 := H5.below hB
        clear CU H5
        go_wp2_with fail
        refine (CX.out _ (H6.pull 2).rd).mono ?_
        rintro e w7 ⟨rfl, hB⟩
        have H7 := H6.below hB
        clear CX H6
        go_wp2_with fail
        refine (CY.out _ (H7.pull 1).rd).mono ?_
        rintro e w8 ⟨rfl, hB⟩
        have H8 := H7.below hB
        clear CY H7
        go_wp2_with fail
        refine (CZ.out _ H8.rd).mono ?_
        rintro e w9 ⟨rfl, hB⟩
        have H9 := H8.below hB
        clear CZ H8
        go_wp2_with fail
        refine (HA.out _ (hra.old H9)).mono ?_
        rintro e w9 ⟨rfl, rfl⟩
        go_wp2_with fail
        refine (HB.out _ (hrb.old H9)).mono ?_
        rintro e w9 ⟨rfl, rfl⟩
        clear HA HB
        cases p <;> cases q
        all_goals
          go_wp2_with fail
          refine (HU.out _ (H9.pull 3).seen_rd).mono ?_
          rintro e w9 ⟨rfl, rfl⟩
          go_wp2_with fail
          refine (HX.out _ (H9.pull 2).rd).mono ?_
          rintro e w9 ⟨rfl, rfl⟩
          go_wp2_with fail
          refine (HY.out _ (H9.pull 1).rd).mono ?_
          rintro e w9 ⟨rfl, rfl⟩
          go_wp2_with fail
          refine (HZ.out _ H9.rd).mono ?_
          rintro e w9 ⟨rfl, rfl⟩
          clear HU HX HY HZ
          go_wp2_with fail
          refine (XY.out _ _ (RdL.pull 2 RdL.row) (RdL.pull 1 RdL.row) H9).mono ?_
          rintro e w10 ⟨Av, cv, rfl, H10⟩
          clear XY
          go_wp2_with fail
          refine (VZ.out _ _ Av cv RdL.seenS (RdL.tail RdL.row) H10).mono ?_
          rintro e w11 ⟨Aw, cw, rfl, H11⟩
          clear VZ H10
          go_wp2_with fail
          refine (ST.out _ Aw cw H11.seen_rd (H11.pull 5).seen_rd).mono ?_
          rintro e w12 ⟨rfl, hB⟩
          have H12 := H11.below hB
          clear ST H11
          go_wp2_with fail
          refine (B5.out _ _ H12).mono ?_
          rintro e w13 ⟨A13, c13, rfl, H13⟩
          clear B5 H12
          go_wp2_with fail
          refine (ST2.out _ A13 c13 (H13.pull 3).rd H13.rd).mono ?_
          rintro e w14 ⟨rfl, hB⟩
          have H14 := H13.below hB
          clear ST2 H13
          go_wp2_with fail
          refine (U5.out _ _ H14).mono ?_
          rintro e w15 ⟨A15, c15, rfl, H15⟩
          clear U5 H14
          go_wp2_with fail
          refine (ST3.out _ A15 c15 (H15.pull 7).seen_rd H15.seen_rd).mono ?_
          rintro e w16 ⟨rfl, hB⟩
          have H16 := H15.below hB
          go_wp2
          go_ret
          exact ⟨rfl, H16.drops [_, _, _, _, _, _, _, _]⟩
end Go.Proofs.Ytnpgjobaibnknaa
