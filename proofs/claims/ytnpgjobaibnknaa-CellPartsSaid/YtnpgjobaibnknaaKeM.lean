/- What leads from one state to another one: the program's answer. -/
import Derived.Test.YtnpgjobaibnknaaKeL
import Derived.Deep.RegionLaw
namespace Go.Proofs.Ytnpgjobaibnknaa
open Go.RowKit Go.Rt Go.Maps

theorem pr_head {W w : World} {L : List SL} {A : Option Addr} {p : Pr} {m : List Pr} (h : RdL W L A (prC (p :: m))) (H : Sat W w L) : ∃ b o, A = some ⟨b, o, none⟩ ∧ w.cell? ⟨b, o, none⟩ = some (.string ⟨p.k.toArray⟩) ∧ w.cell? ⟨b, o + 1, none⟩ = some (.string ⟨p.v.toArray⟩) := by
  obtain ⟨b, o, hA, h0, h1, _⟩ := pr_cells (h w H) 0 p rfl
  rw [Nat.zero_mul, Nat.add_zero] at h0 h1
  exact ⟨b, o, hA, h0, h1⟩
theorem subZ_two (g o c : Nat) : subZ 2 (some ⟨g, o, none⟩) c 1 = if c = 1 then some ⟨g, o, none⟩ else some ⟨g, o + 2, none⟩ := by
  unfold subZ
  split
  · rfl
  · simp [Addr.add]
theorem pr_next {W : World} {L : List SL} {A : Option Addr} {p : Pr} {m : List Pr} {c : Nat} (h : RdL W L A (prC (p :: m))) (hc : (p :: m).length ≤ c) : RdL W L (subZ 2 A c 1) (prC m) := prC_rdl h hc 1 (by simp)

set_option maxRecDepth 100000 in
set_option maxHeartbeats 8000000 in
theorem cDiff_any {W w : World} {L : List SL} (A A' : Option Addr) (c c' : Nat) (a b : List Pr) (hl : a.length ≤ maxLen) (hl' : b.length ≤ maxLen) (hac : a.length ≤ c) (hbc : b.length ≤ c') (hr : RdL W L A (prC a)) (hr' : RdL W L A' (prC b)) (H : Sat W w L) :
    Calls Try.prog 57 #[.slice A a.length c, .slice A' b.length c'] w fun e w' => ∃ A2 c2, e = .returned (.slice A2 (diffE a b).length c2) ∧ Sat W w' (row 51 zWt (.slice A2 (diffE a b).length c2) (diffE a b).length (wtC (diffE a b)) :: L) := by
  obtain ⟨i0, hi, hz0, hz1, hz2⟩ := info_parts infoWt
  obtain ⟨iP, hiP, hP0, hP1, hP2⟩ := info_parts infoPr
  have hck := cChk_any A c a hl hr H
  by_cases h0 : checkS a = 0
  · rw [h0] at hck
    have hck2 := fun w0 (h : Sat W w0 L) => cChk_any A' c' b hl' hr' h
    by_cases h1 : checkS b = 0
    · have hla := checkS_len h0
      have hlb := checkS_len h1
      have hd : diffE a b = diffP a b := by unfold diffE; rw [if_pos ⟨h0, h1⟩]
      rw [hd]
      rw [h1] at hck2
      have HCK := Lib.hid (hck)
      have HCK2 := Lib.hid (hck2)
      have hdl := diff_len a b
      generalize hD : diffP a b = D at *
      have HD := Lib.hid (hD)
      clear hck hck2 h0 h1 hd hD
      go_enter Try.func57, Try.ntmps57
      go_wp2_with fail
      refine (HCK.out).mono ?_
      rintro e w2 ⟨rfl, H2⟩
      go_wp2_with fail
      refine (HCK2.out _ H2).mono ?_
      rintro e w3 ⟨rfl, H3⟩
      have HRA0 := Lib.hid (hr)
      have HRB0 := Lib.hid (hr')
      clear hr hr' H2 H HCK HCK2
      go_wp2
      go_loopg [0, 1, 5] (a.length + b.length) (fun g va vb ou wc => ∃ (ma mb : List Pr) (acc : List Wt) (Aa Ab Ao : Option Addr) (ca cb co na nb n : Nat), g = na + nb ∧ va = .slice Aa na ca ∧ vb = .slice Ab nb cb ∧ ou = .slice Ao n co ∧ Hid (na = ma.length) ∧ Hid (nb = mb.length) ∧ Hid (n = acc.length) ∧ Hid (acc ++ diffP ma mb = D) ∧ Hid (RdL W L Aa (prC ma)) ∧ Hid (RdL W L Ab (prC mb)) ∧ na ≤ ca ∧ nb ≤ cb ∧ Sat W wc (row 51 zWt (.slice Ao n co) n (wtC acc) :: L))
      case atStart => exact ⟨a, b, [], A, A', none, c, c', 0, a.length, b.length, 0, rfl, rfl, rfl, rfl, rfl, rfl, rfl, HD, HRA0, HRB0, hac, hbc, H3.nil _ _⟩
      case round =>
        clear H3 HRA0 HRB0
        obtain ⟨ma, mb, acc, Aa, Ab, Ao, ca, cb, co, na, nb, n, rfl, rfl, rfl, rfl, HNA, HNB, HN, HE, HRA, HRB, hca, hcb, H⟩ := hrel
        cases ma with
        | nil =>
          cases mb with
          | nil =>
            have e1 := HE.out
            rw [diffP, List.append_nil] at e1
            obtain rfl : na = 0 := HNA.out
            obtain rfl : nb = 0 := HNB.out
            obtain rfl : n = D.length := by rw [← e1]; exact HN.out
            rw [e1] at H
            clear HN HNA HNB
            go_wp2
            go_ret
            exact ⟨Ao, co, rfl, H⟩
          | cons q mb =>
            obtain rfl : na = 0 := HNA.out
            have hnd : n ≤ D.length := by rw [HN.out, ← HE.out, List.length_append]; omega
            have hb0 : 0 < nb := by rw [HNB.out]; simp
            have hb1 : ((nb : Int) == 0) = false := beq_eq_false_iff_ne.2 (by omega)
            have hb2 : decide (0 < nb) = true := decide_eq_true hb0
            have hb3 : nb - 1 = mb.length := by rw [HNB.out]; simp
            obtain ⟨g', o', rfl, y0, y1⟩ := pr_head HRB.out H.tail
            obtain ⟨qk, qv⟩ := q
            have hyb := fun w' (h : Sat W w' L) => (show w'.cell? ⟨g', o', none⟩ = some (.string ⟨qk.toArray⟩) ∧ w'.cell? ⟨g', o' + 1, none⟩ = some (.string ⟨qv.toArray⟩) from by
              obtain ⟨b1, o1, e, h1, h2⟩ := pr_head HRB.out h
              cases e
              exact ⟨h1, h2⟩)
            have HYB := Lib.hid (hyb)
            have HB3 := Lib.hid (hb3)
            have HNX := Lib.hid (pr_next HRB.out (HNB.out ▸ hcb))
            dsimp only at y0 y1
            clear hyb hb3
            have hE : (acc ++ [⟨qk, qv, false⟩]) ++ diffP [] mb = D := by rw [← HE.out, diffP]; simp
            have HE2 := Lib.hid (hE)
            clear hE HE
            go_wp2
            go_quiet (fail)
            replace H := H.drewN nq
            generalize wr.drewN nq = wz at H ⊢
            clear y0 y1
            obtain ⟨y0, y1⟩ := HYB.out _ H.tail
            go_wp2
            go_quiet (fail)
            replace H := H.drewN nq
            generalize wz.drewN nq = wz at H ⊢
            clear y0 y1
            obtain ⟨y0, y1⟩ := HYB.out _ H.tail
            go_wp2_with fail
            have H5 := H.drew.alloc #[.string ⟨qk.toArray⟩, .string ⟨qv.toArray⟩, .bool false] 51
            have HRX : Rd _ _ [.string ⟨qk.toArray⟩, .string ⟨qv.toArray⟩, .bool false] := RdL.pt _ H5
            have z0 := HYB.out _ H.drew.tail
            have z1 := HYB.out _ H5.tail.tail
            go_region_held3 (fun w' => w'.cell? ⟨g', o', none⟩ = some (.string ⟨qk.toArray⟩) ∧ w'.cell? ⟨g', o' + 1, none⟩ = some (.string ⟨qv.toArray⟩)) (assumption) (first
              | (refine step_append_sl rfl (.tmp 90) (.tmp 100) 41 rfl 51 i0 _ zWt 40 Try.underlying41 hi hz0 rfl hz1 hz2 (by simp) zWt_like _ n _ (by simp [Act.eval]) H5.swap _ 1 1 [.string ⟨qk.toArray⟩, .string ⟨qv.toArray⟩, .bool false] (by simp [Act.eval]) rfl HRX (wt_one ⟨qk, qv, false⟩) (wt_typed ⟨qk, qv, false⟩) (by unfold maxLen; omega) (by omega) ?_
                 intro A4 c4 w4 H6
                 have z2 := HYB.out _ H6.tail.tail))
            have H7 : Sat W w4 (row 51 zWt (.slice A4 (n + 1) c4) (n + 1) (wtC (acc ++ [⟨qk, qv, false⟩])) :: L) := by
              rw [wtC_append]
              exact H6.swap.tail
            have HN2 : Hid (n + 1 = (acc ++ [(⟨qk, qv, false⟩ : Wt)]).length) := by show _ = _; rw [HN.out]; simp
            go_wp2_with (first
              | (refine wpList_slice_fromZ (by rfl) (.tmp 102) (.const (.int .i64 1)) 40 rfl 64 iP 2 Try.underlying40 hiP hP1 _ nb cb 1 rfl rfl hb0 ?_))
            go_roundg (0 + (nb - 1))
            case measure => omega
            case rel => exact ⟨[], mb, _, Aa, _, A4, ca, cb - 1, c4, 0, nb - 1, n + 1, rfl, rfl, rfl, rfl, rfl, HB3, HN2, HE2, HRA, HNX, hca, by omega, H7⟩
        | cons p ma =>
          have hnd : n ≤ D.length := by rw [HN.out, ← HE.out, List.length_append]; omega
          cases mb with
          | nil =>
            obtain rfl : nb = 0 := HNB.out
            have ha0 : 0 < na := by rw [HNA.out]; simp
            have ha1 : ((na : Int) == 0) = false := beq_eq_false_iff_ne.2 (by omega)
            have ha2 : decide (0 < na) = true := decide_eq_true ha0
            have ha3 : na - 1 = ma.length := by rw [HNA.out]; simp
            obtain ⟨g, o, rfl, x0, x1⟩ := pr_head HRA.out H.tail
            obtain ⟨pk, pv⟩ := p
            have hxa := fun w' (h : Sat W w' L) => (show w'.cell? ⟨g, o, none⟩ = some (.string ⟨pk.toArray⟩) ∧ w'.cell? ⟨g, o + 1, none⟩ = some (.string ⟨pv.toArray⟩) from by
              obtain ⟨b1, o1, e, h1, h2⟩ := pr_head HRA.out h
              cases e
              exact ⟨h1, h2⟩)
            have HXA := Lib.hid (hxa)
            have HA3 := Lib.hid (ha3)
            have HMX := Lib.hid (pr_next HRA.out (HNA.out ▸ hca))
            dsimp only at x0 x1
            clear hxa ha3
            have hE : (acc ++ [⟨pk, [], true⟩]) ++ diffP ma [] = D := by rw [← HE.out, diffP]; simp
            have HE2 := Lib.hid (hE)
            clear hE HE
            go_wp2
            go_quiet (fail)
            replace H := H.drewN nq
            generalize wr.drewN nq = wz at H ⊢
            clear x0 x1
            obtain ⟨x0, x1⟩ := HXA.out _ H.tail
            have H5 := H.alloc #[.string ⟨pk.toArray⟩, .string ⟨([] : Str).toArray⟩, .bool true] 51
            go_wp2_with (first
              | (at_builtin
                 refine wpList_append_sl rfl (.tmp 65) (.tmp 71) 41 rfl 51 i0 _ zWt 40 Try.underlying41 hi hz0 rfl hz1 hz2 (by simp) zWt_like _ n _ rfl H5.swap (some ⟨_, 0, none⟩) 1 1 [.string ⟨pk.toArray⟩, .string ⟨([] : Str).toArray⟩, .bool true] rfl rfl (RdL.pt _ H5) (wt_one ⟨pk, [], true⟩) (wt_typed ⟨pk, [], true⟩) (by unfold maxLen; omega) (by omega) ?_
                 intro A4 c4 w4 H6)
              | (refine wpList_slice_fromZ (by rfl) (.tmp 73) (.const (.int .i64 1)) 40 rfl 64 iP 2 Try.underlying40 hiP hP1 _ na ca 1 rfl rfl ha0 ?_))
            have H7 : Sat W w4 (row 51 zWt (.slice A4 (n + 1) c4) (n + 1) (wtC (acc ++ [⟨pk, [], true⟩])) :: L) := by
              rw [wtC_append]
              exact H6.swap.tail
            have HN2 : Hid (n + 1 = (acc ++ [(⟨pk, [], true⟩ : Wt)]).length) := by show _ = _; rw [HN.out]; simp
            go_roundg ((na - 1) + 0)
            case measure => omega
            case rel => exact ⟨ma, [], _, _, Ab, A4, ca - 1, cb, c4, na - 1, 0, n + 1, rfl, rfl, rfl, rfl, HA3, rfl, HN2, HE2, HMX, HRB, by omega, hcb, H7⟩
          | cons q mb =>
            have ha0 : 0 < na := by rw [HNA.out]; simp
            have ha1 : ((na : Int) == 0) = false := beq_eq_false_iff_ne.2 (by omega)
            have ha2 : decide (0 < na) = true := decide_eq_true ha0
            have ha3 : na - 1 = ma.length := by rw [HNA.out]; simp
            obtain ⟨g, o, rfl, x0, x1⟩ := pr_head HRA.out H.tail
            obtain ⟨pk, pv⟩ := p
            have hxa := fun w' (h : Sat W w' L) => (show w'.cell? ⟨g, o, none⟩ = some (.string ⟨pk.toArray⟩) ∧ w'.cell? ⟨g, o + 1, none⟩ = some (.string ⟨pv.toArray⟩) from by
              obtain ⟨b1, o1, e, h1, h2⟩ := pr_head HRA.out h
              cases e
              exact ⟨h1, h2⟩)
            have HXA := Lib.hid (hxa)
            have HA3 := Lib.hid (ha3)
            have HMX := Lib.hid (pr_next HRA.out (HNA.out ▸ hca))
            dsimp only at x0 x1
            clear hxa ha3
            have hb0 : 0 < nb := by rw [HNB.out]; simp
            have hb1 : ((nb : Int) == 0) = false := beq_eq_false_iff_ne.2 (by omega)
            have hb2 : decide (0 < nb) = true := decide_eq_true hb0
            have hb3 : nb - 1 = mb.length := by rw [HNB.out]; simp
            obtain ⟨g', o', rfl, y0, y1⟩ := pr_head HRB.out H.tail
            obtain ⟨qk, qv⟩ := q
            have hyb := fun w' (h : Sat W w' L) => (show w'.cell? ⟨g', o', none⟩ = some (.string ⟨qk.toArray⟩) ∧ w'.cell? ⟨g', o' + 1, none⟩ = some (.string ⟨qv.toArray⟩) from by
              obtain ⟨b1, o1, e, h1, h2⟩ := pr_head HRB.out h
              cases e
              exact ⟨h1, h2⟩)
            have HYB := Lib.hid (hyb)
            have HB3 := Lib.hid (hb3)
            have HNX := Lib.hid (pr_next HRB.out (HNB.out ▸ hcb))
            dsimp only at y0 y1
            clear hyb hb3
            by_cases hlt : pk < qk
            · have h1 : Op.bytesLess pk qk = true := less_yes hlt
              have hE : (acc ++ [⟨pk, [], true⟩]) ++ diffP ma (⟨qk, qv⟩ :: mb) = D := by rw [← HE.out, diffP, if_pos hlt]; simp
              have HE2 := Lib.hid (hE)
              clear hE HE hlt
              go_wp2
              go_quiet (fail)
              replace H := H.drewN nq
              generalize wr.drewN nq = wz at H ⊢
              clear x0 x1 y0 y1
              obtain ⟨x0, x1⟩ := HXA.out _ H.tail
              obtain ⟨y0, y1⟩ := HYB.out _ H.tail
              have H5 := H.alloc #[.string ⟨pk.toArray⟩, .string ⟨([] : Str).toArray⟩, .bool true] 51
              go_wp2_with (first
                | (at_builtin
                   refine wpList_append_sl rfl (.tmp 65) (.tmp 71) 41 rfl 51 i0 _ zWt 40 Try.underlying41 hi hz0 rfl hz1 hz2 (by simp) zWt_like _ n _ rfl H5.swap (some ⟨_, 0, none⟩) 1 1 [.string ⟨pk.toArray⟩, .string ⟨([] : Str).toArray⟩, .bool true] rfl rfl (RdL.pt _ H5) (wt_one ⟨pk, [], true⟩) (wt_typed ⟨pk, [], true⟩) (by unfold maxLen; omega) (by omega) ?_
                   intro A4 c4 w4 H6)
                | (refine wpList_slice_fromZ (by rfl) (.tmp 73) (.const (.int .i64 1)) 40 rfl 64 iP 2 Try.underlying40 hiP hP1 _ na ca 1 rfl rfl ha0 ?_))
              have H7 : Sat W w4 (row 51 zWt (.slice A4 (n + 1) c4) (n + 1) (wtC (acc ++ [⟨pk, [], true⟩])) :: L) := by
                rw [wtC_append]
                exact H6.swap.tail
              have HN2 : Hid (n + 1 = (acc ++ [(⟨pk, [], true⟩ : Wt)]).length) := by show _ = _; rw [HN.out]; simp
              go_roundg ((na - 1) + nb)
              case measure => omega
              case rel => exact ⟨ma, ⟨qk, qv⟩ :: mb, _, _, _, A4, ca - 1, cb, c4, na - 1, nb, n + 1, rfl, rfl, rfl, rfl, HA3, HNB, HN2, HE2, HMX, HRB, by omega, hcb, H7⟩
            · have h1 : Op.bytesLess pk qk = false := less_no hlt
              by_cases hgt : qk < pk
              · have h2 : Op.bytesLess qk pk = true := less_yes hgt
                have hE : (acc ++ [⟨qk, qv, false⟩]) ++ diffP (⟨pk, pv⟩ :: ma) mb = D := by rw [← HE.out, diffP, if_neg hlt, if_pos hgt]; simp
                have HE2 := Lib.hid (hE)
                clear hE HE hlt hgt
                go_wp2
                go_quiet (fail)
                replace H := H.drewN nq
                generalize wr.drewN nq = wz at H ⊢
                clear x0 x1 y0 y1
                obtain ⟨x0, x1⟩ := HXA.out _ H.tail
                obtain ⟨y0, y1⟩ := HYB.out _ H.tail
                go_wp2
                go_quiet (fail)
                replace H := H.drewN nq
                generalize wz.drewN nq = wz at H ⊢
                clear x0 x1 y0 y1
                obtain ⟨x0, x1⟩ := HXA.out _ H.tail
                obtain ⟨y0, y1⟩ := HYB.out _ H.tail
                go_wp2_with fail
                have H5 := H.drew.alloc #[.string ⟨qk.toArray⟩, .string ⟨qv.toArray⟩, .bool false] 51
                have HRX : Rd _ _ [.string ⟨qk.toArray⟩, .string ⟨qv.toArray⟩, .bool false] := RdL.pt _ H5
                have z0 := HYB.out _ H.drew.tail
                have z1 := HYB.out _ H5.tail.tail
                go_region_held3 (fun w' => w'.cell? ⟨g', o', none⟩ = some (.string ⟨qk.toArray⟩) ∧ w'.cell? ⟨g', o' + 1, none⟩ = some (.string ⟨qv.toArray⟩)) (assumption) (first
                  | (refine step_append_sl rfl (.tmp 90) (.tmp 100) 41 rfl 51 i0 _ zWt 40 Try.underlying41 hi hz0 rfl hz1 hz2 (by simp) zWt_like _ n _ (by simp [Act.eval]) H5.swap _ 1 1 [.string ⟨qk.toArray⟩, .string ⟨qv.toArray⟩, .bool false] (by simp [Act.eval]) rfl HRX (wt_one ⟨qk, qv, false⟩) (wt_typed ⟨qk, qv, false⟩) (by unfold maxLen; omega) (by omega) ?_
                     intro A4 c4 w4 H6
                     have z2 := HYB.out _ H6.tail.tail))
                have H7 : Sat W w4 (row 51 zWt (.slice A4 (n + 1) c4) (n + 1) (wtC (acc ++ [⟨qk, qv, false⟩])) :: L) := by
                  rw [wtC_append]
                  exact H6.swap.tail
                have HN2 : Hid (n + 1 = (acc ++ [(⟨qk, qv, false⟩ : Wt)]).length) := by show _ = _; rw [HN.out]; simp
                go_wp2_with (first
                  | (refine wpList_slice_fromZ (by rfl) (.tmp 102) (.const (.int .i64 1)) 40 rfl 64 iP 2 Try.underlying40 hiP hP1 _ nb cb 1 rfl rfl hb0 ?_))
                go_roundg (na + (nb - 1))
                case measure => omega
                case rel => exact ⟨⟨pk, pv⟩ :: ma, mb, _, _, _, A4, ca, cb - 1, c4, na, nb - 1, n + 1, rfl, rfl, rfl, rfl, HNA, HB3, HN2, HE2, HRA, HNX, hca, by omega, H7⟩
              · have h2 : Op.bytesLess qk pk = false := less_no hgt
                have hkk := not_lt_both hlt hgt
                have hE0 := pr_equal ⟨pk, pv⟩ ⟨qk, qv⟩
                have hd0 : diffP (⟨pk, pv⟩ :: ma) (⟨qk, qv⟩ :: mb) = (if pv = qv then [] else [⟨qk, qv, false⟩]) ++ diffP ma mb := by rw [diffP, if_neg hlt, if_neg hgt]
                by_cases hv : pv = qv
                · rw [decide_eq_true (show (⟨pk, pv⟩ : Pr) = ⟨qk, qv⟩ by rw [hkk, hv])] at hE0
                  have hE : acc ++ diffP ma mb = D := by rw [← HE.out, hd0, if_pos hv]; simp
                  have HE2 := Lib.hid (hE)
                  clear hE HE hlt hgt hkk hd0 hv
                  go_wp2
                  go_quiet (fail)
                  replace H := H.drewN nq
                  generalize wr.drewN nq = wz at H ⊢
                  clear x0 x1 y0 y1
                  obtain ⟨x0, x1⟩ := HXA.out _ H.tail
                  obtain ⟨y0, y1⟩ := HYB.out _ H.tail
                  go_wp2
                  go_quiet (fail)
                  replace H := H.drewN nq
                  generalize wz.drewN nq = wz at H ⊢
                  clear x0 x1 y0 y1
                  obtain ⟨x0, x1⟩ := HXA.out _ H.tail
                  obtain ⟨y0, y1⟩ := HYB.out _ H.tail
                  go_wp2
                  go_quiet (fail)
                  replace H := H.drewN nq
                  generalize wz.drewN nq = wz at H ⊢
                  clear x0 x1 y0 y1
                  obtain ⟨x0, x1⟩ := HXA.out _ H.tail
                  obtain ⟨y0, y1⟩ := HYB.out _ H.tail
                  go_wp2
                  have ha9 : (1 : Int) ≤ (na : Int) := by omega
                  have hb9 : (1 : Int) ≤ (nb : Int) := by omega
                  obtain ⟨Ea, hEa⟩ : ∃ E, (if ca = 1 then some (⟨g, o, none⟩ : Addr) else some ⟨g, o + 2, none⟩) = E := ⟨_, rfl⟩
                  obtain ⟨Eb, hEb⟩ : ∃ E, (if cb = 1 then some (⟨g', o', none⟩ : Addr) else some ⟨g', o' + 2, none⟩) = E := ⟨_, rfl⟩
                  have hmi : RdL W L Ea (prC ma) := by rw [← hEa, ← subZ_two g o ca]; exact HMX.out
                  have hni : RdL W L Eb (prC mb) := by rw [← hEb, ← subZ_two g' o' cb]; exact HNX.out
                  have HMI := Lib.hid (hmi)
                  have HNI := Lib.hid (hni)
                  clear hmi hni
                  go_region_law (fail)
                  go_wp2
                  go_roundg ((na - 1) + (nb - 1))
                  case measure => omega
                  case rel => exact ⟨ma, mb, acc, _, _, Ao, ca - 1, cb - 1, co, na - 1, nb - 1, n, rfl, rfl, rfl, rfl, HA3, HB3, HN, HE2, HMI, HNI, by omega, by omega, H.drew⟩
                · rw [decide_eq_false (fun e : (⟨pk, pv⟩ : Pr) = ⟨qk, qv⟩ => hv (by injection e))] at hE0
                  have hE : (acc ++ [⟨qk, qv, false⟩]) ++ diffP ma mb = D := by rw [← HE.out, hd0, if_neg hv]; simp
                  have HE2 := Lib.hid (hE)
                  clear hE HE hlt hgt hkk hd0 hv
                  go_wp2
                  go_quiet (fail)
                  replace H := H.drewN nq
                  generalize wr.drewN nq = wz at H ⊢
                  clear x0 x1 y0 y1
                  obtain ⟨x0, x1⟩ := HXA.out _ H.tail
                  obtain ⟨y0, y1⟩ := HYB.out _ H.tail
                  go_wp2
                  go_quiet (fail)
                  replace H := H.drewN nq
                  generalize wz.drewN nq = wz at H ⊢
                  clear x0 x1 y0 y1
                  obtain ⟨x0, x1⟩ := HXA.out _ H.tail
                  obtain ⟨y0, y1⟩ := HYB.out _ H.tail
                  go_wp2
                  go_quiet (fail)
                  replace H := H.drewN nq
                  generalize wz.drewN nq = wz at H ⊢
                  clear x0 x1 y0 y1
                  obtain ⟨x0, x1⟩ := HXA.out _ H.tail
                  obtain ⟨y0, y1⟩ := HYB.out _ H.tail
                  go_wp2_with fail
                  have H5 := H.drew.alloc #[.string ⟨qk.toArray⟩, .string ⟨qv.toArray⟩, .bool false] 51
                  have HRX : Rd _ _ [.string ⟨qk.toArray⟩, .string ⟨qv.toArray⟩, .bool false] := RdL.pt _ H5
                  have z0 := HYB.out _ H.drew.tail
                  have z1 := HYB.out _ H5.tail.tail
                  go_region_held3 (fun w' => w'.cell? ⟨g', o', none⟩ = some (.string ⟨qk.toArray⟩) ∧ w'.cell? ⟨g', o' + 1, none⟩ = some (.string ⟨qv.toArray⟩)) (assumption) (first
                    | (refine step_append_sl rfl (.tmp 29) (.tmp 39) 41 rfl 51 i0 _ zWt 40 Try.underlying41 hi hz0 rfl hz1 hz2 (by simp) zWt_like _ n _ (by simp [Act.eval]) H5.swap _ 1 1 [.string ⟨qk.toArray⟩, .string ⟨qv.toArray⟩, .bool false] (by simp [Act.eval]) rfl HRX (wt_one ⟨qk, qv, false⟩) (wt_typed ⟨qk, qv, false⟩) (by unfold maxLen; omega) (by omega) ?_
                       intro A4 c4 w4 H6
                       have z2 := HYB.out _ H6.tail.tail))
                  have H7 : Sat W w4 (row 51 zWt (.slice A4 (n + 1) c4) (n + 1) (wtC (acc ++ [⟨qk, qv, false⟩])) :: L) := by
                    rw [wtC_append]
                    exact H6.swap.tail
                  have HN2 : Hid (n + 1 = (acc ++ [(⟨qk, qv, false⟩ : Wt)]).length) := by show _ = _; rw [HN.out]; simp
                  go_wp2
                  have ha9 : (1 : Int) ≤ (na : Int) := by omega
                  have hb9 : (1 : Int) ≤ (nb : Int) := by omega
                  obtain ⟨Ea, hEa⟩ : ∃ E, (if ca = 1 then some (⟨g, o, none⟩ : Addr) else some ⟨g, o + 2, none⟩) = E := ⟨_, rfl⟩
                  obtain ⟨Eb, hEb⟩ : ∃ E, (if cb = 1 then some (⟨g', o', none⟩ : Addr) else some ⟨g', o' + 2, none⟩) = E := ⟨_, rfl⟩
                  have hmi : RdL W L Ea (prC ma) := by rw [← hEa, ← subZ_two g o ca]; exact HMX.out
                  have hni : RdL W L Eb (prC mb) := by rw [← hEb, ← subZ_two g' o' cb]; exact HNX.out
                  have HMI := Lib.hid (hmi)
                  have HNI := Lib.hid (hni)
                  clear hmi hni
                  go_region_law (fail)
                  go_wp2
                  go_roundg ((na - 1) + (nb - 1))
                  case measure => omega
                  case rel => exact ⟨ma, mb, _, _, _, A4, ca - 1, cb - 1, c4, na - 1, nb - 1, n + 1, rfl, rfl, rfl, rfl, HA3, HB3, HN2, HE2, HMI, HNI, by omega, by omega, H7.drew⟩
    · have e1 : (checkS b != 0) = true := by simpa using h1
      rw [show diffE a b = [] by unfold diffE; rw [if_neg fun h => h1 h.2]]
      generalize checkS b = C at *
      have HCK := Lib.hid (hck)
      have HCK2 := Lib.hid (hck2)
      clear hck hck2 h0 h1
      go_enter Try.func57, Try.ntmps57
      go_wp2_with fail
      refine (HCK.out).mono ?_
      rintro e w2 ⟨rfl, H2⟩
      go_wp2_with fail
      refine (HCK2.out _ H2).mono ?_
      rintro e w3 ⟨rfl, H3⟩
      go_wp2
      go_ret
      exact ⟨none, 0, rfl, H3.nil _ _⟩
  · have e1 : (checkS a != 0) = true := by simpa using h0
    rw [show diffE a b = [] by unfold diffE; rw [if_neg fun h => h0 h.1]]
    generalize checkS a = C at *
    have HCK := Lib.hid (hck)
    clear hck h0
    go_enter Try.func57, Try.ntmps57
    go_wp2_with fail
    refine (HCK.out).mono ?_
    rintro e w2 ⟨rfl, H2⟩
    go_wp2
    go_ret
    exact ⟨none, 0, rfl, H2.nil _ _⟩
end Go.Proofs.Ytnpgjobaibnknaa
