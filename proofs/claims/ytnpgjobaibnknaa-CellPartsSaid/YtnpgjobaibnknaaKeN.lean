/- What leads from one state to another one: the document's answer. -/
import Derived.Test.YtnpgjobaibnknaaKeM
namespace Go.Proofs.Ytnpgjobaibnknaa
open Go.RowKit Go.Rt Go.Maps

theorem drop_at {l : List Pr} {j : Nat} {p : Pr} (h : l[j]? = some p) : l.drop j = p :: l.drop (j + 1) := by
  rw [List.drop_eq_getElem_cons (List.getElem?_eq_some_iff.1 h).1, (List.getElem?_eq_some_iff.1 h).2]
theorem diff_del {a b : List Pr} {i k : Nat} {p : Pr} (hp : a[i]? = some p) (h : k = b.length ∨ ∃ q, b[k]? = some q ∧ p.k < q.k) : diffP (a.drop i) (b.drop k) = ⟨p.k, [], true⟩ :: diffP (a.drop (i + 1)) (b.drop k) := by
  rw [drop_at hp]
  rcases h with rfl | ⟨q, hq, hlt⟩
  · rw [List.drop_length, diffP]
  · rw [drop_at hq, diffP, if_pos hlt]
theorem diff_put {a b : List Pr} {i k : Nat} {q : Pr} (hq : b[k]? = some q) (h : i = a.length ∨ ∃ p, a[i]? = some p ∧ q.k < p.k) : diffP (a.drop i) (b.drop k) = ⟨q.k, q.v, false⟩ :: diffP (a.drop i) (b.drop (k + 1)) := by
  rw [drop_at hq]
  rcases h with rfl | ⟨p, hp, hlt⟩
  · rw [List.drop_length, diffP]
  · rw [drop_at hp, diffP, if_neg (fun h => str_irrefl _ (str_trans h hlt)), if_pos hlt]
theorem diff_both {a b : List Pr} {i k : Nat} {p q : Pr} (hp : a[i]? = some p) (hq : b[k]? = some q) (h1 : ¬ p.k < q.k) (h2 : ¬ q.k < p.k) : diffP (a.drop i) (b.drop k) = (if p.v = q.v then [] else [⟨q.k, q.v, false⟩]) ++ diffP (a.drop (i + 1)) (b.drop (k + 1)) := by
  rw [drop_at hp, drop_at hq, diffP, if_neg h1, if_neg h2]

set_option maxRecDepth 100000 in
set_option maxHeartbeats 8000000 in
theorem qDiff_any {W w : World} {L : List SL} (A A' : Option Addr) (c c' : Nat) (a b : List Pr) (hl : a.length ≤ maxLen) (hl' : b.length ≤ maxLen) (hr : RdL W L A (prC a)) (hr' : RdL W L A' (prC b)) (H : Sat W w L) :
    Calls Try.prog 60 #[.slice A a.length c, .slice A' b.length c'] w fun e w' => ∃ A2 c2, e = .returned (.slice A2 (diffE a b).length c2) ∧ Sat W w' (row 51 zWt (.slice A2 (diffE a b).length c2) (diffE a b).length (wtC (diffE a b)) :: L) := by
  obtain ⟨i0, hi, hz0, hz1, hz2⟩ := info_parts infoWt
  have hck := qChk_any A c a hl hr H
  by_cases h0 : checkS a = 0
  · rw [h0] at hck
    have hck2 := fun w0 (h : Sat W w0 L) => qChk_any A' c' b hl' hr' h
    by_cases h1 : checkS b = 0
    · have hla := checkS_len h0
      have hlb := checkS_len h1
      have hd : diffE a b = diffP a b := by unfold diffE; rw [if_pos ⟨h0, h1⟩]
      rw [hd]
      rw [h1] at hck2
      have HCK := Lib.hid (hck)
      have HCK2 := Lib.hid (hck2)
      have hdl := diff_len a b
      generalize hD : diffP a b = D at *
      have HD := Lib.hid (hD)
      clear hck hck2 h0 h1 hd hD
      go_enter Try.func60, Try.ntmps60
      go_wp2_with fail
      refine (HCK.out).mono ?_
      rintro e w2 ⟨rfl, H2⟩
      go_wp2_with fail
      refine (HCK2.out _ H2).mono ?_
      rintro e w3 ⟨rfl, H3⟩
      clear H2 H HCK HCK2
      go_wp2
      go_loopw [5, 6, 7] (fun ou vi vk wc => ∃ (i k n : Nat) (acc : List Wt) (Ao : Option Addr) (co : Nat), i ≤ a.length ∧ k ≤ b.length ∧ vi = .int .i64 i ∧ vk = .int .i64 k ∧ ou = .slice Ao n co ∧ Hid (n = acc.length) ∧ Hid (acc ++ diffP (a.drop i) (b.drop k) = D) ∧ Sat W wc (row 51 zWt (.slice Ao n co) n (wtC acc) :: L)) (fun _ vi vk _ => (a.length - (intOf vi).toNat) + (b.length - (intOf vk).toNat))
      case atStart => exact ⟨0, 0, 0, [], none, 0, by omega, by omega, rfl, rfl, rfl, rfl, HD, H3.nil _ _⟩
      case round =>
        clear H3
        obtain ⟨i, k, n, acc, Ao, co, hia, hkb, rfl, rfl, rfl, HN, HE, H⟩ := hrel
        have hnd : n ≤ D.length := by rw [HN.out, ← HE.out, List.length_append]; omega
        by_cases hil : i < a.length
        · by_cases hkl : k < b.length
          · have ha1 : decide (i < a.length) = true := decide_eq_true hil
            have ha2 : ((i : Int) == (a.length : Int)) = false := beq_eq_false_iff_ne.2 (by omega)
            obtain ⟨p, hp⟩ : ∃ x, a[i]? = some x := ⟨_, List.getElem?_eq_getElem (by omega)⟩
            obtain ⟨g, o, rfl, x0, x1, _⟩ := pr_cells (hr _ H.tail) i p hp
            have hxa := fun w' (h : Sat W w' L) => (show w'.cell? ⟨g, o + i * 2, none⟩ = some (.string ⟨p.k.toArray⟩) ∧ w'.cell? ⟨g, o + i * 2 + 1, none⟩ = some (.string ⟨p.v.toArray⟩) from by
              obtain ⟨b1, o1, e, h1, h2, _⟩ := pr_cells (hr _ h) i p hp
              cases e
              exact ⟨h1, h2⟩)
            have HP := Lib.hid (hp)
            obtain ⟨pk, pv⟩ := p
            dsimp only at hxa
            have HXA := Lib.hid (hxa)
            dsimp only at x0 x1
            clear hxa hp
            have hb1 : decide (k < b.length) = true := decide_eq_true hkl
            have hb2 : ((k : Int) == (b.length : Int)) = false := beq_eq_false_iff_ne.2 (by omega)
            obtain ⟨q, hq⟩ : ∃ x, b[k]? = some x := ⟨_, List.getElem?_eq_getElem (by omega)⟩
            obtain ⟨g', o', rfl, y0, y1, _⟩ := pr_cells (hr' _ H.tail) k q hq
            have hyb := fun w' (h : Sat W w' L) => (show w'.cell? ⟨g', o' + k * 2, none⟩ = some (.string ⟨q.k.toArray⟩) ∧ w'.cell? ⟨g', o' + k * 2 + 1, none⟩ = some (.string ⟨q.v.toArray⟩) from by
              obtain ⟨b1, o1, e, h1, h2, _⟩ := pr_cells (hr' _ h) k q hq
              cases e
              exact ⟨h1, h2⟩)
            have HQ := Lib.hid (hq)
            obtain ⟨qk, qv⟩ := q
            dsimp only at hyb
            have HYB := Lib.hid (hyb)
            dsimp only at y0 y1
            clear hyb hq
            by_cases hlt : pk < qk
            · have h1 : Op.bytesLess pk qk = true := less_yes hlt
              have hE : (acc ++ [⟨pk, [], true⟩]) ++ diffP (a.drop (i + 1)) (b.drop k) = D := by rw [← HE.out, diff_del HP.out (.inr ⟨_, HQ.out, hlt⟩)]; simp
              have HE2 := Lib.hid (hE)
              clear hE HE hlt
              go_wp2
              go_quiet (fail)
              replace H := H.drewN nq
              generalize wr.drewN nq = wz at H ⊢
              clear x0 x1 y0 y1
              obtain ⟨x0, x1⟩ := HXA.out _ H.tail
              obtain ⟨y0, y1⟩ := HYB.out _ H.tail
              have H5 := H.alloc #[.string ⟨pk.toArray⟩, .string ⟨([] : Str).toArray⟩, .bool true] 51
              go_wp2_with (first
                | (at_builtin
                   refine wpList_append_sl rfl (.tmp 79) (.tmp 86) 41 rfl 51 i0 _ zWt 40 Try.underlying41 hi hz0 rfl hz1 hz2 (by simp) zWt_like _ n _ rfl H5.swap (some ⟨_, 0, none⟩) 1 1 [.string ⟨pk.toArray⟩, .string ⟨([] : Str).toArray⟩, .bool true] rfl rfl (RdL.pt _ H5) (wt_one ⟨pk, [], true⟩) (wt_typed ⟨pk, [], true⟩) (by unfold maxLen; omega) (by omega) ?_
                   intro A4 c4 w4 H6))
              have H7 : Sat W w4 (row 51 zWt (.slice A4 (n + 1) c4) (n + 1) (wtC (acc ++ [⟨pk, [], true⟩])) :: L) := by
                rw [wtC_append]
                exact H6.swap.tail
              have HN2 : Hid (n + 1 = (acc ++ [(⟨pk, [], true⟩ : Wt)]).length) := by show _ = _; rw [HN.out]; simp
              exact ⟨⟨i + 1, k, n + 1, _, A4, c4, by omega, by omega, by go_num, by go_num, rfl, HN2, HE2, H7⟩, by simp [intOf]; omega⟩
            · have h1 : Op.bytesLess pk qk = false := less_no hlt
              by_cases hgt : qk < pk
              · have h2 : Op.bytesLess qk pk = true := less_yes hgt
                have hE : (acc ++ [⟨qk, qv, false⟩]) ++ diffP (a.drop i) (b.drop (k + 1)) = D := by rw [← HE.out, diff_put HQ.out (.inr ⟨_, HP.out, hgt⟩)]; simp
                have HE2 := Lib.hid (hE)
                clear hE HE hlt hgt
                go_wp2
                go_quiet (fail)
                replace H := H.drewN nq
                generalize wr.drewN nq = wz at H ⊢
                clear x0 x1 y0 y1
                obtain ⟨x0, x1⟩ := HXA.out _ H.tail
                obtain ⟨y0, y1⟩ := HYB.out _ H.tail
                go_wp2
                go_quiet (fail)
                replace H := H.drewN nq
                generalize wz.drewN nq = wz at H ⊢
                clear x0 x1 y0 y1
                obtain ⟨x0, x1⟩ := HXA.out _ H.tail
                obtain ⟨y0, y1⟩ := HYB.out _ H.tail
                go_wp2_with fail
                have H5 := H.drew.alloc #[.string ⟨qk.toArray⟩, .string ⟨qv.toArray⟩, .bool false] 51
                have HRX : Rd _ _ [.string ⟨qk.toArray⟩, .string ⟨qv.toArray⟩, .bool false] := RdL.pt _ H5
                have z0 := HYB.out _ H.drew.tail
                have z1 := HYB.out _ H5.tail.tail
                go_region_held3 (fun w' => w'.cell? ⟨g', o' + k * 2, none⟩ = some (.string ⟨qk.toArray⟩) ∧ w'.cell? ⟨g', o' + k * 2 + 1, none⟩ = some (.string ⟨qv.toArray⟩)) (assumption) (first
                  | (refine step_append_sl rfl (.tmp 108) (.tmp 120) 41 rfl 51 i0 _ zWt 40 Try.underlying41 hi hz0 rfl hz1 hz2 (by simp) zWt_like _ n _ (by simp [Act.eval]) H5.swap _ 1 1 [.string ⟨qk.toArray⟩, .string ⟨qv.toArray⟩, .bool false] (by simp [Act.eval]) rfl HRX (wt_one ⟨qk, qv, false⟩) (wt_typed ⟨qk, qv, false⟩) (by unfold maxLen; omega) (by omega) ?_
                     intro A4 c4 w4 H6
                     have z2 := HYB.out _ H6.tail.tail))
                have H7 : Sat W w4 (row 51 zWt (.slice A4 (n + 1) c4) (n + 1) (wtC (acc ++ [⟨qk, qv, false⟩])) :: L) := by
                  rw [wtC_append]
                  exact H6.swap.tail
                have HN2 : Hid (n + 1 = (acc ++ [(⟨qk, qv, false⟩ : Wt)]).length) := by show _ = _; rw [HN.out]; simp
                go_wp2
                exact ⟨⟨i, k + 1, n + 1, _, A4, c4, by omega, by omega, by go_num, by go_num, rfl, HN2, HE2, H7⟩, by simp [intOf]; omega⟩
              · have h2 : Op.bytesLess qk pk = false := less_no hgt
                have hd0 := diff_both HP.out HQ.out hlt hgt
                dsimp only at hd0
                by_cases hv : pv = qv
                · have hv2 : (pv == qv) = true := beq_yes hv
                  have hE : acc ++ diffP (a.drop (i + 1)) (b.drop (k + 1)) = D := by rw [← HE.out, hd0, if_pos hv]; simp
                  have HE2 := Lib.hid (hE)
                  clear hE HE hlt hgt hd0 hv
                  go_wp2
                  go_quiet (fail)
                  replace H := H.drewN nq
                  generalize wr.drewN nq = wz at H ⊢
                  clear x0 x1 y0 y1
                  obtain ⟨x0, x1⟩ := HXA.out _ H.tail
                  obtain ⟨y0, y1⟩ := HYB.out _ H.tail
                  go_wp2
                  go_quiet (fail)
                  replace H := H.drewN nq
                  generalize wz.drewN nq = wz at H ⊢
                  clear x0 x1 y0 y1
                  obtain ⟨x0, x1⟩ := HXA.out _ H.tail
                  obtain ⟨y0, y1⟩ := HYB.out _ H.tail
                  go_wp2
                  go_quiet (fail)
                  replace H := H.drewN nq
                  generalize wz.drewN nq = wz at H ⊢
                  clear x0 x1 y0 y1
                  obtain ⟨x0, x1⟩ := HXA.out _ H.tail
                  obtain ⟨y0, y1⟩ := HYB.out _ H.tail
                  go_wp2
                  exact ⟨⟨i + 1, k + 1, n, acc, Ao, co, by omega, by omega, by go_num, by go_num, rfl, HN, HE2, H⟩, by simp [intOf]; omega⟩
                · have hv2 : (pv == qv) = false := beq_no hv
                  have hE : (acc ++ [⟨qk, qv, false⟩]) ++ diffP (a.drop (i + 1)) (b.drop (k + 1)) = D := by rw [← HE.out, hd0, if_neg hv]; simp
                  have HE2 := Lib.hid (hE)
                  clear hE HE hlt hgt hd0 hv
                  go_wp2
                  go_quiet (fail)
                  replace H := H.drewN nq
                  generalize wr.drewN nq = wz at H ⊢
                  clear x0 x1 y0 y1
                  obtain ⟨x0, x1⟩ := HXA.out _ H.tail
                  obtain ⟨y0, y1⟩ := HYB.out _ H.tail
                  go_wp2
                  go_quiet (fail)
                  replace H := H.drewN nq
                  generalize wz.drewN nq = wz at H ⊢
                  clear x0 x1 y0 y1
                  obtain ⟨x0, x1⟩ := HXA.out _ H.tail
                  obtain ⟨y0, y1⟩ := HYB.out _ H.tail
                  go_wp2
                  go_quiet (fail)
                  replace H := H.drewN nq
                  generalize wz.drewN nq = wz at H ⊢
                  clear x0 x1 y0 y1
                  obtain ⟨x0, x1⟩ := HXA.out _ H.tail
                  obtain ⟨y0, y1⟩ := HYB.out _ H.tail
                  go_wp2_with fail
                  have H5 := H.drew.alloc #[.string ⟨qk.toArray⟩, .string ⟨qv.toArray⟩, .bool false] 51
                  have HRX : Rd _ _ [.string ⟨qk.toArray⟩, .string ⟨qv.toArray⟩, .bool false] := RdL.pt _ H5
                  have z0 := HYB.out _ H.drew.tail
                  have z1 := HYB.out _ H5.tail.tail
                  go_region_held3 (fun w' => w'.cell? ⟨g', o' + k * 2, none⟩ = some (.string ⟨qk.toArray⟩) ∧ w'.cell? ⟨g', o' + k * 2 + 1, none⟩ = some (.string ⟨qv.toArray⟩)) (assumption) (first
                    | (refine step_append_sl rfl (.tmp 37) (.tmp 49) 41 rfl 51 i0 _ zWt 40 Try.underlying41 hi hz0 rfl hz1 hz2 (by simp) zWt_like _ n _ (by simp [Act.eval]) H5.swap _ 1 1 [.string ⟨qk.toArray⟩, .string ⟨qv.toArray⟩, .bool false] (by simp [Act.eval]) rfl HRX (wt_one ⟨qk, qv, false⟩) (wt_typed ⟨qk, qv, false⟩) (by unfold maxLen; omega) (by omega) ?_
                       intro A4 c4 w4 H6
                       have z2 := HYB.out _ H6.tail.tail))
                  have H7 : Sat W w4 (row 51 zWt (.slice A4 (n + 1) c4) (n + 1) (wtC (acc ++ [⟨qk, qv, false⟩])) :: L) := by
                    rw [wtC_append]
                    exact H6.swap.tail
                  have HN2 : Hid (n + 1 = (acc ++ [(⟨qk, qv, false⟩ : Wt)]).length) := by show _ = _; rw [HN.out]; simp
                  go_wp2
                  exact ⟨⟨i + 1, k + 1, n + 1, _, A4, c4, by omega, by omega, by go_num, by go_num, rfl, HN2, HE2, H7⟩, by simp [intOf]; omega⟩
          · obtain rfl : k = b.length := by omega
            have hb1 : decide (b.length < b.length) = false := by simp
            have hb2 : ((b.length : Int) == (b.length : Int)) = true := by simp
            have ha1 : decide (i < a.length) = true := decide_eq_true hil
            have ha2 : ((i : Int) == (a.length : Int)) = false := beq_eq_false_iff_ne.2 (by omega)
            obtain ⟨p, hp⟩ : ∃ x, a[i]? = some x := ⟨_, List.getElem?_eq_getElem (by omega)⟩
            obtain ⟨g, o, rfl, x0, x1, _⟩ := pr_cells (hr _ H.tail) i p hp
            have hxa := fun w' (h : Sat W w' L) => (show w'.cell? ⟨g, o + i * 2, none⟩ = some (.string ⟨p.k.toArray⟩) ∧ w'.cell? ⟨g, o + i * 2 + 1, none⟩ = some (.string ⟨p.v.toArray⟩) from by
              obtain ⟨b1, o1, e, h1, h2, _⟩ := pr_cells (hr _ h) i p hp
              cases e
              exact ⟨h1, h2⟩)
            have HP := Lib.hid (hp)
            obtain ⟨pk, pv⟩ := p
            dsimp only at hxa
            have HXA := Lib.hid (hxa)
            dsimp only at x0 x1
            clear hxa hp
            have hE : (acc ++ [⟨pk, [], true⟩]) ++ diffP (a.drop (i + 1)) (b.drop b.length) = D := by rw [← HE.out, diff_del HP.out (.inl rfl)]; simp
            have HE2 := Lib.hid (hE)
            clear hE HE
            go_wp2
            go_quiet (fail)
            replace H := H.drewN nq
            generalize wr.drewN nq = wz at H ⊢
            clear x0 x1
            obtain ⟨x0, x1⟩ := HXA.out _ H.tail
            have H5 := H.alloc #[.string ⟨pk.toArray⟩, .string ⟨([] : Str).toArray⟩, .bool true] 51
            go_wp2_with (first
              | (at_builtin
                 refine wpList_append_sl rfl (.tmp 79) (.tmp 86) 41 rfl 51 i0 _ zWt 40 Try.underlying41 hi hz0 rfl hz1 hz2 (by simp) zWt_like _ n _ rfl H5.swap (some ⟨_, 0, none⟩) 1 1 [.string ⟨pk.toArray⟩, .string ⟨([] : Str).toArray⟩, .bool true] rfl rfl (RdL.pt _ H5) (wt_one ⟨pk, [], true⟩) (wt_typed ⟨pk, [], true⟩) (by unfold maxLen; omega) (by omega) ?_
                 intro A4 c4 w4 H6))
            have H7 : Sat W w4 (row 51 zWt (.slice A4 (n + 1) c4) (n + 1) (wtC (acc ++ [⟨pk, [], true⟩])) :: L) := by
              rw [wtC_append]
              exact H6.swap.tail
            have HN2 : Hid (n + 1 = (acc ++ [(⟨pk, [], true⟩ : Wt)]).length) := by show _ = _; rw [HN.out]; simp
            exact ⟨⟨i + 1, b.length, n + 1, _, A4, c4, by omega, by omega, by go_num, by go_num, rfl, HN2, HE2, H7⟩, by simp [intOf]; omega⟩
        · obtain rfl : i = a.length := by omega
          have ha1 : decide (a.length < a.length) = false := by simp
          have ha2 : ((a.length : Int) == (a.length : Int)) = true := by simp
          by_cases hkl : k < b.length
          · have hb1 : decide (k < b.length) = true := decide_eq_true hkl
            have hb2 : ((k : Int) == (b.length : Int)) = false := beq_eq_false_iff_ne.2 (by omega)
            obtain ⟨q, hq⟩ : ∃ x, b[k]? = some x := ⟨_, List.getElem?_eq_getElem (by omega)⟩
            obtain ⟨g', o', rfl, y0, y1, _⟩ := pr_cells (hr' _ H.tail) k q hq
            have hyb := fun w' (h : Sat W w' L) => (show w'.cell? ⟨g', o' + k * 2, none⟩ = some (.string ⟨q.k.toArray⟩) ∧ w'.cell? ⟨g', o' + k * 2 + 1, none⟩ = some (.string ⟨q.v.toArray⟩) from by
              obtain ⟨b1, o1, e, h1, h2, _⟩ := pr_cells (hr' _ h) k q hq
              cases e
              exact ⟨h1, h2⟩)
            have HQ := Lib.hid (hq)
            obtain ⟨qk, qv⟩ := q
            dsimp only at hyb
            have HYB := Lib.hid (hyb)
            dsimp only at y0 y1
            clear hyb hq
            have hE : (acc ++ [⟨qk, qv, false⟩]) ++ diffP (a.drop a.length) (b.drop (k + 1)) = D := by rw [← HE.out, diff_put HQ.out (.inl rfl)]; simp
            have HE2 := Lib.hid (hE)
            clear hE HE
            go_wp2
            go_quiet (fail)
            replace H := H.drewN nq
            generalize wr.drewN nq = wz at H ⊢
            clear y0 y1
            obtain ⟨y0, y1⟩ := HYB.out _ H.tail
            go_wp2
            go_quiet (fail)
            replace H := H.drewN nq
            generalize wz.drewN nq = wz at H ⊢
            clear y0 y1
            obtain ⟨y0, y1⟩ := HYB.out _ H.tail
            go_wp2_with fail
            have H5 := H.drew.alloc #[.string ⟨qk.toArray⟩, .string ⟨qv.toArray⟩, .bool false] 51
            have HRX : Rd _ _ [.string ⟨qk.toArray⟩, .string ⟨qv.toArray⟩, .bool false] := RdL.pt _ H5
            have z0 := HYB.out _ H.drew.tail
            have z1 := HYB.out _ H5.tail.tail
            go_region_held3 (fun w' => w'.cell? ⟨g', o' + k * 2, none⟩ = some (.string ⟨qk.toArray⟩) ∧ w'.cell? ⟨g', o' + k * 2 + 1, none⟩ = some (.string ⟨qv.toArray⟩)) (assumption) (first
              | (refine step_append_sl rfl (.tmp 108) (.tmp 120) 41 rfl 51 i0 _ zWt 40 Try.underlying41 hi hz0 rfl hz1 hz2 (by simp) zWt_like _ n _ (by simp [Act.eval]) H5.swap _ 1 1 [.string ⟨qk.toArray⟩, .string ⟨qv.toArray⟩, .bool false] (by simp [Act.eval]) rfl HRX (wt_one ⟨qk, qv, false⟩) (wt_typed ⟨qk, qv, false⟩) (by unfold maxLen; omega) (by omega) ?_
                 intro A4 c4 w4 H6
                 have z2 := HYB.out _ H6.tail.tail))
            have H7 : Sat W w4 (row 51 zWt (.slice A4 (n + 1) c4) (n + 1) (wtC (acc ++ [⟨qk, qv, false⟩])) :: L) := by
              rw [wtC_append]
              exact H6.swap.tail
            have HN2 : Hid (n + 1 = (acc ++ [(⟨qk, qv, false⟩ : Wt)]).length) := by show _ = _; rw [HN.out]; simp
            go_wp2
            exact ⟨⟨a.length, k + 1, n + 1, _, A4, c4, by omega, by omega, by go_num, by go_num, rfl, HN2, HE2, H7⟩, by simp [intOf]; omega⟩
          · obtain rfl : k = b.length := by omega
            have e1 := HE.out
            rw [List.drop_length, List.drop_length, diffP, List.append_nil] at e1
            obtain rfl : n = D.length := by rw [← e1]; exact HN.out
            rw [e1] at H
            clear HN HE
            go_wp2
            go_ret
            exact ⟨Ao, co, rfl, H⟩
    · have e1 : (checkS b != 0) = true := by simpa using h1
      rw [show diffE a b = [] by unfold diffE; rw [if_neg fun h => h1 h.2]]
      generalize checkS b = C at *
      have HCK := Lib.hid (hck)
      have HCK2 := Lib.hid (hck2)
      clear hck hck2 h0 h1
      go_enter Try.func60, Try.ntmps60
      go_wp2_with fail
      refine (HCK.out).mono ?_
      rintro e w2 ⟨rfl, H2⟩
      go_wp2_with fail
      refine (HCK2.out _ H2).mono ?_
      rintro e w3 ⟨rfl, H3⟩
      go_wp2
      go_ret
      exact ⟨none, 0, rfl, H3.nil _ _⟩
  · have e1 : (checkS a != 0) = true := by simpa using h0
    rw [show diffE a b = [] by unfold diffE; rw [if_neg fun h => h0 h.1]]
    generalize checkS a = C at *
    have HCK := Lib.hid (hck)
    clear hck h0
    go_enter Try.func60, Try.ntmps60
    go_wp2_with fail
    refine (HCK.out).mono ?_
    rintro e w2 ⟨rfl, H2⟩
    go_wp2
    go_ret
    exact ⟨none, 0, rfl, H2.nil _ _⟩
end Go.Proofs.Ytnpgjobaibnknaa
