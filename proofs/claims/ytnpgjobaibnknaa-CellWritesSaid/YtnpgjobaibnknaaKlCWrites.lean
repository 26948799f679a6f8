/- CellWrites answers true. -/
import Derived.Test.YtnpgjobaibnknaaKeQ
namespace Go.Proofs.Ytnpgjobaibnknaa
open Go.RowKit Go.Rt

def curE (l : List Pr) (ws : List Wt) (k : Str) (j : Nat) : Str × Bool := ((lookP (applyP l (ws.take j)) k).getD [], (lookP (applyP l (ws.take j)) k).isSome)
theorem cur_zero {l : List Pr} (h : checkS l = 0) (ws : List Wt) (k : Str) : getE l k = curE l ws k 0 := by
  unfold getE curE
  rw [if_pos h, List.take_zero]
  rfl
theorem cur_end {l : List Pr} {ws : List Wt} (h : checkS (applyP l ws) = 0) (k : Str) : getE (applyP l ws) k = curE l ws k ws.length := by
  unfold getE curE
  rw [if_pos h, List.take_length]
theorem cur_step {l : List Pr} (hl : RiseP l) {ws : List Wt} {j : Nat} {x : Wt} (hx : ws[j]? = some x) (hm : mayW x = true) (k : Str) : curE l ws k (j + 1) = if x.k = k then (x.v, !x.d) else curE l ws k j := by
  unfold curE
  rw [show ws.take (j + 1) = ws.take j ++ [x] by rw [List.take_add_one, hx]; rfl, look_snoc hl]
  by_cases e : x.k = k
  · rw [if_pos e, if_pos e]
    unfold Wt.says
    cases hd : x.d
    · simp
    · unfold mayW at hm
      rw [hd] at hm
      simp at hm
      simp [hm.2]
  · rw [if_neg e, if_neg e]
theorem apply_bad {l : List Pr} {ws : List Wt} (hn : l.length + ws.length ≤ 65536) (h : (applyE l ws).2 ≠ 0) : (applyE l ws).1 = [] ∧ (checkS l = (applyE l ws).2 ∨ (applyE l ws).2 = 2) := by
  refine ⟨applyE_bad h, ?_⟩
  by_cases h0 : checkS l = 0
  · right
    unfold applyE at h ⊢
    rw [if_pos h0] at h ⊢
    have := len_applyP l ws
    split
    · rename_i h1
      rw [if_pos h1, if_neg (by omega)] at h
      exact absurd rfl h
    · rfl
  · left
    rw [applyE_check ws h0]

set_option maxRecDepth 100000 in
set_option maxHeartbeats 16000000 in
theorem lawCellWrites_any {W : World} (A : Option Addr) (c : Nat) (l : List Pr) (hA : Bsl A l.length c) (hrl : Rd W A (prC l)) (Aw : Option Addr) (cw : Nat) (ws : List Wt) (hAw : Bsl Aw ws.length cw) (hrw : Rd W Aw (wtC ws)) (k : Str) :
    Calls Try.prog 8 #[.slice A l.length c, .slice Aw ws.length cw, .string ⟨k.toArray⟩] W fun e w' => e = .returned (.bool true) ∧ Sat W w' [] := by
  have HLA := Lib.hid (Nat.le_trans hA.le hA.max)
  have HLW := Lib.hid (Nat.le_trans hAw.le hAw.max)
  clear hA hAw
  have RA : ∀ L, RdL W L A (prC l) := fun L w h => hrl.old h
  have RW : ∀ L, RdL W L Aw (wtC ws) := fun L w h => hrw.old h
  go_enter Try.func8, Try.ntmps8
  go_wp2_with fail
  refine (cawake_any (Sat.start W)).mono ?_
  rintro e w0 ⟨rfl, H0⟩
  have HLK := Lib.hid (LongPairs_any A c l 100 (by omega) HLA.out (RA _ _ H0))
  have HLK2 := Lib.hid (LongWrites_any Aw cw ws 60 (by omega) HLW.out (RW _ _ H0))
  cases hb : longPr l 100 with
  | true =>
    rw [hb] at HLK
    go_wp2_with fail
    refine (HLK.out).mono ?_
    rintro e _ ⟨rfl, rfl⟩
    go_wp2
    go_ret
    exact ⟨rfl, H0⟩
  | false =>
  rw [hb] at HLK
  have hna := (longPr_no hb).1
  clear hb
  cases hb : longWt ws 60 with
  | true =>
    rw [hb] at HLK2
    go_wp2_with fail
    refine (HLK.out).mono ?_
    rintro e _ ⟨rfl, rfl⟩
    go_wp2_with fail
    refine (HLK2.out).mono ?_
    rintro e _ ⟨rfl, rfl⟩
    go_wp2
    go_ret
    exact ⟨rfl, H0⟩
  | false =>
  rw [hb] at HLK2
  obtain ⟨hnw, hxw⟩ := longWt_no hb
  clear hb
  by_cases hk : 100 < k.length
  · have hk2 : (100 : Int) < (k.length : Int) := by omega
    go_wp2_with fail
    refine (HLK.out).mono ?_
    rintro e _ ⟨rfl, rfl⟩
    go_wp2_with fail
    refine (HLK2.out).mono ?_
    rintro e _ ⟨rfl, rfl⟩
    go_wp2
    go_ret
    exact ⟨rfl, H0⟩
  have hk2 : decide ((100 : Int) < (k.length : Int)) = false := decide_eq_false (by omega)
  have hkw : ∀ x ∈ ws, x.k.length ≤ maxLen := fun x hx => by have := (hxw x hx).1; unfold maxLen; omega
  have hap := fun w0 L (h : Sat W w0 L) => cApply_any A Aw c cw l ws HLA.out (by omega) hkw (RA L) (RW L) h
  have hc1 := fun w0 L (h : Sat W w0 L) => cChk_any A c l HLA.out (RA L) h
  have hal := applyE_len l ws
  by_cases he : (applyE l ws).2 ≠ 0
  · obtain ⟨hm, hor⟩ := apply_bad (by omega) he
    generalize hae : applyE l ws = ae at *
    obtain ⟨m, ec⟩ := ae
    dsimp only at hm hor he hap
    subst hm
    have e1 : (ec != 0) = true := by simpa using he
    have e2 : (checkS l == ec || ec == 2) = true := by simpa using hor
    generalize checkS l = C at *
    have HAP := Lib.hid (hap)
    have HC1 := Lib.hid (hc1)
    clear hap hc1 he hor hae hal hk hna hnw hxw hkw
    cases e3 : C == ec with
    | true =>
      clear e2
      go_wp2_with fail
      refine (HLK.out).mono ?_
      rintro e _ ⟨rfl, rfl⟩
      go_wp2_with fail
      refine (HLK2.out).mono ?_
      rintro e _ ⟨rfl, rfl⟩
      go_wp2_with fail
      refine (HAP.out _ _ H0).mono ?_
      rintro e w1 ⟨A1, c1, rfl, H1⟩
      go_wp2_with fail
      refine (HC1.out _ _ H1).mono ?_
      rintro e w2 ⟨rfl, H2⟩
      go_wp2
      go_ret
      exact ⟨rfl, H2.tail⟩
    | false =>
      have e4 : (ec == 2) = true := by simpa [e3] using e2
      clear e2
      go_wp2_with fail
      refine (HLK.out).mono ?_
      rintro e _ ⟨rfl, rfl⟩
      go_wp2_with fail
      refine (HLK2.out).mono ?_
      rintro e _ ⟨rfl, rfl⟩
      go_wp2_with fail
      refine (HAP.out _ _ H0).mono ?_
      rintro e w1 ⟨A1, c1, rfl, H1⟩
      go_wp2_with fail
      refine (HC1.out _ _ H1).mono ?_
      rintro e w2 ⟨rfl, H2⟩
      go_wp2
      go_ret
      exact ⟨rfl, H2.tail⟩
  replace he : (applyE l ws).2 = 0 := Decidable.not_not.1 he
  obtain ⟨h0, hmay, hm, hcm⟩ := applyE_ok he
  have HC0 := Lib.hid (cur_zero h0 ws k)
  have HEND := Lib.hid (cur_end hcm k)
  have HST := Lib.hid (fun j x (hx : ws[j]? = some x) => cur_step (good_of h0).2 hx (hmay x (List.mem_of_getElem? hx)) k)
  rw [← hm] at HEND hcm
  generalize hae : applyE l ws = ae at *
  obtain ⟨m, ec⟩ := ae
  dsimp only at hm he hap HEND hcm hal
  subst he
  have hg1 := fun w0 L (h : Sat W w0 L) => cGet_any A c l k HLA.out (RA L) h
  rw [HC0.out] at hg1
  have hg2 := fun w0 L (A2 : Option Addr) c2 (r : RdL W L A2 (prC m)) (h : Sat W w0 L) => cGet_any A2 c2 m k (by unfold maxLen; omega) r h
  rw [HEND.out] at hg2
  have hc2 := fun w0 L (A2 : Option Addr) c2 (r : RdL W L A2 (prC m)) (h : Sat W w0 L) => cChk_any A2 c2 m (by unfold maxLen; omega) r h
  rw [hcm] at hc2
  have HAP := Lib.hid (hap)
  have HG1 := Lib.hid (hg1)
  have HG2 := Lib.hid (hg2)
  have HC2 := Lib.hid (hc2)
  clear hap hg1 hg2 hc2 hc1 hae hal hk hna hxw hkw hcm hm h0 hmay HEND HC0
  generalize hcur : curE l ws k = cur at *
  clear hcur
  go_wp2_with fail
  refine (HLK.out).mono ?_
  rintro e _ ⟨rfl, rfl⟩
  go_wp2_with fail
  refine (HLK2.out).mono ?_
  rintro e _ ⟨rfl, rfl⟩
  go_wp2_with fail
  refine (HAP.out _ _ H0).mono ?_
  rintro e w1 ⟨A1, c1, rfl, H1⟩
  go_wp2_with fail
  refine (HG1.out _ _ H1).mono ?_
  rintro e w2 ⟨rfl, H2⟩
  clear HLK HLK2 HAP HG1 H0 H1
  go_wp2
  go_loopw [10, 11, 12] (fun v is i wc => ∃ (j : Nat) (vs : Str) (b : Bool), j ≤ ws.length ∧ i = .int .i64 j ∧ v = .string ⟨vs.toArray⟩ ∧ is = .bool b ∧ Hid (cur j = (vs, b)) ∧ Sat W wc [row 64 zPr (.slice A1 m.length c1) m.length (prC m)]) (fun _ _ i _ => ws.length - (intOf i).toNat)
  case atStart => exact ⟨0, (cur 0).1, (cur 0).2, by omega, rfl, rfl, rfl, rfl, H2⟩
  case round =>
    clear H2
    obtain ⟨j, vs, b, hj, rfl, rfl, rfl, HC, H⟩ := hrel
    by_cases hlt : j < ws.length
    · have hlt2 : decide (j < ws.length) = true := decide_eq_true hlt
      obtain ⟨x, hx⟩ : ∃ x, ws[j]? = some x := ⟨_, List.getElem?_eq_getElem (by omega)⟩
      obtain ⟨g, o, rfl, x0, x1, x2, _⟩ := wt_cells (RW _ _ H) j x hx
      have hst := HST.out j x hx
      obtain ⟨xk, xv, xd⟩ := x
      dsimp only at x0 x1 x2 hst
      cases hxk : (xk == k) with
      | true =>
        rw [if_pos (by simpa using hxk)] at hst
        have HS := Lib.hid (hst)
        clear hst hx
        go_wp2
        go_quiet (fail)
        go_wp2
        exact ⟨⟨j + 1, xv, !xd, by omega, by go_num, rfl, rfl, HS, H.drewN _⟩, by simp [intOf]; omega⟩
      | false =>
        rw [if_neg (by simpa using hxk), HC.out] at hst
        have HS := Lib.hid (hst)
        clear hst hx
        go_wp2
        exact ⟨⟨j + 1, vs, b, by omega, by go_num, rfl, rfl, HS, H⟩, by simp [intOf]; omega⟩
    · have hlt2 : decide (j < ws.length) = false := decide_eq_false (by omega)
      have hjw : cur ws.length = (vs, b) := by rw [← HC.out]; congr 1; omega
      rw [hjw] at HG2
      clear hlt hj hjw
      cases b with
      | true =>
        go_wp2_with fail
        refine (HG2.out _ _ A1 c1 RdL.row H).mono ?_
        rintro e w3 ⟨rfl, H3⟩
        go_wp2_with fail
        refine (HC2.out _ _ A1 c1 RdL.row H3).mono ?_
        rintro e w4 ⟨rfl, H4⟩
        go_wp2
        go_ret
        exact ⟨rfl, H4.tail⟩
      | false =>
        go_wp2_with fail
        refine (HG2.out _ _ A1 c1 RdL.row H).mono ?_
        rintro e w3 ⟨rfl, H3⟩
        go_wp2_with fail
        refine (HC2.out _ _ A1 c1 RdL.row H3).mono ?_
        rintro e w4 ⟨rfl, H4⟩
        go_wp2
        go_ret
        exact ⟨rfl, H4.tail⟩
end Go.Proofs.Ytnpgjobaibnknaa
