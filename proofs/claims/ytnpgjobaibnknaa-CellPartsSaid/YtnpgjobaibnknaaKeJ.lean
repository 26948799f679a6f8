/- cell.Apply. -/
import Derived.Test.YtnpgjobaibnknaaKeI
namespace Go.Proofs.Ytnpgjobaibnknaa
open Go.RowKit Go.Rt Go.Maps

theorem look_take {l : List Pr} (hl : RiseP l) {j : Nat} {p : Pr} (hp : l[j]? = some p) (x : Str) : lookP (l.take (j + 1)) x = if p.k = x then some p.v else lookP (l.take j) x := by
  have ht : l.take (j + 1) = l.take j ++ [p] := by rw [List.take_add_one, hp]; rfl
  have hne : ∀ q ∈ l.take j, q.k ≠ p.k := fun q hq e => by
    have h0 : l = l.take j ++ l.drop j := (List.take_append_drop j l).symm
    have h1 : p ∈ l.drop j := by rw [List.drop_eq_getElem_cons (List.getElem?_eq_some_iff.1 hp).1]; simp [(List.getElem?_eq_some_iff.1 hp).2]
    have h2 : (l.map Pr.k).Pairwise (· < ·) := hl
    rw [h0, List.map_append, List.pairwise_append] at h2
    have h3 := h2.2.2 q.k (List.mem_map.2 ⟨q, hq, rfl⟩) p.k (List.mem_map.2 ⟨p, h1, rfl⟩)
    rw [e] at h3
    exact str_irrefl _ h3
  rw [ht]
  generalize l.take j = m at hne
  induction m with
  | nil => rw [List.nil_append, look_cons]
  | cons q m ih =>
    rw [List.cons_append, look_cons, look_cons, ih fun r hr => hne r (by simp [hr])]
    by_cases e : q.k = x
    · rw [if_pos e, if_neg (fun h => hne q (by simp) (by rw [e, h])), if_pos e]
    · rw [if_neg e, if_neg e]
theorem mapof_step1 {D : DataW Unit} {l : List Pr} (hl : RiseP l) {j : Nat} {p : Pr} (hp : l[j]? = some p) (h : MapOf D fun x => litO (lookP (l.take j) x)) : MapOf (D.put (.string p.k) (.lit (.string p.v))) fun x => litO (lookP (l.take (j + 1)) x) :=
  (h.put p.k (.lit (.string p.v))).congr fun x => by
    rw [look_take hl hp]
    by_cases e : p.k = x <;> simp [e, litO]
theorem mapof_step2 {D : DataW Unit} {s : List Pr} (hs : RiseP s) (w : Wt) (h : MapOf D fun x => litO (lookP s x)) : MapOf (if w.d then D.del (.string w.k) else D.put (.string w.k) (.lit (.string w.v))) fun x => litO (lookP (oneP w s) x) := by
  cases hd : w.d with
  | true =>
    rw [if_pos rfl]
    exact (h.del w.k).congr fun x => by
      rw [look_oneP w hs, hd]
      by_cases e : w.k = x <;> simp [e, litO]
  | false =>
    rw [if_neg (by simp)]
    exact (h.put w.k (.lit (.string w.v))).congr fun x => by
      rw [look_oneP w hs, hd]
      by_cases e : w.k = x <;> simp [e, litO]
theorem apply_step (l : List Pr) (ws : List Wt) (j : Nat) (x : Wt) (h : ws[j]? = some x) : applyP l (ws.take (j + 1)) = oneP x (applyP l (ws.take j)) := by
  rw [List.take_add_one, h]
  exact applyP_snoc _ _ _
theorem applyE_check {l : List Pr} (ws : List Wt) (h : checkS l ≠ 0) : applyE l ws = ([], checkS l) := by unfold applyE; rw [if_neg h]
theorem applyE_may {l : List Pr} {ws : List Wt} (h : checkS l = 0) {j : Nat} {x : Wt} (hx : ws[j]? = some x) (hm : mayW x = false) : applyE l ws = ([], 2) := by
  unfold applyE
  rw [if_pos h, if_neg]
  intro ha
  have := List.all_eq_true.1 ha x (List.mem_of_getElem? hx)
  rw [hm] at this; cases this
theorem applyE_all {l : List Pr} {ws : List Wt} (h : checkS l = 0) (hm : ∀ j x, j < ws.length → ws[j]? = some x → mayW x = true) : applyE l ws = if 65536 < (applyP l ws).length then ([], 3) else (applyP l ws, 0) := by
  unfold applyE
  rw [if_pos h, if_pos]
  rw [List.all_eq_true]
  intro x hx
  obtain ⟨j, hj⟩ := List.getElem?_of_mem hx
  exact hm j x (List.getElem?_eq_some_iff.1 hj).1 hj

set_option maxRecDepth 100000 in
set_option maxHeartbeats 8000000 in
theorem cApply_any {W w : World} {L : List SL} (A A' : Option Addr) (c c' : Nat) (l : List Pr) (ws : List Wt) (hl : l.length ≤ maxLen) (hw : ws.length ≤ 1000000) (hk : ∀ x ∈ ws, x.k.length ≤ maxLen) (hr : RdL W L A (prC l)) (hr' : RdL W L A' (wtC ws)) (H : Sat W w L) :
    Calls Try.prog 42 #[.slice A l.length c, .slice A' ws.length c'] w fun e w' => ∃ A2 c2, e = .returned (.tuple #[.slice A2 (applyE l ws).1.length c2, .int .i64 (applyE l ws).2]) ∧ Sat W w' (row 64 zPr (.slice A2 (applyE l ws).1.length c2) (applyE l ws).1.length (prC (applyE l ws).1) :: L) := by
  have hck := cChk_any A c l hl hr H
  by_cases h0 : checkS l = 0
  · have hlen := checkS_len h0
    have hrise := checkS_rise h0
    rw [h0] at hck
    have HCK := Lib.hid (hck)
    have HS1 := Lib.hid (fun (D : DataW Unit) (j : Nat) (p : Pr) (hp : l[j]? = some p) h => mapof_step1 (D := D) hrise hp h)
    have HS2 := Lib.hid (fun (D : DataW Unit) (j : Nat) (x : Wt) (hx : ws[j]? = some x) (h : MapOf D fun k => litO (lookP (applyP l (ws.take j)) k)) => (by rw [apply_step l ws j x hx]; exact mapof_step2 (rise_applyP hrise _) x h : MapOf (if x.d then D.del (.string x.k) else D.put (.string x.k) (.lit (.string x.v))) fun k => litO (lookP (applyP l (ws.take (j + 1))) k)))
    have HKL := Lib.hid (fun (j : Nat) (p : Pr) (hp : l[j]? = some p) => key_str p.k (by have := ((goodP_iff l).1 ((checkS_ok l).1 h0).2).1 p (List.mem_of_getElem? hp); have h2 := (okP_key this).1; unfold keyB at h2; simp at h2; unfold maxLen; omega))
    have HKW := Lib.hid (fun (j : Nat) (x : Wt) (hx : ws[j]? = some x) => hk x (List.mem_of_getElem? hx))
    have HBAD := Lib.hid (fun (j : Nat) (x : Wt) (hx : ws[j]? = some x) (hm : mayW x = false) => applyE_may (l := l) h0 hx hm)
    have HALL := Lib.hid (fun hm => applyE_all (l := l) (ws := ws) h0 hm)
    have HRS := Lib.hid (rise_applyP hrise ws)
    have HOK := Lib.hid (fun (hm : ∀ j x, j < ws.length → ws[j]? = some x → mayW x = true) => (ok_applyP (l := l) (ws := ws) (fun w hw => by obtain ⟨j, hj⟩ := List.getElem?_of_mem hw; exact hm j w (List.getElem?_eq_some_iff.1 hj).1 hj) ((goodP_iff l).1 ((checkS_ok l).1 h0).2).1))
    have hal := len_applyP l ws
    generalize applyE l ws = R at *
    clear hck h0 hrise hk
    go_enter Try.func42, Try.ntmps42
    go_wp2_with fail
    refine (HCK.out).mono ?_
    rintro e w2 ⟨rfl, H2⟩
    have H3 := (H2.map_made Try.prog 9 Rv).alloc #[.map (some w2.heap.size)] 86
    simp only [World.size_alloc] at H3
    have hmm := @run_makeMap Try.prog
    clear H2 H
    go_wp2
    go_loopw [21] (fun i wc => ∃ (j : Nat) (D : DataW Unit), j ≤ l.length ∧ i = .int .i64 j ∧ Hid (MapOf D fun x => litO (lookP (l.take j) x)) ∧ Sat W wc (tabS w2.heap.size j D :: pt (w2.heap.size + 1) #[.map (some w2.heap.size)] 86 :: L)) (fun i _ => l.length - (intOf i).toNat)
    case atStart => exact ⟨0, _, by omega, rfl, MapOf.nil, H3.swap⟩
    case round =>
      clear H3
      obtain ⟨j, D, hj, rfl, HM, H⟩ := hrel
      have c9 : wr.cell? ⟨w2.heap.size + 1, 0, none⟩ = some (.map (some w2.heap.size)) := H.swap.cell 0
      by_cases hlt : j < l.length
      · obtain ⟨p, hp⟩ : ∃ x, l[j]? = some x := ⟨_, List.getElem?_eq_getElem (by omega)⟩
        obtain ⟨g, o, rfl, c0, c1, _⟩ := pr_cells (hr _ H.tail.tail) j p hp
        have HM2 := Lib.hid (HS1.out D j p hp HM.out)
        have hkey := HKL.out j p hp
        obtain ⟨pk, pv⟩ := p
        dsimp only at c0 c1 hkey HM2
        have H5 := H.alloc #[.string ⟨pk.toArray⟩, .string ⟨pv.toArray⟩] 64
        generalize hw0 : wr.alloc (.cells #[.string ⟨pk.toArray⟩, .string ⟨pv.toArray⟩] 64) = w0 at H5
        have d9 : w0.cell? ⟨w2.heap.size + 1, 0, none⟩ = some (.map (some w2.heap.size)) := (H5.pull 2).cell 0
        have d0 : w0.cell? ⟨wr.heap.size, 0, none⟩ = some (.string ⟨pk.toArray⟩) := H5.cell 0
        have d1 : w0.cell? ⟨wr.heap.size, 1, none⟩ = some (.string ⟨pv.toArray⟩) := H5.cell 1
        clear hp HM HBAD HALL HS2 HOK HRS
        go_wp2_with (first
          | (refine wpList_map_store rfl (.tmp 26) (.tmp 28) (.tmp 31) 84 rfl 88 (string_keyed Try.underlying9) Try.underlying84 rfl H5.swap (by unfold maxLen; omega) _ _ (.string pk) rfl rfl hkey (.lit (.string pv)) (Rv_mk pv) ?_
             intro w4 H6))
        exact ⟨⟨j + 1, _, by omega, by go_num, HM2, H6.swap.tail⟩, by simp [intOf]; omega⟩
      · obtain rfl : j = l.length := by omega
        rw [List.take_length] at HM
        have hM0 : MapOf D fun k => litO (lookP (applyP l (ws.take 0)) k) := HM.out
        have HM0 := Lib.hid (hM0)
        clear HS1 HKL HM hM0
        go_wp2
        go_loopw [35] (fun i wc => ∃ (j : Nat) (D : DataW Unit), j ≤ ws.length ∧ i = .int .i64 j ∧ Hid (MapOf D fun x => litO (lookP (applyP l (ws.take j)) x)) ∧ Hid (∀ k x, k < j → ws[k]? = some x → mayW x = true) ∧ Sat W wc (tabS w2.heap.size (l.length + j) D :: pt (w2.heap.size + 1) #[.map (some w2.heap.size)] 86 :: L)) (fun i _ => ws.length - (intOf i).toNat)
        case atStart => exact ⟨0, D, by omega, rfl, HM0, (fun k x h => by omega), H⟩
        case round =>
          clear H
          obtain ⟨j, D, hj, rfl, HM, HN, H⟩ := hrel
          have c9 : wr.cell? ⟨w2.heap.size + 1, 0, none⟩ = some (.map (some w2.heap.size)) := H.swap.cell 0
          by_cases hlt : j < ws.length
          · obtain ⟨x, hx⟩ : ∃ x, ws[j]? = some x := ⟨_, List.getElem?_eq_getElem (by omega)⟩
            obtain ⟨g, o, rfl, c0, c1, c2, _⟩ := wt_cells (hr' _ H.tail.tail) j x hx
            have hms := HS2.out D j x hx HM.out
            have hkx := HKW.out j x hx
            have HBD := Lib.hid (fun h => HBAD.out j x hx h)
            have HX := Lib.hid (hx)
            obtain ⟨xk, xv, xd⟩ := x
            dsimp only at c0 c1 c2 hms hkx
            have HMS := Lib.hid (hms)
            have H5 := H.alloc #[.string ⟨xk.toArray⟩, .string ⟨xv.toArray⟩, .bool xd] 51
            generalize hw0 : wr.alloc (.cells #[.string ⟨xk.toArray⟩, .string ⟨xv.toArray⟩, .bool xd] 51) = w0 at H5
            have d0 : w0.cell? ⟨wr.heap.size, 0, none⟩ = some (.string ⟨xk.toArray⟩) := H5.cell 0
            have d1 : w0.cell? ⟨wr.heap.size, 1, none⟩ = some (.string ⟨xv.toArray⟩) := H5.cell 1
            have d2 : w0.cell? ⟨wr.heap.size, 2, none⟩ = some (.bool xd) := H5.cell 2
            have hmy := cmay_any ⟨xk, xv, xd⟩ H5
            clear hx hms HM HS2
            cases hm : mayW ⟨xk, xv, xd⟩ with
            | false =>
              rw [hm] at hmy
              obtain rfl := HBD.out hm
              have HMY := Lib.hid (hmy)
              clear hmy hm HALL HOK HRS HBAD HBD
              go_wp2_with fail
              refine (HMY.out).mono ?_
              rintro e w4 ⟨rfl, H6⟩
              go_wp2
              go_ret2
              exact ⟨none, 0, rfl, H6.tail.tail.tail.nil _ _⟩
            | true =>
              rw [hm] at hmy
              have HMY := Lib.hid (hmy)
              have HMT := Lib.hid (hm)
              clear hmy hm HALL HOK HRS HBAD HBD
              go_wp2_with fail
              refine (HMY.out).mono ?_
              rintro e w4 ⟨rfl, H6⟩
              clear HMY H5 H c0 c1 c2 d0 d1 d2 c9
              have d0 : w4.cell? ⟨wr.heap.size, 0, none⟩ = some (.string ⟨xk.toArray⟩) := H6.cell 0
              have d1 : w4.cell? ⟨wr.heap.size, 1, none⟩ = some (.string ⟨xv.toArray⟩) := H6.cell 1
              have d2 : w4.cell? ⟨wr.heap.size, 2, none⟩ = some (.bool xd) := H6.cell 2
              have d9 : w4.cell? ⟨w2.heap.size + 1, 0, none⟩ = some (.map (some w2.heap.size)) := (H6.pull 2).cell 0
              go_wp2_with fail
              refine (cwrite_any ⟨xk, xv, xd⟩ _ _ D hkx (by unfold maxLen; omega) H6.swap).mono ?_
              rintro e w5 ⟨rfl, H7⟩
              go_wp2
              refine ⟨⟨j + 1, _, by omega, by go_num, HMS, fun k y hk hy => ?_, H7.swap.tail⟩, by simp [intOf]; omega⟩
              rcases Nat.lt_or_ge k j with h | h
              · exact HN.out k y h hy
              · obtain rfl : k = j := by omega
                rw [HX.out] at hy; cases hy; exact HMT.out
          · obtain rfl : j = ws.length := by omega
            rw [List.take_length] at HM
            have hall := HALL.out HN.out
            have hok := HOK.out HN.out
            have hlen2 := (H.map_owns).len Try.underlying84
            have hsz := mapof_size H.map_owns HM.out HRS.out (keys_look HRS.out)
            rw [List.length_map] at hsz
            rw [hsz] at hlen2
            generalize applyP l ws = s at *
            by_cases hbig : 65536 < s.length
            · rw [if_pos hbig] at hall
              subst hall
              have hb2 : (65536 : Int) < (s.length : Int) := by omega
              clear HM HBAD HOK HALL hok hsz
              go_wp2
              go_ret2
              exact ⟨none, 0, rfl, H.tail.tail.nil _ _⟩
            · rw [if_neg hbig] at hall
              subst hall
              have hb2 : ¬ (65536 : Int) < (s.length : Int) := by omega
              have hkl : ∀ p ∈ s, p.k.length ≤ maxLen := fun p hp => by
                have h2 := (okP_key (hok p hp)).1
                unfold keyB at h2
                simp at h2
                unfold maxLen
                omega
              have HST := Lib.hid (cstate_any w2.heap.size (l.length + ws.length) D s HRS.out HM.out hkl (by omega) H)
              clear HM HBAD HOK HALL hok hsz hkl
              go_wp2_with fail
              refine (HST.out).mono ?_
              rintro e w5 ⟨A5, c5, rfl, H6⟩
              go_wp2
              go_ret2
              exact ⟨A5, c5, rfl, H6.swap.tail⟩
  · rw [applyE_check _ h0]
    have e1 : (checkS l != 0) = true := by simpa using h0
    generalize checkS l = C at *
    have HCK := Lib.hid (hck)
    clear hck h0
    go_enter Try.func42, Try.ntmps42
    go_wp2_with fail
    refine (HCK.out).mono ?_
    rintro e w2 ⟨rfl, H2⟩
    go_wp2
    go_ret2
    exact ⟨none, 0, rfl, H2.nil _ _⟩
end Go.Proofs.Ytnpgjobaibnknaa
