import Derived.Test.YtnpgjobaibnknaaKeF
import Derived.Test.YtnpgjobaibnknaaKfA
import Derived.Deep.RegionHeld3
namespace Go.Proofs.Ytnpgjobaibnknaa
open Go.RowKit Go.Rt

def scanE (l : List Pr) (s : Sp) (most : Nat) : List Pr := if checkS l = 0 then (l.filter fun p => inB s p.k).take most else []
theorem scan_bad {l : List Pr} (s : Sp) (n : Nat) (h : checkS l ≠ 0) : scanE l s n = [] := by unfold scanE; rw [if_neg h]
theorem takeWhile_take {m : List Pr} {p : Pr → Bool} {n j : Nat} (hall : ∀ i q, i < j → m[i]? = some q → p q = true) (hj : j ≤ n) (hm : j ≤ m.length) (hstop : j = m.length ∨ n ≤ j ∨ ∃ q, m[j]? = some q ∧ p q = false) : (m.takeWhile p).take n = m.take j := by
  induction m generalizing n j with
  | nil => simp
  | cons x m ih =>
    cases j with
    | zero =>
      rcases hstop with h | h | ⟨q, h1, h2⟩
      · simp at h
      · obtain rfl : n = 0 := by omega
        simp
      · simp at h1; subst h1; simp [h2]
    | succ j =>
      cases n with
      | zero => omega
      | succ n =>
        have h0 := hall 0 x (by omega) rfl
        have h1 := ih (n := n) (j := j) (fun i q hi hq => hall (i + 1) q (by omega) (by simpa using hq)) (by omega) (by simp at hm; omega) (by
          rcases hstop with h | h | ⟨q, h1, h2⟩
          · exact .inl (by simp at h; omega)
          · exact .inr (.inl (by omega))
          · exact .inr (.inr ⟨q, by simpa using h1, h2⟩))
        rw [List.takeWhile_cons_of_pos h0, List.take_succ_cons, List.take_succ_cons, h1]
theorem inB_lo {s : Sp} {k : Str} (h : k < s.lo) : inB s k = false := by unfold inB; rw [decide_eq_true h]; rfl
theorem inB_down {s : Sp} {x y : Str} (hx : ¬ x < s.lo) (h : x < y) (hy : inB s y = true) : inB s x = true := by
  unfold inB belowB at hy ⊢
  rw [decide_eq_false hx]
  simp only [Bool.and_eq_true, Bool.or_eq_true, decide_eq_true_eq, Bool.not_false, true_and] at hy ⊢
  rcases hy.2 with h1 | h1
  · exact .inl h1
  · exact .inr (str_trans h h1)
theorem filter_takeWhile {l : List Pr} (hl : RiseP l) (s : Sp) : (l.filter fun p => inB s p.k) = (l.drop (atP l s.lo)).takeWhile fun p => inB s p.k := by
  induction l with
  | nil => rfl
  | cons p l ih =>
    rw [atP_cons]
    by_cases h : p.k < s.lo
    · have h1 := inB_lo h
      rw [if_pos h, List.drop_succ_cons]
      simp only [List.filter_cons, h1, Bool.false_eq_true, if_false]
      exact ih hl.cons.2
    · rw [if_neg h, List.drop_zero]
      have hge : ∀ q ∈ l, ¬ q.k < s.lo := fun q hq h2 => h (str_trans (hl.cons.1 q hq) h2)
      have key : ∀ m : List Pr, RiseP m → (∀ q ∈ m, ¬ q.k < s.lo) → (m.filter fun p => inB s p.k) = m.takeWhile fun p => inB s p.k := fun m => by
        induction m with
        | nil => intro _ _; rfl
        | cons x m ihm =>
          intro hr hg
          cases hx : inB s x.k with
          | true =>
            simp only [List.filter_cons, List.takeWhile_cons, hx, if_true]
            rw [ihm hr.cons.2 fun q hq => hg q (by simp [hq])]
          | false =>
            simp only [List.filter_cons, List.takeWhile_cons, hx, Bool.false_eq_true, if_false]
            rw [List.filter_eq_nil_iff]
            intro q hq hb
            rw [inB_down (hg x (by simp)) (hr.cons.1 q hq) hb] at hx
            cases hx
      exact key _ hl (fun q hq => by
        rcases List.mem_cons.1 hq with rfl | hq
        · exact h
        · exact hge q hq)
theorem scan_at {l : List Pr} {s : Sp} {n j : Nat} (h0 : checkS l = 0) (hall : ∀ i q, i < j → (l.drop (atP l s.lo))[i]? = some q → inB s q.k = true) (hj : j ≤ n) (hm : j ≤ (l.drop (atP l s.lo)).length) (hstop : j = (l.drop (atP l s.lo)).length ∨ n ≤ j ∨ ∃ q, (l.drop (atP l s.lo))[j]? = some q ∧ inB s q.k = false) :
    scanE l s n = (l.drop (atP l s.lo)).take j := by
  unfold scanE
  rw [if_pos h0, filter_takeWhile (checkS_rise h0)]
  exact takeWhile_take hall hj hm hstop
theorem flat_drop {α : Type} (cs : α → List Value) (sz : Nat) (l : List α) (h : ∀ x ∈ l, (cs x).length = sz) (n : Nat) : (l.drop n).flatMap cs = (l.flatMap cs).drop (n * sz) := by
  induction l generalizing n with
  | nil => simp
  | cons p l ih =>
    cases n with
    | zero => simp
    | succ n =>
      have h1 := h p (by simp)
      have h2 : (cs p).drop (n * sz + sz) = [] := List.drop_eq_nil_of_le (by rw [h1]; omega)
      rw [List.drop_succ_cons, ih (fun x hx => h x (by simp [hx])), Nat.succ_mul, List.flatMap_cons, List.drop_append, h1, h2, List.nil_append]
      congr 1
      omega
theorem prC_drop (l : List Pr) (n : Nat) : prC (l.drop n) = (prC l).drop (n * 2) := flat_drop Pr.cs 2 l (fun _ _ => rfl) n
theorem prC_rdl {W : World} {L : List SL} {A : Option Addr} {l : List Pr} {c : Nat} (h : RdL W L A (prC l)) (hc : l.length ≤ c) (n : Nat) (hn : n ≤ l.length) : RdL W L (subZ 2 A c n) (prC (l.drop n)) := fun w H => by
  have h1 := subZ_rd (h w H) (prC_len l) hc n (l.length - n) (by omega)
  rw [prC_drop]
  rwa [List.take_of_length_le (by rw [List.length_drop, prC_len, Nat.sub_mul]; omega)] at h1

set_option maxRecDepth 100000 in
set_option maxHeartbeats 4000000 in
theorem cScan_any {W w : World} {L : List SL} (A : Option Addr) (c : Nat) (l : List Pr) (s : Sp) (most : Int) (hl : l.length ≤ maxLen) (hlc : l.length ≤ c) (hr : RdL W L A (prC l)) (H : Sat W w L) :
    Calls Try.prog 47 #[.slice A l.length c, .agg #[.string ⟨s.lo.toArray⟩, .string ⟨s.hi.toArray⟩], .int .i64 most] w fun e w' => ∃ A2 c2, e = .returned (.slice A2 (scanE l s most.toNat).length c2) ∧ Sat W w' (row 64 zPr (.slice A2 (scanE l s most.toNat).length c2) (scanE l s most.toNat).length (prC (scanE l s most.toNat)) :: L) := by
  obtain ⟨i0, hi, hz0, hz1, hz2⟩ := info_parts infoPr
  obtain ⟨lo, hb⟩ := s
  have H1 := H.alloc #[.string ⟨lo.toArray⟩, .string ⟨hb.toArray⟩] 54
  have hck := cChk_any A c l hl hr.tail H1
  by_cases h0 : checkS l = 0
  · have hlen := checkS_len h0
    rw [h0] at hck
    have HCK := Lib.hid (hck)
    have HF := Lib.hid (fun w0 (L0 : List SL) (r : RdL W L0 A (prC l)) (h : Sat W w0 L0) => cfind_any A c l lo hlen r (checkS_rise h0) h)
    have HSC := Lib.hid (fun j h1 h2 h3 h4 => scan_at (l := l) (s := ⟨lo, hb⟩) (n := most.toNat) (j := j) h0 h1 h2 h3 h4)
    have hat := atP_le l lo
    dsimp only at HSC
    have HRD := Lib.hid (prC_rdl hr hlc (atP l lo) hat)
    generalize scanE l ⟨lo, hb⟩ most.toNat = sc at *
    generalize (lookP l lo).isSome = lk at *
    generalize atP l lo = at_ at *
    clear hck h0
    go_enter Try.func47, Try.ntmps47
    go_wp2_with fail
    refine (HCK.out).mono ?_
    rintro e w2 ⟨rfl, H2⟩
    have c0 : w2.cell? ⟨w.heap.size, 0, none⟩ = some (.string ⟨lo.toArray⟩) := H2.cell 0
    go_wp2_with fail
    refine (HF.out _ _ hr.tail H2).mono ?_
    rintro e w3 ⟨rfl, H3⟩
    clear H1 H2 c0
    go_wp2_with (first
      | (refine wpList_slice_fromZ (by rfl) (.tmp 22) (.tmp 23) 40 rfl 64 i0 2 Try.underlying40 hi hz1 A l.length c at_ rfl rfl hat ?_))
    have hdl : (l.drop at_).length = l.length - at_ := List.length_drop
    generalize l.drop at_ = m at *
    rw [← hdl]
    have hml : m.length ≤ 65536 := by omega
    clear hdl
    generalize subZ 2 A c at_ = B at *
    go_loopw [7, 26] (fun ou i wc => ∃ (j : Nat) (Ao : Option Addr) (co : Nat), j ≤ m.length ∧ j ≤ most.toNat ∧ i = .int .i64 j ∧ ou = .slice Ao j co ∧ Hid (∀ i q, i < j → m[i]? = some q → inB ⟨lo, hb⟩ q.k = true) ∧ Sat W wc (row 64 zPr (.slice Ao j co) j (prC (m.take j)) :: pt w.heap.size #[.string ⟨lo.toArray⟩, .string ⟨hb.toArray⟩] 54 :: L)) (fun _ i _ => m.length - (intOf i).toNat)
    case atStart => exact ⟨0, none, 0, by omega, by omega, rfl, rfl, (fun i q h => by omega), H3.nil _ _⟩
    case round =>
      clear H H3 HCK HF
      obtain ⟨j, Ao, co, hj, hjm, rfl, rfl, hN, H⟩ := hrel
      have c0 : wr.cell? ⟨w.heap.size, 0, none⟩ = some (.string ⟨lo.toArray⟩) := H.tail.cell 0
      have c1 : wr.cell? ⟨w.heap.size, 1, none⟩ = some (.string ⟨hb.toArray⟩) := H.tail.cell 1
      by_cases hlt : j < m.length
      · have hlt2 : (j : Int) < (m.length : Int) := by omega
        obtain ⟨x, hx⟩ : ∃ x, m[j]? = some x := ⟨_, List.getElem?_eq_getElem (by omega)⟩
        obtain ⟨b, o, rfl, x0, x1, _⟩ := pr_cells (HRD.out _ H.tail.tail) j x hx
        have HX := Lib.hid (hx)
        obtain ⟨xk, xv⟩ := x
        by_cases hmo : most.toNat ≤ j
        · have hmo2 : most ≤ (j : Int) := by omega
          have e1 := HSC.out j hN.out hjm hj (.inr (.inl hmo))
          clear HSC hmo
          subst e1
          have hl9 : (m.take j).length = j := by rw [List.length_take]; omega
          go_wp2
          go_ret
          refine ⟨Ao, co, by first | rfl | (rw [hl9]; rfl), ?_⟩
          first | exact (H.alloc' _).swap.tail | (rw [hl9]; exact (H.alloc' _).swap.tail)
        · have hmo2 : ¬ most ≤ (j : Int) := by omega
          have H2 := H.alloc #[.string ⟨xk.toArray⟩, .string ⟨xv.toArray⟩] 64
          generalize hw0 : wr.alloc (.cells #[.string ⟨xk.toArray⟩, .string ⟨xv.toArray⟩] 64) = w0 at H2
          have q0 : w0.cell? ⟨w.heap.size, 0, none⟩ = some (.string ⟨lo.toArray⟩) := (H2.pull 2).cell 0
          have q1 : w0.cell? ⟨w.heap.size, 1, none⟩ = some (.string ⟨hb.toArray⟩) := (H2.pull 2).cell 1
          have p0 : w0.cell? ⟨wr.heap.size, 0, none⟩ = some (.string ⟨xk.toArray⟩) := H2.cell 0
          have p1 : w0.cell? ⟨wr.heap.size, 1, none⟩ = some (.string ⟨xv.toArray⟩) := H2.cell 1
          have hin := sIn_any lo hb xk H2
          cases hbn : inB ⟨lo, hb⟩ xk with
          | false =>
            rw [hbn] at hin
            have e1 := HSC.out j hN.out hjm hj (.inr (.inr ⟨_, HX.out, hbn⟩))
            have HIN := Lib.hid (hin)
            clear HSC hbn hin hx
            subst e1
            have hl9 : (m.take j).length = j := by rw [List.length_take]; omega
            go_wp2_with fail
            refine (HIN.out).mono ?_
            rintro e w4 ⟨rfl, H4⟩
            go_wp2
            go_ret
            refine ⟨Ao, co, by first | rfl | (rw [hl9]; rfl), ?_⟩
            first | exact H4.tail.swap.tail | (rw [hl9]; exact H4.tail.swap.tail)
          | true =>
            rw [hbn] at hin
            have HIN := Lib.hid (hin)
            have ht : m.take (j + 1) = m.take j ++ [⟨xk, xv⟩] := by rw [List.take_add_one, hx]; rfl
            have HT := Lib.hid (ht)
            have HB := Lib.hid (hbn)
            clear hbn hin hx ht HSC
            go_wp2_with fail
            refine (HIN.out).mono ?_
            rintro e w4 ⟨rfl, H4⟩
            clear H H2 HIN c0 c1 x0 x1
            have p0 : w4.cell? ⟨wr.heap.size, 0, none⟩ = some (.string ⟨xk.toArray⟩) := H4.cell 0
            have p1 : w4.cell? ⟨wr.heap.size, 1, none⟩ = some (.string ⟨xv.toArray⟩) := H4.cell 1
            have H5 := H4.alloc #[.string ⟨xk.toArray⟩, .string ⟨xv.toArray⟩] 64
            go_wp2_with (first
              | (at_builtin
                 refine wpList_append_sl rfl (.tmp 41) (.tmp 43) 40 rfl 64 i0 _ zPr 32 Try.underlying40 hi hz0 rfl hz1 hz2 (by simp) zPr_like _ j _ rfl (H5.pull 2) (some ⟨w4.heap.size, 0, none⟩) 1 1 [.string ⟨xk.toArray⟩, .string ⟨xv.toArray⟩] rfl rfl (RdL.pt _ H5) (pr_one ⟨xk, xv⟩) (pr_typed ⟨xk, xv⟩) (by unfold maxLen; omega) (by omega) ?_
                 intro A4 c4 w5 H6))
            refine ⟨⟨j + 1, A4, c4, by omega, by omega, by go_num, rfl, fun i q hi hq => ?_, ?_⟩, by simp [intOf]; omega⟩
            · rcases Nat.lt_or_ge i j with h | h
              · exact hN.out i q h hq
              · obtain rfl : i = j := by omega
                rw [HX.out] at hq; cases hq; exact HB.out
            · rw [HT.out, prC_append]
              exact H6.swap.tail.swap.tail
      · have hlt2 : ¬ (j : Int) < (m.length : Int) := by omega
        have e1 := HSC.out j hN.out hjm hj (.inl (by omega))
        clear HSC
        subst e1
        have hl9 : (m.take j).length = j := by rw [List.length_take]; omega
        go_wp2
        go_ret
        refine ⟨Ao, co, by first | rfl | (rw [hl9]; rfl), ?_⟩
        first | exact H.swap.tail | (rw [hl9]; exact H.swap.tail)
  · rw [scan_bad _ _ h0]
    have e1 : (checkS l != 0) = true := by simpa using h0
    generalize checkS l = C at *
    have HCK := Lib.hid (hck)
    clear hck h0
    go_enter Try.func47, Try.ntmps47
    go_wp2_with fail
    refine (HCK.out).mono ?_
    rintro e w2 ⟨rfl, H2⟩
    go_wp2
    go_ret
    exact ⟨none, 0, rfl, H2.tail.nil _ _⟩

theorem filter_step (l : List Pr) (p : Pr → Bool) (j : Nat) (x : Pr) (h : l[j]? = some x) : (l.take (j + 1)).filter p = (l.take j).filter p ++ if p x then [x] else [] := by
  rw [List.take_add_one, h, List.filter_append]
  simp only [Option.toList_some, List.filter_cons, List.filter_nil]
theorem filter_take_of {l : List Pr} {p : Pr → Bool} {n j : Nat} (h : j = l.length ∨ n ≤ ((l.take j).filter p).length) (hn : ((l.take j).filter p).length ≤ n) : (l.filter p).take n = (l.take j).filter p := by
  rcases h with rfl | h
  · rw [List.take_length] at hn ⊢
    exact List.take_of_length_le hn
  · have e : l.filter p = (l.take j).filter p ++ (l.drop j).filter p := by rw [← List.filter_append, List.take_append_drop]
    rw [e, List.take_append_of_le_length (by omega), List.take_of_length_le hn]

set_option maxRecDepth 100000 in
set_option maxHeartbeats 4000000 in
theorem qScan_any {W w : World} {L : List SL} (A : Option Addr) (c : Nat) (l : List Pr) (s : Sp) (most : Int) (hl : l.length ≤ maxLen) (hr : RdL W L A (prC l)) (H : Sat W w L) :
    Calls Try.prog 49 #[.slice A l.length c, .agg #[.string ⟨s.lo.toArray⟩, .string ⟨s.hi.toArray⟩], .int .i64 most] w fun e w' => ∃ A2 c2, e = .returned (.slice A2 (scanE l s most.toNat).length c2) ∧ Sat W w' (row 64 zPr (.slice A2 (scanE l s most.toNat).length c2) (scanE l s most.toNat).length (prC (scanE l s most.toNat)) :: L) := by
  obtain ⟨i0, hi, hz0, hz1, hz2⟩ := info_parts infoPr
  obtain ⟨lo, hb⟩ := s
  have H1 := H.alloc #[.string ⟨lo.toArray⟩, .string ⟨hb.toArray⟩] 54
  have hck := qChk_any A c l hl hr.tail H1
  by_cases h0 : checkS l = 0
  · have hlen := checkS_len h0
    rw [h0] at hck
    have HCK := Lib.hid (hck)
    have hsc : scanE l ⟨lo, hb⟩ most.toNat = (l.filter fun p => inB ⟨lo, hb⟩ p.k).take most.toNat := by unfold scanE; rw [if_pos h0]
    have HSC := Lib.hid (fun j h1 h2 => hsc.trans (filter_take_of (j := j) h1 h2))
    have HST := Lib.hid (fun j x (h : l[j]? = some x) => filter_step l (fun p => inB ⟨lo, hb⟩ p.k) j x h)
    have HFL := Lib.hid (fun j => (Nat.le_trans (List.length_filter_le (fun p => inB ⟨lo, hb⟩ p.k) (l.take j)) (List.length_take_le _ _) : ((l.take j).filter fun p => inB ⟨lo, hb⟩ p.k).length ≤ j))
    generalize scanE l ⟨lo, hb⟩ most.toNat = sc at *
    clear hck h0 hsc
    go_enter Try.func49, Try.ntmps49
    go_wp2_with fail
    refine (HCK.out).mono ?_
    rintro e w2 ⟨rfl, H2⟩
    go_wp2
    go_loopw [7, 8] (fun ou i wc => ∃ (j n : Nat) (acc : List Pr) (Ao : Option Addr) (co : Nat), j ≤ l.length ∧ i = .int .i64 j ∧ ou = .slice Ao n co ∧ n ≤ most.toNat ∧ Hid (n = acc.length) ∧ Hid (acc = (l.take j).filter fun p => inB ⟨lo, hb⟩ p.k) ∧ Sat W wc (row 64 zPr (.slice Ao n co) n (prC acc) :: pt w.heap.size #[.string ⟨lo.toArray⟩, .string ⟨hb.toArray⟩] 54 :: L)) (fun _ i _ => l.length - (intOf i).toNat)
    case atStart => exact ⟨0, 0, [], none, 0, by omega, rfl, rfl, by omega, rfl, by show _ = _; simp, H2.nil _ _⟩
    case round =>
      clear H H2 H1 HCK
      obtain ⟨j, n, acc, Ao, co, hj, rfl, rfl, hnm, HNA, HA, H⟩ := hrel
      have hnj : n ≤ j := by rw [HNA.out, HA.out]; exact HFL.out j
      by_cases hlt : j < l.length
      · have hlt2 : (j : Int) < (l.length : Int) := by omega
        by_cases hmo : n < most.toNat
        · have hmo2 : (n : Int) < most := by omega
          obtain ⟨x, hx⟩ : ∃ x, l[j]? = some x := ⟨_, List.getElem?_eq_getElem (by omega)⟩
          obtain ⟨b, o, rfl, x0, x1, _⟩ := pr_cells (hr _ H.tail.tail) j x hx
          have hst := HST.out j x hx
          obtain ⟨xk, xv⟩ := x
          dsimp only at x0 x1 hst
          have q0 : wr.cell? ⟨w.heap.size, 0, none⟩ = some (.string ⟨lo.toArray⟩) := H.tail.cell 0
          have q1 : wr.cell? ⟨w.heap.size, 1, none⟩ = some (.string ⟨hb.toArray⟩) := H.tail.cell 1
          have hrd := fun w' (h : Sat W w' (row 64 zPr (.slice Ao n co) n (prC acc) :: pt w.heap.size #[.string ⟨lo.toArray⟩, .string ⟨hb.toArray⟩] 54 :: L)) => (show w'.cell? ⟨b, o + j * 2, none⟩ = some (.string ⟨xk.toArray⟩) ∧ w'.cell? ⟨b, o + j * 2 + 1, none⟩ = some (.string ⟨xv.toArray⟩) ∧ w'.cell? ⟨w.heap.size, 0, none⟩ = some (.string ⟨lo.toArray⟩) ∧ w'.cell? ⟨w.heap.size, 1, none⟩ = some (.string ⟨hb.toArray⟩) from by
            obtain ⟨b', o', e, h1, h2, _⟩ := pr_cells (hr _ h.tail.tail) j ⟨xk, xv⟩ hx
            cases e
            exact ⟨h1, h2, h.tail.cell 0, h.tail.cell 1⟩)
          have HRD := Lib.hid (hrd)
          have hin := rIn_any lo hb xk H.drew
          cases hbn : inB ⟨lo, hb⟩ xk with
          | false =>
            rw [hbn] at hin hst
            rw [if_neg (by simp), List.append_nil, ← HA.out] at hst
            have HIN := Lib.hid (hin)
            have HST2 := Lib.hid (hst)
            clear hbn hin hx hst
            go_wp2_with fail
            go_region_held3 (fun w' => w'.cell? ⟨b, o + j * 2, none⟩ = some (.string ⟨xk.toArray⟩) ∧ w'.cell? ⟨w.heap.size, 0, none⟩ = some (.string ⟨lo.toArray⟩) ∧ w'.cell? ⟨w.heap.size, 1, none⟩ = some (.string ⟨hb.toArray⟩)) (exact ⟨‹_›, ‹_›, ‹_›⟩) (first
              | (go_at_call 79; refine HIN.out.mono ?_; rintro e w4 ⟨rfl, H4⟩
                 obtain ⟨y0, y1, y2, y3⟩ := HRD.out _ H4))
            go_wp2
            exact ⟨⟨j + 1, n, acc, Ao, co, by omega, by go_num, rfl, hnm, HNA, Lib.hid HST2.out.symm, H4⟩, by simp [intOf]; omega⟩
          | true =>
            rw [hbn] at hin hst
            rw [if_pos rfl, ← HA.out] at hst
            have HIN := Lib.hid (hin)
            have HST2 := Lib.hid (hst)
            clear hbn hin hx hst
            go_wp2_with fail
            go_region_held3 (fun w' => w'.cell? ⟨b, o + j * 2, none⟩ = some (.string ⟨xk.toArray⟩) ∧ w'.cell? ⟨w.heap.size, 0, none⟩ = some (.string ⟨lo.toArray⟩) ∧ w'.cell? ⟨w.heap.size, 1, none⟩ = some (.string ⟨hb.toArray⟩)) (exact ⟨‹_›, ‹_›, ‹_›⟩) (first
              | (go_at_call 79; refine HIN.out.mono ?_; rintro e w4 ⟨rfl, H4⟩
                 obtain ⟨y0, y1, y2, y3⟩ := HRD.out _ H4))
            have H5 := H4.alloc #[.string ⟨xk.toArray⟩, .string ⟨xv.toArray⟩] 64
            go_wp2_with (first
              | (at_builtin
                 refine wpList_append_sl rfl (.tmp 31) (.tmp 36) 40 rfl 64 i0 _ zPr 32 Try.underlying40 hi hz0 rfl hz1 hz2 (by simp) zPr_like _ n _ rfl H5.swap (some ⟨w4.heap.size, 0, none⟩) 1 1 [.string ⟨xk.toArray⟩, .string ⟨xv.toArray⟩] rfl rfl (RdL.pt _ H5) (pr_one ⟨xk, xv⟩) (pr_typed ⟨xk, xv⟩) (by unfold maxLen; omega) (by omega) ?_
                 intro A4 c4 w5 H6))
            refine ⟨⟨j + 1, n + 1, acc ++ [⟨xk, xv⟩], A4, c4, by omega, by go_num, rfl, by omega, by show _ = _; rw [HNA.out, List.length_append]; rfl, Lib.hid HST2.out.symm, ?_⟩, by simp [intOf]; omega⟩
            rw [prC_append]
            exact H6.swap.tail
        · have hmo2 : ¬ (n : Int) < most := by omega
          have e1 := HSC.out j (.inr (by rw [← HA.out, ← HNA.out]; omega)) (by rw [← HA.out, ← HNA.out]; exact hnm)
          rw [← HA.out] at e1
          have HE := Lib.hid (e1)
          clear hmo e1 HSC
          go_wp2
          go_ret
          exact ⟨Ao, co, by rw [HE.out, HNA.out]; rfl, by rw [HE.out, ← HNA.out]; exact H.swap.tail⟩
      · have hlt2 : ¬ (j : Int) < (l.length : Int) := by omega
        have e1 := HSC.out j (.inl (by omega)) (by rw [← HA.out, ← HNA.out]; exact hnm)
        rw [← HA.out] at e1
        have HE := Lib.hid (e1)
        clear e1 HSC
        go_wp2
        go_ret
        exact ⟨Ao, co, by rw [HE.out, HNA.out]; rfl, by rw [HE.out, ← HNA.out]; exact H.swap.tail⟩
  · rw [scan_bad _ _ h0]
    have e1 : (checkS l != 0) = true := by simpa using h0
    generalize checkS l = C at *
    have HCK := Lib.hid (hck)
    clear hck h0
    go_enter Try.func49, Try.ntmps49
    go_wp2_with fail
    refine (HCK.out).mono ?_
    rintro e w2 ⟨rfl, H2⟩
    go_wp2
    go_ret
    exact ⟨none, 0, rfl, H2.tail.nil _ _⟩
end Go.Proofs.Ytnpgjobaibnknaa
