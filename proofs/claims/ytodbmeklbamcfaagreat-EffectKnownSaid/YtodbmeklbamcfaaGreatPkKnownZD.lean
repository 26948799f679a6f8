/- A pack of texts: KeG, KeH, KfB, KfC, KfD -/
import Derived.Test.YtodbmeklbamcfaaGreatPkKnownO
import Derived.Test.YtodbmeklbamcfaaGreatPkKnownZC
import Derived.Deep.RegionHeld3
import Derived.Test.YtodbmeklbamcfaaGreatPkKnownM
import Derived.Test.YtodbmeklbamcfaaGreatPkKnownW
/- Spans that are gone through: the program's answer, the document's. -/
namespace Go.Proofs.YtodbmeklbamcfaaGreat
open Go.RowKit Go.Rt

def scanE (l : List Pr) (s : Sp) (most : Nat) : List Pr := if checkS l = 0 then (l.filter fun p => inB s p.k).take most else []
theorem scan_bad {l : List Pr} (s : Sp) (n : Nat) (h : checkS l ≠ 0) : scanE l s n = [] := by unfold scanE; rw [if_neg h]
theorem takeWhile_take {m : List Pr} {p : Pr → Bool} {n j : Nat} (hall : ∀ i q, i < j → m[i]? = some q → p q = true) (hj : j ≤ n) (hm : j ≤ m.length) (hstop : j = m.length ∨ n ≤ j ∨ ∃ q, m[j]? = some q ∧ p q = false) : (m.takeWhile p).take n = m.take j := by
  induction m generalizing n j with
  | nil => simp
  | cons x m ih =>
    cases j with
    | zero =>
      rcases hstop with h | h | ⟨q, h1, h2⟩
      · simp at h
      · obtain rfl : n = 0 := by omega
        simp
      · simp at h1; subst h1; simp [h2]
    | succ j =>
      cases n with
      | zero => omega
      | succ n =>
        have h0 := hall 0 x (by omega) rfl
        have h1 := ih (n := n) (j := j) (fun i q hi hq => hall (i + 1) q (by omega) (by simpa using hq)) (by omega) (by simp at hm; omega) (by
          rcases hstop with h | h | ⟨q, h1, h2⟩
          · exact .inl (by simp at h; omega)
          · exact .inr (.inl (by omega))
          · exact .inr (.inr ⟨q, by simpa using h1, h2⟩))
        rw [List.takeWhile_cons_of_pos h0, List.take_succ_cons, List.take_succ_cons, h1]
theorem inB_lo {s : Sp} {k : Str} (h : k < s.lo) : inB s k = false := by unfold inB; rw [decide_eq_true h]; rfl
theorem inB_down {s : Sp} {x y : Str} (hx : ¬ x < s.lo) (h : x < y) (hy : inB s y = true) : inB s x = true := by
  unfold inB belowB at hy ⊢
  rw [decide_eq_false hx]
  simp only [Bool.and_eq_true, Bool.or_eq_true, decide_eq_true_eq, Bool.not_false, true_and] at hy ⊢
  rcases hy.2 with h1 | h1
  · exact .inl h1
  · exact .inr (str_trans h h1)
theorem filter_takeWhile {l : List Pr} (hl : RiseP l) (s : Sp) : (l.filter fun p => inB s p.k) = (l.drop (atP l s.lo)).takeWhile fun p => inB s p.k := by
  induction l with
  | nil => rfl
  | cons p l ih =>
    rw [atP_cons]
    by_cases h : p.k < s.lo
    · have h1 := inB_lo h
      rw [if_pos h, List.drop_succ_cons]
      simp only [List.filter_cons, h1, Bool.false_eq_true, if_false]
      exact ih hl.cons.2
    · rw [if_neg h, List.drop_zero]
      have hge : ∀ q ∈ l, ¬ q.k < s.lo := fun q hq h2 => h (str_trans (hl.cons.1 q hq) h2)
      have key : ∀ m : List Pr, RiseP m → (∀ q ∈ m, ¬ q.k < s.lo) → (m.filter fun p => inB s p.k) = m.takeWhile fun p => inB s p.k := fun m => by
        induction m with
        | nil => intro _ _; rfl
        | cons x m ihm =>
          intro hr hg
          cases hx : inB s x.k with
          | true =>
            simp only [List.filter_cons, List.takeWhile_cons, hx, if_true]
            rw [ihm hr.cons.2 fun q hq => hg q (by simp [hq])]
          | false =>
            simp only [List.filter_cons, List.takeWhile_cons, hx, Bool.false_eq_true, if_false]
            rw [List.filter_eq_nil_iff]
            intro q hq hb
            rw [inB_down (hg x (by simp)) (hr.cons.1 q hq) hb] at hx
            cases hx
      exact key _ hl (fun q hq => by
        rcases List.mem_cons.1 hq with rfl | hq
        · exact h
        · exact hge q hq)
theorem scan_at {l : List Pr} {s : Sp} {n j : Nat} (h0 : checkS l = 0) (hall : ∀ i q, i < j → (l.drop (atP l s.lo))[i]? = some q → inB s q.k = true) (hj : j ≤ n) (hm : j ≤ (l.drop (atP l s.lo)).length) (hstop : j = (l.drop (atP l s.lo)).length ∨ n ≤ j ∨ ∃ q, (l.drop (atP l s.lo))[j]? = some q ∧ inB s q.k = false) :
    scanE l s n = (l.drop (atP l s.lo)).take j := by
  unfold scanE
  rw [if_pos h0, filter_takeWhile (checkS_rise h0)]
  exact takeWhile_take hall hj hm hstop
theorem flat_drop {α : Type} (cs : α → List Value) (sz : Nat) (l : List α) (h : ∀ x ∈ l, (cs x).length = sz) (n : Nat) : (l.drop n).flatMap cs = (l.flatMap cs).drop (n * sz) := by
  induction l generalizing n with
  | nil => simp
  | cons p l ih =>
    cases n with
    | zero => simp
    | succ n =>
      have h1 := h p (by simp)
      have h2 : (cs p).drop (n * sz + sz) = [] := List.drop_eq_nil_of_le (by rw [h1]; omega)
      rw [List.drop_succ_cons, ih (fun x hx => h x (by simp [hx])), Nat.succ_mul, List.flatMap_cons, List.drop_append, h1, h2, List.nil_append]
      congr 1
      omega
theorem prC_drop (l : List Pr) (n : Nat) : prC (l.drop n) = (prC l).drop (n * 2) := flat_drop Pr.cs 2 l (fun _ _ => rfl) n
theorem prC_rdl {W : World} {L : List SL} {A : Option Addr} {l : List Pr} {c : Nat} (h : RdL W L A (prC l)) (hc : l.length ≤ c) (n : Nat) (hn : n ≤ l.length) : RdL W L (subZ 2 A c n) (prC (l.drop n)) := fun w H => by
  have h1 := subZ_rd (h w H) (prC_len l) hc n (l.length - n) (by omega)
  rw [prC_drop]
  rwa [List.take_of_length_le (by rw [List.length_drop, prC_len, Nat.sub_mul]; omega)] at h1

set_option maxRecDepth 100000 in
set_option maxHeartbeats 4000000 in
theorem cScan_any {W w : World} {L : List SL} (A : Option Addr) (c : Nat) (l : List Pr) (s : Sp) (most : Int) (hl : l.length ≤ maxLen) (hlc : l.length ≤ c) (hr : RdL W L A (prC l)) (H : Sat W w L) :
    Calls Tryz.prog 247 #[.slice A l.length c, .agg #[.string ⟨s.lo.toArray⟩, .string ⟨s.hi.toArray⟩], .int .i64 most] w fun e w' => ∃ A2 c2, e = .returned (.slice A2 (scanE l s most.toNat).length c2) ∧ Sat W w' (row 125 zPr (.slice A2 (scanE l s most.toNat).length c2) (scanE l s most.toNat).length (prC (scanE l s most.toNat)) :: L) := by
  obtain ⟨i0, hi, hz0, hz1, hz2⟩ := info_parts infoPr
  obtain ⟨lo, hb⟩ := s
  have H1 := H.alloc #[.string ⟨lo.toArray⟩, .string ⟨hb.toArray⟩] 74
  have hck := cChk_any A c l hl hr.tail H1
  by_cases h0 : checkS l = 0
  · have hlen := checkS_len h0
    rw [h0] at hck
    have HCK := Lib.hid (hck)
    have HF := Lib.hid (fun w0 (L0 : List SL) (r : RdL W L0 A (prC l)) (h : Sat W w0 L0) => cfind_any A c l lo hlen r (checkS_rise h0) h)
    have HSC := Lib.hid (fun j h1 h2 h3 h4 => scan_at (l := l) (s := ⟨lo, hb⟩) (n := most.toNat) (j := j) h0 h1 h2 h3 h4)
    have hat := atP_le l lo
    dsimp only at HSC
    have HRD := Lib.hid (prC_rdl hr hlc (atP l lo) hat)
    generalize scanE l ⟨lo, hb⟩ most.toNat = sc at *
    generalize (lookP l lo).isSome = lk at *
    generalize atP l lo = at_ at *
    clear hck h0
    go_enter Tryz.func247, Tryz.ntmps247
    go_wp2_with fail
    refine (HCK.out).mono ?_
    rintro e w2 ⟨rfl, H2⟩
    have c0 : w2.cell? ⟨w.heap.size, 0, none⟩ = some (.string ⟨lo.toArray⟩) := H2.cell 0
    go_wp2_with fail
    refine (HF.out _ _ hr.tail H2).mono ?_
    rintro e w3 ⟨rfl, H3⟩
    clear H1 H2 c0
    go_wp2_with (first
      | (refine wpList_slice_fromZ (by rfl) (.tmp 22) (.tmp 23) 54 rfl 125 i0 2 Tryz.underlying54 hi hz1 A l.length c at_ rfl rfl hat ?_))
    have hdl : (l.drop at_).length = l.length - at_ := List.length_drop
    generalize l.drop at_ = m at *
    rw [← hdl]
    have hml : m.length ≤ 65536 := by omega
    clear hdl
    generalize subZ 2 A c at_ = B at *
    go_loopw [7, 26] (fun ou i wc => ∃ (j : Nat) (Ao : Option Addr) (co : Nat), j ≤ m.length ∧ j ≤ most.toNat ∧ i = .int .i64 j ∧ ou = .slice Ao j co ∧ Hid (∀ i q, i < j → m[i]? = some q → inB ⟨lo, hb⟩ q.k = true) ∧ Sat W wc (row 125 zPr (.slice Ao j co) j (prC (m.take j)) :: pt w.heap.size #[.string ⟨lo.toArray⟩, .string ⟨hb.toArray⟩] 74 :: L)) (fun _ i _ => m.length - (intOf i).toNat)
    case atStart => exact ⟨0, none, 0, by omega, by omega, rfl, rfl, (fun i q h => by omega), H3.nil _ _⟩
    case round =>
      clear H H3 HCK HF
      obtain ⟨j, Ao, co, hj, hjm, rfl, rfl, hN, H⟩ := hrel
      have c0 : wr.cell? ⟨w.heap.size, 0, none⟩ = some (.string ⟨lo.toArray⟩) := H.tail.cell 0
      have c1 : wr.cell? ⟨w.heap.size, 1, none⟩ = some (.string ⟨hb.toArray⟩) := H.tail.cell 1
      by_cases hlt : j < m.length
      · have hlt2 : (j : Int) < (m.length : Int) := by omega
        obtain ⟨x, hx⟩ : ∃ x, m[j]? = some x := ⟨_, List.getElem?_eq_getElem (by omega)⟩
        obtain ⟨b, o, rfl, x0, x1, _⟩ := pr_cells (HRD.out _ H.tail.tail) j x hx
        have HX := Lib.hid (hx)
        obtain ⟨xk, xv⟩ := x
        by_cases hmo : most.toNat ≤ j
        · have hmo2 : most ≤ (j : Int) := by omega
          have e1 := HSC.out j hN.out hjm hj (.inr (.inl hmo))
          clear HSC hmo
          subst e1
          have hl9 : (m.take j).length = j := by rw [List.length_take]; omega
          go_wp2
          go_ret
          refine ⟨Ao, co, by first | rfl | (rw [hl9]; rfl), ?_⟩
          first | exact (H.alloc' _).swap.tail | (rw [hl9]; exact (H.alloc' _).swap.tail)
        · have hmo2 : ¬ most ≤ (j : Int) := by omega
          have H2 := H.alloc #[.string ⟨xk.toArray⟩, .string ⟨xv.toArray⟩] 125
          generalize hw0 : wr.alloc (.cells #[.string ⟨xk.toArray⟩, .string ⟨xv.toArray⟩] 125) = w0 at H2
          have q0 : w0.cell? ⟨w.heap.size, 0, none⟩ = some (.string ⟨lo.toArray⟩) := (H2.pull 2).cell 0
          have q1 : w0.cell? ⟨w.heap.size, 1, none⟩ = some (.string ⟨hb.toArray⟩) := (H2.pull 2).cell 1
          have p0 : w0.cell? ⟨wr.heap.size, 0, none⟩ = some (.string ⟨xk.toArray⟩) := H2.cell 0
          have p1 : w0.cell? ⟨wr.heap.size, 1, none⟩ = some (.string ⟨xv.toArray⟩) := H2.cell 1
          have hin := sIn_any lo hb xk H2
          cases hbn : inB ⟨lo, hb⟩ xk with
          | false =>
            rw [hbn] at hin
            have e1 := HSC.out j hN.out hjm hj (.inr (.inr ⟨_, HX.out, hbn⟩))
            have HIN := Lib.hid (hin)
            clear HSC hbn hin hx
            subst e1
            have hl9 : (m.take j).length = j := by rw [List.length_take]; omega
            go_wp2_with fail
            refine (HIN.out).mono ?_
            rintro e w4 ⟨rfl, H4⟩
            go_wp2
            go_ret
            refine ⟨Ao, co, by first | rfl | (rw [hl9]; rfl), ?_⟩
            first | exact H4.tail.swap.tail | (rw [hl9]; exact H4.tail.swap.tail)
          | true =>
            rw [hbn] at hin
            have HIN := Lib.hid (hin)
            have ht : m.take (j + 1) = m.take j ++ [⟨xk, xv⟩] := by rw [List.take_add_one, hx]; rfl
            have HT := Lib.hid (ht)
            have HB := Lib.hid (hbn)
            clear hbn hin hx ht HSC
            go_wp2_with fail
            refine (HIN.out).mono ?_
            rintro e w4 ⟨rfl, H4⟩
            clear H H2 HIN c0 c1 x0 x1
            have p0 : w4.cell? ⟨wr.heap.size, 0, none⟩ = some (.string ⟨xk.toArray⟩) := H4.cell 0
            have p1 : w4.cell? ⟨wr.heap.size, 1, none⟩ = some (.string ⟨xv.toArray⟩) := H4.cell 1
            have H5 := H4.alloc #[.string ⟨xk.toArray⟩, .string ⟨xv.toArray⟩] 125
            go_wp2_with (first
              | (at_builtin
                 refine wpList_append_sl rfl (.tmp 41) (.tmp 43) 54 rfl 125 i0 _ zPr 32 Tryz.underlying54 hi hz0 rfl hz1 hz2 (by simp) zPr_like _ j _ rfl (H5.pull 2) (some ⟨w4.heap.size, 0, none⟩) 1 1 [.string ⟨xk.toArray⟩, .string ⟨xv.toArray⟩] rfl rfl (RdL.pt _ H5) (pr_one ⟨xk, xv⟩) (pr_typed ⟨xk, xv⟩) (by unfold maxLen; omega) (by omega) ?_
                 intro A4 c4 w5 H6))
            refine ⟨⟨j + 1, A4, c4, by omega, by omega, by go_num, rfl, fun i q hi hq => ?_, ?_⟩, by simp [intOf]; omega⟩
            · rcases Nat.lt_or_ge i j with h | h
              · exact hN.out i q h hq
              · obtain rfl : i = j := by omega
                rw [HX.out] at hq; cases hq; exact HB.out
            · rw [HT.out, prC_append]
              exact H6.swap.tail.swap.tail
      · have hlt2 : ¬ (j : Int) < (m.length : Int) := by omega
        have e1 := HSC.out j hN.out hjm hj (.inl (by omega))
        clear HSC
        subst e1
        have hl9 : (m.take j).length = j := by rw [List.length_take]; omega
        go_wp2
        go_ret
        refine ⟨Ao, co, by first | rfl | (rw [hl9]; rfl), ?_⟩
        first | exact H.swap.tail | (rw [hl9]; exact H.swap.tail)
  · rw [scan_bad _ _ h0]
    have e1 : (checkS l != 0) = true := by simpa using h0
    generalize checkS l = C at *
    have HCK := Lib.hid (hck)
    clear hck h0
    go_enter Tryz.func247, Tryz.ntmps247
    go_wp2_with fail
    refine (HCK.out).mono ?_
    rintro e w2 ⟨rfl, H2⟩
    go_wp2
    go_ret
    exact ⟨none, 0, rfl, H2.tail.nil _ _⟩

theorem filter_step (l : List Pr) (p : Pr → Bool) (j : Nat) (x : Pr) (h : l[j]? = some x) : (l.take (j + 1)).filter p = (l.take j).filter p ++ if p x then [x] else [] := by
  rw [List.take_add_one, h, List.filter_append]
  simp only [Option.toList_some, List.filter_cons, List.filter_nil]
theorem filter_take_of {l : List Pr} {p : Pr → Bool} {n j : Nat} (h : j = l.length ∨ n ≤ ((l.take j).filter p).length) (hn : ((l.take j).filter p).length ≤ n) : (l.filter p).take n = (l.take j).filter p := by
  rcases h with rfl | h
  · rw [List.take_length] at hn ⊢
    exact List.take_of_length_le hn
  · have e : l.filter p = (l.take j).filter p ++ (l.drop j).filter p := by rw [← List.filter_append, List.take_append_drop]
    rw [e, List.take_append_of_le_length (by omega), List.take_of_length_le hn]

end Go.Proofs.YtodbmeklbamcfaaGreat

/- Writes: may one be; one laid on the program's table. -/
namespace Go.Proofs.YtodbmeklbamcfaaGreat
open Go.RowKit Go.Rt Go.Maps

set_option maxRecDepth 100000 in
set_option maxHeartbeats 4000000 in
theorem cmay_any {W w : World} {L : List SL} (x : Wt) (H : Sat W w L) :
    Calls Tryz.prog 111 #[.agg #[.string ⟨x.k.toArray⟩, .string ⟨x.v.toArray⟩, .bool x.d]] w fun e w' => e = .returned (.bool (mayW x)) ∧ Sat W w' L := by
  obtain ⟨k, v, d⟩ := x
  dsimp only
  have H1 := H.alloc #[.string ⟨k.toArray⟩, .string ⟨v.toArray⟩, .bool d] 65
  generalize hw0 : w.alloc (.cells #[.string ⟨k.toArray⟩, .string ⟨v.toArray⟩, .bool d] 65) = w0 at H1
  have c0 : w0.cell? ⟨w.heap.size, 0, none⟩ = some (.string ⟨k.toArray⟩) := H1.cell 0
  have c1 : w0.cell? ⟨w.heap.size, 1, none⟩ = some (.string ⟨v.toArray⟩) := H1.cell 1
  have c2 : w0.cell? ⟨w.heap.size, 2, none⟩ = some (.bool d) := H1.cell 2
  have QK := Lib.hid (fun v (hv : keyB k = v) (n : Nat) => cKey_is k v hv w0)
  unfold mayW
  dsimp only
  go_enter Tryz.func111, Tryz.ntmps111
  cases hk : keyB k with
  | false =>
    have QK1 := Lib.hid (QK.out false hk)
    clear QK hk
    go_wp2_with fail
    refine (QK1.out 0).mono ?_
    rintro e _ ⟨rfl, rfl⟩
    go_wp2
    go_ret
    exact ⟨rfl, H1.tail⟩
  | true =>
    have QK1 := Lib.hid (QK.out true hk)
    clear QK hk
    by_cases hv : v.length ≤ 64
    · have hv2 : decide ((v.length : Int) ≤ 64) = true := decide_eq_true (by omega)
      rw [decide_eq_true hv]
      clear hv
      cases d with
      | false =>
        go_wp2_with fail
        refine (QK1.out 0).mono ?_
        rintro e _ ⟨rfl, rfl⟩
        go_wp2
        go_ret
        exact ⟨rfl, H1.tail⟩
      | true =>
        by_cases hn : v = []
        · have e1 : v.isEmpty = true := by rw [hn]; rfl
          rw [decide_eq_true hn]
          clear hn
          go_wp2_with fail
          refine (QK1.out 0).mono ?_
          rintro e _ ⟨rfl, rfl⟩
          go_wp2
          go_ret
          exact ⟨rfl, H1.tail⟩
        · have e1 : v.isEmpty = false := by cases v with | nil => exact absurd rfl hn | cons x l => rfl
          rw [decide_eq_false hn]
          clear hn
          go_wp2_with fail
          refine (QK1.out 0).mono ?_
          rintro e _ ⟨rfl, rfl⟩
          go_wp2
          go_ret
          exact ⟨rfl, H1.tail⟩
    · have hv2 : decide ((v.length : Int) ≤ 64) = false := decide_eq_false (by omega)
      rw [decide_eq_false hv]
      clear hv
      go_wp2_with fail
      refine (QK1.out 0).mono ?_
      rintro e _ ⟨rfl, rfl⟩
      go_wp2
      go_ret
      exact ⟨rfl, H1.tail⟩
set_option maxRecDepth 100000 in
set_option maxHeartbeats 4000000 in
theorem qMay_any {W w : World} {L : List SL} (x : Wt) (H : Sat W w L) :
    Calls Tryz.prog 82 #[.agg #[.string ⟨x.k.toArray⟩, .string ⟨x.v.toArray⟩, .bool x.d]] w fun e w' => e = .returned (.bool (mayW x)) ∧ Sat W w' L := by
  obtain ⟨k, v, d⟩ := x
  dsimp only
  have H1 := H.alloc #[.string ⟨k.toArray⟩, .string ⟨v.toArray⟩, .bool d] 65
  generalize hw0 : w.alloc (.cells #[.string ⟨k.toArray⟩, .string ⟨v.toArray⟩, .bool d] 65) = w0 at H1
  have c0 : w0.cell? ⟨w.heap.size, 0, none⟩ = some (.string ⟨k.toArray⟩) := H1.cell 0
  have c1 : w0.cell? ⟨w.heap.size, 1, none⟩ = some (.string ⟨v.toArray⟩) := H1.cell 1
  have c2 : w0.cell? ⟨w.heap.size, 2, none⟩ = some (.bool d) := H1.cell 2
  have QK := Lib.hid (fun v (hv : keyB k = v) (n : Nat) => qKey_is k v hv w0)
  unfold mayW
  dsimp only
  go_enter Tryz.func82, Tryz.ntmps82
  cases hk : keyB k with
  | false =>
    have QK1 := Lib.hid (QK.out false hk)
    clear QK hk
    go_wp2_with fail
    refine (QK1.out 0).mono ?_
    rintro e _ ⟨rfl, rfl⟩
    go_wp2
    go_ret
    exact ⟨rfl, H1.tail⟩
  | true =>
    have QK1 := Lib.hid (QK.out true hk)
    clear QK hk
    by_cases hv : v.length ≤ 64
    · have hv2 : decide ((v.length : Int) ≤ 64) = true := decide_eq_true (by omega)
      rw [decide_eq_true hv]
      clear hv
      cases d with
      | false =>
        go_wp2_with fail
        refine (QK1.out 0).mono ?_
        rintro e _ ⟨rfl, rfl⟩
        go_wp2
        go_ret
        exact ⟨rfl, H1.tail⟩
      | true =>
        by_cases hn : v = []
        · have e1 : v.isEmpty = true := by rw [hn]; rfl
          rw [decide_eq_true hn]
          clear hn
          go_wp2_with fail
          refine (QK1.out 0).mono ?_
          rintro e _ ⟨rfl, rfl⟩
          go_wp2
          go_ret
          exact ⟨rfl, H1.tail⟩
        · have e1 : v.isEmpty = false := by cases v with | nil => exact absurd rfl hn | cons x l => rfl
          rw [decide_eq_false hn]
          clear hn
          go_wp2_with fail
          refine (QK1.out 0).mono ?_
          rintro e _ ⟨rfl, rfl⟩
          go_wp2
          go_ret
          exact ⟨rfl, H1.tail⟩
    · have hv2 : decide ((v.length : Int) ≤ 64) = false := decide_eq_false (by omega)
      rw [decide_eq_false hv]
      clear hv
      go_wp2_with fail
      refine (QK1.out 0).mono ?_
      rintro e _ ⟨rfl, rfl⟩
      go_wp2
      go_ret
      exact ⟨rfl, H1.tail⟩

/-- How a table's value reads. -/
def Rv (v : Value) : Option (DataW Unit × List MemPlace) := match v with
  | .agg a => match a.toList with
    | [.string s] => some (.lit (.string s.data.toList), [])
    | _ => none
  | _ => none
theorem Rv_mk (x : Str) : Rv (.agg #[.string ⟨x.toArray⟩]) = some (.lit (.string x), []) := rfl
theorem Rv_inv {v : Value} {d : DataW Unit} {ps : List MemPlace} (h : Rv v = some (d, ps)) : ∃ x : Str, v = .agg #[.string ⟨x.toArray⟩] ∧ d = .lit (.string x) := by
  unfold Rv at h
  split at h
  · rename_i a
    split at h
    · rename_i s hs
      refine ⟨s.data.toList, ?_, by cases h; rfl⟩
      have : a = #[.string s] := by apply Array.toList_inj.1; rw [hs]
      rw [this]
    · cases h
  · cases h
/-- What a table has of a key, as a datum. -/
def litO (o : Option Str) : Option (DataW Unit) := o.map fun v => .lit (.string v)
abbrev tabS (b n : Nat) (D : DataW Unit) : SL := mapS Tryz.prog 9 Rv b n D

set_option maxRecDepth 100000 in
set_option maxHeartbeats 4000000 in
theorem cwrite_any {W w : World} {L : List SL} (x : Wt) (b n : Nat) (D : DataW Unit) (hk : x.k.length ≤ maxLen) (hn : n < maxLen) (H : Sat W w (tabS b n D :: L)) :
    Calls Tryz.prog 112 #[.agg #[.map (some b)], .agg #[.string ⟨x.k.toArray⟩, .string ⟨x.v.toArray⟩, .bool x.d]] w fun e w' => e = .returned (.tuple #[]) ∧ Sat W w' (tabS b (n + 1) (if x.d then D.del (.string x.k) else D.put (.string x.k) (.lit (.string x.v))) :: L) := by
  obtain ⟨k, v, d⟩ := x
  dsimp only at hk ⊢
  have hkey := key_str k hk
  have H2 := (H.alloc #[.map (some b)] 147).alloc #[.string ⟨k.toArray⟩, .string ⟨v.toArray⟩, .bool d] 65
  simp only [World.size_alloc] at H2
  have H3 := H2.pull 2
  clear H H2
  go_enter Tryz.func112, Tryz.ntmps112
  cases d with
  | true =>
    go_wp2_with (first
      | (refine wpList_map_delete rfl (.tmp 7) (.tmp 9) 145 9 rfl rfl 149 (string_keyed Tryz.underlying9) Tryz.underlying145 rfl H3 _ (.string k) rfl hkey ?_
         intro w4 H4))
    exact ⟨rfl, _, results_none rfl _ _ _, rfl, H4.swap.tail.swap.tail.map_mono (by omega)⟩
  | false =>
    go_wp2_with (first
      | (refine wpList_map_store rfl (.tmp 11) (.tmp 13) (.tmp 16) 145 rfl 149 (string_keyed Tryz.underlying9) Tryz.underlying145 rfl H3 hn _ _ (.string k) rfl rfl hkey (.lit (.string v)) (Rv_mk v) ?_
         intro w4 H4))
    go_end0
    exact ⟨rfl, H4.swap.tail.swap.tail⟩
end Go.Proofs.YtodbmeklbamcfaaGreat

/- The document's set of keys. -/
namespace Go.Proofs.YtodbmeklbamcfaaGreat
open Go.RowKit Go.Rt

theorem insS_skip {x : Str} : ∀ {os : List Str} {k : Nat}, (∀ m y, m < k → os[m]? = some y → y < x) → k ≤ os.length → insS x os = os.take k ++ insS x (os.drop k)
  | os, 0, _, _ => by simp
  | [], k + 1, _, hk => by simp at hk
  | y :: os, k + 1, h, hk => by
    have h0 := h 0 y (by omega) rfl
    have ih := insS_skip (os := os) (k := k) (fun m z hm hz => h (m + 1) z (by omega) (by simpa using hz)) (by simpa using hk)
    show (if y < x then y :: insS x os else if y = x then y :: os else x :: y :: os) = _
    rw [if_pos h0, ih]
    simp
theorem insS_end {x : Str} {os : List Str} (h : ∀ m y, m < os.length → os[m]? = some y → y < x) : insS x os = os.take os.length ++ [x] ++ os.drop os.length := by
  rw [insS_skip h (Nat.le_refl _)]
  simp [insS]
theorem insS_in {x y : Str} {os : List Str} {k : Nat} (h : ∀ m z, m < k → os[m]? = some z → z < x) (hy : os[k]? = some y) (h1 : ¬ y < x) (h2 : y ≠ x) : insS x os = os.take k ++ [x] ++ os.drop k := by
  have hk := (List.getElem?_eq_some_iff.1 hy).1
  rw [insS_skip h (by omega), List.append_assoc]
  congr 1
  have e : os.drop k = y :: os.drop (k + 1) := by rw [List.drop_eq_getElem_cons hk]; congr 1; rw [List.getElem?_eq_getElem hk] at hy; exact Option.some.inj hy
  rw [e]
  simp [insS, h1, h2]
theorem insS_eq {x y : Str} {os : List Str} {k : Nat} (h : ∀ m z, m < k → os[m]? = some z → z < x) (hy : os[k]? = some y) (h2 : y = x) : insS x os = os := by
  subst h2
  have hk := (List.getElem?_eq_some_iff.1 hy).1
  have h1 : ¬ y < y := str_irrefl y
  rw [insS_skip h (by omega)]
  have e : os.drop k = y :: os.drop (k + 1) := by rw [List.drop_eq_getElem_cons hk]; congr 1; rw [List.getElem?_eq_getElem hk] at hy; exact Option.some.inj hy
  conv => rhs; rw [← List.take_append_drop k os]
  congr 1
  rw [e]
  simp [insS, h1]
theorem sortS_snoc (l : List Str) (x : Str) : sortS (l ++ [x]) = insS x (sortS l) := by
  unfold sortS
  rw [List.foldl_append]
  rfl
theorem tsC_drop (l : List Str) (i : Nat) : (tsC l).drop i = tsC (l.drop i) := by
  unfold tsC
  rw [List.map_drop]

set_option maxRecDepth 100000 in
set_option maxHeartbeats 8000000 in
theorem hSort_any {W w : World} {L : List SL} (A : Option Addr) (c : Nat) (l : List Str) (hl : l.length ≤ 1000000) (hr : RdL W L A (tsC l)) (H : Sat W w L) :
    Calls Tryz.prog 107 #[.slice A l.length c] w fun e w' => ∃ A2 c2, e = .returned (.slice A2 (sortS l).length c2) ∧ Sat W w' (seenS 9 (.slice A2 (sortS l).length c2) (sortS l).length (tsC (sortS l)) :: L) := by
  obtain ⟨i0, hi, hz0, hz1, hz2⟩ := info_parts infoStr
  have hlen : ∀ j, (sortS (l.take j)).length ≤ 1000000 := fun j => by have := sortS_len (l.take j); rw [List.length_take] at this; omega
  have hstep : ∀ j x, l[j]? = some x → sortS (l.take (j + 1)) = insS x (sortS (l.take j)) := fun j x h => by
    rw [List.take_add_one, h]; exact sortS_snoc _ _
  have HLEN := Lib.hid hlen
  have HSTEP := Lib.hid hstep
  clear hlen hstep
  go_enter Tryz.func107, Tryz.ntmps107
  go_wp2
  go_loopw [3, 4] (fun ou i wc => ∃ (j : Nat) (Ao : Option Addr) (co : Nat), j ≤ l.length ∧ i = .int .i64 j ∧ ou = .slice Ao (sortS (l.take j)).length co ∧ Sat W wc (seenS 9 (.slice Ao (sortS (l.take j)).length co) (sortS (l.take j)).length (tsC (sortS (l.take j))) :: L)) (fun _ i _ => l.length - (intOf i).toNat)
  case atStart => exact ⟨0, none, 0, by omega, rfl, rfl, H.new_nil _ _⟩
  case round =>
    obtain ⟨j, Ao, co, hj, rfl, rfl, H1⟩ := hrel
    by_cases hlt : j < l.length
    · obtain ⟨x, hx⟩ : ∃ x, l[j]? = some x := ⟨_, List.getElem?_eq_getElem hlt⟩
      have hst := HSTEP.out j x hx
      have HST := Lib.hid hst
      have hle := HLEN.out j
      have hle1 := HLEN.out (j + 1)
      rw [hst] at hle1
      clear hst HSTEP HLEN
      generalize sortS (l.take j) = os at *
      have hrx := hr.tail (B := seenS 9 (.slice Ao os.length co) os.length (tsC os))
      obtain ⟨b, o, rfl, hcx⟩ := ts_at (hrx _ H1) j x hx
      have hcx2 : ∀ w', Sat W w' (seenS 9 (.slice Ao os.length co) os.length (tsC os) :: L) → w'.cell? ⟨b, o + j, none⟩ = some (.string ⟨x.toArray⟩) := fun w' h => by
        obtain ⟨b', o', e, h2⟩ := ts_at (hrx _ h) j x hx
        cases e
        exact h2
      have HCX := Lib.hid hcx2
      clear hx hcx hcx2 H
      have hpl : ∀ k, (os.take k ++ [x] ++ os.drop k).length = os.length + 1 := fun k => by
        have := congrArg List.length (List.take_append_drop k os)
        simp only [List.length_append] at this
        simp; omega
      have HPL := Lib.hid hpl
      clear hpl
      go_wp2
      go_loopw [5] (fun i wc => ∃ k : Nat, k ≤ os.length ∧ i = .int .i64 k ∧ Hid (∀ m z, m < k → os[m]? = some z → z < x) ∧ Sat W wc (seenS 9 (.slice Ao os.length co) os.length (tsC os) :: L)) (fun i _ => os.length - (intOf i).toNat)
      case atStart => exact ⟨0, by omega, rfl, (fun m z h => by omega), H1⟩
      case round =>
        rename_i wr2 _
        obtain ⟨k, hk, rfl, hN, H2⟩ := hrel
        clear H1
        have hcx := HCX.out _ H2
        by_cases hkl : k < os.length
        · obtain ⟨y, hy⟩ : ∃ y, os[k]? = some y := ⟨_, List.getElem?_eq_getElem hkl⟩
          obtain ⟨b', o', rfl, hcy⟩ := ts_at H2.new_rd k y hy
          by_cases hq : y < x
          · have h1 := less_yes hq
            have HQ := Lib.hid hq
            have HY := Lib.hid hy
            clear hq hy
            go_wp2
            go_quiet (fail)
            go_wp2
            refine ⟨⟨k + 1, by omega, by go_num, fun m z hm hz => ?_, H2.drewN _⟩, by simp [intOf]; omega⟩
            rcases Nat.lt_or_ge m k with h | h
            · exact hN.out m z h hz
            · obtain rfl : m = k := by omega
              rw [HY.out] at hz; cases hz; exact HQ.out
          · have h1 := less_no hq
            have hne : ((k : Int) == (os.length : Int)) = false := beq_eq_false_iff_ne.2 (by omega)
            by_cases he : y = x
            · have hE := beq_yes he
              have hins := insS_eq hN.out hy he
              have HIN := Lib.hid hins
              clear hins hq hy he
              go_wp2
              go_quiet (fail)
              go_wp2
              go_quiet (fail)
              go_wp2
              refine ⟨⟨j + 1, _, co, by omega, by go_num, by rw [HST.out, HIN.out], ?_⟩, by simp [intOf]; omega⟩
              rw [HST.out, HIN.out]
              exact H2.drewN _
            · have hE := beq_no he
              have hins := insS_in hN.out hy hq he
              have HIN := Lib.hid hins
              clear hins hq hy he
              go_wp2
              go_quiet (fail)
              go_wp2
              go_quiet (fail)
              go_wp2
              clear hcy
              generalize hz0' : wr.drewN _ = wz0
              generalize hz : wz0.drewN _ = wz
              have H3 : Sat W wz (seenS 9 (.slice (some ⟨b',o',none⟩) os.length co) os.length (tsC os) :: L) := by rw [← hz, ← hz0']; exact (H2.drewN _).drewN _
              have hkc : k ≤ co := by obtain ⟨_, _, _, e, h, _⟩ := H3.new_slice; cases e; omega
              have hlc : os.length ≤ co := by obtain ⟨_, _, _, e, h, _⟩ := H3.new_slice; cases e; exact h
              clear hz hz0' H2 hcx
              have HM := H3.drew.new_made 9 zS
              have HXX := H3.drew.alloc #[.string ⟨x.toArray⟩] 9
              have HN := (HM.alloc #[.string ⟨x.toArray⟩] 9).swap
              have HO := HXX.new_made 9 zS
              have c0 := HCX.out _ H3.drew
              have c1 := HCX.out _ HM.tail
              have c2 := HCX.out _ HXX.tail
              have c3 := HCX.out _ HN.tail.tail
              have c4 := HCX.out _ HO.tail.tail
              have HRT : RdL W (seenS 9 (.slice (some ⟨b',o',none⟩) os.length co) os.length (tsC os) :: L) (some ⟨b',o',none⟩) (tsC (os.take k)) := fun w' h => by rw [← tsC_take]; exact h.new_rd.take _
              have HRD0 : RdL W (seenS 9 (.slice (some ⟨b',o',none⟩) os.length co) os.length (tsC os) :: L) (subZ 1 (some ⟨b',o',none⟩) co k) (tsC (os.drop k)) := fun w' h => by
                have h := subZ_rd (sz := 1) h.new_rd (n := os.length) (by rw [tsC_len]; omega) hlc k (os.length - k) (by omega)
                rw [Nat.mul_one, Nat.mul_one, tsC_drop, List.take_of_length_le (by rw [tsC_len, List.length_drop]; omega)] at h
                exact h
              have hlt1 : (tsC (os.take k)).length = k * zS.length := by rw [tsC_len, List.length_take]; simp <;> omega
              have hlt2 : (tsC (os.drop k)).length = (os.length - k) * zS.length := by rw [tsC_len, List.length_drop]; simp
              go_region_held3 (fun w' => w'.cell? ⟨b, o + j, none⟩ = some (.string ⟨x.toArray⟩)) (assumption) (first
                | (refine step_append_new rfl (.tmp 44) (.tmp 47) 22 rfl 9 i0 _ zS 16 Tryz.underlying22 hi hz0 rfl hz1 hz2 (by simp) _ (0) [] (by simp [Act.eval]) HM (some ⟨b',o',none⟩) (k) (co) (tsC (os.take k)) (by simp [Act.eval]) hlt1 (HRT _ HM.tail) (tsC_one _) (by unfold maxLen; omega) (by omega) ?_
                   intro A4 c4' w4 H4
                   have H4b := (H4.alloc #[.string ⟨x.toArray⟩] 9).swap
                   have c5 := HCX.out _ H4.tail
                   have c6 := HCX.out _ H4b.tail.tail
                   have HRX : Rd _ _ [.string ⟨x.toArray⟩] := RdL.pt _ H4b.swap)
                | (refine step_append_new rfl (.tmp 44) (.tmp 47) 22 rfl 9 i0 _ zS 16 Tryz.underlying22 hi hz0 rfl hz1 hz2 (by simp) _ (0) [] (by simp [Act.eval]) HN (some ⟨b',o',none⟩) (k) (co) (tsC (os.take k)) (by simp [Act.eval]) hlt1 (HRT _ HN.tail.tail) (tsC_one _) (by unfold maxLen; omega) (by omega) ?_
                   intro A4 c4' w4 H4b
                   have c6 := HCX.out _ H4b.tail.tail
                   have HRX : Rd _ _ [.string ⟨x.toArray⟩] := RdL.pt _ H4b.swap)
                | (refine step_append_new rfl (.tmp 44) (.tmp 47) 22 rfl 9 i0 _ zS 16 Tryz.underlying22 hi hz0 rfl hz1 hz2 (by simp) _ (0) [] (by simp [Act.eval]) HO (some ⟨b',o',none⟩) (k) (co) (tsC (os.take k)) (by simp [Act.eval]) hlt1 (HRT _ HO.tail.tail) (tsC_one _) (by unfold maxLen; omega) (by omega) ?_
                   intro A4 c4' w4 H4b
                   have c6 := HCX.out _ H4b.tail.tail
                   have HRX : Rd _ _ [.string ⟨x.toArray⟩] := RdL.pt _ H4b.swap)
                | (refine step_append_new rfl (.tmp 48) (.tmp 53) 22 rfl 9 i0 _ zS 16 Tryz.underlying22 hi hz0 rfl hz1 hz2 (by simp) _ (0 + k) _ (by simp [Act.eval]) H4b _ (1) (1) ([.string ⟨x.toArray⟩]) (by simp [Act.eval]) rfl HRX (by simp [Value.oneCell']) (by unfold maxLen; omega) (by omega) ?_
                   intro A5 c5' w5 H5
                   have c7 := HCX.out _ H5.tail.tail
                   have HRD := HRD0 _ H5.tail.tail)
                | (refine step_append_new rfl (.tmp 54) (.tmp 57) 22 rfl 9 i0 _ zS 16 Tryz.underlying22 hi hz0 rfl hz1 hz2 (by simp) _ (0 + k + 1) _ (by simp [Act.eval]) H5 (subZ 1 (some ⟨b',o',none⟩) co k) (os.length - k) (co - k) (tsC (os.drop k)) (by simp [Act.eval, subZ, Addr.add_lit]) hlt2 HRD (tsC_one _) (by unfold maxLen; omega) (by omega) ?_
                   intro A6 c6' w6 H6
                   have c8 := HCX.out _ H6.tail.tail))
              all_goals
                have H7 := H6.swap.tail.swap.tail
                have e7 : 0 + k + 1 + (os.length - k) = os.length + 1 := by omega
                have e8 : ([] : List Value) ++ tsC (os.take k) ++ [.string ⟨x.toArray⟩] ++ tsC (os.drop k) = tsC (os.take k ++ [x] ++ os.drop k) := by
                  rw [tsC_append, tsC_append]; rfl
                rw [e8, e7] at H7
                go_wp2
                refine ⟨⟨j + 1, A6, c6', by omega, by go_num, ?_, ?_⟩, by simp [intOf]; omega⟩
                · rw [HST.out, HIN.out, HPL.out] <;> first | rfl | (congr 1 <;> omega)
                · rw [HST.out, HIN.out, HPL.out]
                  exact H7
        · obtain rfl : k = os.length := by omega
          have hins := insS_end hN.out
          have HIN := Lib.hid hins
          clear hins
          go_wp2
          go_quiet (fail)
          go_wp2
          go_quiet (fail)
          go_wp2
          generalize hz0' : wr.drewN _ = wz0
          generalize hz : wz0.drewN _ = wz
          have H3 : Sat W wz (seenS 9 (.slice Ao os.length co) os.length (tsC os) :: L) := by rw [← hz, ← hz0']; exact (H2.drewN _).drewN _
          have hkc : os.length ≤ co := by obtain ⟨_, _, _, e, h, _⟩ := H3.new_slice; cases e; omega
          have hlc : os.length ≤ co := by obtain ⟨_, _, _, e, h, _⟩ := H3.new_slice; cases e; exact h
          clear hz hz0' H2 hcx
          have HM := H3.drew.new_made 9 zS
          have HXX := H3.drew.alloc #[.string ⟨x.toArray⟩] 9
          have HN := (HM.alloc #[.string ⟨x.toArray⟩] 9).swap
          have HO := HXX.new_made 9 zS
          have c0 := HCX.out _ H3.drew
          have c1 := HCX.out _ HM.tail
          have c2 := HCX.out _ HXX.tail
          have c3 := HCX.out _ HN.tail.tail
          have c4 := HCX.out _ HO.tail.tail
          have HRT : RdL W (seenS 9 (.slice Ao os.length co) os.length (tsC os) :: L) Ao (tsC (os.take os.length)) := fun w' h => by rw [← tsC_take]; exact h.new_rd.take _
          have HRD0 : RdL W (seenS 9 (.slice Ao os.length co) os.length (tsC os) :: L) (subZ 1 Ao co os.length) (tsC (os.drop os.length)) := fun w' h => by
            have h := subZ_rd (sz := 1) h.new_rd (n := os.length) (by rw [tsC_len]; omega) hlc os.length (os.length - os.length) (by omega)
            rw [Nat.mul_one, Nat.mul_one, tsC_drop, List.take_of_length_le (by rw [tsC_len, List.length_drop]; omega)] at h
            exact h
          have hlt1 : (tsC (os.take os.length)).length = os.length * zS.length := by rw [tsC_len, List.length_take]; simp <;> omega
          have hlt2 : (tsC (os.drop os.length)).length = (os.length - os.length) * zS.length := by rw [tsC_len, List.length_drop]; simp
          go_region_held3 (fun w' => w'.cell? ⟨b, o + j, none⟩ = some (.string ⟨x.toArray⟩)) (assumption) (first
            | (refine step_append_new rfl (.tmp 44) (.tmp 47) 22 rfl 9 i0 _ zS 16 Tryz.underlying22 hi hz0 rfl hz1 hz2 (by simp) _ (0) [] (by simp [Act.eval]) HM Ao (os.length) (co) (tsC (os.take os.length)) (by simp [Act.eval]) hlt1 (HRT _ HM.tail) (tsC_one _) (by unfold maxLen; omega) (by omega) ?_
               intro A4 c4' w4 H4
               have H4b := (H4.alloc #[.string ⟨x.toArray⟩] 9).swap
               have c5 := HCX.out _ H4.tail
               have c6 := HCX.out _ H4b.tail.tail
               have HRX : Rd _ _ [.string ⟨x.toArray⟩] := RdL.pt _ H4b.swap)
            | (refine step_append_new rfl (.tmp 44) (.tmp 47) 22 rfl 9 i0 _ zS 16 Tryz.underlying22 hi hz0 rfl hz1 hz2 (by simp) _ (0) [] (by simp [Act.eval]) HN Ao (os.length) (co) (tsC (os.take os.length)) (by simp [Act.eval]) hlt1 (HRT _ HN.tail.tail) (tsC_one _) (by unfold maxLen; omega) (by omega) ?_
               intro A4 c4' w4 H4b
               have c6 := HCX.out _ H4b.tail.tail
               have HRX : Rd _ _ [.string ⟨x.toArray⟩] := RdL.pt _ H4b.swap)
            | (refine step_append_new rfl (.tmp 44) (.tmp 47) 22 rfl 9 i0 _ zS 16 Tryz.underlying22 hi hz0 rfl hz1 hz2 (by simp) _ (0) [] (by simp [Act.eval]) HO Ao (os.length) (co) (tsC (os.take os.length)) (by simp [Act.eval]) hlt1 (HRT _ HO.tail.tail) (tsC_one _) (by unfold maxLen; omega) (by omega) ?_
               intro A4 c4' w4 H4b
               have c6 := HCX.out _ H4b.tail.tail
               have HRX : Rd _ _ [.string ⟨x.toArray⟩] := RdL.pt _ H4b.swap)
            | (refine step_append_new rfl (.tmp 48) (.tmp 53) 22 rfl 9 i0 _ zS 16 Tryz.underlying22 hi hz0 rfl hz1 hz2 (by simp) _ (0 + os.length) _ (by simp [Act.eval]) H4b _ (1) (1) ([.string ⟨x.toArray⟩]) (by simp [Act.eval]) rfl HRX (by simp [Value.oneCell']) (by unfold maxLen; omega) (by omega) ?_
               intro A5 c5' w5 H5
               have c7 := HCX.out _ H5.tail.tail
               have HRD := HRD0 _ H5.tail.tail)
            | (refine step_append_new rfl (.tmp 54) (.tmp 57) 22 rfl 9 i0 _ zS 16 Tryz.underlying22 hi hz0 rfl hz1 hz2 (by simp) _ (0 + os.length + 1) _ (by simp [Act.eval]) H5 (subZ 1 Ao co os.length) (os.length - os.length) (co - os.length) (tsC (os.drop os.length)) (by simp [Act.eval, subZ]) hlt2 HRD (tsC_one _) (by unfold maxLen; omega) (by omega) ?_
               intro A6 c6' w6 H6
               have c8 := HCX.out _ H6.tail.tail))
          all_goals
            have H7 := H6.swap.tail.swap.tail
            have e7 : 0 + os.length + 1 + (os.length - os.length) = os.length + 1 := by omega
            have e8 : ([] : List Value) ++ tsC (os.take os.length) ++ [.string ⟨x.toArray⟩] ++ tsC (os.drop os.length) = tsC (os.take os.length ++ [x] ++ os.drop os.length) := by
              rw [tsC_append, tsC_append]; rfl
            rw [e8, e7] at H7
            go_wp2
            refine ⟨⟨j + 1, A6, c6', by omega, by go_num, ?_, ?_⟩, by simp [intOf]; omega⟩
            · rw [HST.out, HIN.out, HPL.out] <;> first | rfl | (congr 1 <;> omega)
            · rw [HST.out, HIN.out, HPL.out]
              exact H7
    · obtain rfl : j = l.length := by omega
      rw [List.take_length] at H1
      go_wp2
      go_ret
      rw [List.take_length]
      exact ⟨_, co, rfl, H1⟩
end Go.Proofs.YtodbmeklbamcfaaGreat

/- The document's answers on two lists of keys. -/
namespace Go.Proofs.YtodbmeklbamcfaaGreat
open Go.RowKit Go.Rt

set_option maxRecDepth 100000 in
set_option maxHeartbeats 4000000 in
theorem hBoth_any {W w : World} {L : List SL} (A A' : Option Addr) (c c' : Nat) (a : List Str) (b : List Str) (ha : a.length ≤ 400000) (hb : b.length ≤ maxLen) (hr : RdL W L A (tsC a)) (hr' : RdL W L A' (tsC b)) (H : Sat W w L) :
    Calls Tryz.prog 119 #[.slice A a.length c, .slice A' b.length c'] w fun e w' => ∃ A2 c2, e = .returned (.slice A2 (bothS a b).length c2) ∧ Sat W w' (seenS 9 (.slice A2 (bothS a b).length c2) (bothS a b).length (tsC (bothS a b)) :: L) := by
  obtain ⟨i0, hi, hz0, hz1, hz2⟩ := info_parts infoStr
  have hp : ∀ (p : Str → Bool), p = (fun k => hasK b k) → (bothS a b) = sortS (a.filter p) := fun p h => by subst h; exact both_sort a b
  obtain ⟨p, hpe⟩ : ∃ p : Str → Bool, p = (fun k => hasK b k) := ⟨_, rfl⟩
  rw [hp p hpe]
  have hpx : ∀ x, (hasK b x) = p x := fun x => by rw [hpe]
  clear hp hpe
  have hlen : ∀ j, ((a.take j).filter p).length ≤ 400000 := fun j => by
    have h1 := List.length_filter_le p (a.take j)
    rw [List.length_take] at h1; omega
  have hstep : ∀ j x, a[j]? = some x → (a.take (j + 1)).filter p = if p x then (a.take j).filter p ++ [x] else (a.take j).filter p := fun j x h => by
    rw [List.take_add_one, h]; exact filter_snoc _ _ _
  have HLEN := Lib.hid hlen
  have HSTEP := Lib.hid hstep
  have HPX := Lib.hid hpx
  clear hlen hstep hpx
  go_enter Tryz.func119, Tryz.ntmps119
  go_wp2
  go_loopw [5, 6] (fun ou i wc => ∃ (j : Nat) (Ao : Option Addr) (co : Nat), j ≤ a.length ∧ i = .int .i64 j ∧ ou = .slice Ao ((a.take j).filter p).length co ∧ Sat W wc (seenS 9 (.slice Ao ((a.take j).filter p).length co) ((a.take j).filter p).length (tsC ((a.take j).filter p)) :: L)) (fun _ i _ => a.length - (intOf i).toNat)
  case atStart => exact ⟨0, none, 0, by omega, rfl, rfl, H.new_nil _ _⟩
  case round =>
    obtain ⟨j, Ao, co, hj, rfl, rfl, H1⟩ := hrel
    by_cases hlt : j < a.length
    · obtain ⟨x, hx⟩ : ∃ x, a[j]? = some x := ⟨_, List.getElem?_eq_getElem hlt⟩
      have hst := HSTEP.out j x hx
      have hle := HLEN.out j
      clear HSTEP HLEN H
      generalize (a.take j).filter p = acc at *
      have hrx := hr.tail (B := seenS 9 (.slice Ao acc.length co) acc.length (tsC acc))
      obtain ⟨q, o, rfl, hcx⟩ := ts_at (hrx _ H1) j x hx
      have hcx2 : ∀ w', Sat W w' (seenS 9 (.slice Ao acc.length co) acc.length (tsC acc) :: L) → w'.cell? ⟨q, o + j, none⟩ = some (.string ⟨x.toArray⟩) := fun w' h => by
        obtain ⟨q', o', e, h2⟩ := ts_at (hrx _ h) j x hx
        cases e
        exact h2
      have HCX := Lib.hid hcx2
      have hc := hHas_any (w := wr) A' c' b x hb (hr'.tail _ H1)
      rw [HPX.out] at hc
      have HC := Lib.hid hc
      clear hx hcx2 hc
      cases hpb : p x with
      | true =>
        rw [hpb, if_pos rfl] at hst
        rw [hpb] at HC
        have HST := Lib.hid hst
        clear hst hpb
        go_wp2_with fail
        refine HC.out.mono ?_
        rintro e _ ⟨rfl, rfl⟩
        have H2 := H1
        have hcx3 := HCX.out _ H2
        have H3 := H2.alloc #[.string ⟨x.toArray⟩] 9
        clear HC H1 hcx
        go_wp2_with (first
          | (at_builtin
             refine wpList_append_new rfl (.tmp 19) (.tmp 24) 22 rfl 9 i0 _ zS 16 Tryz.underlying22 hi hz0 rfl hz1 hz2 (by simp) _ acc.length _ rfl H3.swap (some ⟨_, 0, none⟩) 1 1 [.string ⟨x.toArray⟩] rfl rfl (RdL.pt _ H3) (by simp [Value.oneCell']) (by unfold maxLen; omega) (by omega) ?_
             intro A4 c4 w4 H4))
        have H5 := H4.swap.tail
        refine ⟨⟨j + 1, A4, c4, by omega, by go_num, by rw [HST.out, List.length_append]; rfl, ?_⟩, by simp [intOf]; omega⟩
        rw [HST.out, tsC_append, List.length_append]
        exact H5
      | false =>
        rw [hpb, if_neg (by simp)] at hst
        rw [hpb] at HC
        have HST := Lib.hid hst
        clear hst hpb
        go_wp2_with fail
        refine HC.out.mono ?_
        rintro e _ ⟨rfl, rfl⟩
        have H2 := H1
        clear HC H1 hcx
        go_wp2
        refine ⟨⟨j + 1, Ao, co, by omega, by go_num, by rw [HST.out], ?_⟩, by simp [intOf]; omega⟩
        rw [HST.out]
        exact H2
    · obtain rfl : j = a.length := by omega
      rw [List.take_length] at H1
      have hso := hSort_any (W := W) (w := wr) Ao co (a.filter p) (by have := HLEN.out a.length; rw [List.take_length] at this; omega) RdL.newS H1
      have HSO := Lib.hid hso
      clear hso HSTEP HLEN
      rw [List.take_length]
      go_wp2_with fail
      refine HSO.out.mono ?_
      rintro e w3 ⟨A3, c3, rfl, H3⟩
      go_wp2
      go_ret
      exact ⟨A3, c3, rfl, H3.swap.tail⟩

set_option maxRecDepth 100000 in
set_option maxHeartbeats 4000000 in
theorem hAmong_any {W w : World} {L : List SL} (A A' : Option Addr) (c c' : Nat) (a : List Str) (b : List Sp) (ha : a.length ≤ 400000) (hb : b.length ≤ maxLen) (hr : RdL W L A (tsC a)) (hr' : RdL W L A' (spC b)) (H : Sat W w L) :
    Calls Tryz.prog 120 #[.slice A a.length c, .slice A' b.length c'] w fun e w' => ∃ A2 c2, e = .returned (.slice A2 (amongS a b).length c2) ∧ Sat W w' (seenS 9 (.slice A2 (amongS a b).length c2) (amongS a b).length (tsC (amongS a b)) :: L) := by
  obtain ⟨i0, hi, hz0, hz1, hz2⟩ := info_parts infoStr
  have hp : ∀ (p : Str → Bool), p = (hasSp b) → (amongS a b) = sortS (a.filter p) := fun p h => by subst h; exact filter_sortS a (hasSp b)
  obtain ⟨p, hpe⟩ : ∃ p : Str → Bool, p = (hasSp b) := ⟨_, rfl⟩
  rw [hp p hpe]
  have hpx : ∀ x, (hasSp b x) = p x := fun x => by rw [hpe]
  clear hp hpe
  have hlen : ∀ j, ((a.take j).filter p).length ≤ 400000 := fun j => by
    have h1 := List.length_filter_le p (a.take j)
    rw [List.length_take] at h1; omega
  have hstep : ∀ j x, a[j]? = some x → (a.take (j + 1)).filter p = if p x then (a.take j).filter p ++ [x] else (a.take j).filter p := fun j x h => by
    rw [List.take_add_one, h]; exact filter_snoc _ _ _
  have HLEN := Lib.hid hlen
  have HSTEP := Lib.hid hstep
  have HPX := Lib.hid hpx
  clear hlen hstep hpx
  go_enter Tryz.func120, Tryz.ntmps120
  go_wp2
  go_loopw [5, 6] (fun ou i wc => ∃ (j : Nat) (Ao : Option Addr) (co : Nat), j ≤ a.length ∧ i = .int .i64 j ∧ ou = .slice Ao ((a.take j).filter p).length co ∧ Sat W wc (seenS 9 (.slice Ao ((a.take j).filter p).length co) ((a.take j).filter p).length (tsC ((a.take j).filter p)) :: L)) (fun _ i _ => a.length - (intOf i).toNat)
  case atStart => exact ⟨0, none, 0, by omega, rfl, rfl, H.new_nil _ _⟩
  case round =>
    obtain ⟨j, Ao, co, hj, rfl, rfl, H1⟩ := hrel
    by_cases hlt : j < a.length
    · obtain ⟨x, hx⟩ : ∃ x, a[j]? = some x := ⟨_, List.getElem?_eq_getElem hlt⟩
      have hst := HSTEP.out j x hx
      have hle := HLEN.out j
      clear HSTEP HLEN H
      generalize (a.take j).filter p = acc at *
      have hrx := hr.tail (B := seenS 9 (.slice Ao acc.length co) acc.length (tsC acc))
      obtain ⟨q, o, rfl, hcx⟩ := ts_at (hrx _ H1) j x hx
      have hcx2 : ∀ w', Sat W w' (seenS 9 (.slice Ao acc.length co) acc.length (tsC acc) :: L) → w'.cell? ⟨q, o + j, none⟩ = some (.string ⟨x.toArray⟩) := fun w' h => by
        obtain ⟨q', o', e, h2⟩ := ts_at (hrx _ h) j x hx
        cases e
        exact h2
      have HCX := Lib.hid hcx2
      have hc := rHas_any (W := W) (w := wr) x A' c' b hb (hr'.tail) H1
      rw [HPX.out] at hc
      have HC := Lib.hid hc
      clear hx hcx2 hc
      cases hpb : p x with
      | true =>
        rw [hpb, if_pos rfl] at hst
        rw [hpb] at HC
        have HST := Lib.hid hst
        clear hst hpb
        go_wp2_with fail
        refine HC.out.mono ?_
        rintro e w2 ⟨rfl, H2⟩
        have hcx3 := HCX.out _ H2
        have H3 := H2.alloc #[.string ⟨x.toArray⟩] 9
        clear HC H1 hcx
        go_wp2_with (first
          | (at_builtin
             refine wpList_append_new rfl (.tmp 19) (.tmp 24) 22 rfl 9 i0 _ zS 16 Tryz.underlying22 hi hz0 rfl hz1 hz2 (by simp) _ acc.length _ rfl H3.swap (some ⟨_, 0, none⟩) 1 1 [.string ⟨x.toArray⟩] rfl rfl (RdL.pt _ H3) (by simp [Value.oneCell']) (by unfold maxLen; omega) (by omega) ?_
             intro A4 c4 w4 H4))
        have H5 := H4.swap.tail
        refine ⟨⟨j + 1, A4, c4, by omega, by go_num, by rw [HST.out, List.length_append]; rfl, ?_⟩, by simp [intOf]; omega⟩
        rw [HST.out, tsC_append, List.length_append]
        exact H5
      | false =>
        rw [hpb, if_neg (by simp)] at hst
        rw [hpb] at HC
        have HST := Lib.hid hst
        clear hst hpb
        go_wp2_with fail
        refine HC.out.mono ?_
        rintro e w2 ⟨rfl, H2⟩
        clear HC H1 hcx
        go_wp2
        refine ⟨⟨j + 1, Ao, co, by omega, by go_num, by rw [HST.out], ?_⟩, by simp [intOf]; omega⟩
        rw [HST.out]
        exact H2
    · obtain rfl : j = a.length := by omega
      rw [List.take_length] at H1
      have hso := hSort_any (W := W) (w := wr) Ao co (a.filter p) (by have := HLEN.out a.length; rw [List.take_length] at this; omega) RdL.newS H1
      have HSO := Lib.hid hso
      clear hso HSTEP HLEN
      rw [List.take_length]
      go_wp2_with fail
      refine HSO.out.mono ?_
      rintro e w3 ⟨A3, c3, rfl, H3⟩
      go_wp2
      go_ret
      exact ⟨A3, c3, rfl, H3.swap.tail⟩

set_option maxRecDepth 100000 in
set_option maxHeartbeats 4000000 in
theorem hMeets_any {W w : World} {L : List SL} (A A' A'' : Option Addr) (c c' c'' : Nat) (l some : List Str) (s : List Sp) (hl : l.length ≤ 400000) (ho : some.length ≤ maxLen) (hs : s.length ≤ maxLen) (hr : RdL W L A (tsC l)) (hr' : RdL W L A' (tsC some)) (hr'' : RdL W L A'' (spC s)) (H : Sat W w L) :
    Calls Tryz.prog 76 #[.slice A l.length c, .slice A' some.length c', .slice A'' s.length c''] w fun e w' => e = .returned (.bool (meetsB l some s)) ∧ Sat W w' L := by
  have HB := Lib.hid (hBoth_any A A' c c' l some hl ho hr hr' H)
  have HA := Lib.hid (fun (w1 : World) (L1 : List SL) (h1 : RdL W L1 A (tsC l)) (h2 : RdL W L1 A'' (spC s)) (h : Sat W w1 L1) => hAmong_any (W := W) (w := w1) (L := L1) A A'' c c'' l s hl hs h1 h2 h)
  unfold meetsB
  clear hl ho hs
  generalize amongS l s = am at *
  go_enter Tryz.func76, Tryz.ntmps76
  by_cases hb : 0 < (bothS l some).length
  · have hb1 : (0 : Int) < ((bothS l some).length : Int) := by omega
    rw [decide_eq_true hb]
    go_wp2_with fail
    refine HB.out.mono ?_
    rintro e w1 ⟨A1, c1, rfl, H2⟩
    clear HB HA hb
    generalize (bothS l some).length = n at *
    go_wp2
    go_ret
    exact ⟨rfl, H2.tail⟩
  · have hb1 : (bothS l some).length = 0 := by omega
    rw [decide_eq_false hb]
    rw [hb1] at HB
    go_wp2_with fail
    refine HB.out.mono ?_
    rintro e w1 ⟨A1, c1, rfl, H2⟩
    have HA1 := Lib.hid (HA.out w1 _ hr.tail hr''.tail H2)
    clear HB HA hb hr hr' hr'' hb1
    go_wp2_with fail
    refine HA1.out.mono ?_
    rintro e w2 ⟨A2, c2, rfl, H3⟩
    clear HA1
    go_wp2
    go_ret
    refine ⟨?_, H3.tail.tail⟩
    simp
end Go.Proofs.YtodbmeklbamcfaaGreat

/- Texts of a new slice written over, its spare room too. -/
namespace Go.Proofs.YtodbmeklbamcfaaGreat
open Go.RowKit Go.Rt

theorem _root_.Go.Rt.Sat.new_pt {W w : World} {L : List SL} {e : TypeId} {zc xs : List Value} {g n c : Nat} (H : Sat W w (newS e zc (.slice (some ⟨g, 0, none⟩) n c) n xs :: L)) :
    ∃ cur : Array Value, n ≤ c ∧ c ≤ maxLen ∧ cur.size = c * zc.length ∧ cur.toList.take (n * zc.length) = xs ∧ Zeros zc (cur.toList.drop (n * zc.length)) ∧ Sat W w (pt g cur e :: L) := by
  obtain ⟨cur, h1, h2, h3, h4, h5, h6⟩ := H.new_blk
  refine ⟨cur, h2, h3, h4, h5, h6, ?_⟩
  obtain ⟨hb, h, ⟨a, r, d, rfl, ⟨hx, ha⟩, hl⟩, hh⟩ := H
  rcases ha with ⟨hv, _⟩ | ⟨g', cap, cur', hv, hg, _⟩
  · cases hv
  · cases hv
    have := (hh g _ (join_left hg)).2
    rw [h1] at this
    cases this
    exact ⟨hb, _, ⟨a, r, d, rfl, hg, hl⟩, hh⟩
/-- Texts, none of them too long. -/
def Texts (cur : Array Value) (c : Nat) (f : Nat → Nat) : Prop := cur.size = c ∧ ∀ j u, cur[j]? = some u → ∃ s : Str, u = .string ⟨s.toArray⟩ ∧ s.length ≤ f j
theorem texts_new {cur : Array Value} {c n m : Nat} {xs : List Str} (h1 : cur.size = c * zS.length) (h2 : cur.toList.take (n * zS.length) = tsC xs) (h3 : Zeros zS (cur.toList.drop (n * zS.length))) (hx : ∀ x ∈ xs, x.length ≤ m) : Texts cur c (fun _ => m) := by
  refine ⟨by simpa using h1, fun j u hu => ?_⟩
  rw [← Array.getElem?_toList] at hu
  simp only [List.length_cons, List.length_nil, Nat.zero_add, Nat.mul_one] at h2 h3
  by_cases hj : j < n
  · have h4 : (tsC xs)[j]? = some u := by rw [← h2, List.getElem?_take, if_pos hj]; exact hu
    unfold tsC at h4
    rw [List.getElem?_map] at h4
    cases hl : xs[j]? with
    | none => rw [hl] at h4; cases h4
    | some x => rw [hl] at h4; exact ⟨x, (Option.some.inj h4).symm, hx x (List.mem_of_getElem? hl)⟩
  · have h4 := h3 (j - n) u (by rw [List.getElem?_drop, Nat.add_sub_cancel' (by omega)]; exact hu)
    exact ⟨[], by rw [h4]; simp [Nat.mod_one], by simp⟩
def once (m j : Nat) : Nat → Nat := fun k => if k < j then m + 1 else m
theorem Texts.set {cur : Array Value} {c m j : Nat} (h : Texts cur c (once m j)) (s : Str) (hs : s.length ≤ m + 1) : Texts (cur.setIfInBounds j (.string ⟨s.toArray⟩)) c (once m (j + 1)) := by
  refine ⟨by simp [h.1], fun k u hu => ?_⟩
  rw [Array.getElem?_setIfInBounds] at hu
  split at hu
  · rename_i e
    subst e
    split at hu
    · exact ⟨s, (Option.some.inj hu).symm, by unfold once; rw [if_pos (by omega)]; exact hs⟩
    · cases hu
  · obtain ⟨t, h1, h2⟩ := h.2 k u hu
    refine ⟨t, h1, Nat.le_trans h2 ?_⟩
    unfold once
    split <;> split <;> omega

set_option maxRecDepth 100000 in
set_option maxHeartbeats 1000000 in
theorem OverTexts_any {W w : World} {L : List SL} (A : Option Addr) (c : Nat) (xs : List Str) (hx : ∀ x ∈ xs, x.length ≤ 1000000) (H : Sat W w (seenS 9 (.slice A xs.length c) xs.length (tsC xs) :: L)) :
    Calls Tryz.prog 25 #[.slice A xs.length c] w fun e w' => e = .returned (.tuple #[]) ∧ Sat W w' L := by
  cases A with
  | none =>
    obtain ⟨_, A0, c0, hv, hnc, hcm, hA0, _⟩ := H.new_slice
    cases hv
    obtain ⟨rfl, h0⟩ := hA0 rfl
    rw [h0]
    clear hA0 hx hnc hcm
    go_enter Tryz.func25, Tryz.ntmps25
    go_wp2
    go_loopw [3] (fun i wc => i = .int .i64 0 ∧ Sat W wc L) (fun i _ => 0)
    case atStart => exact ⟨rfl, H.tail⟩
    case round =>
      obtain ⟨rfl, H1⟩ := hrel
      go_wp2
      go_end0
      exact ⟨rfl, H1⟩
  | some ad =>
    obtain ⟨_, A1, c1, hv, _, _, _, hA1⟩ := H.new_slice
    cases hv
    obtain ⟨h0, hsp, _, _⟩ := hA1 ad rfl
    obtain ⟨g, off, sp⟩ := ad
    dsimp only at h0 hsp
    subst h0 hsp
    obtain ⟨cur, hnc, hcm, hcs, hct, hcz, H1⟩ := H.new_pt
    have HT := Lib.hid (texts_new hcs hct hcz hx)
    clear hA1 hcs hct hcz hx H
    unfold maxLen at hcm
    go_enter Tryz.func25, Tryz.ntmps25
    go_wp2
    go_loopw [3] (fun i wc => ∃ (j : Nat) (cur : Array Value), j ≤ c ∧ i = .int .i64 j ∧ Hid (Texts cur c (once 1000000 j)) ∧ Sat W wc (pt g cur 9 :: L)) (fun i _ => c - (intOf i).toNat)
    case atStart => exact ⟨0, cur, by omega, rfl, by rw [show once 1000000 0 = fun _ => 1000000 by funext k; simp [once]]; exact HT.out, H1⟩
    case round =>
      clear H1 HT
      obtain ⟨j, cur, hj, rfl, HT, H1⟩ := hrel
      by_cases hlt : j < c
      · obtain ⟨u, hu⟩ : ∃ u, cur[j]? = some u := ⟨_, Array.getElem?_eq_getElem (by rw [HT.out.1]; exact hlt)⟩
        obtain ⟨s, rfl, hs⟩ := HT.out.2 j u hu
        have hc := H1.cell j
        rw [hu] at hc
        have hf := H1.frz j
        unfold once at hs
        rw [if_neg (Nat.lt_irrefl j)] at hs
        have hT2 := HT.out.set (s ++ [33]) (by simp; omega)
        have HT2 := Lib.hid hT2
        clear hT2 hu
        go_wp2
        exact ⟨⟨j + 1, _, by omega, by go_num, HT2.out, H1.setCell j _⟩, by simp [intOf]; omega⟩
      · go_wp2
        go_end0
        exact ⟨rfl, H1.tail⟩
end Go.Proofs.YtodbmeklbamcfaaGreat
