/- The document's answers on two lists of keys. -/
import Derived.Test.YtnpgjobaibnknaaKfB
namespace Go.Proofs.Ytnpgjobaibnknaa
open Go.RowKit Go.Rt

set_option maxRecDepth 100000 in
set_option maxHeartbeats 4000000 in
theorem hUnion_any {W w : World} {L : List SL} (A A' : Option Addr) (c c' : Nat) (a b : List Str) (ha : a.length ≤ 400000) (hb : b.length ≤ 400000) (hr : RdL W L A (tsC a)) (hr' : RdL W L A' (tsC b)) (H : Sat W w L) :
    Calls Try.prog 27 #[.slice A a.length c, .slice A' b.length c'] w fun e w' => ∃ A2 c2, e = .returned (.slice A2 (unionS a b).length c2) ∧ Sat W w' (seenS 9 (.slice A2 (unionS a b).length c2) (unionS a b).length (tsC (unionS a b)) :: L) := by
  obtain ⟨i0, hi, hz0, hz1, hz2⟩ := info_parts infoStr
  have hcs : (tsC (a ++ b)).length = (a ++ b).length := tsC_len _
  have hso := fun w0 (A0 : Option Addr) (c0 : Nat) (L0 : List SL) (r : RdL W L0 A0 (tsC (a ++ b))) (h : Sat W w0 L0) => hSort_any A0 c0 (a ++ b) (by rw [List.length_append]; omega) r h
  rw [List.length_append] at hso
  have HSO := Lib.hid hso
  have HM := H.new_made 9 zS
  have H2 : a.length = 0 + a.length := by omega
  unfold unionS
  clear hcs hso H2
  go_enter Try.func27, Try.ntmps27
  go_wp2_with (first
    | (at_builtin
       refine wpList_append_new rfl (.tmp 5) (.tmp 6) 22 rfl 9 i0 _ zS 16 Try.underlying22 hi hz0 rfl hz1 hz2 (by simp) _ 0 [] rfl HM A a.length c (tsC a) rfl (by simp [tsC]) (hr.tail _ HM) (tsC_one a) (by unfold maxLen; omega) (by omega) ?_
       intro A3 c3 w3 H3
       rw [Nat.zero_add, List.nil_append] at H3
       rw [Nat.zero_add])
    | (at_builtin
       refine wpList_append_new rfl (.tmp 7) (.tmp 8) 22 rfl 9 i0 _ zS 16 Try.underlying22 hi hz0 rfl hz1 hz2 (by simp) _ a.length (tsC a) rfl H3 A' b.length c' (tsC b) rfl (by simp [tsC]) (hr'.tail _ H3) (tsC_one b) (by unfold maxLen; omega) (by omega) ?_
       intro A4 c4 w4 H4
       rw [← tsC_append] at H4)
    | fail)
  refine (HSO.out _ A4 c4 _ RdL.newS H4).mono ?_
  rintro e w5 ⟨A5, c5, rfl, H5⟩
  go_wp2
  go_ret
  exact ⟨A5, c5, rfl, H5.swap.tail⟩

set_option maxRecDepth 100000 in
set_option maxHeartbeats 4000000 in
theorem hMinus_any {W w : World} {L : List SL} (A A' : Option Addr) (c c' : Nat) (a : List Str) (b : List Str) (ha : a.length ≤ 400000) (hb : b.length ≤ maxLen) (hr : RdL W L A (tsC a)) (hr' : RdL W L A' (tsC b)) (H : Sat W w L) :
    Calls Try.prog 28 #[.slice A a.length c, .slice A' b.length c'] w fun e w' => ∃ A2 c2, e = .returned (.slice A2 (minusS a b).length c2) ∧ Sat W w' (seenS 9 (.slice A2 (minusS a b).length c2) (minusS a b).length (tsC (minusS a b)) :: L) := by
  obtain ⟨i0, hi, hz0, hz1, hz2⟩ := info_parts infoStr
  have hp : ∀ (p : Str → Bool), p = (fun k => !hasK b k) → (minusS a b) = sortS (a.filter p) := fun p h => by subst h; exact minus_sort a b
  obtain ⟨p, hpe⟩ : ∃ p : Str → Bool, p = (fun k => !hasK b k) := ⟨_, rfl⟩
  rw [hp p hpe]
  have hpx : ∀ x, ((!hasK b x)) = p x := fun x => by rw [hpe]
  clear hp hpe
  have hlen : ∀ j, ((a.take j).filter p).length ≤ 400000 := fun j => by
    have h1 := List.length_filter_le p (a.take j)
    rw [List.length_take] at h1; omega
  have hstep : ∀ j x, a[j]? = some x → (a.take (j + 1)).filter p = if p x then (a.take j).filter p ++ [x] else (a.take j).filter p := fun j x h => by
    rw [List.take_add_one, h]; exact filter_snoc _ _ _
  have HLEN := Lib.hid hlen
  have HSTEP := Lib.hid hstep
  have HPX := Lib.hid hpx
  clear hlen hstep hpx
  go_enter Try.func28, Try.ntmps28
  go_wp2
  go_loopw [5, 6] (fun ou i wc => ∃ (j : Nat) (Ao : Option Addr) (co : Nat), j ≤ a.length ∧ i = .int .i64 j ∧ ou = .slice Ao ((a.take j).filter p).length co ∧ Sat W wc (seenS 9 (.slice Ao ((a.take j).filter p).length co) ((a.take j).filter p).length (tsC ((a.take j).filter p)) :: L)) (fun _ i _ => a.length - (intOf i).toNat)
  case atStart => exact ⟨0, none, 0, by omega, rfl, rfl, H.new_nil _ _⟩
  case round =>
    obtain ⟨j, Ao, co, hj, rfl, rfl, H1⟩ := hrel
    by_cases hlt : j < a.length
    · obtain ⟨x, hx⟩ : ∃ x, a[j]? = some x := ⟨_, List.getElem?_eq_getElem hlt⟩
      have hst := HSTEP.out j x hx
      have hle := HLEN.out j
      clear HSTEP HLEN H
      generalize (a.take j).filter p = acc at *
      have hrx := hr.tail (B := seenS 9 (.slice Ao acc.length co) acc.length (tsC acc))
      obtain ⟨q, o, rfl, hcx⟩ := ts_at (hrx _ H1) j x hx
      have hcx2 : ∀ w', Sat W w' (seenS 9 (.slice Ao acc.length co) acc.length (tsC acc) :: L) → w'.cell? ⟨q, o + j, none⟩ = some (.string ⟨x.toArray⟩) := fun w' h => by
        obtain ⟨q', o', e, h2⟩ := ts_at (hrx _ h) j x hx
        cases e
        exact h2
      have HCX := Lib.hid hcx2
      have hc := hHas_any (w := wr) A' c' b x hb (hr'.tail _ H1)
      have hpn : hasK b x = !p x := by rw [← HPX.out]; simp
      rw [hpn] at hc
      have HC := Lib.hid hc
      clear hx hcx2 hc
      cases hpb : p x with
      | true =>
        rw [hpb, if_pos rfl] at hst
        rw [hpb] at HC
        have HST := Lib.hid hst
        clear hst hpb
        go_wp2_with fail
        refine HC.out.mono ?_
        rintro e _ ⟨rfl, rfl⟩
        have H2 := H1
        have hcx3 := HCX.out _ H2
        have H3 := H2.alloc #[.string ⟨x.toArray⟩] 9
        clear HC H1 hcx
        go_wp2_with (first
          | (at_builtin
             refine wpList_append_new rfl (.tmp 20) (.tmp 25) 22 rfl 9 i0 _ zS 16 Try.underlying22 hi hz0 rfl hz1 hz2 (by simp) _ acc.length _ rfl H3.swap (some ⟨_, 0, none⟩) 1 1 [.string ⟨x.toArray⟩] rfl rfl (RdL.pt _ H3) (by simp [Value.oneCell']) (by unfold maxLen; omega) (by omega) ?_
             intro A4 c4 w4 H4))
        have H5 := H4.swap.tail
        refine ⟨⟨j + 1, A4, c4, by omega, by go_num, by rw [HST.out, List.length_append]; rfl, ?_⟩, by simp [intOf]; omega⟩
        rw [HST.out, tsC_append, List.length_append]
        exact H5
      | false =>
        rw [hpb, if_neg (by simp)] at hst
        rw [hpb] at HC
        have HST := Lib.hid hst
        clear hst hpb
        go_wp2_with fail
        refine HC.out.mono ?_
        rintro e _ ⟨rfl, rfl⟩
        have H2 := H1
        clear HC H1 hcx
        go_wp2
        refine ⟨⟨j + 1, Ao, co, by omega, by go_num, by rw [HST.out], ?_⟩, by simp [intOf]; omega⟩
        rw [HST.out]
        exact H2
    · obtain rfl : j = a.length := by omega
      rw [List.take_length] at H1
      have hso := hSort_any (W := W) (w := wr) Ao co (a.filter p) (by have := HLEN.out a.length; rw [List.take_length] at this; omega) RdL.newS H1
      have HSO := Lib.hid hso
      clear hso HSTEP HLEN
      rw [List.take_length]
      go_wp2_with fail
      refine HSO.out.mono ?_
      rintro e w3 ⟨A3, c3, rfl, H3⟩
      go_wp2
      go_ret
      exact ⟨A3, c3, rfl, H3.swap.tail⟩

set_option maxRecDepth 100000 in
set_option maxHeartbeats 4000000 in
theorem hBoth_any {W w : World} {L : List SL} (A A' : Option Addr) (c c' : Nat) (a : List Str) (b : List Str) (ha : a.length ≤ 400000) (hb : b.length ≤ maxLen) (hr : RdL W L A (tsC a)) (hr' : RdL W L A' (tsC b)) (H : Sat W w L) :
    Calls Try.prog 29 #[.slice A a.length c, .slice A' b.length c'] w fun e w' => ∃ A2 c2, e = .returned (.slice A2 (bothS a b).length c2) ∧ Sat W w' (seenS 9 (.slice A2 (bothS a b).length c2) (bothS a b).length (tsC (bothS a b)) :: L) := by
  obtain ⟨i0, hi, hz0, hz1, hz2⟩ := info_parts infoStr
  have hp : ∀ (p : Str → Bool), p = (fun k => hasK b k) → (bothS a b) = sortS (a.filter p) := fun p h => by subst h; exact both_sort a b
  obtain ⟨p, hpe⟩ : ∃ p : Str → Bool, p = (fun k => hasK b k) := ⟨_, rfl⟩
  rw [hp p hpe]
  have hpx : ∀ x, (hasK b x) = p x := fun x => by rw [hpe]
  clear hp hpe
  have hlen : ∀ j, ((a.take j).filter p).length ≤ 400000 := fun j => by
    have h1 := List.length_filter_le p (a.take j)
    rw [List.length_take] at h1; omega
  have hstep : ∀ j x, a[j]? = some x → (a.take (j + 1)).filter p = if p x then (a.take j).filter p ++ [x] else (a.take j).filter p := fun j x h => by
    rw [List.take_add_one, h]; exact filter_snoc _ _ _
  have HLEN := Lib.hid hlen
  have HSTEP := Lib.hid hstep
  have HPX := Lib.hid hpx
  clear hlen hstep hpx
  go_enter Try.func29, Try.ntmps29
  go_wp2
  go_loopw [5, 6] (fun ou i wc => ∃ (j : Nat) (Ao : Option Addr) (co : Nat), j ≤ a.length ∧ i = .int .i64 j ∧ ou = .slice Ao ((a.take j).filter p).length co ∧ Sat W wc (seenS 9 (.slice Ao ((a.take j).filter p).length co) ((a.take j).filter p).length (tsC ((a.take j).filter p)) :: L)) (fun _ i _ => a.length - (intOf i).toNat)
  case atStart => exact ⟨0, none, 0, by omega, rfl, rfl, H.new_nil _ _⟩
  case round =>
    obtain ⟨j, Ao, co, hj, rfl, rfl, H1⟩ := hrel
    by_cases hlt : j < a.length
    · obtain ⟨x, hx⟩ : ∃ x, a[j]? = some x := ⟨_, List.getElem?_eq_getElem hlt⟩
      have hst := HSTEP.out j x hx
      have hle := HLEN.out j
      clear HSTEP HLEN H
      generalize (a.take j).filter p = acc at *
      have hrx := hr.tail (B := seenS 9 (.slice Ao acc.length co) acc.length (tsC acc))
      obtain ⟨q, o, rfl, hcx⟩ := ts_at (hrx _ H1) j x hx
      have hcx2 : ∀ w', Sat W w' (seenS 9 (.slice Ao acc.length co) acc.length (tsC acc) :: L) → w'.cell? ⟨q, o + j, none⟩ = some (.string ⟨x.toArray⟩) := fun w' h => by
        obtain ⟨q', o', e, h2⟩ := ts_at (hrx _ h) j x hx
        cases e
        exact h2
      have HCX := Lib.hid hcx2
      have hc := hHas_any (w := wr) A' c' b x hb (hr'.tail _ H1)
      rw [HPX.out] at hc
      have HC := Lib.hid hc
      clear hx hcx2 hc
      cases hpb : p x with
      | true =>
        rw [hpb, if_pos rfl] at hst
        rw [hpb] at HC
        have HST := Lib.hid hst
        clear hst hpb
        go_wp2_with fail
        refine HC.out.mono ?_
        rintro e _ ⟨rfl, rfl⟩
        have H2 := H1
        have hcx3 := HCX.out _ H2
        have H3 := H2.alloc #[.string ⟨x.toArray⟩] 9
        clear HC H1 hcx
        go_wp2_with (first
          | (at_builtin
             refine wpList_append_new rfl (.tmp 19) (.tmp 24) 22 rfl 9 i0 _ zS 16 Try.underlying22 hi hz0 rfl hz1 hz2 (by simp) _ acc.length _ rfl H3.swap (some ⟨_, 0, none⟩) 1 1 [.string ⟨x.toArray⟩] rfl rfl (RdL.pt _ H3) (by simp [Value.oneCell']) (by unfold maxLen; omega) (by omega) ?_
             intro A4 c4 w4 H4))
        have H5 := H4.swap.tail
        refine ⟨⟨j + 1, A4, c4, by omega, by go_num, by rw [HST.out, List.length_append]; rfl, ?_⟩, by simp [intOf]; omega⟩
        rw [HST.out, tsC_append, List.length_append]
        exact H5
      | false =>
        rw [hpb, if_neg (by simp)] at hst
        rw [hpb] at HC
        have HST := Lib.hid hst
        clear hst hpb
        go_wp2_with fail
        refine HC.out.mono ?_
        rintro e _ ⟨rfl, rfl⟩
        have H2 := H1
        clear HC H1 hcx
        go_wp2
        refine ⟨⟨j + 1, Ao, co, by omega, by go_num, by rw [HST.out], ?_⟩, by simp [intOf]; omega⟩
        rw [HST.out]
        exact H2
    · obtain rfl : j = a.length := by omega
      rw [List.take_length] at H1
      have hso := hSort_any (W := W) (w := wr) Ao co (a.filter p) (by have := HLEN.out a.length; rw [List.take_length] at this; omega) RdL.newS H1
      have HSO := Lib.hid hso
      clear hso HSTEP HLEN
      rw [List.take_length]
      go_wp2_with fail
      refine HSO.out.mono ?_
      rintro e w3 ⟨A3, c3, rfl, H3⟩
      go_wp2
      go_ret
      exact ⟨A3, c3, rfl, H3.swap.tail⟩

set_option maxRecDepth 100000 in
set_option maxHeartbeats 4000000 in
theorem hAmong_any {W w : World} {L : List SL} (A A' : Option Addr) (c c' : Nat) (a : List Str) (b : List Sp) (ha : a.length ≤ 400000) (hb : b.length ≤ maxLen) (hr : RdL W L A (tsC a)) (hr' : RdL W L A' (spC b)) (H : Sat W w L) :
    Calls Try.prog 35 #[.slice A a.length c, .slice A' b.length c'] w fun e w' => ∃ A2 c2, e = .returned (.slice A2 (amongS a b).length c2) ∧ Sat W w' (seenS 9 (.slice A2 (amongS a b).length c2) (amongS a b).length (tsC (amongS a b)) :: L) := by
  obtain ⟨i0, hi, hz0, hz1, hz2⟩ := info_parts infoStr
  have hp : ∀ (p : Str → Bool), p = (hasSp b) → (amongS a b) = sortS (a.filter p) := fun p h => by subst h; exact filter_sortS a (hasSp b)
  obtain ⟨p, hpe⟩ : ∃ p : Str → Bool, p = (hasSp b) := ⟨_, rfl⟩
  rw [hp p hpe]
  have hpx : ∀ x, (hasSp b x) = p x := fun x => by rw [hpe]
  clear hp hpe
  have hlen : ∀ j, ((a.take j).filter p).length ≤ 400000 := fun j => by
    have h1 := List.length_filter_le p (a.take j)
    rw [List.length_take] at h1; omega
  have hstep : ∀ j x, a[j]? = some x → (a.take (j + 1)).filter p = if p x then (a.take j).filter p ++ [x] else (a.take j).filter p := fun j x h => by
    rw [List.take_add_one, h]; exact filter_snoc _ _ _
  have HLEN := Lib.hid hlen
  have HSTEP := Lib.hid hstep
  have HPX := Lib.hid hpx
  clear hlen hstep hpx
  go_enter Try.func35, Try.ntmps35
  go_wp2
  go_loopw [5, 6] (fun ou i wc => ∃ (j : Nat) (Ao : Option Addr) (co : Nat), j ≤ a.length ∧ i = .int .i64 j ∧ ou = .slice Ao ((a.take j).filter p).length co ∧ Sat W wc (seenS 9 (.slice Ao ((a.take j).filter p).length co) ((a.take j).filter p).length (tsC ((a.take j).filter p)) :: L)) (fun _ i _ => a.length - (intOf i).toNat)
  case atStart => exact ⟨0, none, 0, by omega, rfl, rfl, H.new_nil _ _⟩
  case round =>
    obtain ⟨j, Ao, co, hj, rfl, rfl, H1⟩ := hrel
    by_cases hlt : j < a.length
    · obtain ⟨x, hx⟩ : ∃ x, a[j]? = some x := ⟨_, List.getElem?_eq_getElem hlt⟩
      have hst := HSTEP.out j x hx
      have hle := HLEN.out j
      clear HSTEP HLEN H
      generalize (a.take j).filter p = acc at *
      have hrx := hr.tail (B := seenS 9 (.slice Ao acc.length co) acc.length (tsC acc))
      obtain ⟨q, o, rfl, hcx⟩ := ts_at (hrx _ H1) j x hx
      have hcx2 : ∀ w', Sat W w' (seenS 9 (.slice Ao acc.length co) acc.length (tsC acc) :: L) → w'.cell? ⟨q, o + j, none⟩ = some (.string ⟨x.toArray⟩) := fun w' h => by
        obtain ⟨q', o', e, h2⟩ := ts_at (hrx _ h) j x hx
        cases e
        exact h2
      have HCX := Lib.hid hcx2
      have hc := rHas_any (W := W) (w := wr) x A' c' b hb (hr'.tail) H1
      rw [HPX.out] at hc
      have HC := Lib.hid hc
      clear hx hcx2 hc
      cases hpb : p x with
      | true =>
        rw [hpb, if_pos rfl] at hst
        rw [hpb] at HC
        have HST := Lib.hid hst
        clear hst hpb
        go_wp2_with fail
        refine HC.out.mono ?_
        rintro e w2 ⟨rfl, H2⟩
        have hcx3 := HCX.out _ H2
        have H3 := H2.alloc #[.string ⟨x.toArray⟩] 9
        clear HC H1 hcx
        go_wp2_with (first
          | (at_builtin
             refine wpList_append_new rfl (.tmp 19) (.tmp 24) 22 rfl 9 i0 _ zS 16 Try.underlying22 hi hz0 rfl hz1 hz2 (by simp) _ acc.length _ rfl H3.swap (some ⟨_, 0, none⟩) 1 1 [.string ⟨x.toArray⟩] rfl rfl (RdL.pt _ H3) (by simp [Value.oneCell']) (by unfold maxLen; omega) (by omega) ?_
             intro A4 c4 w4 H4))
        have H5 := H4.swap.tail
        refine ⟨⟨j + 1, A4, c4, by omega, by go_num, by rw [HST.out, List.length_append]; rfl, ?_⟩, by simp [intOf]; omega⟩
        rw [HST.out, tsC_append, List.length_append]
        exact H5
      | false =>
        rw [hpb, if_neg (by simp)] at hst
        rw [hpb] at HC
        have HST := Lib.hid hst
        clear hst hpb
        go_wp2_with fail
        refine HC.out.mono ?_
        rintro e w2 ⟨rfl, H2⟩
        clear HC H1 hcx
        go_wp2
        refine ⟨⟨j + 1, Ao, co, by omega, by go_num, by rw [HST.out], ?_⟩, by simp [intOf]; omega⟩
        rw [HST.out]
        exact H2
    · obtain rfl : j = a.length := by omega
      rw [List.take_length] at H1
      have hso := hSort_any (W := W) (w := wr) Ao co (a.filter p) (by have := HLEN.out a.length; rw [List.take_length] at this; omega) RdL.newS H1
      have HSO := Lib.hid hso
      clear hso HSTEP HLEN
      rw [List.take_length]
      go_wp2_with fail
      refine HSO.out.mono ?_
      rintro e w3 ⟨A3, c3, rfl, H3⟩
      go_wp2
      go_ret
      exact ⟨A3, c3, rfl, H3.swap.tail⟩

set_option maxRecDepth 100000 in
set_option maxHeartbeats 4000000 in
theorem hMeets_any {W w : World} {L : List SL} (A A' A'' : Option Addr) (c c' c'' : Nat) (l some : List Str) (s : List Sp) (hl : l.length ≤ 400000) (ho : some.length ≤ maxLen) (hs : s.length ≤ maxLen) (hr : RdL W L A (tsC l)) (hr' : RdL W L A' (tsC some)) (hr'' : RdL W L A'' (spC s)) (H : Sat W w L) :
    Calls Try.prog 37 #[.slice A l.length c, .slice A' some.length c', .slice A'' s.length c''] w fun e w' => e = .returned (.bool (meetsB l some s)) ∧ Sat W w' L := by
  have HB := Lib.hid (hBoth_any A A' c c' l some hl ho hr hr' H)
  have HA := Lib.hid (fun (w1 : World) (L1 : List SL) (h1 : RdL W L1 A (tsC l)) (h2 : RdL W L1 A'' (spC s)) (h : Sat W w1 L1) => hAmong_any (W := W) (w := w1) (L := L1) A A'' c c'' l s hl hs h1 h2 h)
  unfold meetsB
  clear hl ho hs
  generalize amongS l s = am at *
  go_enter Try.func37, Try.ntmps37
  by_cases hb : 0 < (bothS l some).length
  · have hb1 : (0 : Int) < ((bothS l some).length : Int) := by omega
    rw [decide_eq_true hb]
    go_wp2_with fail
    refine HB.out.mono ?_
    rintro e w1 ⟨A1, c1, rfl, H2⟩
    clear HB HA hb
    generalize (bothS l some).length = n at *
    go_wp2
    go_ret
    exact ⟨rfl, H2.tail⟩
  · have hb1 : (bothS l some).length = 0 := by omega
    rw [decide_eq_false hb]
    rw [hb1] at HB
    go_wp2_with fail
    refine HB.out.mono ?_
    rintro e w1 ⟨A1, c1, rfl, H2⟩
    have HA1 := Lib.hid (HA.out w1 _ hr.tail hr''.tail H2)
    clear HB HA hb hr hr' hr'' hb1
    go_wp2_with fail
    refine HA1.out.mono ?_
    rintro e w2 ⟨A2, c2, rfl, H3⟩
    clear HA1
    go_wp2
    go_ret
    refine ⟨?_, H3.tail.tail⟩
    simp
end Go.Proofs.Ytnpgjobaibnknaa
