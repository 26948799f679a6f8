/- The keys that are in spans; whether some are among others, or in spans. -/
import Derived.Test.YtnpgjobaibnknaaKdH
namespace Go.Proofs.Ytnpgjobaibnknaa
open Go.RowKit Go.Rt

structure DelSt (xs : List Str) (p : Str → Bool) (i j : Nat) (ys : List Str) : Prop where
  hj : j ≤ xs.length
  hij : i < j
  len : ys.length = xs.length
  fst : ys.take i = (xs.take j).filter p
  rst : ys.drop j = xs.drop j
theorem DelSt.start {xs : List Str} {p : Str → Bool} {j : Nat} (hj : j < xs.length) (h : (xs.take (j + 1)).filter p = xs.take j) : DelSt xs p j (j + 1) xs := ⟨hj, by omega, rfl, h.symm, rfl⟩
theorem DelSt.at {xs ys : List Str} {p : Str → Bool} {i j : Nat} (h : DelSt xs p i j ys) : ys[j]? = xs[j]? := by
  have e := congrArg (fun l => l[0]?) h.rst
  simpa using e
theorem DelSt.keep {xs ys : List Str} {p : Str → Bool} {i j : Nat} {x : Str} (h : DelSt xs p i j ys) (hx : xs[j]? = some x) (hp : p x = true) : DelSt xs p (i + 1) (j + 1) (ys.set i x) := by
  have hj := (List.getElem?_eq_some_iff.1 hx).1
  have hl := h.len
  have hi := h.hij
  refine ⟨hj, by omega, by simpa using h.len, ?_, ?_⟩
  · rw [List.take_add_one (l := xs), hx, List.filter_append, ← h.fst, List.take_add_one, List.take_set, List.getElem?_set_self (by omega)]
    congr 1
    · exact List.set_eq_of_length_le (by rw [List.length_take]; omega)
    · simp [hp]
  · rw [List.drop_set_of_lt (by omega), ← List.drop_drop, h.rst, List.drop_drop]
theorem DelSt.skip {xs ys : List Str} {p : Str → Bool} {i j : Nat} {x : Str} (h : DelSt xs p i j ys) (hx : xs[j]? = some x) (hp : p x = false) : DelSt xs p i (j + 1) ys := by
  have hj := (List.getElem?_eq_some_iff.1 hx).1
  have hi := h.hij
  refine ⟨hj, by omega, h.len, ?_, ?_⟩
  · rw [List.take_add_one (l := xs), hx, List.filter_append, ← h.fst]; simp [hp]
  · rw [← List.drop_drop, h.rst, List.drop_drop]
theorem tsC_set (l : List Str) (i : Nat) (x : Str) : (tsC l).set i (.string ⟨x.toArray⟩) = tsC (l.set i x) := by
  unfold tsC
  rw [List.map_set]
theorem tsC_take (l : List Str) (i : Nat) : (tsC l).take i = tsC (l.take i) := by
  unfold tsC
  rw [List.map_take]

set_option maxRecDepth 100000 in
set_option maxHeartbeats 4000000 in
theorem eDeleteFunc_any {W w : World} {L : List SL} (q : Nat) (A A' : Option Addr) (c c' : Nat) (s : List Sp) (l : List Str) (hl : l.length ≤ 1000000000) (hs : s.length ≤ maxLen) (hr : RdL W L A (spC s)) (hq : ∀ w', Sat W w' L → w'.cell? ⟨q, 0, none⟩ = some (.slice A s.length c)) (H : Sat W w (seenS 9 (.slice A' l.length c') l.length (tsC l) :: L)) :
    Calls Try.prog 69 #[.slice A' l.length c', .func (.func 70) #[] #[.pointer (some ⟨q, 0, none⟩)]] w fun e w' => ∃ A2, e = .returned (.slice A2 (l.filter (hasSp s)).length c') ∧ Sat W w' (seenS 9 (.slice A2 (l.filter (hasSp s)).length c') (l.filter (hasSp s)).length (tsC (l.filter (hasSp s))) :: L) := by
  have HI := Lib.hid (eIndexFunc_any q A A' c c' s l (by unfold maxLen; omega) hs hr.tail (fun w' h => hq w' h.tail) RdL.seenS H)
  have HA := Lib.hid (fun (w0 : World) (k : Str) (ys : List Str) (n : Nat) (h : Sat W w0 (seenS 9 (.slice A' n c') n (tsC ys) :: L)) => eAmong1_any (W := W) (w := w0) (L := seenS 9 (.slice A' n c') n (tsC ys) :: L) q A c s k hs hr.tail (fun w' h => hq w' h.tail) h)
  clear hr hq hs
  go_enter Try.func69, Try.ntmps69
  go_wp2_with fail
  refine HI.out.mono ?_
  rintro e w1 ⟨h | h, H1⟩
  · obtain ⟨rfl, hf⟩ := h
    have HF := Lib.hid hf
    clear HI HA hf
    go_wp2
    go_ret
    rw [HF.out]
    exact ⟨_, rfl, H1⟩
  · obtain ⟨j0, rfl, hj0, hf⟩ := h
    have hst := Lib.hid (DelSt.start hj0 hf)
    obtain ⟨g, rfl⟩ := H1.new_some (by omega)
    have hne : ((j0 : Int) == -1) = false := by simp
    clear HI hf H
    go_wp2
    go_loopw [5, 6] (fun i j wc => ∃ (i' j' : Nat) (ys : List Str), i = .int .i64 i' ∧ j = .int .i64 j' ∧ Hid (DelSt l (hasSp s) i' j' ys) ∧ Sat W wc (seenS 9 (.slice (some ⟨g, 0, none⟩) l.length c') l.length (tsC ys) :: L)) (fun _ j _ => l.length - (intOf j).toNat)
    case atStart => exact ⟨j0, j0 + 1, l, rfl, by go_num, hst, H1⟩
    case round =>
      obtain ⟨i, j, ys, rfl, rfl, hd, H2⟩ := hrel
      have hj := hd.out.hj
      have hij := hd.out.hij
      clear H1 hst
      by_cases hlt : j < l.length
      · obtain ⟨x, hx⟩ : ∃ x, l[j]? = some x := ⟨_, List.getElem?_eq_getElem hlt⟩
        have hy : (tsC ys)[j]? = some (.string ⟨x.toArray⟩) := by
          unfold tsC
          rw [List.getElem?_map, hd.out.at, hx]; rfl
        have hc := H2.seen_at j hy
        have HB := Lib.hid (HA.out wr x ys _ H2)
        cases hb : hasSp s x with
        | true =>
          rw [hb] at HB
          have hd2 := Lib.hid (hd.out.keep hx hb)
          have HS := Lib.hid (fun w0 (h : Sat W w0 (seenS 9 (.slice (some ⟨g, 0, none⟩) l.length c') l.length (tsC ys) :: L)) => h.seen_set i (by omega) (.string ⟨x.toArray⟩))
          have hyi : ∃ u, (tsC ys)[i]? = some u := ⟨_, List.getElem?_eq_getElem (by rw [tsC_len, hd.out.len]; omega)⟩
          obtain ⟨u, hyi⟩ := hyi
          have HYI := Lib.hid hyi
          clear hb hx hy HA hyi
          go_wp2_with fail
          refine HB.out.mono ?_
          rintro e w2 ⟨rfl, H3⟩
          have hci := H3.seen_at i HYI.out
          have hfz := H3.seen_frz i
          clear HB H2
          go_wp2
          refine ⟨⟨i + 1, j + 1, _, by go_num, by go_num, hd2, ?_⟩, by simp [intOf]; omega⟩
          rw [← tsC_set]
          exact HS.out _ H3
        | false =>
          rw [hb] at HB
          have hd2 := Lib.hid (hd.out.skip hx hb)
          clear hb hx hy HA
          go_wp2_with fail
          refine HB.out.mono ?_
          rintro e w2 ⟨rfl, H3⟩
          clear HB H2
          go_wp2
          exact ⟨⟨i, j + 1, _, rfl, by go_num, hd2, H3⟩, by simp [intOf]; omega⟩
      · obtain rfl : j = l.length := by omega
        have hf : ys.take i = l.filter (hasSp s) := by rw [hd.out.fst, List.take_length]
        have hn : (l.filter (hasSp s)).length = i := by rw [← hf, List.length_take, hd.out.len]; omega
        have HF := Lib.hid hf
        have HN := Lib.hid hn
        have hlc : l.length ≤ c' := by obtain ⟨_, _, h, _⟩ := H2.new_blk; exact h
        obtain ⟨i0, hi, hz0, hz1, hz2⟩ := info_parts infoStr
        clear hf hn HA
        go_wp2_with (first
          | (refine wpList_slice_from (by rfl) (.tmp 36) (.tmp 37) 22 rfl 9 i0 Try.underlying22 hi hz1 _ l.length c' i rfl rfl (by omega) ?_)
          | (refine wpList_clear_seen (e := 9) rfl rfl (.tmp 38) 22 rfl Try.underlying22 (fun w => rfl) i (by omega) rfl H2 ?_
             intro w3 H3)
          | (refine wpList_slice_to (by rfl) (.tmp 39) (.tmp 40) 22 rfl 9 i0 Try.underlying22 hi _ l.length c' i rfl rfl (by omega) ?_))
        go_ret
        rw [HN.out]
        refine ⟨_, rfl, ?_⟩
        rw [← HF.out, ← tsC_take]
        have e0 : subA (some (⟨g, 0, none⟩ : Addr)) c' 0 = some ⟨g, 0, none⟩ := by
          unfold subA
          rw [if_neg (by omega)]
          rfl
        rw [e0]
        exact H3
end Go.Proofs.Ytnpgjobaibnknaa
