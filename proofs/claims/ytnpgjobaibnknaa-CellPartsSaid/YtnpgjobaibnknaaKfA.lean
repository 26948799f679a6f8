/- The document's answers on keys and spans, that only read. -/
import Derived.Test.YtnpgjobaibnknaaKdK
import Derived.Test.YtnpgjobaibnknaaRtN
import Derived.Laws.Cover1
namespace Go.Proofs.Ytnpgjobaibnknaa
open Go.RowKit Go.Rt

set_option maxRecDepth 100000 in
set_option maxHeartbeats 4000000 in
theorem hCheck_any {w : World} (A : Option Addr) (c : Nat) (l : List Str) (hl : l.length ≤ maxLen) (hr : Rd w A (tsC l)) :
    Calls Try.prog 31 #[.slice A l.length c] w fun e w' => e = .returned (.bool (checkK l)) ∧ Below w.heap.size w w' := by
  have hl' := hl
  unfold maxLen at hl'
  go_enter Try.func31, Try.ntmps31
  go_wp2
  go_loopw [3] (fun i wc => ∃ j : Nat, (j ≤ l.length ∨ j = 1) ∧ 1 ≤ j ∧ i = .int .i64 j ∧ Hid (∀ k x y, k + 1 < j → l[k]? = some x → l[k + 1]? = some y → x < y) ∧ Below w.heap.size w wc) (fun i _ => l.length - (intOf i).toNat)
  case atStart => exact ⟨1, by omega, by omega, rfl, (fun k x y hk => by omega), Below.refl _ _⟩
  case round =>
    obtain ⟨j, hj, hj1, rfl, hN, hB⟩ := hrel
    by_cases hlt : j < l.length
    · obtain ⟨k, hk0⟩ : ∃ k, Hid (j = k + 1) := ⟨j - 1, by show _ = _; omega⟩
      have hkl : k < l.length := by have := hk0.out; omega
      obtain ⟨x, hx⟩ : ∃ x, l[k]? = some x := ⟨_, List.getElem?_eq_getElem hkl⟩
      obtain ⟨y, hy⟩ : ∃ y, l[j]? = some y := ⟨_, List.getElem?_eq_getElem hlt⟩
      obtain ⟨b, o, rfl, hc⟩ := ts_at (hr.below hB) k x hx
      obtain ⟨b', o', hbo, hc'⟩ := ts_at (hr.below hB) j y hy
      cases hbo
      have hs : IntKind.i64.wrap ((j : Int) - 1) = (k : Int) := by have := hk0.out; rw [IntWalk.i64_in _ (by omega)]; omega
      clear hr
      by_cases hq : x < y
      · have h1 : Op.bytesLess y x = false := less_no fun h => str_irrefl x (str_trans hq h)
        have h2 : (y == x) = false := beq_no fun h => str_irrefl x (by rw [h] at hq; exact hq)
        have h3 : Op.bytesLess x y = true := less_yes hq
        have HQ := Lib.hid hq
        have HX := Lib.hid hx
        have HY := Lib.hid hy
        clear hq hx hy
        go_wp2
        go_quiet (fail)
        go_wp2
        refine ⟨⟨j + 1, by omega, by omega, by go_num, ?_, below_drew' hB _⟩, by simp [intOf]; omega⟩
        intro k2 a b hk ha hb
        have hk1 := hk0.out
        rcases Nat.lt_or_ge (k2 + 1) j with h | h
        · exact hN.out k2 a b h ha hb
        · obtain rfl : k2 = k := by omega
          rw [HX.out] at ha; cases ha
          rw [← hk1, HY.out] at hb; cases hb
          exact HQ.out
      · have hf := checkK_no hx (by rw [← hk0.out]; exact hy) hq
        have HF := Lib.hid hf
        clear hf
        rcases str_total y x with h | h | h
        · have h1 : Op.bytesLess y x = true := less_yes h
          have h3 : Op.bytesLess x y = false := less_no hq
          clear hq hx hy
          go_wp2
          go_quiet (fail)
          go_wp2
          go_ret
          exact ⟨by rw [HF.out]; rfl, below_drew' hB _⟩
        · have h1 : Op.bytesLess y x = false := less_no fun h' => str_irrefl x (by rw [h] at h'; exact h')
          have h2 : (y == x) = true := beq_yes h
          have h3 : Op.bytesLess x y = false := less_no hq
          clear hq hx hy h
          go_wp2
          go_quiet (fail)
          go_wp2
          go_ret
          exact ⟨by rw [HF.out]; rfl, below_drew' hB _⟩
        · exact absurd h hq
    · have hf : checkK l = true := (checkK_adj l).2 fun k x y ha hb => by
        have := (List.getElem?_eq_some_iff.1 hb).1
        exact hN.out k x y (by omega) ha hb
      go_wp2
      go_ret
      exact ⟨by first | rfl | (rw [hf]; rfl), hB⟩

set_option maxRecDepth 100000 in
theorem hHas_any {w : World} (A : Option Addr) (c : Nat) (l : List Str) (x : Str) (hl : l.length ≤ maxLen) (hr : Rd w A (tsC l)) :
    Calls Try.prog 32 #[.slice A l.length c, .string ⟨x.toArray⟩] w fun e w' => e = .returned (.bool (hasK l x)) ∧ w = w' := by
  have hl' := hl
  unfold maxLen at hl'
  go_enter Try.func32, Try.ntmps32
  go_wp2
  go_loop [5] (fun i => ∃ j : Nat, j ≤ l.length ∧ i = .int .i64 j ∧ Hid (∀ k y, k < j → l[k]? = some y → y ≠ x)) (fun i => l.length - (intOf i).toNat)
  case atStart => exact ⟨0, by omega, rfl, fun k y hk => by omega⟩
  case round =>
    obtain ⟨j, hj, rfl, hN⟩ := hrel
    by_cases hlt : j < l.length
    · obtain ⟨y, hy⟩ : ∃ y, l[j]? = some y := ⟨_, List.getElem?_eq_getElem hlt⟩
      obtain ⟨b, o, rfl, hc⟩ := ts_at hr j y hy
      by_cases hq : y = x
      · have hf : hasK l x = true := decide_eq_true (by rw [← hq]; exact List.mem_of_getElem? hy)
        have HF := Lib.hid hf
        have h1 := beq_yes hq
        clear hf hq hy
        go_wp2
        go_ret
        exact ⟨by rw [HF.out]; rfl, rfl⟩
      · have HY := Lib.hid hy
        have HQ := Lib.hid hq
        have h1 := beq_no hq
        clear hq hy
        go_wp2
        refine ⟨⟨j + 1, by omega, by go_num, fun k z hk hz => ?_⟩, by simp [intOf]; omega⟩
        rcases Nat.lt_or_ge k j with h | h
        · exact hN.out k z h hz
        · obtain rfl : k = j := by omega
          rw [HY.out] at hz; cases hz; exact HQ.out
    · obtain rfl : j = l.length := by omega
      have hf : hasK l x = false := decide_eq_false fun h => by
        obtain ⟨k, hk⟩ := List.getElem?_of_mem h
        exact hN.out k x (List.getElem?_eq_some_iff.1 hk).1 hk rfl
      have HF := Lib.hid hf
      clear hf
      go_wp2
      go_ret
      exact ⟨by rw [HF.out]; rfl, rfl⟩
set_option maxRecDepth 100000 in
theorem rIn_any {W w : World} {L : List SL} (lo hi k : Str) (H : Sat W w L) :
    Calls Try.prog 79 #[.agg #[.string ⟨lo.toArray⟩, .string ⟨hi.toArray⟩], .string ⟨k.toArray⟩] w fun e w' => e = .returned (.bool (inB ⟨lo, hi⟩ k)) ∧ Sat W w' L := by
  have H1 := H.alloc #[.string ⟨lo.toArray⟩, .string ⟨hi.toArray⟩] 54
  unfold inB belowB
  dsimp only
  go_enter Try.func79, Try.ntmps79
  by_cases h : k < lo
  · have h1 := less_yes h
    have h2 : (k == lo) = false := beq_no fun e => str_irrefl lo (by rw [e] at h; exact h)
    have h3 : (lo == k) = false := beq_no fun e => str_irrefl lo (by rw [← e] at h; exact h)
    have h4 : Op.bytesLess lo k = false := less_no fun e => str_irrefl k (str_trans h e)
    rw [decide_eq_true h]
    clear h
    go_wp2
    go_ret
    exact ⟨by simp, H1.tail⟩
  · have h0 := less_no h
    rw [decide_eq_false h]
    have hh : (Op.bytesLess lo k = true ∧ (k == lo) = false ∧ (lo == k) = false) ∨ (Op.bytesLess lo k = false ∧ (k == lo) = true ∧ (lo == k) = true) := by
      rcases str_total lo k with e | e | e
      · exact .inl ⟨less_yes e, beq_no fun x => str_irrefl lo (by rw [x] at e; exact e), beq_no fun x => str_irrefl lo (by rw [← x] at e; exact e)⟩
      · exact .inr ⟨less_no fun x => str_irrefl lo (by rw [← e] at x; exact x), beq_yes e.symm, beq_yes e⟩
      · exact absurd e h
    clear h
    by_cases g : hi = []
    · subst g
      rcases hh with ⟨h1, h2, h3⟩ | ⟨h1, h2, h3⟩
      all_goals
        go_wp2
        go_ret
        exact ⟨by simp, H1.tail⟩
    · have g1 : hi.isEmpty = false := by cases hi with | nil => exact absurd rfl g | cons x l => rfl
      rw [decide_eq_false g]
      by_cases g2 : k < hi
      · have g3 := less_yes g2
        rw [decide_eq_true g2]
        clear g g2
        rcases hh with ⟨h1, h2, h3⟩ | ⟨h1, h2, h3⟩
        all_goals
          go_wp2
          go_ret
          exact ⟨by simp, H1.tail⟩
      · have g3 := less_no g2
        rw [decide_eq_false g2]
        clear g g2
        rcases hh with ⟨h1, h2, h3⟩ | ⟨h1, h2, h3⟩
        all_goals
          go_wp2
          go_ret
          exact ⟨by simp, H1.tail⟩
set_option maxRecDepth 100000 in
set_option maxHeartbeats 4000000 in
theorem rHas_any {W w : World} {L : List SL} (k : Str) (A : Option Addr) (c : Nat) (l : List Sp) (hl : l.length ≤ maxLen) (hr : RdL W L A (spC l)) (H : Sat W w L) :
    Calls Try.prog 71 #[.slice A l.length c, .string ⟨k.toArray⟩] w fun e w' => e = .returned (.bool (hasSp l k)) ∧ Sat W w' L := by
  have hl' := hl
  unfold maxLen at hl'
  go_enter Try.func71, Try.ntmps71
  go_wp2
  go_loopw [5] (fun i wc => ∃ j : Nat, j ≤ l.length ∧ i = .int .i64 j ∧ Hid (∀ m s, m < j → l[m]? = some s → inB s k = false) ∧ Sat W wc L) (fun i _ => l.length - (intOf i).toNat)
  case atStart => exact ⟨0, by omega, rfl, (fun m s h => by omega), H⟩
  case round =>
    obtain ⟨j, hj, rfl, hN, H1⟩ := hrel
    by_cases hlt : j < l.length
    · obtain ⟨s, hs⟩ : ∃ s, l[j]? = some s := ⟨_, List.getElem?_eq_getElem hlt⟩
      obtain ⟨b, o, rfl, c0, c1⟩ := sp_rd (hr _ H1) j s hs
      have HS := Lib.hid hs
      obtain ⟨lo, hi⟩ := s
      dsimp only at c0 c1
      have HI := Lib.hid (rIn_any lo hi k H1)
      clear hs
      cases hb : inB ⟨lo, hi⟩ k with
      | true =>
        rw [hb] at HI
        have hf : hasSp l k = true := List.any_eq_true.2 ⟨⟨lo, hi⟩, List.mem_of_getElem? HS.out, hb⟩
        have HF := Lib.hid hf
        clear hb hf
        go_wp2_with fail
        refine HI.out.mono ?_
        rintro e w2 ⟨rfl, H2⟩
        go_wp2
        go_ret
        exact ⟨by rw [HF.out]; rfl, H2⟩
      | false =>
        rw [hb] at HI
        have HBB := Lib.hid hb
        clear hb
        go_wp2_with fail
        refine HI.out.mono ?_
        rintro e w2 ⟨rfl, H2⟩
        go_wp2
        refine ⟨⟨j + 1, by omega, by go_num, fun m s hm hs => ?_, H2⟩, by simp [intOf]; omega⟩
        rcases Nat.lt_or_ge m j with h | h
        · exact hN.out m s h hs
        · obtain rfl : m = j := by omega
          rw [HS.out] at hs; cases hs; exact HBB.out
    · obtain rfl : j = l.length := by omega
      have hf : hasSp l k = false := by
        unfold hasSp
        rw [List.any_eq_false]
        intro s hs
        obtain ⟨m, hm⟩ := List.getElem?_of_mem hs
        simp [hN.out m s (List.getElem?_eq_some_iff.1 hm).1 hm]
      have HF := Lib.hid hf
      clear hf
      go_wp2
      go_ret
      exact ⟨by rw [HF.out]; rfl, H1⟩
end Go.Proofs.Ytnpgjobaibnknaa
