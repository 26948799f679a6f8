/- A pack of texts: KdB -/
import Derived.Test.YtodbmeklbamcfaaGreatPkKnownJ
import Derived.Test.YtodbmeklbamcfaaGreatPkKnownB
import Derived.Laws.Cover1
/- Lists of keys: do they rise, is one too long, is a key among them. -/
namespace Go.Proofs.YtodbmeklbamcfaaGreat
open Go.RowKit Go.Rt

theorem less_no {x y : Str} (h : ¬ x < y) : Op.bytesLess x y = false := by rw [bytesLess_eq]; simpa using h
theorem less_yes {x y : Str} (h : x < y) : Op.bytesLess x y = true := by rw [bytesLess_eq]; simpa using h
theorem beq_no {x y : Str} (h : x ≠ y) : (x == y) = false := by simpa using h
theorem beq_yes {x y : Str} (h : x = y) : (x == y) = true := by simpa using h

set_option maxRecDepth 100000 in
set_option maxHeartbeats 4000000 in
theorem eCheck_any {w : World} (A : Option Addr) (c : Nat) (l : List Str) (hl : l.length ≤ maxLen) (hr : Rd w A (tsC l)) :
    Calls Tryz.prog 51 #[.slice A l.length c] w fun e w' => e = .returned (.bool (checkK l)) ∧ Below w.heap.size w w' := by
  have hl' := hl
  unfold maxLen at hl'
  go_enter Tryz.func51, Tryz.ntmps51
  go_wp2
  go_loopw [3] (fun i wc => ∃ j : Nat, (j ≤ l.length ∨ j = 1) ∧ 1 ≤ j ∧ i = .int .i64 j ∧ Hid (∀ k x y, k + 1 < j → l[k]? = some x → l[k + 1]? = some y → x < y) ∧ Below w.heap.size w wc) (fun i _ => l.length - (intOf i).toNat)
  case atStart => exact ⟨1, by omega, by omega, rfl, (fun k x y hk => by omega), Below.refl _ _⟩
  case round =>
    obtain ⟨j, hj, hj1, rfl, hN, hB⟩ := hrel
    by_cases hlt : j < l.length
    · obtain ⟨k, hk0⟩ : ∃ k, Hid (j = k + 1) := ⟨j - 1, by show _ = _; omega⟩
      have hkl : k < l.length := by have := hk0.out; omega
      obtain ⟨x, hx⟩ : ∃ x, l[k]? = some x := ⟨_, List.getElem?_eq_getElem hkl⟩
      obtain ⟨y, hy⟩ : ∃ y, l[j]? = some y := ⟨_, List.getElem?_eq_getElem hlt⟩
      obtain ⟨b, o, rfl, hc⟩ := ts_at (hr.below hB) k x hx
      obtain ⟨b', o', hbo, hc'⟩ := ts_at (hr.below hB) j y hy
      cases hbo
      have hs : IntKind.i64.wrap ((j : Int) - 1) = (k : Int) := by have := hk0.out; rw [IntWalk.i64_in _ (by omega)]; omega
      clear hr
      by_cases hq : x < y
      · have h1 : Op.bytesLess y x = false := less_no fun h => str_irrefl x (str_trans hq h)
        have h2 : (y == x) = false := beq_no fun h => str_irrefl x (by rw [h] at hq; exact hq)
        have HQ := Lib.hid hq
        have HX := Lib.hid hx
        have HY := Lib.hid hy
        clear hq hx hy
        go_wp2
        go_quiet (fail)
        go_wp2
        refine ⟨⟨j + 1, by omega, by omega, by go_num, ?_, below_drew' hB _⟩, by simp [intOf]; omega⟩
        intro k2 a b hk ha hb
        have hk1 := hk0.out
        rcases Nat.lt_or_ge (k2 + 1) j with h | h
        · exact hN.out k2 a b h ha hb
        · obtain rfl : k2 = k := by omega
          rw [HX.out] at ha; cases ha
          rw [← hk1, HY.out] at hb; cases hb
          exact HQ.out
      · have hf := checkK_no hx (by rw [← hk0.out]; exact hy) hq
        have HF := Lib.hid hf
        clear hf
        rcases str_total y x with h | h | h
        · have h1 : Op.bytesLess y x = true := less_yes h
          clear hq hx hy
          go_wp2
          go_quiet (fail)
          go_wp2
          go_ret
          exact ⟨by rw [HF.out]; rfl, below_drew' hB _⟩
        · have h1 : Op.bytesLess y x = false := less_no fun h' => str_irrefl x (by rw [h] at h'; exact h')
          have h2 : (y == x) = true := beq_yes h
          clear hq hx hy h
          go_wp2
          go_quiet (fail)
          go_wp2
          go_ret
          exact ⟨by rw [HF.out]; rfl, below_drew' hB _⟩
        · exact absurd h hq
    · have hf : checkK l = true := (checkK_adj l).2 fun k x y ha hb => by
        have := (List.getElem?_eq_some_iff.1 hb).1
        exact hN.out k x y (by omega) ha hb
      go_wp2
      go_ret
      exact ⟨by first | rfl | (rw [hf]; rfl), hB⟩

/-- Is one of the first ones too long, or are there too many? -/
def longK (l : List Str) (n : Nat) : Bool := decide (n < l.length) || (l.take (n + 1)).any fun x => decide (100 < x.length)
theorem longK_no {l : List Str} {n : Nat} (h : longK l n = false) : l.length ≤ n ∧ ∀ x ∈ l, x.length ≤ 100 := by
  unfold longK at h
  rw [Bool.or_eq_false_iff, decide_eq_false_iff_not] at h
  refine ⟨by omega, fun x hx => ?_⟩
  have h2 := h.2
  rw [List.any_eq_false, List.take_of_length_le (by omega)] at h2
  have := h2 x hx
  simp at this
  exact this

set_option maxRecDepth 100000 in
theorem LongKeys_any {w : World} (A : Option Addr) (c : Nat) (l : List Str) (n : Nat) (hn : n ≤ 1000000) (hl : l.length ≤ maxLen) (hr : Rd w A (tsC l)) :
    Calls Tryz.prog 14 #[.slice A l.length c, .int .i64 n] w fun e w' => e = .returned (.bool (longK l n)) ∧ w = w' := by
  have hl' := hl
  unfold maxLen at hl'
  go_enter Tryz.func14, Tryz.ntmps14
  go_wp2
  go_loop [5] (fun i => ∃ j : Nat, j ≤ l.length ∧ j ≤ n + 1 ∧ i = .int .i64 j ∧ Hid (∀ k x, k < j → l[k]? = some x → x.length ≤ 100)) (fun i => n + 1 - (intOf i).toNat)
  case atStart => exact ⟨0, by omega, by omega, rfl, fun k x hk => by omega⟩
  case round =>
    obtain ⟨j, hj, hjn, rfl, hN⟩ := hrel
    by_cases hlt : j < l.length
    · by_cases hj2 : j ≤ n
      · obtain ⟨x, hx⟩ : ∃ x, l[j]? = some x := ⟨_, List.getElem?_eq_getElem hlt⟩
        obtain ⟨b, o, rfl, hc⟩ := ts_at hr j x hx
        by_cases hq : 100 < x.length
        · have hf : longK l n = true := by
            unfold longK
            rw [Bool.or_eq_true, List.any_eq_true]
            right
            exact ⟨x, List.mem_of_getElem? (by rw [List.getElem?_take, if_pos (show j < n + 1 by omega)]; exact hx), by simpa using hq⟩
          have HF := Lib.hid hf
          clear hf
          have hq2 : (100 : Int) < (x.length : Int) := by omega
          clear hx
          go_wp2
          go_ret
          exact ⟨by rw [HF.out]; rfl, rfl⟩
        · have hx2 : x.length ≤ 100 := by omega
          have HX := Lib.hid hx
          clear hx hq
          go_wp2
          refine ⟨⟨j + 1, by omega, by omega, by go_num, fun k y hk hy => ?_⟩, by simp [intOf]; omega⟩
          rcases Nat.lt_or_ge k j with h | h
          · exact hN.out k y h hy
          · obtain rfl : k = j := by omega
            rw [HX.out] at hy; cases hy; exact hx2
      · have hf : longK l n = true := by unfold longK; rw [Bool.or_eq_true]; left; simp; omega
        have HF := Lib.hid hf
        clear hf
        have hq3 : (n : Int) < (l.length : Int) := by omega
        go_wp2
        go_ret
        exact ⟨by rw [HF.out]; rfl, rfl⟩
    · obtain rfl : j = l.length := by omega
      have hf : longK l n = decide (n < l.length) := by
        unfold longK
        have : (l.take (n + 1)).any (fun x => decide (100 < x.length)) = false := by
          rw [List.any_eq_false]
          intro x hx
          obtain ⟨k, hk⟩ := List.getElem?_of_mem (List.mem_of_mem_take hx)
          have := hN.out k x (List.getElem?_eq_some_iff.1 hk).1 hk
          simp; omega
        rw [this, Bool.or_false]
      have HF := Lib.hid hf
      clear hf
      by_cases h9 : n < l.length
      · go_wp2
        go_ret
        exact ⟨by rw [HF.out]; simp [h9], rfl⟩
      · go_wp2
        go_ret
        exact ⟨by rw [HF.out]; simp [h9], rfl⟩

end Go.Proofs.YtodbmeklbamcfaaGreat
