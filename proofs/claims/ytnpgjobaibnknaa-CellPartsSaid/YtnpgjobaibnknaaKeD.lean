/- cell.Key, cell.Check, and the document's. -/
import Derived.Test.YtnpgjobaibnknaaKeB
namespace Go.Proofs.Ytnpgjobaibnknaa
open Go.RowKit Go.Rt

theorem goodP_bad {l : List Pr} {j : Nat} {p : Pr} (hp : l[j]? = some p) (h : okP p = false) : goodP l = false := by
  cases hg : goodP l with
  | false => rfl
  | true => have := ((goodP_iff l).1 hg).1 p (List.mem_of_getElem? hp); rw [h] at this; cases this
theorem goodP_fall {l : List Pr} {j : Nat} {p q : Pr} (hp : l[j]? = some p) (hq : l[j + 1]? = some q) (h : ¬ p.k < q.k) : goodP l = false := by
  unfold goodP
  rw [checkK_no (k := j) (by rw [List.getElem?_map, hp]; rfl) (by rw [List.getElem?_map, hq]; rfl) h, Bool.and_false]
theorem goodP_all {l : List Pr} (h1 : ∀ j p, j < l.length → l[j]? = some p → okP p = true) (h2 : ∀ j p q, j + 1 < l.length → l[j]? = some p → l[j + 1]? = some q → p.k < q.k) : goodP l = true := by
  unfold goodP
  rw [Bool.and_eq_true, List.all_eq_true, checkK_adj]
  refine ⟨fun p hp => ?_, fun k x y hx hy => ?_⟩
  · obtain ⟨j, hj⟩ := List.getElem?_of_mem hp
    exact h1 j p (List.getElem?_eq_some_iff.1 hj).1 hj
  · rw [List.getElem?_map] at hx hy
    cases ha : l[k]? with
    | none => rw [ha] at hx; cases hx
    | some p =>
      cases hb : l[k + 1]? with
      | none => rw [hb] at hy; cases hy
      | some q =>
        rw [ha] at hx; rw [hb] at hy
        simp at hx hy
        rw [← hx, ← hy]
        exact h2 k p q (List.getElem?_eq_some_iff.1 hb).1 ha hb
theorem checkS_of {l : List Pr} (h : l.length ≤ 65536) : checkS l = if goodP l then 0 else 2 := by
  unfold checkS
  rw [if_neg (by omega)]

set_option maxRecDepth 100000 in
set_option maxHeartbeats 4000000 in
theorem cKey_any {w : World} (k : Str) : Calls Try.prog 52 #[.string ⟨k.toArray⟩] w fun e w' => e = .returned (.bool (keyB k)) ∧ w' = w := by
  go_enter Try.func52, Try.ntmps52
  by_cases h1 : k.length = 0
  · have hk : k = [] := List.eq_nil_of_length_eq_zero h1
    subst hk
    go_wp2
    go_ret
    exact ⟨rfl, rfl⟩
  · have h2 : k.isEmpty = false := by cases k with | nil => exact absurd rfl h1 | cons x l => rfl
    have h3 : (1 : Int) ≤ (k.length : Int) := by omega
    by_cases h4 : k.length ≤ 32
    · have h5 : (k.length : Int) ≤ 32 := by omega
      go_wp2
      go_ret
      exact ⟨by simp [keyB]; omega, rfl⟩
    · have h5 : ¬ (k.length : Int) ≤ 32 := by omega
      go_wp2
      go_ret
      exact ⟨by simp [keyB]; omega, rfl⟩
set_option maxRecDepth 100000 in
set_option maxHeartbeats 4000000 in
theorem qKey_any {w : World} (k : Str) : Calls Try.prog 53 #[.string ⟨k.toArray⟩] w fun e w' => e = .returned (.bool (keyB k)) ∧ w' = w := by
  go_enter Try.func53, Try.ntmps53
  by_cases h1 : k.length = 0
  · have hk : k = [] := List.eq_nil_of_length_eq_zero h1
    subst hk
    go_wp2
    go_ret
    exact ⟨rfl, rfl⟩
  · have h2 : k.isEmpty = false := by cases k with | nil => exact absurd rfl h1 | cons x l => rfl
    have h3 : (1 : Int) ≤ (k.length : Int) := by omega
    by_cases h4 : k.length ≤ 32
    · have h5 : (k.length : Int) ≤ 32 := by omega
      go_wp2
      go_ret
      exact ⟨by simp [keyB]; omega, rfl⟩
    · have h5 : ¬ (k.length : Int) ≤ 32 := by omega
      go_wp2
      go_ret
      exact ⟨by simp [keyB]; omega, rfl⟩

theorem cKey_is (k : Str) (v : Bool) (hv : keyB k = v) (w : World) : Calls Try.prog 52 #[.string ⟨k.toArray⟩] w fun e w' => e = .returned (.bool v) ∧ w' = w := by subst hv; exact cKey_any k
theorem qKey_is (k : Str) (v : Bool) (hv : keyB k = v) (w : World) : Calls Try.prog 53 #[.string ⟨k.toArray⟩] w fun e w' => e = .returned (.bool v) ∧ w' = w := by subst hv; exact qKey_any k

set_option maxRecDepth 100000 in
set_option maxHeartbeats 4000000 in
theorem cChk_any {W w : World} {L : List SL} (A : Option Addr) (c : Nat) (l : List Pr) (hl : l.length ≤ maxLen) (hr : RdL W L A (prC l)) (H : Sat W w L) :
    Calls Try.prog 43 #[.slice A l.length c] w fun e w' => e = .returned (.int .i64 (checkS l)) ∧ Sat W w' L := by
  have hl' := hl
  unfold maxLen at hl'
  go_enter Try.func43, Try.ntmps43
  by_cases hlong : 65536 < l.length
  · have e1 : checkS l = 3 := by unfold checkS; rw [if_pos hlong]
    have h1 : (65536 : Int) < (l.length : Int) := by omega
    rw [e1]
    clear e1 hlong
    go_wp2
    go_ret
    exact ⟨rfl, H⟩
  have h1 : ¬ (65536 : Int) < (l.length : Int) := by omega
  have hck := checkS_of (l := l) (by omega)
  generalize checkS l = C at *
  have HCK := Lib.hid (hck)
  clear hck
  go_wp2
  go_loopw [10] (fun i wc => ∃ j : Nat, j ≤ l.length ∧ i = .int .i64 j ∧ Hid (∀ k p, k < j → l[k]? = some p → okP p = true) ∧ Hid (∀ k p q, k + 1 < j → l[k]? = some p → l[k + 1]? = some q → p.k < q.k) ∧ Sat W wc L) (fun i _ => l.length - (intOf i).toNat)
  case atStart => exact ⟨0, by omega, rfl, (fun k p h => by omega), (fun k p q h => by omega), H⟩
  case round =>
    obtain ⟨j, hj, rfl, hN, hM, H1⟩ := hrel
    by_cases hlt : j < l.length
    · obtain ⟨x, hx⟩ : ∃ x, l[j]? = some x := ⟨_, List.getElem?_eq_getElem (by omega)⟩
      obtain ⟨b, o, rfl, c0, c1, _⟩ := pr_cells (hr _ H1) j x hx
      have HB := Lib.hid (fun h : okP x = false => goodP_bad hx h)
      have HF := Lib.hid (fun k (p : Pr) (h0 : j = k + 1) (hp : l[k]? = some p) (h : ¬ p.k < x.k) => goodP_fall hp (h0 ▸ hx) h)
      have HX := Lib.hid (hx)
      obtain ⟨xk, xv⟩ := x
      dsimp only at c0 c1
      clear hx
      have H2 := H1.alloc #[.string ⟨xk.toArray⟩, .string ⟨xv.toArray⟩] 64
      generalize hw0 : wr.alloc (.cells #[.string ⟨xk.toArray⟩, .string ⟨xv.toArray⟩] 64) = w0 at H2
      have d0 : w0.cell? ⟨wr.heap.size, 0, none⟩ = some (.string ⟨xk.toArray⟩) := H2.cell 0
      have d1 : w0.cell? ⟨wr.heap.size, 1, none⟩ = some (.string ⟨xv.toArray⟩) := H2.cell 1
      have HNJ : ∀ m p, m < j + 1 → l[m]? = some p → okP ⟨xk, xv⟩ = true → okP p = true := fun m p hm hp h => by
        rcases Nat.lt_or_ge m j with h1 | h1
        · exact hN.out m p h1 hp
        · obtain rfl : m = j := by omega
          rw [HX.out] at hp; cases hp; exact h
      have HNJ := Lib.hid (HNJ)
      cases hkb : keyB xk with
      | false =>
        have hC : C = 2 := by rw [HCK.out, HB.out (by unfold okP; simp [hkb])]; rfl
        have QK := Lib.hid (fun n => cKey_is xk false hkb (w0.drewN n))
        clear hkb HB HF HCK
        go_wp2
        go_quiet ((go_at_call 52; with_reducible exact Calls.quiet_of_same (QK.out _)))
        go_wp2
        go_ret
        subst hC
        exact ⟨rfl, (H2.drewN _).tail⟩
      | true =>
        have QK := Lib.hid (fun n => cKey_is xk true hkb (w0.drewN n))
        by_cases hv : 64 < xv.length
        · have hC : C = 2 := by rw [HCK.out, HB.out (by unfold okP; simp; omega)]; rfl
          have hv2 : (64 : Int) < (xv.length : Int) := by omega
          clear hkb HB HF HCK
          go_wp2
          go_quiet ((go_at_call 52; with_reducible exact Calls.quiet_of_same (QK.out _)))
          go_wp2
          go_ret
          subst hC
          exact ⟨rfl, (H2.drewN _).tail⟩
        have hv2 : decide ((64 : Int) < (xv.length : Int)) = false := decide_eq_false (by omega)
        have hok : okP ⟨xk, xv⟩ = true := by unfold okP; rw [hkb]; simp; omega
        have HOK := Lib.hid (hok)
        clear hkb HB hv hok
        by_cases hj0 : j = 0
        · have hj1 : decide (0 < j) = false := decide_eq_false (by omega)
          have HJ0 := Lib.hid (hj0)
          clear HF hj0
          go_wp2
          go_quiet ((go_at_call 52; with_reducible exact Calls.quiet_of_same (QK.out _)))
          go_wp2
          exact ⟨⟨j + 1, by omega, by go_num, fun m p hm hp => HNJ.out m p hm hp HOK.out, fun m p q h => by have := HJ0.out; omega, (H2.drewN _).tail⟩, by simp [intOf]; omega⟩
        obtain ⟨k, hk0⟩ : ∃ k, Hid (j = k + 1) := ⟨j - 1, by show _ = _; omega⟩
        have hkl : k < l.length := by have := hk0.out; omega
        have hj1 : decide (0 < j) = true := decide_eq_true (by omega)
        have hs : IntKind.i64.wrap ((j : Int) - 1) = (k : Int) := by have := hk0.out; rw [IntWalk.i64_in _ (by omega)]; omega
        obtain ⟨y, hy⟩ : ∃ x, l[k]? = some x := ⟨_, List.getElem?_eq_getElem (by omega)⟩
        obtain ⟨b', o', hbo, f0, f1, _⟩ := pr_cells (hr _ ((H2).tail)) k y hy
        cases hbo
        have HF2 := Lib.hid (fun h => HF.out k y hk0.out hy h)
        have HY := Lib.hid (hy)
        obtain ⟨yk, yv⟩ := y
        dsimp only at f0 f1
        clear HF hj0 hy
        by_cases hq : yk < xk
        · have h1 : Op.bytesLess xk yk = false := less_no fun h => str_irrefl xk (str_trans h hq)
          have h2 : (xk == yk) = false := beq_no fun h => str_irrefl xk (by rw [← h] at hq; exact hq)
          have h3 : Op.bytesLess yk xk = true := less_yes hq
          have HQ := Lib.hid (hq)
          clear hq
          go_wp2
          go_quiet ((go_at_call 52; with_reducible exact Calls.quiet_of_same (QK.out _)))
          go_wp2
          refine ⟨⟨j + 1, by omega, by go_num, fun m p hm hp => HNJ.out m p hm hp HOK.out, fun m p q hm hp hq => ?_, (H2.drewN _).tail⟩, by simp [intOf]; omega⟩
          have hk1 := hk0.out
          rcases Nat.lt_or_ge (m + 1) j with h | h
          · exact hM.out m p q h hp hq
          · obtain rfl : m = k := by omega
            rw [HY.out] at hp; cases hp
            rw [← hk1, HX.out] at hq; cases hq
            exact HQ.out
        · have hC : C = 2 := by rw [HCK.out, HF2.out hq]; rfl
          have h3 : Op.bytesLess yk xk = false := less_no hq
          have hh : (Op.bytesLess xk yk = true ∧ (xk == yk) = false) ∨ (Op.bytesLess xk yk = false ∧ (xk == yk) = true) := by
            rcases str_total xk yk with h | h | h
            · exact .inl ⟨less_yes h, beq_no fun e => str_irrefl yk (by rw [e] at h; exact h)⟩
            · exact .inr ⟨less_no fun h' => str_irrefl yk (by rw [h] at h'; exact h'), beq_yes h⟩
            · exact absurd h hq
          clear hq HF2 HCK
          rcases hh with ⟨h1, h2⟩ | ⟨h1, h2⟩
          all_goals
            go_wp2
            go_quiet ((go_at_call 52; with_reducible exact Calls.quiet_of_same (QK.out _)))
            go_wp2
            go_ret
            subst hC
            exact ⟨rfl, (H2.drewN _).tail⟩
    · obtain rfl : j = l.length := by omega
      have hg := goodP_all hN.out hM.out
      have e0 : C = 0 := by rw [HCK.out, hg]; rfl
      clear HCK
      subst e0
      go_wp2
      go_ret
      exact ⟨rfl, H1⟩
set_option maxRecDepth 100000 in
set_option maxHeartbeats 4000000 in
theorem qChk_any {W w : World} {L : List SL} (A : Option Addr) (c : Nat) (l : List Pr) (hl : l.length ≤ maxLen) (hr : RdL W L A (prC l)) (H : Sat W w L) :
    Calls Try.prog 51 #[.slice A l.length c] w fun e w' => e = .returned (.int .i64 (checkS l)) ∧ Sat W w' L := by
  have hl' := hl
  unfold maxLen at hl'
  go_enter Try.func51, Try.ntmps51
  by_cases hlong : 65536 < l.length
  · have e1 : checkS l = 3 := by unfold checkS; rw [if_pos hlong]
    have h1 : (65536 : Int) < (l.length : Int) := by omega
    rw [e1]
    clear e1 hlong
    go_wp2
    go_ret
    exact ⟨rfl, H⟩
  have h1 : ¬ (65536 : Int) < (l.length : Int) := by omega
  have hck := checkS_of (l := l) (by omega)
  generalize checkS l = C at *
  have HCK := Lib.hid (hck)
  clear hck
  go_wp2
  go_loopw [3] (fun i wc => ∃ j : Nat, j ≤ l.length ∧ i = .int .i64 j ∧ Hid (∀ k p, k < j → l[k]? = some p → okP p = true) ∧ Hid (∀ k p q, k + 1 < j → l[k]? = some p → l[k + 1]? = some q → p.k < q.k) ∧ Sat W wc L) (fun i _ => l.length - (intOf i).toNat)
  case atStart => exact ⟨0, by omega, rfl, (fun k p h => by omega), (fun k p q h => by omega), H⟩
  case round =>
    obtain ⟨j, hj, rfl, hN, hM, H1⟩ := hrel
    by_cases hlt : j < l.length
    · obtain ⟨x, hx⟩ : ∃ x, l[j]? = some x := ⟨_, List.getElem?_eq_getElem (by omega)⟩
      obtain ⟨b, o, rfl, c0, c1, _⟩ := pr_cells (hr _ H1) j x hx
      have HB := Lib.hid (fun h : okP x = false => goodP_bad hx h)
      have HF := Lib.hid (fun k (p : Pr) (h0 : j = k + 1) (hp : l[k]? = some p) (h : ¬ p.k < x.k) => goodP_fall hp (h0 ▸ hx) h)
      have HX := Lib.hid (hx)
      obtain ⟨xk, xv⟩ := x
      dsimp only at c0 c1
      clear hx
      have HNJ : ∀ m p, m < j + 1 → l[m]? = some p → okP ⟨xk, xv⟩ = true → okP p = true := fun m p hm hp h => by
        rcases Nat.lt_or_ge m j with h1 | h1
        · exact hN.out m p h1 hp
        · obtain rfl : m = j := by omega
          rw [HX.out] at hp; cases hp; exact h
      have HNJ := Lib.hid (HNJ)
      cases hkb : keyB xk with
      | false =>
        have hC : C = 2 := by rw [HCK.out, HB.out (by unfold okP; simp [hkb])]; rfl
        have QK := Lib.hid (fun n => qKey_is xk false hkb (wr.drewN n))
        clear hkb HB HF HCK
        go_wp2
        go_quiet ((go_at_call 53; with_reducible exact Calls.quiet_of_same (QK.out _)))
        go_wp2
        go_ret
        subst hC
        exact ⟨rfl, (H1.drewN _)⟩
      | true =>
        have QK := Lib.hid (fun n => qKey_is xk true hkb (wr.drewN n))
        by_cases hv : 64 < xv.length
        · have hC : C = 2 := by rw [HCK.out, HB.out (by unfold okP; simp; omega)]; rfl
          have hv2 : (64 : Int) < (xv.length : Int) := by omega
          clear hkb HB HF HCK
          go_wp2
          go_quiet ((go_at_call 53; with_reducible exact Calls.quiet_of_same (QK.out _)))
          go_wp2
          go_ret
          subst hC
          exact ⟨rfl, (H1.drewN _)⟩
        have hv2 : decide ((64 : Int) < (xv.length : Int)) = false := decide_eq_false (by omega)
        have hok : okP ⟨xk, xv⟩ = true := by unfold okP; rw [hkb]; simp; omega
        have HOK := Lib.hid (hok)
        clear hkb HB hv hok
        by_cases hj0 : j = 0
        · have hj1 : decide (0 < j) = false := decide_eq_false (by omega)
          have HJ0 := Lib.hid (hj0)
          clear HF hj0
          go_wp2
          go_quiet ((go_at_call 53; with_reducible exact Calls.quiet_of_same (QK.out _)))
          go_wp2
          exact ⟨⟨j + 1, by omega, by go_num, fun m p hm hp => HNJ.out m p hm hp HOK.out, fun m p q h => by have := HJ0.out; omega, (H1.drewN _)⟩, by simp [intOf]; omega⟩
        obtain ⟨k, hk0⟩ : ∃ k, Hid (j = k + 1) := ⟨j - 1, by show _ = _; omega⟩
        have hkl : k < l.length := by have := hk0.out; omega
        have hj1 : decide (0 < j) = true := decide_eq_true (by omega)
        have hs : IntKind.i64.wrap ((j : Int) - 1) = (k : Int) := by have := hk0.out; rw [IntWalk.i64_in _ (by omega)]; omega
        obtain ⟨y, hy⟩ : ∃ x, l[k]? = some x := ⟨_, List.getElem?_eq_getElem (by omega)⟩
        obtain ⟨b', o', hbo, f0, f1, _⟩ := pr_cells (hr _ (H1)) k y hy
        cases hbo
        have HF2 := Lib.hid (fun h => HF.out k y hk0.out hy h)
        have HY := Lib.hid (hy)
        obtain ⟨yk, yv⟩ := y
        dsimp only at f0 f1
        clear HF hj0 hy
        by_cases hq : yk < xk
        · have h1 : Op.bytesLess xk yk = false := less_no fun h => str_irrefl xk (str_trans h hq)
          have h2 : (xk == yk) = false := beq_no fun h => str_irrefl xk (by rw [← h] at hq; exact hq)
          have h3 : Op.bytesLess yk xk = true := less_yes hq
          have HQ := Lib.hid (hq)
          clear hq
          go_wp2
          go_quiet ((go_at_call 53; with_reducible exact Calls.quiet_of_same (QK.out _)))
          go_wp2
          refine ⟨⟨j + 1, by omega, by go_num, fun m p hm hp => HNJ.out m p hm hp HOK.out, fun m p q hm hp hq => ?_, (H1.drewN _)⟩, by simp [intOf]; omega⟩
          have hk1 := hk0.out
          rcases Nat.lt_or_ge (m + 1) j with h | h
          · exact hM.out m p q h hp hq
          · obtain rfl : m = k := by omega
            rw [HY.out] at hp; cases hp
            rw [← hk1, HX.out] at hq; cases hq
            exact HQ.out
        · have hC : C = 2 := by rw [HCK.out, HF2.out hq]; rfl
          have h3 : Op.bytesLess yk xk = false := less_no hq
          have hh : (Op.bytesLess xk yk = true ∧ (xk == yk) = false) ∨ (Op.bytesLess xk yk = false ∧ (xk == yk) = true) := by
            rcases str_total xk yk with h | h | h
            · exact .inl ⟨less_yes h, beq_no fun e => str_irrefl yk (by rw [e] at h; exact h)⟩
            · exact .inr ⟨less_no fun h' => str_irrefl yk (by rw [h] at h'; exact h'), beq_yes h⟩
            · exact absurd h hq
          clear hq HF2 HCK
          rcases hh with ⟨h1, h2⟩ | ⟨h1, h2⟩
          all_goals
            go_wp2
            go_quiet ((go_at_call 53; with_reducible exact Calls.quiet_of_same (QK.out _)))
            go_wp2
            go_ret
            subst hC
            exact ⟨rfl, (H1.drewN _)⟩
    · obtain rfl : j = l.length := by omega
      have hg := goodP_all hN.out hM.out
      have e0 : C = 0 := by rw [HCK.out, hg]; rfl
      clear HCK
      subst e0
      go_wp2
      go_ret
      exact ⟨rfl, H1⟩
end Go.Proofs.Ytnpgjobaibnknaa
