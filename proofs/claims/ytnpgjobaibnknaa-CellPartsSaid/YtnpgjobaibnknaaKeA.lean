/- Lists of pairs: their cells; copied, held against each other, written over, too long. -/
import Derived.Test.YtnpgjobaibnknaaKdB
import Derived.Test.YtnpgjobaibnknaaKcB
import Derived.Test.YtnpgjobaibnknaaRtN
namespace Go.Proofs.Ytnpgjobaibnknaa
open Go.RowKit Go.Rt

def Pr.cs (x : Pr) : List Value := [.string ⟨x.k.toArray⟩, .string ⟨x.v.toArray⟩]
def prC (l : List Pr) : List Value := l.flatMap Pr.cs
abbrev zPr : List Value := [.string ⟨#[]⟩, .string ⟨#[]⟩]
theorem prC_len (l : List Pr) : (prC l).length = l.length * 2 := flat_len Pr.cs 2 l fun _ _ => rfl
theorem prC_append (l m : List Pr) : prC (l ++ m) = prC l ++ prC m := by simp [prC]
theorem prC_single (x : Pr) : prC [x] = x.cs := by simp [prC]
theorem prC_nil : prC [] = [] := rfl
theorem zPr_like : LikeZ zPr := by
  intro j u h
  match j, h with
  | 0, h | 1, h => simp at h; subst h; rfl
  | j + 2, h => simp at h
theorem pr_typed (x : Pr) : Typed zPr x.cs := by
  intro j u h
  match j, h with
  | 0, h | 1, h => simp [Pr.cs] at h; subst h; rfl
  | j + 2, h => simp [Pr.cs] at h
theorem pr_one (x : Pr) : ∀ u ∈ x.cs, u.oneCell' = true := by
  intro u hu
  simp only [Pr.cs, List.mem_cons, List.not_mem_nil, or_false] at hu
  rcases hu with rfl | rfl <;> rfl
theorem prC_one (l : List Pr) : ∀ u ∈ prC l, u.oneCell' = true := by
  intro u hu
  obtain ⟨x, _, h⟩ := List.mem_flatMap.1 hu
  exact pr_one x u h
theorem prC_typed (l : List Pr) : Typed zPr (prC l) := by
  induction l with
  | nil => exact Typed.nil _
  | cons x l ih => exact Typed.append (pr_typed x) ih (show 2 % 2 = 0 from rfl)
theorem infoPr : (Try.prog.info? 64).map (fun i => (i.zero, i.size, i.bytes)) = some (some (.agg #[.string ⟨#[]⟩, .string ⟨#[]⟩]), 2, 32) := by kernel_rfl
theorem pr_size : (Try.prog.info? 64).map (·.size) = some 2 := by kernel_rfl
theorem pr_cells {w : World} {A : Option Addr} {l : List Pr} (h : Rd w A (prC l)) (j : Nat) (x : Pr) (hj : l[j]? = some x) : ∃ b o, A = some ⟨b, o, none⟩ ∧ w.cell? ⟨b, o + j * 2, none⟩ = some (.string ⟨x.k.toArray⟩) ∧ w.cell? ⟨b, o + j * 2 + 1, none⟩ = some (.string ⟨x.v.toArray⟩) ∧ Rd w (some ⟨b, o + j * 2, none⟩) x.cs := by
  obtain ⟨b, o, hA, hr⟩ := rd_elem Pr.cs 2 (by omega) h (fun _ _ => rfl) j x hj
  exact ⟨b, o, hA, hr.at 0 rfl, hr.at 1 rfl, hr⟩

theorem pr_equal (x y : Pr) (w : World) : (Op.equalIn 10000 64 (.agg #[.string ⟨x.k.toArray⟩, .string ⟨x.v.toArray⟩]) (.agg #[.string ⟨y.k.toArray⟩, .string ⟨y.v.toArray⟩])).run Try.prog w = .ok (decide (x = y)) w := by
  obtain ⟨x0, x1⟩ := x
  obtain ⟨y0, y1⟩ := y
  dsimp only
  go_simp
  by_cases h0 : x0 = y0 <;> by_cases h1 : x1 = y1 <;> simp [h0, h1]

set_option maxRecDepth 100000 in
theorem CopyPairs_any {W w : World} {L : List SL} (A : Option Addr) (c : Nat) (l : List Pr) (hl : l.length ≤ 1000000000) (hr : Rd w A (prC l)) (H : Sat W w L) :
    Calls Try.prog 45 #[.slice A l.length c] w fun e w' => ∃ A' c', e = .returned (.slice A' l.length c') ∧ Sat W w' (row 64 zPr (.slice A' l.length c') l.length (prC l) :: L) := by
  obtain ⟨i0, hi, hz0, hz1, hz2⟩ := info_parts infoPr
  go_enter Try.func45, Try.ntmps45
  go_wp2_with (first
    | (at_builtin
       refine wpList_append_sl rfl (.tmp 3) (.tmp 4) 40 rfl 64 i0 _ zPr 32 Try.underlying40 hi hz0 rfl hz1 hz2 (by simp) zPr_like _ 0 [] rfl (H.made #[] 64 zPr 0 0 (by omega) (by unfold maxLen; omega) rfl (Typed.nil _)) A l.length c (prC l) rfl (prC_len l) (hr.below ((Below.refl _ _).alloc (Nat.le_refl _) _)) (prC_one l) (prC_typed l) (by unfold maxLen; omega) (by omega) ?_
       intro A2 c2 w2 H2))
  go_ret
  refine ⟨A2, c2, by simp, ?_⟩
  simpa using H2

set_option maxRecDepth 100000 in
theorem OverPairs_any {W w : World} {L : List SL} (A : Option Addr) (n c : Nat) (xs : List Value) (H : Sat W w (row 64 zPr (.slice A n c) n xs :: L)) :
    Calls Try.prog 50 #[.slice A n c] w fun e w' => e = .returned (.tuple #[]) ∧ Sat W w' L := by
  obtain ⟨_, A0, c0, hv, hnc, hcm, hA0, _⟩ := H.slice
  cases hv
  unfold maxLen at hcm
  have HL := Lib.hid (show (Try.prog.info? 64).map (·.size) = some zPr.length from pr_size)
  go_enter Try.func50, Try.ntmps50
  go_wp2
  go_loopw [2] (fun i wc => ∃ (j : Nat) (ys : List Value), j ≤ n ∧ i = .int .i64 j ∧ Sat W wc (row 64 zPr (.slice A n c) n ys :: L)) (fun i _ => n - (intOf i).toNat)
  case atStart => exact ⟨0, _, by omega, rfl, H⟩
  case round =>
    obtain ⟨j, ys, hj, rfl, H'⟩ := hrel
    by_cases hlt : j < n
    · cases A with
      | none => have := (hA0 rfl).1; omega
      | some ad =>
        obtain ⟨_, A1, c1, hv, _, _, _, hA1⟩ := H'.slice
        cases hv
        obtain ⟨h0, hsp, _, _⟩ := hA1 ad rfl
        obtain ⟨g, off, sp⟩ := ad
        dsimp only at h0 hsp
        subst h0 hsp
        clear hA0 hA1
        go_wp2_with (first
          | (refine wpList_store_el rfl rfl (.tmp 12) (.tmp 11) 64 rfl j hlt (Pr.cs ⟨[63], [63]⟩) HL.out rfl (by simp [Act.eval]) rfl (pr_one _) (pr_typed _) H' ?_
             intro w2 zs H2))
        exact ⟨⟨j + 1, _, by omega, by go_num, H2⟩, by simp [intOf]; omega⟩
    · go_wp2
      go_end0
      exact ⟨rfl, H'.tail⟩

theorem pr_ext {l m : List Pr} (hl : l.length = m.length) (h : ∀ k, k < l.length → l[k]? = m[k]?) : l = m := by
  refine List.ext_getElem hl fun k h1 h2 => ?_
  have := h k h1
  simpa [h1, h2] using this

set_option maxRecDepth 100000 in
set_option maxHeartbeats 4000000 in
theorem SamePairs_any {w : World} (A A' : Option Addr) (c c' : Nat) (l m : List Pr) (hl : l.length ≤ maxLen) (hr : Rd w A (prC l)) (hr' : Rd w A' (prC m)) :
    Calls Try.prog 48 #[.slice A l.length c, .slice A' m.length c'] w fun e w' => e = .returned (.bool (decide (l = m))) ∧ Below w.heap.size w w' := by
  have hl' := hl
  unfold maxLen at hl'
  by_cases hlm : l.length = m.length
  · go_enter Try.func48, Try.ntmps48
    go_wp2
    go_loopw [5] (fun i wc => ∃ j : Nat, j ≤ l.length ∧ i = .int .i64 j ∧ Hid (∀ k, k < j → l[k]? = m[k]?) ∧ Below w.heap.size w wc) (fun i _ => l.length - (intOf i).toNat)
    case atStart => exact ⟨0, by omega, rfl, (fun k hk => by omega), Below.refl _ _⟩
    case round =>
      obtain ⟨j, hj, rfl, hN, hB⟩ := hrel
      by_cases hlt : j < l.length
      · obtain ⟨x, hx⟩ : ∃ x, l[j]? = some x := ⟨_, List.getElem?_eq_getElem hlt⟩
        obtain ⟨y, hy⟩ : ∃ y, m[j]? = some y := ⟨_, List.getElem?_eq_getElem (by omega)⟩
        obtain ⟨b, o, rfl, c0, c1, _⟩ := pr_cells (hr.below hB) j x hx
        obtain ⟨b', o', rfl, d0, d1, _⟩ := pr_cells (hr'.below hB) j y hy
        have hE := pr_equal x y
        clear hr hr'
        by_cases hq : x = y
        · have hxy : l[j]? = m[j]? := by rw [hx, hy, hq]
          rw [decide_eq_true hq] at hE
          clear hq hx hy
          go_wp2
          go_quiet (fail)
          go_wp2
          exact ⟨⟨j + 1, by omega, by go_num, fun k hk => by
            rcases Nat.lt_or_ge k j with h | h
            · exact hN.out k h
            · obtain rfl : k = j := by omega
              exact hxy, below_drew' hB _⟩, by simp [intOf]; omega⟩
        · have hf : decide (l = m) = false := decide_eq_false fun e => hq (by rw [e, hy] at hx; exact (Option.some.inj hx).symm)
          rw [decide_eq_false hq] at hE
          clear hq hx hy
          go_wp2
          go_quiet (fail)
          go_wp2
          go_ret
          exact ⟨by first | rfl | (rw [hf]; rfl), below_drew' hB _⟩
      · obtain rfl : j = l.length := by omega
        have hf : decide (l = m) = true := decide_eq_true (pr_ext hlm hN.out)
        go_wp2
        go_ret
        exact ⟨by first | rfl | (rw [hf]; rfl), hB⟩
  · have e1 : decide (l = m) = false := decide_eq_false fun e => hlm (by rw [e])
    rw [e1]
    go_enter Try.func48, Try.ntmps48
    go_wp2
    go_ret
    exact ⟨rfl, Below.refl _ _⟩

def bigPr (s : Pr) : Bool := decide (100 < s.k.length) || decide (100 < s.v.length)
def longPr (l : List Pr) (n : Nat) : Bool := decide (n < l.length) || (l.take (n + 1)).any bigPr
theorem longPr_no {l : List Pr} {n : Nat} (h : longPr l n = false) : l.length ≤ n ∧ ∀ x ∈ l, x.k.length ≤ 100 ∧ x.v.length ≤ 100 := by
  unfold longPr at h
  rw [Bool.or_eq_false_iff, decide_eq_false_iff_not] at h
  refine ⟨by omega, fun x hx => ?_⟩
  have h2 := h.2
  rw [List.any_eq_false, List.take_of_length_le (by omega)] at h2
  have h3 := h2 x hx
  unfold bigPr at h3
  rw [Bool.or_eq_true, decide_eq_true_iff, decide_eq_true_iff, not_or] at h3
  omega

set_option maxRecDepth 100000 in
set_option maxHeartbeats 1000000 in
theorem LongPairs_any {w : World} (A : Option Addr) (c : Nat) (l : List Pr) (n : Nat) (hn : n ≤ 1000000) (hl : l.length ≤ maxLen) (hr : Rd w A (prC l)) :
    Calls Try.prog 40 #[.slice A l.length c, .int .i64 n] w fun e w' => e = .returned (.bool (longPr l n)) ∧ w = w' := by
  have hl' := hl
  unfold maxLen at hl'
  go_enter Try.func40, Try.ntmps40
  go_wp2
  go_loop [5] (fun i => ∃ j : Nat, j ≤ l.length ∧ j ≤ n + 1 ∧ i = .int .i64 j ∧ Hid (∀ k x, k < j → l[k]? = some x → bigPr x = false)) (fun i => n + 1 - (intOf i).toNat)
  case atStart => exact ⟨0, by omega, by omega, rfl, fun k x hk => by omega⟩
  case round =>
    obtain ⟨j, hj, hjn, rfl, hN⟩ := hrel
    by_cases hlt : j < l.length
    · by_cases hj2 : j ≤ n
      · obtain ⟨x, hx⟩ : ∃ x, l[j]? = some x := ⟨_, List.getElem?_eq_getElem hlt⟩
        obtain ⟨b, o, rfl, c0, c1, _⟩ := pr_cells hr j x hx
        have hf : bigPr x = true → longPr l n = true := fun hq => by
          unfold longPr
          rw [Bool.or_eq_true, List.any_eq_true]
          right
          exact ⟨x, List.mem_of_getElem? (by rw [List.getElem?_take, if_pos (show j < n + 1 by omega)]; exact hx), hq⟩
        have HF := Lib.hid hf
        have HX := Lib.hid hx
        obtain ⟨lo, hi⟩ := x
        dsimp only at c0 c1
        clear hx hf
        by_cases hq : 100 < lo.length
        · have HG := Lib.hid (HF.out (by unfold bigPr; simp [hq]))
          have hq2 : (100 : Int) < (lo.length : Int) := by omega
          go_wp2
          go_ret
          exact ⟨by rw [HG.out]; rfl, rfl⟩
        · have hq2 : ¬ (100 : Int) < (lo.length : Int) := by omega
          by_cases hp : 100 < hi.length
          · have HG := Lib.hid (HF.out (by unfold bigPr; simp [hp]))
            have hp2 : (100 : Int) < (hi.length : Int) := by omega
            go_wp2
            go_ret
            exact ⟨by rw [HG.out]; rfl, rfl⟩
          · have hp2 : ¬ (100 : Int) < (hi.length : Int) := by omega
            have HG := Lib.hid (show bigPr ⟨lo, hi⟩ = false by unfold bigPr; simp [hq, hp])
            clear hq hp
            go_wp2
            refine ⟨⟨j + 1, by omega, by omega, by go_num, fun k y hk hy => ?_⟩, by simp [intOf]; omega⟩
            rcases Nat.lt_or_ge k j with h | h
            · exact hN.out k y h hy
            · obtain rfl : k = j := by omega
              rw [HX.out] at hy; cases hy; exact HG.out
      · have hf : longPr l n = true := by unfold longPr; rw [Bool.or_eq_true]; left; simp; omega
        have HF := Lib.hid hf
        clear hf
        have hq3 : (n : Int) < (l.length : Int) := by omega
        go_wp2
        go_ret
        exact ⟨by rw [HF.out]; rfl, rfl⟩
    · obtain rfl : j = l.length := by omega
      have hf : longPr l n = decide (n < l.length) := by
        unfold longPr
        have : (l.take (n + 1)).any bigPr = false := by
          rw [List.any_eq_false]
          intro x hx
          obtain ⟨k, hk⟩ := List.getElem?_of_mem (List.mem_of_mem_take hx)
          have := hN.out k x (List.getElem?_eq_some_iff.1 hk).1 hk
          simp [this]
        rw [this, Bool.or_false]
      have HF := Lib.hid hf
      clear hf
      by_cases h9 : n < l.length
      · go_wp2
        go_ret
        exact ⟨by rw [HF.out]; simp [h9], rfl⟩
      · go_wp2
        go_ret
        exact ⟨by rw [HF.out]; simp [h9], rfl⟩

end Go.Proofs.Ytnpgjobaibnknaa
