/- A pack of texts: KeA, KeB, KeD, KeE, KeF -/
import Derived.Test.YtodbmeklbamcfaaGreatPkKnownL
import Derived.Test.YtodbmeklbamcfaaGreatPkKnownB
import Derived.Test.YtodbmeklbamcfaaGreatPkKnownI
/- Lists of pairs: their cells; copied, held against each other, written over, too long. -/
namespace Go.Proofs.YtodbmeklbamcfaaGreat
open Go.RowKit Go.Rt

def Pr.cs (x : Pr) : List Value := [.string ⟨x.k.toArray⟩, .string ⟨x.v.toArray⟩]
def prC (l : List Pr) : List Value := l.flatMap Pr.cs
abbrev zPr : List Value := [.string ⟨#[]⟩, .string ⟨#[]⟩]
theorem prC_len (l : List Pr) : (prC l).length = l.length * 2 := flat_len Pr.cs 2 l fun _ _ => rfl
theorem prC_append (l m : List Pr) : prC (l ++ m) = prC l ++ prC m := by simp [prC]
theorem prC_single (x : Pr) : prC [x] = x.cs := by simp [prC]
theorem prC_nil : prC [] = [] := rfl
theorem zPr_like : LikeZ zPr := by
  intro j u h
  match j, h with
  | 0, h | 1, h => simp at h; subst h; rfl
  | j + 2, h => simp at h
theorem pr_typed (x : Pr) : Typed zPr x.cs := by
  intro j u h
  match j, h with
  | 0, h | 1, h => simp [Pr.cs] at h; subst h; rfl
  | j + 2, h => simp [Pr.cs] at h
theorem pr_one (x : Pr) : ∀ u ∈ x.cs, u.oneCell' = true := by
  intro u hu
  simp only [Pr.cs, List.mem_cons, List.not_mem_nil, or_false] at hu
  rcases hu with rfl | rfl <;> rfl
theorem prC_one (l : List Pr) : ∀ u ∈ prC l, u.oneCell' = true := by
  intro u hu
  obtain ⟨x, _, h⟩ := List.mem_flatMap.1 hu
  exact pr_one x u h
theorem prC_typed (l : List Pr) : Typed zPr (prC l) := by
  induction l with
  | nil => exact Typed.nil _
  | cons x l ih => exact Typed.append (pr_typed x) ih (show 2 % 2 = 0 from rfl)
theorem infoPr : (Tryz.prog.info? 125).map (fun i => (i.zero, i.size, i.bytes)) = some (some (.agg #[.string ⟨#[]⟩, .string ⟨#[]⟩]), 2, 32) := by kernel_rfl
theorem pr_size : (Tryz.prog.info? 125).map (·.size) = some 2 := by kernel_rfl
theorem pr_cells {w : World} {A : Option Addr} {l : List Pr} (h : Rd w A (prC l)) (j : Nat) (x : Pr) (hj : l[j]? = some x) : ∃ b o, A = some ⟨b, o, none⟩ ∧ w.cell? ⟨b, o + j * 2, none⟩ = some (.string ⟨x.k.toArray⟩) ∧ w.cell? ⟨b, o + j * 2 + 1, none⟩ = some (.string ⟨x.v.toArray⟩) ∧ Rd w (some ⟨b, o + j * 2, none⟩) x.cs := by
  obtain ⟨b, o, hA, hr⟩ := rd_elem Pr.cs 2 (by omega) h (fun _ _ => rfl) j x hj
  exact ⟨b, o, hA, hr.at 0 rfl, hr.at 1 rfl, hr⟩

theorem pr_equal (x y : Pr) (w : World) : (Op.equalIn 10000 125 (.agg #[.string ⟨x.k.toArray⟩, .string ⟨x.v.toArray⟩]) (.agg #[.string ⟨y.k.toArray⟩, .string ⟨y.v.toArray⟩])).run Tryz.prog w = .ok (decide (x = y)) w := by
  obtain ⟨x0, x1⟩ := x
  obtain ⟨y0, y1⟩ := y
  dsimp only
  go_simp
  by_cases h0 : x0 = y0 <;> by_cases h1 : x1 = y1 <;> simp [h0, h1]

set_option maxRecDepth 100000 in
theorem CopyPairs_any {W w : World} {L : List SL} (A : Option Addr) (c : Nat) (l : List Pr) (hl : l.length ≤ 1000000000) (hr : Rd w A (prC l)) (H : Sat W w L) :
    Calls Tryz.prog 40 #[.slice A l.length c] w fun e w' => ∃ A' c', e = .returned (.slice A' l.length c') ∧ Sat W w' (row 125 zPr (.slice A' l.length c') l.length (prC l) :: L) := by
  obtain ⟨i0, hi, hz0, hz1, hz2⟩ := info_parts infoPr
  go_enter Tryz.func40, Tryz.ntmps40
  go_wp2_with (first
    | (at_builtin
       refine wpList_append_sl rfl (.tmp 3) (.tmp 4) 54 rfl 125 i0 _ zPr 32 Tryz.underlying54 hi hz0 rfl hz1 hz2 (by simp) zPr_like _ 0 [] rfl (H.made #[] 125 zPr 0 0 (by omega) (by unfold maxLen; omega) rfl (Typed.nil _)) A l.length c (prC l) rfl (prC_len l) (hr.below ((Below.refl _ _).alloc (Nat.le_refl _) _)) (prC_one l) (prC_typed l) (by unfold maxLen; omega) (by omega) ?_
       intro A2 c2 w2 H2))
  go_ret
  refine ⟨A2, c2, by simp, ?_⟩
  simpa using H2

theorem pr_ext {l m : List Pr} (hl : l.length = m.length) (h : ∀ k, k < l.length → l[k]? = m[k]?) : l = m := by
  refine List.ext_getElem hl fun k h1 h2 => ?_
  have := h k h1
  simpa [h1, h2] using this

set_option maxRecDepth 100000 in
set_option maxHeartbeats 4000000 in
theorem SamePairs_any {w : World} (A A' : Option Addr) (c c' : Nat) (l m : List Pr) (hl : l.length ≤ maxLen) (hr : Rd w A (prC l)) (hr' : Rd w A' (prC m)) :
    Calls Tryz.prog 44 #[.slice A l.length c, .slice A' m.length c'] w fun e w' => e = .returned (.bool (decide (l = m))) ∧ Below w.heap.size w w' := by
  have hl' := hl
  unfold maxLen at hl'
  by_cases hlm : l.length = m.length
  · go_enter Tryz.func44, Tryz.ntmps44
    go_wp2
    go_loopw [5] (fun i wc => ∃ j : Nat, j ≤ l.length ∧ i = .int .i64 j ∧ Hid (∀ k, k < j → l[k]? = m[k]?) ∧ Below w.heap.size w wc) (fun i _ => l.length - (intOf i).toNat)
    case atStart => exact ⟨0, by omega, rfl, (fun k hk => by omega), Below.refl _ _⟩
    case round =>
      obtain ⟨j, hj, rfl, hN, hB⟩ := hrel
      by_cases hlt : j < l.length
      · obtain ⟨x, hx⟩ : ∃ x, l[j]? = some x := ⟨_, List.getElem?_eq_getElem hlt⟩
        obtain ⟨y, hy⟩ : ∃ y, m[j]? = some y := ⟨_, List.getElem?_eq_getElem (by omega)⟩
        obtain ⟨b, o, rfl, c0, c1, _⟩ := pr_cells (hr.below hB) j x hx
        obtain ⟨b', o', rfl, d0, d1, _⟩ := pr_cells (hr'.below hB) j y hy
        have hE := pr_equal x y
        clear hr hr'
        by_cases hq : x = y
        · have hxy : l[j]? = m[j]? := by rw [hx, hy, hq]
          rw [decide_eq_true hq] at hE
          clear hq hx hy
          go_wp2
          go_quiet (fail)
          go_wp2
          exact ⟨⟨j + 1, by omega, by go_num, fun k hk => by
            rcases Nat.lt_or_ge k j with h | h
            · exact hN.out k h
            · obtain rfl : k = j := by omega
              exact hxy, below_drew' hB _⟩, by simp [intOf]; omega⟩
        · have hf : decide (l = m) = false := decide_eq_false fun e => hq (by rw [e, hy] at hx; exact (Option.some.inj hx).symm)
          rw [decide_eq_false hq] at hE
          clear hq hx hy
          go_wp2
          go_quiet (fail)
          go_wp2
          go_ret
          exact ⟨by first | rfl | (rw [hf]; rfl), below_drew' hB _⟩
      · obtain rfl : j = l.length := by omega
        have hf : decide (l = m) = true := decide_eq_true (pr_ext hlm hN.out)
        go_wp2
        go_ret
        exact ⟨by first | rfl | (rw [hf]; rfl), hB⟩
  · have e1 : decide (l = m) = false := decide_eq_false fun e => hlm (by rw [e])
    rw [e1]
    go_enter Tryz.func44, Tryz.ntmps44
    go_wp2
    go_ret
    exact ⟨rfl, Below.refl _ _⟩

def bigPr (s : Pr) : Bool := decide (100 < s.k.length) || decide (100 < s.v.length)
def longPr (l : List Pr) (n : Nat) : Bool := decide (n < l.length) || (l.take (n + 1)).any bigPr
theorem longPr_no {l : List Pr} {n : Nat} (h : longPr l n = false) : l.length ≤ n ∧ ∀ x ∈ l, x.k.length ≤ 100 ∧ x.v.length ≤ 100 := by
  unfold longPr at h
  rw [Bool.or_eq_false_iff, decide_eq_false_iff_not] at h
  refine ⟨by omega, fun x hx => ?_⟩
  have h2 := h.2
  rw [List.any_eq_false, List.take_of_length_le (by omega)] at h2
  have h3 := h2 x hx
  unfold bigPr at h3
  rw [Bool.or_eq_true, decide_eq_true_iff, decide_eq_true_iff, not_or] at h3
  omega

set_option maxRecDepth 100000 in
set_option maxHeartbeats 1000000 in
theorem LongPairs_any {w : World} (A : Option Addr) (c : Nat) (l : List Pr) (n : Nat) (hn : n ≤ 1000000) (hl : l.length ≤ maxLen) (hr : Rd w A (prC l)) :
    Calls Tryz.prog 38 #[.slice A l.length c, .int .i64 n] w fun e w' => e = .returned (.bool (longPr l n)) ∧ w = w' := by
  have hl' := hl
  unfold maxLen at hl'
  go_enter Tryz.func38, Tryz.ntmps38
  go_wp2
  go_loop [5] (fun i => ∃ j : Nat, j ≤ l.length ∧ j ≤ n + 1 ∧ i = .int .i64 j ∧ Hid (∀ k x, k < j → l[k]? = some x → bigPr x = false)) (fun i => n + 1 - (intOf i).toNat)
  case atStart => exact ⟨0, by omega, by omega, rfl, fun k x hk => by omega⟩
  case round =>
    obtain ⟨j, hj, hjn, rfl, hN⟩ := hrel
    by_cases hlt : j < l.length
    · by_cases hj2 : j ≤ n
      · obtain ⟨x, hx⟩ : ∃ x, l[j]? = some x := ⟨_, List.getElem?_eq_getElem hlt⟩
        obtain ⟨b, o, rfl, c0, c1, _⟩ := pr_cells hr j x hx
        have hf : bigPr x = true → longPr l n = true := fun hq => by
          unfold longPr
          rw [Bool.or_eq_true, List.any_eq_true]
          right
          exact ⟨x, List.mem_of_getElem? (by rw [List.getElem?_take, if_pos (show j < n + 1 by omega)]; exact hx), hq⟩
        have HF := Lib.hid hf
        have HX := Lib.hid hx
        obtain ⟨lo, hi⟩ := x
        dsimp only at c0 c1
        clear hx hf
        by_cases hq : 100 < lo.length
        · have HG := Lib.hid (HF.out (by unfold bigPr; simp [hq]))
          have hq2 : (100 : Int) < (lo.length : Int) := by omega
          go_wp2
          go_ret
          exact ⟨by rw [HG.out]; rfl, rfl⟩
        · have hq2 : ¬ (100 : Int) < (lo.length : Int) := by omega
          by_cases hp : 100 < hi.length
          · have HG := Lib.hid (HF.out (by unfold bigPr; simp [hp]))
            have hp2 : (100 : Int) < (hi.length : Int) := by omega
            go_wp2
            go_ret
            exact ⟨by rw [HG.out]; rfl, rfl⟩
          · have hp2 : ¬ (100 : Int) < (hi.length : Int) := by omega
            have HG := Lib.hid (show bigPr ⟨lo, hi⟩ = false by unfold bigPr; simp [hq, hp])
            clear hq hp
            go_wp2
            refine ⟨⟨j + 1, by omega, by omega, by go_num, fun k y hk hy => ?_⟩, by simp [intOf]; omega⟩
            rcases Nat.lt_or_ge k j with h | h
            · exact hN.out k y h hy
            · obtain rfl : k = j := by omega
              rw [HX.out] at hy; cases hy; exact HG.out
      · have hf : longPr l n = true := by unfold longPr; rw [Bool.or_eq_true]; left; simp; omega
        have HF := Lib.hid hf
        clear hf
        have hq3 : (n : Int) < (l.length : Int) := by omega
        go_wp2
        go_ret
        exact ⟨by rw [HF.out]; rfl, rfl⟩
    · obtain rfl : j = l.length := by omega
      have hf : longPr l n = decide (n < l.length) := by
        unfold longPr
        have : (l.take (n + 1)).any bigPr = false := by
          rw [List.any_eq_false]
          intro x hx
          obtain ⟨k, hk⟩ := List.getElem?_of_mem (List.mem_of_mem_take hx)
          have := hN.out k x (List.getElem?_eq_some_iff.1 hk).1 hk
          simp [this]
        rw [this, Bool.or_false]
      have HF := Lib.hid hf
      clear hf
      by_cases h9 : n < l.length
      · go_wp2
        go_ret
        exact ⟨by rw [HF.out]; simp [h9], rfl⟩
      · go_wp2
        go_ret
        exact ⟨by rw [HF.out]; simp [h9], rfl⟩

end Go.Proofs.YtodbmeklbamcfaaGreat

/- Lists of writes: their cells; held against each other, written over, too long. -/
namespace Go.Proofs.YtodbmeklbamcfaaGreat
open Go.RowKit Go.Rt

def Wt.cs (x : Wt) : List Value := [.string ⟨x.k.toArray⟩, .string ⟨x.v.toArray⟩, .bool x.d]
def wtC (l : List Wt) : List Value := l.flatMap Wt.cs
abbrev zWt : List Value := [.string ⟨#[]⟩, .string ⟨#[]⟩, .bool false]
theorem wtC_len (l : List Wt) : (wtC l).length = l.length * 3 := flat_len Wt.cs 3 l fun _ _ => rfl
theorem wtC_append (l m : List Wt) : wtC (l ++ m) = wtC l ++ wtC m := by simp [wtC]
theorem wtC_single (x : Wt) : wtC [x] = x.cs := by simp [wtC]
theorem wtC_nil : wtC [] = [] := rfl
theorem zWt_like : LikeZ zWt := by
  intro j u h
  match j, h with
  | 0, h | 1, h | 2, h => simp at h; subst h; rfl
  | j + 3, h => simp at h
theorem wt_typed (x : Wt) : Typed zWt x.cs := by
  intro j u h
  match j, h with
  | 0, h | 1, h | 2, h => simp [Wt.cs] at h; subst h; rfl
  | j + 3, h => simp [Wt.cs] at h
theorem wt_one (x : Wt) : ∀ u ∈ x.cs, u.oneCell' = true := by
  intro u hu
  simp only [Wt.cs, List.mem_cons, List.not_mem_nil, or_false] at hu
  rcases hu with rfl | rfl | rfl <;> rfl
theorem wtC_one (l : List Wt) : ∀ u ∈ wtC l, u.oneCell' = true := by
  intro u hu
  obtain ⟨x, _, h⟩ := List.mem_flatMap.1 hu
  exact wt_one x u h
theorem wtC_typed (l : List Wt) : Typed zWt (wtC l) := by
  induction l with
  | nil => exact Typed.nil _
  | cons x l ih => exact Typed.append (wt_typed x) ih (show 3 % 3 = 0 from rfl)
theorem infoWt : (Tryz.prog.info? 65).map (fun i => (i.zero, i.size, i.bytes)) = some (some (.agg #[.string ⟨#[]⟩, .string ⟨#[]⟩, .bool false]), 3, 40) := by kernel_rfl
theorem wt_size : (Tryz.prog.info? 65).map (·.size) = some 3 := by kernel_rfl
theorem wt_cells {w : World} {A : Option Addr} {l : List Wt} (h : Rd w A (wtC l)) (j : Nat) (x : Wt) (hj : l[j]? = some x) : ∃ b o, A = some ⟨b, o, none⟩ ∧ w.cell? ⟨b, o + j * 3, none⟩ = some (.string ⟨x.k.toArray⟩) ∧ w.cell? ⟨b, o + j * 3 + 1, none⟩ = some (.string ⟨x.v.toArray⟩) ∧ w.cell? ⟨b, o + j * 3 + 2, none⟩ = some (.bool x.d) ∧ Rd w (some ⟨b, o + j * 3, none⟩) x.cs := by
  obtain ⟨b, o, hA, hr⟩ := rd_elem Wt.cs 3 (by omega) h (fun _ _ => rfl) j x hj
  exact ⟨b, o, hA, hr.at 0 rfl, hr.at 1 rfl, hr.at 2 rfl, hr⟩

theorem wt_equal (x y : Wt) (w : World) : (Op.equalIn 10000 65 (.agg #[.string ⟨x.k.toArray⟩, .string ⟨x.v.toArray⟩, .bool x.d]) (.agg #[.string ⟨y.k.toArray⟩, .string ⟨y.v.toArray⟩, .bool y.d])).run Tryz.prog w = .ok (decide (x = y)) w := by
  obtain ⟨x0, x1, x2⟩ := x
  obtain ⟨y0, y1, y2⟩ := y
  dsimp only
  go_simp
  by_cases h0 : x0 = y0 <;> by_cases h1 : x1 = y1 <;> by_cases h2 : x2 = y2 <;> simp [h0, h1, h2]

set_option maxRecDepth 100000 in
theorem OverWrites_any {W w : World} {L : List SL} (A : Option Addr) (n c : Nat) (xs : List Value) (H : Sat W w (row 65 zWt (.slice A n c) n xs :: L)) :
    Calls Tryz.prog 98 #[.slice A n c] w fun e w' => e = .returned (.tuple #[]) ∧ Sat W w' L := by
  obtain ⟨_, A0, c0, hv, hnc, hcm, hA0, _⟩ := H.slice
  cases hv
  unfold maxLen at hcm
  have HL := Lib.hid (show (Tryz.prog.info? 65).map (·.size) = some zWt.length from wt_size)
  go_enter Tryz.func98, Tryz.ntmps98
  go_wp2
  go_loopw [2] (fun i wc => ∃ (j : Nat) (ys : List Value), j ≤ n ∧ i = .int .i64 j ∧ Sat W wc (row 65 zWt (.slice A n c) n ys :: L)) (fun i _ => n - (intOf i).toNat)
  case atStart => exact ⟨0, _, by omega, rfl, H⟩
  case round =>
    obtain ⟨j, ys, hj, rfl, H'⟩ := hrel
    by_cases hlt : j < n
    · cases A with
      | none => have := (hA0 rfl).1; omega
      | some ad =>
        obtain ⟨_, A1, c1, hv, _, _, _, hA1⟩ := H'.slice
        cases hv
        obtain ⟨h0, hsp, _, _⟩ := hA1 ad rfl
        obtain ⟨g, off, sp⟩ := ad
        dsimp only at h0 hsp
        subst h0 hsp
        clear hA0 hA1
        go_wp2_with (first
          | (refine wpList_store_el rfl rfl (.tmp 12) (.tmp 11) 65 rfl j hlt (Wt.cs ⟨[63], [], false⟩) HL.out rfl (by simp [Act.eval]) rfl (wt_one _) (wt_typed _) H' ?_
             intro w2 zs H2))
        exact ⟨⟨j + 1, _, by omega, by go_num, H2⟩, by simp [intOf]; omega⟩
    · go_wp2
      go_end0
      exact ⟨rfl, H'.tail⟩

theorem wt_ext {l m : List Wt} (hl : l.length = m.length) (h : ∀ k, k < l.length → l[k]? = m[k]?) : l = m := by
  refine List.ext_getElem hl fun k h1 h2 => ?_
  have := h k h1
  simpa [h1, h2] using this

set_option maxRecDepth 100000 in
set_option maxHeartbeats 4000000 in
theorem SameWrites_any {w : World} (A A' : Option Addr) (c c' : Nat) (l m : List Wt) (hl : l.length ≤ maxLen) (hr : Rd w A (wtC l)) (hr' : Rd w A' (wtC m)) :
    Calls Tryz.prog 49 #[.slice A l.length c, .slice A' m.length c'] w fun e w' => e = .returned (.bool (decide (l = m))) ∧ Below w.heap.size w w' := by
  have hl' := hl
  unfold maxLen at hl'
  by_cases hlm : l.length = m.length
  · go_enter Tryz.func49, Tryz.ntmps49
    go_wp2
    go_loopw [5] (fun i wc => ∃ j : Nat, j ≤ l.length ∧ i = .int .i64 j ∧ Hid (∀ k, k < j → l[k]? = m[k]?) ∧ Below w.heap.size w wc) (fun i _ => l.length - (intOf i).toNat)
    case atStart => exact ⟨0, by omega, rfl, (fun k hk => by omega), Below.refl _ _⟩
    case round =>
      obtain ⟨j, hj, rfl, hN, hB⟩ := hrel
      by_cases hlt : j < l.length
      · obtain ⟨x, hx⟩ : ∃ x, l[j]? = some x := ⟨_, List.getElem?_eq_getElem hlt⟩
        obtain ⟨y, hy⟩ : ∃ y, m[j]? = some y := ⟨_, List.getElem?_eq_getElem (by omega)⟩
        obtain ⟨b, o, rfl, c0, c1, c2, _⟩ := wt_cells (hr.below hB) j x hx
        obtain ⟨b', o', rfl, d0, d1, d2, _⟩ := wt_cells (hr'.below hB) j y hy
        have hE := wt_equal x y
        clear hr hr'
        by_cases hq : x = y
        · have hxy : l[j]? = m[j]? := by rw [hx, hy, hq]
          rw [decide_eq_true hq] at hE
          clear hq hx hy
          go_wp2
          go_quiet (fail)
          go_wp2
          exact ⟨⟨j + 1, by omega, by go_num, fun k hk => by
            rcases Nat.lt_or_ge k j with h | h
            · exact hN.out k h
            · obtain rfl : k = j := by omega
              exact hxy, below_drew' hB _⟩, by simp [intOf]; omega⟩
        · have hf : decide (l = m) = false := decide_eq_false fun e => hq (by rw [e, hy] at hx; exact (Option.some.inj hx).symm)
          rw [decide_eq_false hq] at hE
          clear hq hx hy
          go_wp2
          go_quiet (fail)
          go_wp2
          go_ret
          exact ⟨by first | rfl | (rw [hf]; rfl), below_drew' hB _⟩
      · obtain rfl : j = l.length := by omega
        have hf : decide (l = m) = true := decide_eq_true (wt_ext hlm hN.out)
        go_wp2
        go_ret
        exact ⟨by first | rfl | (rw [hf]; rfl), hB⟩
  · have e1 : decide (l = m) = false := decide_eq_false fun e => hlm (by rw [e])
    rw [e1]
    go_enter Tryz.func49, Tryz.ntmps49
    go_wp2
    go_ret
    exact ⟨rfl, Below.refl _ _⟩

def bigWt (s : Wt) : Bool := decide (100 < s.k.length) || decide (100 < s.v.length)
def longWt (l : List Wt) (n : Nat) : Bool := decide (n < l.length) || (l.take (n + 1)).any bigWt
theorem longWt_no {l : List Wt} {n : Nat} (h : longWt l n = false) : l.length ≤ n ∧ ∀ x ∈ l, x.k.length ≤ 100 ∧ x.v.length ≤ 100 := by
  unfold longWt at h
  rw [Bool.or_eq_false_iff, decide_eq_false_iff_not] at h
  refine ⟨by omega, fun x hx => ?_⟩
  have h2 := h.2
  rw [List.any_eq_false, List.take_of_length_le (by omega)] at h2
  have h3 := h2 x hx
  unfold bigWt at h3
  rw [Bool.or_eq_true, decide_eq_true_iff, decide_eq_true_iff, not_or] at h3
  omega

set_option maxRecDepth 100000 in
set_option maxHeartbeats 1000000 in
theorem LongWrites_any {w : World} (A : Option Addr) (c : Nat) (l : List Wt) (n : Nat) (hn : n ≤ 1000000) (hl : l.length ≤ maxLen) (hr : Rd w A (wtC l)) :
    Calls Tryz.prog 60 #[.slice A l.length c, .int .i64 n] w fun e w' => e = .returned (.bool (longWt l n)) ∧ w = w' := by
  have hl' := hl
  unfold maxLen at hl'
  go_enter Tryz.func60, Tryz.ntmps60
  go_wp2
  go_loop [5] (fun i => ∃ j : Nat, j ≤ l.length ∧ j ≤ n + 1 ∧ i = .int .i64 j ∧ Hid (∀ k x, k < j → l[k]? = some x → bigWt x = false)) (fun i => n + 1 - (intOf i).toNat)
  case atStart => exact ⟨0, by omega, by omega, rfl, fun k x hk => by omega⟩
  case round =>
    obtain ⟨j, hj, hjn, rfl, hN⟩ := hrel
    by_cases hlt : j < l.length
    · by_cases hj2 : j ≤ n
      · obtain ⟨x, hx⟩ : ∃ x, l[j]? = some x := ⟨_, List.getElem?_eq_getElem hlt⟩
        obtain ⟨b, o, rfl, c0, c1, c2, _⟩ := wt_cells hr j x hx
        have hf : bigWt x = true → longWt l n = true := fun hq => by
          unfold longWt
          rw [Bool.or_eq_true, List.any_eq_true]
          right
          exact ⟨x, List.mem_of_getElem? (by rw [List.getElem?_take, if_pos (show j < n + 1 by omega)]; exact hx), hq⟩
        have HF := Lib.hid hf
        have HX := Lib.hid hx
        obtain ⟨lo, hi, f0⟩ := x
        dsimp only at c0 c1 c2
        clear hx hf
        by_cases hq : 100 < lo.length
        · have HG := Lib.hid (HF.out (by unfold bigWt; simp [hq]))
          have hq2 : (100 : Int) < (lo.length : Int) := by omega
          go_wp2
          go_ret
          exact ⟨by rw [HG.out]; rfl, rfl⟩
        · have hq2 : ¬ (100 : Int) < (lo.length : Int) := by omega
          by_cases hp : 100 < hi.length
          · have HG := Lib.hid (HF.out (by unfold bigWt; simp [hp]))
            have hp2 : (100 : Int) < (hi.length : Int) := by omega
            go_wp2
            go_ret
            exact ⟨by rw [HG.out]; rfl, rfl⟩
          · have hp2 : ¬ (100 : Int) < (hi.length : Int) := by omega
            have HG := Lib.hid (show bigWt ⟨lo, hi, f0⟩ = false by unfold bigWt; simp [hq, hp])
            clear hq hp
            go_wp2
            refine ⟨⟨j + 1, by omega, by omega, by go_num, fun k y hk hy => ?_⟩, by simp [intOf]; omega⟩
            rcases Nat.lt_or_ge k j with h | h
            · exact hN.out k y h hy
            · obtain rfl : k = j := by omega
              rw [HX.out] at hy; cases hy; exact HG.out
      · have hf : longWt l n = true := by unfold longWt; rw [Bool.or_eq_true]; left; simp; omega
        have HF := Lib.hid hf
        clear hf
        have hq3 : (n : Int) < (l.length : Int) := by omega
        go_wp2
        go_ret
        exact ⟨by rw [HF.out]; rfl, rfl⟩
    · obtain rfl : j = l.length := by omega
      have hf : longWt l n = decide (n < l.length) := by
        unfold longWt
        have : (l.take (n + 1)).any bigWt = false := by
          rw [List.any_eq_false]
          intro x hx
          obtain ⟨k, hk⟩ := List.getElem?_of_mem (List.mem_of_mem_take hx)
          have := hN.out k x (List.getElem?_eq_some_iff.1 hk).1 hk
          simp [this]
        rw [this, Bool.or_false]
      have HF := Lib.hid hf
      clear hf
      by_cases h9 : n < l.length
      · go_wp2
        go_ret
        exact ⟨by rw [HF.out]; simp [h9], rfl⟩
      · go_wp2
        go_ret
        exact ⟨by rw [HF.out]; simp [h9], rfl⟩

end Go.Proofs.YtodbmeklbamcfaaGreat

/- cell.Key, cell.Check, and the document's. -/
namespace Go.Proofs.YtodbmeklbamcfaaGreat
open Go.RowKit Go.Rt

theorem goodP_bad {l : List Pr} {j : Nat} {p : Pr} (hp : l[j]? = some p) (h : okP p = false) : goodP l = false := by
  cases hg : goodP l with
  | false => rfl
  | true => have := ((goodP_iff l).1 hg).1 p (List.mem_of_getElem? hp); rw [h] at this; cases this
theorem goodP_fall {l : List Pr} {j : Nat} {p q : Pr} (hp : l[j]? = some p) (hq : l[j + 1]? = some q) (h : ¬ p.k < q.k) : goodP l = false := by
  unfold goodP
  rw [checkK_no (k := j) (by rw [List.getElem?_map, hp]; rfl) (by rw [List.getElem?_map, hq]; rfl) h, Bool.and_false]
theorem goodP_all {l : List Pr} (h1 : ∀ j p, j < l.length → l[j]? = some p → okP p = true) (h2 : ∀ j p q, j + 1 < l.length → l[j]? = some p → l[j + 1]? = some q → p.k < q.k) : goodP l = true := by
  unfold goodP
  rw [Bool.and_eq_true, List.all_eq_true, checkK_adj]
  refine ⟨fun p hp => ?_, fun k x y hx hy => ?_⟩
  · obtain ⟨j, hj⟩ := List.getElem?_of_mem hp
    exact h1 j p (List.getElem?_eq_some_iff.1 hj).1 hj
  · rw [List.getElem?_map] at hx hy
    cases ha : l[k]? with
    | none => rw [ha] at hx; cases hx
    | some p =>
      cases hb : l[k + 1]? with
      | none => rw [hb] at hy; cases hy
      | some q =>
        rw [ha] at hx; rw [hb] at hy
        simp at hx hy
        rw [← hx, ← hy]
        exact h2 k p q (List.getElem?_eq_some_iff.1 hb).1 ha hb
theorem checkS_of {l : List Pr} (h : l.length ≤ 65536) : checkS l = if goodP l then 0 else 2 := by
  unfold checkS
  rw [if_neg (by omega)]

set_option maxRecDepth 100000 in
set_option maxHeartbeats 4000000 in
theorem cKey_any {w : World} (k : Str) : Calls Tryz.prog 54 #[.string ⟨k.toArray⟩] w fun e w' => e = .returned (.bool (keyB k)) ∧ w' = w := by
  go_enter Tryz.func54, Tryz.ntmps54
  by_cases h1 : k.length = 0
  · have hk : k = [] := List.eq_nil_of_length_eq_zero h1
    subst hk
    go_wp2
    go_ret
    exact ⟨rfl, rfl⟩
  · have h2 : k.isEmpty = false := by cases k with | nil => exact absurd rfl h1 | cons x l => rfl
    have h3 : (1 : Int) ≤ (k.length : Int) := by omega
    by_cases h4 : k.length ≤ 32
    · have h5 : (k.length : Int) ≤ 32 := by omega
      go_wp2
      go_ret
      exact ⟨by simp [keyB]; omega, rfl⟩
    · have h5 : ¬ (k.length : Int) ≤ 32 := by omega
      go_wp2
      go_ret
      exact ⟨by simp [keyB]; omega, rfl⟩
set_option maxRecDepth 100000 in
set_option maxHeartbeats 4000000 in
theorem qKey_any {w : World} (k : Str) : Calls Tryz.prog 81 #[.string ⟨k.toArray⟩] w fun e w' => e = .returned (.bool (keyB k)) ∧ w' = w := by
  go_enter Tryz.func81, Tryz.ntmps81
  by_cases h1 : k.length = 0
  · have hk : k = [] := List.eq_nil_of_length_eq_zero h1
    subst hk
    go_wp2
    go_ret
    exact ⟨rfl, rfl⟩
  · have h2 : k.isEmpty = false := by cases k with | nil => exact absurd rfl h1 | cons x l => rfl
    have h3 : (1 : Int) ≤ (k.length : Int) := by omega
    by_cases h4 : k.length ≤ 32
    · have h5 : (k.length : Int) ≤ 32 := by omega
      go_wp2
      go_ret
      exact ⟨by simp [keyB]; omega, rfl⟩
    · have h5 : ¬ (k.length : Int) ≤ 32 := by omega
      go_wp2
      go_ret
      exact ⟨by simp [keyB]; omega, rfl⟩

theorem cKey_is (k : Str) (v : Bool) (hv : keyB k = v) (w : World) : Calls Tryz.prog 54 #[.string ⟨k.toArray⟩] w fun e w' => e = .returned (.bool v) ∧ w' = w := by subst hv; exact cKey_any k
theorem qKey_is (k : Str) (v : Bool) (hv : keyB k = v) (w : World) : Calls Tryz.prog 81 #[.string ⟨k.toArray⟩] w fun e w' => e = .returned (.bool v) ∧ w' = w := by subst hv; exact qKey_any k

set_option maxRecDepth 100000 in
set_option maxHeartbeats 4000000 in
theorem cChk_any {W w : World} {L : List SL} (A : Option Addr) (c : Nat) (l : List Pr) (hl : l.length ≤ maxLen) (hr : RdL W L A (prC l)) (H : Sat W w L) :
    Calls Tryz.prog 56 #[.slice A l.length c] w fun e w' => e = .returned (.int .i64 (checkS l)) ∧ Sat W w' L := by
  have hl' := hl
  unfold maxLen at hl'
  go_enter Tryz.func56, Tryz.ntmps56
  by_cases hlong : 65536 < l.length
  · have e1 : checkS l = 3 := by unfold checkS; rw [if_pos hlong]
    have h1 : (65536 : Int) < (l.length : Int) := by omega
    rw [e1]
    clear e1 hlong
    go_wp2
    go_ret
    exact ⟨rfl, H⟩
  have h1 : ¬ (65536 : Int) < (l.length : Int) := by omega
  have hck := checkS_of (l := l) (by omega)
  generalize checkS l = C at *
  have HCK := Lib.hid (hck)
  clear hck
  go_wp2
  go_loopw [10] (fun i wc => ∃ j : Nat, j ≤ l.length ∧ i = .int .i64 j ∧ Hid (∀ k p, k < j → l[k]? = some p → okP p = true) ∧ Hid (∀ k p q, k + 1 < j → l[k]? = some p → l[k + 1]? = some q → p.k < q.k) ∧ Sat W wc L) (fun i _ => l.length - (intOf i).toNat)
  case atStart => exact ⟨0, by omega, rfl, (fun k p h => by omega), (fun k p q h => by omega), H⟩
  case round =>
    obtain ⟨j, hj, rfl, hN, hM, H1⟩ := hrel
    by_cases hlt : j < l.length
    · obtain ⟨x, hx⟩ : ∃ x, l[j]? = some x := ⟨_, List.getElem?_eq_getElem (by omega)⟩
      obtain ⟨b, o, rfl, c0, c1, _⟩ := pr_cells (hr _ H1) j x hx
      have HB := Lib.hid (fun h : okP x = false => goodP_bad hx h)
      have HF := Lib.hid (fun k (p : Pr) (h0 : j = k + 1) (hp : l[k]? = some p) (h : ¬ p.k < x.k) => goodP_fall hp (h0 ▸ hx) h)
      have HX := Lib.hid (hx)
      obtain ⟨xk, xv⟩ := x
      dsimp only at c0 c1
      clear hx
      have H2 := H1.alloc #[.string ⟨xk.toArray⟩, .string ⟨xv.toArray⟩] 125
      generalize hw0 : wr.alloc (.cells #[.string ⟨xk.toArray⟩, .string ⟨xv.toArray⟩] 125) = w0 at H2
      have d0 : w0.cell? ⟨wr.heap.size, 0, none⟩ = some (.string ⟨xk.toArray⟩) := H2.cell 0
      have d1 : w0.cell? ⟨wr.heap.size, 1, none⟩ = some (.string ⟨xv.toArray⟩) := H2.cell 1
      have HNJ : ∀ m p, m < j + 1 → l[m]? = some p → okP ⟨xk, xv⟩ = true → okP p = true := fun m p hm hp h => by
        rcases Nat.lt_or_ge m j with h1 | h1
        · exact hN.out m p h1 hp
        · obtain rfl : m = j := by omega
          rw [HX.out] at hp; cases hp; exact h
      have HNJ := Lib.hid (HNJ)
      cases hkb : keyB xk with
      | false =>
        have hC : C = 2 := by rw [HCK.out, HB.out (by unfold okP; simp [hkb])]; rfl
        have QK := Lib.hid (fun n => cKey_is xk false hkb (w0.drewN n))
        clear hkb HB HF HCK
        go_wp2
        go_quiet ((go_at_call 54; with_reducible exact Calls.quiet_of_same (QK.out _)))
        go_wp2
        go_ret
        subst hC
        exact ⟨rfl, (H2.drewN _).tail⟩
      | true =>
        have QK := Lib.hid (fun n => cKey_is xk true hkb (w0.drewN n))
        by_cases hv : 64 < xv.length
        · have hC : C = 2 := by rw [HCK.out, HB.out (by unfold okP; simp; omega)]; rfl
          have hv2 : (64 : Int) < (xv.length : Int) := by omega
          clear hkb HB HF HCK
          go_wp2
          go_quiet ((go_at_call 54; with_reducible exact Calls.quiet_of_same (QK.out _)))
          go_wp2
          go_ret
          subst hC
          exact ⟨rfl, (H2.drewN _).tail⟩
        have hv2 : decide ((64 : Int) < (xv.length : Int)) = false := decide_eq_false (by omega)
        have hok : okP ⟨xk, xv⟩ = true := by unfold okP; rw [hkb]; simp; omega
        have HOK := Lib.hid (hok)
        clear hkb HB hv hok
        by_cases hj0 : j = 0
        · have hj1 : decide (0 < j) = false := decide_eq_false (by omega)
          have HJ0 := Lib.hid (hj0)
          clear HF hj0
          go_wp2
          go_quiet ((go_at_call 54; with_reducible exact Calls.quiet_of_same (QK.out _)))
          go_wp2
          exact ⟨⟨j + 1, by omega, by go_num, fun m p hm hp => HNJ.out m p hm hp HOK.out, fun m p q h => by have := HJ0.out; omega, (H2.drewN _).tail⟩, by simp [intOf]; omega⟩
        obtain ⟨k, hk0⟩ : ∃ k, Hid (j = k + 1) := ⟨j - 1, by show _ = _; omega⟩
        have hkl : k < l.length := by have := hk0.out; omega
        have hj1 : decide (0 < j) = true := decide_eq_true (by omega)
        have hs : IntKind.i64.wrap ((j : Int) - 1) = (k : Int) := by have := hk0.out; rw [IntWalk.i64_in _ (by omega)]; omega
        obtain ⟨y, hy⟩ : ∃ x, l[k]? = some x := ⟨_, List.getElem?_eq_getElem (by omega)⟩
        obtain ⟨b', o', hbo, f0, f1, _⟩ := pr_cells (hr _ ((H2).tail)) k y hy
        cases hbo
        have HF2 := Lib.hid (fun h => HF.out k y hk0.out hy h)
        have HY := Lib.hid (hy)
        obtain ⟨yk, yv⟩ := y
        dsimp only at f0 f1
        clear HF hj0 hy
        by_cases hq : yk < xk
        · have h1 : Op.bytesLess xk yk = false := less_no fun h => str_irrefl xk (str_trans h hq)
          have h2 : (xk == yk) = false := beq_no fun h => str_irrefl xk (by rw [← h] at hq; exact hq)
          have h3 : Op.bytesLess yk xk = true := less_yes hq
          have HQ := Lib.hid (hq)
          clear hq
          go_wp2
          go_quiet ((go_at_call 54; with_reducible exact Calls.quiet_of_same (QK.out _)))
          go_wp2
          refine ⟨⟨j + 1, by omega, by go_num, fun m p hm hp => HNJ.out m p hm hp HOK.out, fun m p q hm hp hq => ?_, (H2.drewN _).tail⟩, by simp [intOf]; omega⟩
          have hk1 := hk0.out
          rcases Nat.lt_or_ge (m + 1) j with h | h
          · exact hM.out m p q h hp hq
          · obtain rfl : m = k := by omega
            rw [HY.out] at hp; cases hp
            rw [← hk1, HX.out] at hq; cases hq
            exact HQ.out
        · have hC : C = 2 := by rw [HCK.out, HF2.out hq]; rfl
          have h3 : Op.bytesLess yk xk = false := less_no hq
          have hh : (Op.bytesLess xk yk = true ∧ (xk == yk) = false) ∨ (Op.bytesLess xk yk = false ∧ (xk == yk) = true) := by
            rcases str_total xk yk with h | h | h
            · exact .inl ⟨less_yes h, beq_no fun e => str_irrefl yk (by rw [e] at h; exact h)⟩
            · exact .inr ⟨less_no fun h' => str_irrefl yk (by rw [h] at h'; exact h'), beq_yes h⟩
            · exact absurd h hq
          clear hq HF2 HCK
          rcases hh with ⟨h1, h2⟩ | ⟨h1, h2⟩
          all_goals
            go_wp2
            go_quiet ((go_at_call 54; with_reducible exact Calls.quiet_of_same (QK.out _)))
            go_wp2
            go_ret
            subst hC
            exact ⟨rfl, (H2.drewN _).tail⟩
    · obtain rfl : j = l.length := by omega
      have hg := goodP_all hN.out hM.out
      have e0 : C = 0 := by rw [HCK.out, hg]; rfl
      clear HCK
      subst e0
      go_wp2
      go_ret
      exact ⟨rfl, H1⟩
set_option maxRecDepth 100000 in
set_option maxHeartbeats 4000000 in
theorem qChk_any {W w : World} {L : List SL} (A : Option Addr) (c : Nat) (l : List Pr) (hl : l.length ≤ maxLen) (hr : RdL W L A (prC l)) (H : Sat W w L) :
    Calls Tryz.prog 104 #[.slice A l.length c] w fun e w' => e = .returned (.int .i64 (checkS l)) ∧ Sat W w' L := by
  have hl' := hl
  unfold maxLen at hl'
  go_enter Tryz.func104, Tryz.ntmps104
  by_cases hlong : 65536 < l.length
  · have e1 : checkS l = 3 := by unfold checkS; rw [if_pos hlong]
    have h1 : (65536 : Int) < (l.length : Int) := by omega
    rw [e1]
    clear e1 hlong
    go_wp2
    go_ret
    exact ⟨rfl, H⟩
  have h1 : ¬ (65536 : Int) < (l.length : Int) := by omega
  have hck := checkS_of (l := l) (by omega)
  generalize checkS l = C at *
  have HCK := Lib.hid (hck)
  clear hck
  go_wp2
  go_loopw [3] (fun i wc => ∃ j : Nat, j ≤ l.length ∧ i = .int .i64 j ∧ Hid (∀ k p, k < j → l[k]? = some p → okP p = true) ∧ Hid (∀ k p q, k + 1 < j → l[k]? = some p → l[k + 1]? = some q → p.k < q.k) ∧ Sat W wc L) (fun i _ => l.length - (intOf i).toNat)
  case atStart => exact ⟨0, by omega, rfl, (fun k p h => by omega), (fun k p q h => by omega), H⟩
  case round =>
    obtain ⟨j, hj, rfl, hN, hM, H1⟩ := hrel
    by_cases hlt : j < l.length
    · obtain ⟨x, hx⟩ : ∃ x, l[j]? = some x := ⟨_, List.getElem?_eq_getElem (by omega)⟩
      obtain ⟨b, o, rfl, c0, c1, _⟩ := pr_cells (hr _ H1) j x hx
      have HB := Lib.hid (fun h : okP x = false => goodP_bad hx h)
      have HF := Lib.hid (fun k (p : Pr) (h0 : j = k + 1) (hp : l[k]? = some p) (h : ¬ p.k < x.k) => goodP_fall hp (h0 ▸ hx) h)
      have HX := Lib.hid (hx)
      obtain ⟨xk, xv⟩ := x
      dsimp only at c0 c1
      clear hx
      have HNJ : ∀ m p, m < j + 1 → l[m]? = some p → okP ⟨xk, xv⟩ = true → okP p = true := fun m p hm hp h => by
        rcases Nat.lt_or_ge m j with h1 | h1
        · exact hN.out m p h1 hp
        · obtain rfl : m = j := by omega
          rw [HX.out] at hp; cases hp; exact h
      have HNJ := Lib.hid (HNJ)
      cases hkb : keyB xk with
      | false =>
        have hC : C = 2 := by rw [HCK.out, HB.out (by unfold okP; simp [hkb])]; rfl
        have QK := Lib.hid (fun n => qKey_is xk false hkb (wr.drewN n))
        clear hkb HB HF HCK
        go_wp2
        go_quiet ((go_at_call 81; with_reducible exact Calls.quiet_of_same (QK.out _)))
        go_wp2
        go_ret
        subst hC
        exact ⟨rfl, (H1.drewN _)⟩
      | true =>
        have QK := Lib.hid (fun n => qKey_is xk true hkb (wr.drewN n))
        by_cases hv : 64 < xv.length
        · have hC : C = 2 := by rw [HCK.out, HB.out (by unfold okP; simp; omega)]; rfl
          have hv2 : (64 : Int) < (xv.length : Int) := by omega
          clear hkb HB HF HCK
          go_wp2
          go_quiet ((go_at_call 81; with_reducible exact Calls.quiet_of_same (QK.out _)))
          go_wp2
          go_ret
          subst hC
          exact ⟨rfl, (H1.drewN _)⟩
        have hv2 : decide ((64 : Int) < (xv.length : Int)) = false := decide_eq_false (by omega)
        have hok : okP ⟨xk, xv⟩ = true := by unfold okP; rw [hkb]; simp; omega
        have HOK := Lib.hid (hok)
        clear hkb HB hv hok
        by_cases hj0 : j = 0
        · have hj1 : decide (0 < j) = false := decide_eq_false (by omega)
          have HJ0 := Lib.hid (hj0)
          clear HF hj0
          go_wp2
          go_quiet ((go_at_call 81; with_reducible exact Calls.quiet_of_same (QK.out _)))
          go_wp2
          exact ⟨⟨j + 1, by omega, by go_num, fun m p hm hp => HNJ.out m p hm hp HOK.out, fun m p q h => by have := HJ0.out; omega, (H1.drewN _)⟩, by simp [intOf]; omega⟩
        obtain ⟨k, hk0⟩ : ∃ k, Hid (j = k + 1) := ⟨j - 1, by show _ = _; omega⟩
        have hkl : k < l.length := by have := hk0.out; omega
        have hj1 : decide (0 < j) = true := decide_eq_true (by omega)
        have hs : IntKind.i64.wrap ((j : Int) - 1) = (k : Int) := by have := hk0.out; rw [IntWalk.i64_in _ (by omega)]; omega
        obtain ⟨y, hy⟩ : ∃ x, l[k]? = some x := ⟨_, List.getElem?_eq_getElem (by omega)⟩
        obtain ⟨b', o', hbo, f0, f1, _⟩ := pr_cells (hr _ (H1)) k y hy
        cases hbo
        have HF2 := Lib.hid (fun h => HF.out k y hk0.out hy h)
        have HY := Lib.hid (hy)
        obtain ⟨yk, yv⟩ := y
        dsimp only at f0 f1
        clear HF hj0 hy
        by_cases hq : yk < xk
        · have h1 : Op.bytesLess xk yk = false := less_no fun h => str_irrefl xk (str_trans h hq)
          have h2 : (xk == yk) = false := beq_no fun h => str_irrefl xk (by rw [← h] at hq; exact hq)
          have h3 : Op.bytesLess yk xk = true := less_yes hq
          have HQ := Lib.hid (hq)
          clear hq
          go_wp2
          go_quiet ((go_at_call 81; with_reducible exact Calls.quiet_of_same (QK.out _)))
          go_wp2
          refine ⟨⟨j + 1, by omega, by go_num, fun m p hm hp => HNJ.out m p hm hp HOK.out, fun m p q hm hp hq => ?_, (H1.drewN _)⟩, by simp [intOf]; omega⟩
          have hk1 := hk0.out
          rcases Nat.lt_or_ge (m + 1) j with h | h
          · exact hM.out m p q h hp hq
          · obtain rfl : m = k := by omega
            rw [HY.out] at hp; cases hp
            rw [← hk1, HX.out] at hq; cases hq
            exact HQ.out
        · have hC : C = 2 := by rw [HCK.out, HF2.out hq]; rfl
          have h3 : Op.bytesLess yk xk = false := less_no hq
          have hh : (Op.bytesLess xk yk = true ∧ (xk == yk) = false) ∨ (Op.bytesLess xk yk = false ∧ (xk == yk) = true) := by
            rcases str_total xk yk with h | h | h
            · exact .inl ⟨less_yes h, beq_no fun e => str_irrefl yk (by rw [e] at h; exact h)⟩
            · exact .inr ⟨less_no fun h' => str_irrefl yk (by rw [h] at h'; exact h'), beq_yes h⟩
            · exact absurd h hq
          clear hq HF2 HCK
          rcases hh with ⟨h1, h2⟩ | ⟨h1, h2⟩
          all_goals
            go_wp2
            go_quiet ((go_at_call 81; with_reducible exact Calls.quiet_of_same (QK.out _)))
            go_wp2
            go_ret
            subst hC
            exact ⟨rfl, (H1.drewN _)⟩
    · obtain rfl : j = l.length := by omega
      have hg := goodP_all hN.out hM.out
      have e0 : C = 0 := by rw [HCK.out, hg]; rfl
      clear HCK
      subst e0
      go_wp2
      go_ret
      exact ⟨rfl, H1⟩
end Go.Proofs.YtodbmeklbamcfaaGreat

/- Where a key stands: the program's binary search, the document's walk. -/
namespace Go.Proofs.YtodbmeklbamcfaaGreat
open Go.RowKit Go.Rt

/-- On which side of a pair a key lies. -/
def sideI (p : Pr) (k : Str) : Int := if k < p.k then -1 else if p.k < k then 1 else 0
theorem look_some {l : List Pr} (hl : RiseP l) (k : Str) : (lookP l k).isSome = match l[atP l k]? with
    | some p => decide (p.k = k)
    | none => false := by
  rw [look_atP hl]
  cases h : l[atP l k]? with
  | none => rfl
  | some p => by_cases e : p.k = k <;> simp [e]

set_option maxRecDepth 100000 in
set_option maxHeartbeats 4000000 in
theorem cside_any {W w : World} {L : List SL} (A : Option Addr) (c : Nat) (l : List Pr) (k : Str) (j : Nat) (p : Pr) (hp : l[j]? = some p) (_hl : l.length ≤ 65536) (hr : RdL W L A (prC l)) (H : Sat W w L) :
    Calls Tryz.prog 271 #[.agg #[.slice A l.length c, .string ⟨k.toArray⟩], .int .i64 j] w fun e w' => e = .returned (.int .i64 (sideI p k)) ∧ Sat W w' L := by
  have hj := (List.getElem?_eq_some_iff.1 hp).1
  have H2 := H.alloc #[.slice A l.length c, .string ⟨k.toArray⟩] 279
  obtain ⟨b, o, rfl, c0, c1, _⟩ := pr_cells (hr.tail _ H2) j p hp
  generalize hw0 : w.alloc (.cells #[.slice (some ⟨b, o, none⟩) l.length c, .string ⟨k.toArray⟩] 279) = w0 at H2 c0 c1
  have d0 : w0.cell? ⟨w.heap.size, 0, none⟩ = some (.slice (some ⟨b, o, none⟩) l.length c) := H2.cell 0
  have d1 : w0.cell? ⟨w.heap.size, 1, none⟩ = some (.string ⟨k.toArray⟩) := H2.cell 1
  unfold sideI
  obtain ⟨pk, pv⟩ := p
  dsimp only at c0 c1 ⊢
  clear hp
  go_enter Tryz.func271, Tryz.ntmps271
  by_cases h : k < pk
  · have h1 : Op.bytesLess k pk = true := less_yes h
    rw [if_pos h]
    clear h
    go_wp2
    go_quiet (fail)
    go_wp2
    go_ret
    exact ⟨rfl, (H2.drewN _).tail⟩
  · have h1 : Op.bytesLess k pk = false := less_no h
    have h0 := h
    rw [if_neg h]
    clear h
    by_cases h : pk < k
    · have h2 : Op.bytesLess pk k = true := less_yes h
      have h3 : (k == pk) = false := beq_no fun e => str_irrefl k (by rw [← e] at h; exact h)
      rw [if_pos h]
      clear h h0
      go_wp2
      go_quiet (fail)
      go_wp2
      go_quiet (fail)
      go_wp2
      go_ret
      exact ⟨rfl, ((H2.drewN _).drewN _).tail⟩
    · have h2 : Op.bytesLess pk k = false := less_no h
      have h3 : (k == pk) = true := beq_yes (not_lt_both h0 h)
      rw [if_neg h]
      clear h h0
      go_wp2
      go_quiet (fail)
      go_wp2
      go_quiet (fail)
      go_wp2
      go_ret
      exact ⟨rfl, ((H2.drewN _).drewN _).tail⟩

set_option maxRecDepth 100000 in
set_option maxHeartbeats 4000000 in
theorem sortFind_any {W w : World} {L : List SL} (A : Option Addr) (c : Nat) (l : List Pr) (k : Str) (hl : l.length ≤ 65536) (hr : RdL W L A (prC l)) (hs : RiseP l) (H : Sat W w L) :
    Calls Tryz.prog 270 #[.int .i64 l.length, .func (.func 271) #[.agg #[.slice A l.length c, .string ⟨k.toArray⟩]] #[]] w fun e w' => e = .returned (.tuple #[.int .i64 (atP l k), .bool ((lookP l k).isSome)]) ∧ Sat W w' L := by
  have HSI := Lib.hid (fun (w0 : World) (j : Nat) (p : Pr) (hp : l[j]? = some p) (h : Sat W w0 L) => cside_any A c l k j p hp hl hr h)
  have hls := look_some hs k
  have hat := atP_le l k
  have HLT := Lib.hid (fun j p (hj : j < atP l k) (hp : l[j]? = some p) => atP_lt hj hp)
  have HGE := Lib.hid (fun j p (hj : atP l k ≤ j) (hp : l[j]? = some p) => atP_ge hs hj hp)
  generalize lookP l k = lk at *
  generalize atP l k = at_ at *
  have HLS := Lib.hid (hls)
  clear hls hr hs
  go_enter Tryz.func270, Tryz.ntmps270
  go_wp2
  go_loopw [4, 6] (fun i j wc => ∃ a b : Nat, a ≤ at_ ∧ at_ ≤ b ∧ b ≤ l.length ∧ i = .int .i64 a ∧ j = .int .i64 b ∧ Sat W wc L) (fun i j _ => (intOf j).toNat - (intOf i).toNat)
  case atStart => exact ⟨0, l.length, by omega, by omega, by omega, rfl, rfl, H⟩
  case round =>
    clear H
    obtain ⟨a, b, ha, hb, hbl, rfl, rfl, H⟩ := hrel
    by_cases hab : a < b
    · have hq : (a : Int) < (b : Int) := by omega
      obtain ⟨m, hm⟩ : ∃ m : Nat, ((a : Int) + (b : Int)) / 2 = (m : Int) := ⟨(a + b) / 2, by omega⟩
      have hma : a ≤ m := by omega
      have hmb : m < b := by omega
      obtain ⟨p, hp⟩ : ∃ p, l[m]? = some p := ⟨_, List.getElem?_eq_getElem (by omega)⟩
      have hsi := HSI.out wr m p hp H
      by_cases hpk : p.k < k
      · have e1 : sideI p k = 1 := by unfold sideI; rw [if_neg (fun h => str_irrefl k (str_trans h hpk)), if_pos hpk]
        have hlt : m < at_ := by
          rcases Nat.lt_or_ge m at_ with h | h
          · exact h
          · exact absurd hpk (HGE.out m p h hp)
        rw [e1] at hsi
        have HS := Lib.hid (hsi)
        clear hsi e1 hpk hp
        go_wp2_with fail
        refine (HS.out).mono ?_
        rintro e w2 ⟨rfl, H2⟩
        go_wp2
        exact ⟨⟨m + 1, b, by omega, by omega, by omega, by go_num, by go_num, H2⟩, by simp [intOf]; omega⟩
      · have e1 : decide (0 < sideI p k) = false := decide_eq_false (by unfold sideI; rw [if_neg hpk]; split <;> omega)
        have hge : at_ ≤ m := by
          rcases Nat.lt_or_ge m at_ with h | h
          · exact absurd (HLT.out m p h hp) hpk
          · exact h
        generalize sideI p k = si at *
        have HS := Lib.hid (hsi)
        clear hsi hpk hp
        go_wp2_with fail
        refine (HS.out).mono ?_
        rintro e w2 ⟨rfl, H2⟩
        go_wp2
        exact ⟨⟨a, m, by omega, by omega, by omega, by go_num, by go_num, H2⟩, by simp [intOf]; omega⟩
    · have hq : ¬ (a : Int) < (b : Int) := by omega
      obtain rfl : a = at_ := by omega
      clear HLT HGE hb hbl hab ha
      by_cases hal : a < l.length
      · have hal2 : (a : Int) < (l.length : Int) := by omega
        obtain ⟨p, hp⟩ : ∃ p, l[a]? = some p := ⟨_, List.getElem?_eq_getElem hal⟩
        have hsi := HSI.out wr a p hp H
        have hls := HLS.out
        rw [hp] at hls
        have e1 : (sideI p k == 0) = lk.isSome := by
          rw [hls, Bool.eq_iff_iff, beq_iff_eq]
          simp only [decide_eq_true_eq]
          unfold sideI
          constructor
          · intro h
            by_cases h1 : k < p.k
            · rw [if_pos h1] at h; omega
            · rw [if_neg h1] at h
              by_cases h2 : p.k < k
              · rw [if_pos h2] at h; omega
              · exact not_lt_both h2 h1
          · intro h
            rw [if_neg (fun h1 => str_irrefl k (by rw [h] at h1; exact h1)), if_neg (fun h1 => str_irrefl k (by rw [h] at h1; exact h1))]
        generalize sideI p k = si at *
        have HS := Lib.hid (hsi)
        clear hsi hp hls HLS
        go_wp2_with fail
        refine (HS.out).mono ?_
        rintro e w2 ⟨rfl, H2⟩
        go_wp2
        go_ret2
        exact ⟨by simp, H2⟩
      · have hal2 : ¬ (a : Int) < (l.length : Int) := by omega
        have hls := HLS.out
        rw [List.getElem?_eq_none (by omega)] at hls
        have HL2 := Lib.hid (hls)
        clear hls HLS
        go_wp2
        go_ret2
        exact ⟨by rw [HL2.out]; rfl, H⟩
set_option maxRecDepth 100000 in
set_option maxHeartbeats 4000000 in
theorem cfind_any {W w : World} {L : List SL} (A : Option Addr) (c : Nat) (l : List Pr) (k : Str) (hl : l.length ≤ 65536) (hr : RdL W L A (prC l)) (hs : RiseP l) (H : Sat W w L) :
    Calls Tryz.prog 265 #[.slice A l.length c, .string ⟨k.toArray⟩] w fun e w' => e = .returned (.tuple #[.int .i64 (atP l k), .bool ((lookP l k).isSome)]) ∧ Sat W w' L := by
  have HF := Lib.hid (sortFind_any A c l k hl hr hs H)
  clear hr hs
  generalize (lookP l k).isSome = ls at *
  generalize atP l k = at_ at *
  go_enter Tryz.func265, Tryz.ntmps265
  go_wp2_with fail
  refine (HF.out).mono ?_
  rintro e w2 ⟨rfl, H2⟩
  go_wp2
  go_ret2
  exact ⟨rfl, H2⟩
set_option maxRecDepth 100000 in
set_option maxHeartbeats 4000000 in
theorem qat_any {W w : World} {L : List SL} (A : Option Addr) (c : Nat) (l : List Pr) (k : Str) (hl : l.length ≤ maxLen) (hr : RdL W L A (prC l)) (H : Sat W w L) :
    Calls Tryz.prog 233 #[.slice A l.length c, .string ⟨k.toArray⟩] w fun e w' => e = .returned (.int .i64 (atP l k)) ∧ Sat W w' L := by
  have hl' := hl
  unfold maxLen at hl'
  have HEQ := Lib.hid (fun n (hn : n ≤ l.length) h1 h2 => atP_eq (l := l) (k := k) (n := n) hn h1 h2)
  generalize atP l k = at_ at *
  go_enter Tryz.func233, Tryz.ntmps233
  go_wp2
  go_loopw [5] (fun i wc => ∃ j : Nat, j ≤ l.length ∧ i = .int .i64 j ∧ Hid (∀ m p, m < j → l[m]? = some p → p.k < k) ∧ Sat W wc L) (fun i _ => l.length - (intOf i).toNat)
  case atStart => exact ⟨0, by omega, rfl, (fun m p h => by omega), H⟩
  case round =>
    clear H
    obtain ⟨j, hj, rfl, hN, H⟩ := hrel
    by_cases hlt : j < l.length
    · obtain ⟨x, hx⟩ : ∃ x, l[j]? = some x := ⟨_, List.getElem?_eq_getElem (by omega)⟩
      obtain ⟨b, o, rfl, c0, c1, _⟩ := pr_cells (hr _ H) j x hx
      have HX := Lib.hid (hx)
      obtain ⟨xk, xv⟩ := x
      dsimp only at c0 c1
      clear hx
      have hlt2 : (j : Int) < (l.length : Int) := by omega
      by_cases hq : xk < k
      · have h1 : Op.bytesLess xk k = true := less_yes hq
        have HQ := Lib.hid (hq)
        clear hq
        go_wp2
        refine ⟨⟨j + 1, by omega, by go_num, fun m p hm hp => ?_, H⟩, by simp [intOf]; omega⟩
        rcases Nat.lt_or_ge m j with h | h
        · exact hN.out m p h hp
        · obtain rfl : m = j := by omega
          rw [HX.out] at hp; cases hp; exact HQ.out
      · have h1 : Op.bytesLess xk k = false := less_no hq
        have e1 : at_ = j := HEQ.out j (by omega) hN.out (fun p hp => by rw [HX.out] at hp; cases hp; exact hq)
        clear hq HEQ
        go_wp2
        go_ret
        exact ⟨by first | rfl | (rw [e1]; rfl), H⟩
    · have e1 : at_ = j := HEQ.out j (by omega) hN.out (fun p hp => by rw [List.getElem?_eq_none (by omega)] at hp; cases hp)
      have hlt2 : ¬ (j : Int) < (l.length : Int) := by omega
      clear HEQ
      go_wp2
      go_ret
      exact ⟨by first | rfl | (rw [e1]; rfl), H⟩
end Go.Proofs.YtodbmeklbamcfaaGreat

/- What a key has: the program's answer, the document's. -/
namespace Go.Proofs.YtodbmeklbamcfaaGreat
open Go.RowKit Go.Rt

def getE (l : List Pr) (k : Str) : Str × Bool := if checkS l = 0 then ((lookP l k).getD [], (lookP l k).isSome) else ([], false)
theorem get_bad {l : List Pr} (k : Str) (h : checkS l ≠ 0) : getE l k = ([], false) := by unfold getE; rw [if_neg h]
theorem get_none {l : List Pr} {k : Str} (h : lookP l k = none) : getE l k = ([], false) := by unfold getE; rw [h]; split <;> rfl
theorem get_some {l : List Pr} {k v : Str} (h : checkS l = 0) (hv : lookP l k = some v) : getE l k = (v, true) := by unfold getE; rw [if_pos h, hv]; rfl
theorem look_at_some {l : List Pr} (hl : RiseP l) {k v : Str} (h : lookP l k = some v) : l[atP l k]? = some ⟨k, v⟩ := by
  rw [look_atP hl] at h
  cases hp : l[atP l k]? with
  | none => rw [hp] at h; cases h
  | some p =>
    rw [hp] at h
    simp only [Option.bind_some] at h
    split at h
    · rename_i e
      cases p
      simp at h e
      subst h e; rfl
    · cases h
theorem checkS_len {l : List Pr} (h : checkS l = 0) : l.length ≤ 65536 := ((checkS_ok l).1 h).1

set_option maxRecDepth 100000 in
set_option maxHeartbeats 4000000 in
theorem cGet_any {W w : World} {L : List SL} (A : Option Addr) (c : Nat) (l : List Pr) (k : Str) (hl : l.length ≤ maxLen) (hr : RdL W L A (prC l)) (H : Sat W w L) :
    Calls Tryz.prog 246 #[.slice A l.length c, .string ⟨k.toArray⟩] w fun e w' => e = .returned (.tuple #[.string ⟨(getE l k).1.toArray⟩, .bool (getE l k).2]) ∧ Sat W w' L := by
  have hck := cChk_any A c l hl hr H
  by_cases h0 : checkS l = 0
  · have hlen := checkS_len h0
    rw [h0] at hck
    have HCK := Lib.hid (hck)
    have HF := Lib.hid (fun w0 (h : Sat W w0 L) => cfind_any A c l k hlen hr (checkS_rise h0) h)
    cases hlk : lookP l k with
    | none =>
      rw [hlk] at HF
      rw [get_none hlk]
      clear hck h0 hlk
      go_enter Tryz.func246, Tryz.ntmps246
      go_wp2_with fail
      refine (HCK.out).mono ?_
      rintro e w2 ⟨rfl, H2⟩
      go_wp2_with fail
      refine (HF.out _ H2).mono ?_
      rintro e w3 ⟨rfl, H3⟩
      go_wp2
      go_ret2
      exact ⟨rfl, H3⟩
    | some v =>
      rw [hlk] at HF
      have hat := look_at_some (checkS_rise h0) hlk
      rw [get_some h0 hlk]
      generalize atP l k = at_ at *
      have hlt := (List.getElem?_eq_some_iff.1 hat).1
      have HRD := Lib.hid (fun w0 (h : Sat W w0 L) => pr_cells (hr _ h) at_ ⟨k, v⟩ hat)
      clear hck h0 hlk hat
      go_enter Tryz.func246, Tryz.ntmps246
      go_wp2_with fail
      refine (HCK.out).mono ?_
      rintro e w2 ⟨rfl, H2⟩
      go_wp2_with fail
      refine (HF.out _ H2).mono ?_
      rintro e w3 ⟨rfl, H3⟩
      obtain ⟨b, o, rfl, c0, c1, _⟩ := HRD.out _ H3

      go_wp2
      go_ret2
      exact ⟨rfl, H3⟩
  · rw [get_bad k h0]
    have e1 : (checkS l != 0) = true := by simpa using h0
    generalize checkS l = C at *
    have HCK := Lib.hid (hck)
    clear hck h0
    go_enter Tryz.func246, Tryz.ntmps246
    go_wp2_with fail
    refine (HCK.out).mono ?_
    rintro e w2 ⟨rfl, H2⟩
    go_wp2
    go_ret2
    exact ⟨rfl, H2⟩

set_option maxRecDepth 100000 in
set_option maxHeartbeats 4000000 in
theorem qGet_any {W w : World} {L : List SL} (A : Option Addr) (c : Nat) (l : List Pr) (k : Str) (hl : l.length ≤ maxLen) (hr : RdL W L A (prC l)) (H : Sat W w L) :
    Calls Tryz.prog 200 #[.slice A l.length c, .string ⟨k.toArray⟩] w fun e w' => e = .returned (.tuple #[.string ⟨(getE l k).1.toArray⟩, .bool (getE l k).2]) ∧ Sat W w' L := by
  have HAT := Lib.hid (qat_any A c l k hl hr H)
  have hck := fun w0 (h : Sat W w0 L) => qChk_any A c l hl hr h
  have hle := atP_le l k
  by_cases h0 : checkS l = 0
  · have hrise := checkS_rise h0
    have hla := look_atP hrise k
    rw [h0] at hck
    have HCK := Lib.hid (hck)
    by_cases h1 : atP l k = l.length
    · rw [get_none (show lookP l k = none by rw [hla, List.getElem?_eq_none (by omega)]; rfl)]
      rw [h1] at HAT
      clear hck h0 hla h1 hle hrise
      go_enter Tryz.func200, Tryz.ntmps200
      go_wp2_with fail
      refine (HAT.out).mono ?_
      rintro e w2 ⟨rfl, H2⟩
      go_wp2_with fail
      refine (HCK.out _ H2).mono ?_
      rintro e w3 ⟨rfl, H3⟩
      go_wp2
      go_ret2
      exact ⟨rfl, H3⟩
    · have h2 : ((atP l k : Int) == (l.length : Int)) = false := beq_eq_false_iff_ne.2 (by omega)
      obtain ⟨p, hp⟩ : ∃ p, l[atP l k]? = some p := ⟨_, List.getElem?_eq_getElem (by omega)⟩
      have hlt : atP l k < l.length := by omega
      rw [hp] at hla
      simp only [Option.bind_some] at hla
      have h9 : getE l k = if p.k = k then (p.v, true) else ([], false) := by
        split at hla
        · rename_i e; rw [if_pos e]; exact get_some h0 hla
        · rename_i e; rw [if_neg e]; exact get_none hla
      rw [h9]
      generalize atP l k = at_ at *
      have HRD := Lib.hid (fun w0 (h : Sat W w0 L) => pr_cells (hr _ h) at_ p hp)
      clear hck h0 hla hp h1 hle hrise h9
      obtain ⟨pk, pv⟩ := p
      dsimp only at HRD ⊢
      by_cases h3 : pk = k
      · have h4 : (pk == k) = true := beq_yes h3
        rw [if_pos h3]
        clear h3
        go_enter Tryz.func200, Tryz.ntmps200
        go_wp2_with fail
        refine (HAT.out).mono ?_
        rintro e w2 ⟨rfl, H2⟩
        go_wp2_with fail
        refine (HCK.out _ H2).mono ?_
        rintro e w3 ⟨rfl, H3⟩
        obtain ⟨b, o, rfl, c0, c1, _⟩ := HRD.out _ H3
        go_wp2
        go_ret2
        exact ⟨rfl, H3⟩
      · have h4 : (pk == k) = false := beq_no h3
        rw [if_neg h3]
        clear h3
        go_enter Tryz.func200, Tryz.ntmps200
        go_wp2_with fail
        refine (HAT.out).mono ?_
        rintro e w2 ⟨rfl, H2⟩
        go_wp2_with fail
        refine (HCK.out _ H2).mono ?_
        rintro e w3 ⟨rfl, H3⟩
        obtain ⟨b, o, rfl, c0, c1, _⟩ := HRD.out _ H3
        go_wp2
        go_ret2
        exact ⟨rfl, H3⟩
  · rw [get_bad k h0]
    have e1 : (checkS l != 0) = true := by simpa using h0
    generalize checkS l = C at *
    have HCK := Lib.hid (hck)
    clear hck h0
    go_enter Tryz.func200, Tryz.ntmps200
    go_wp2_with fail
    refine (HAT.out).mono ?_
    rintro e w2 ⟨rfl, H2⟩
    go_wp2_with fail
    refine (HCK.out _ H2).mono ?_
    rintro e w3 ⟨rfl, H3⟩
    go_wp2
    go_ret2
    exact ⟨rfl, H3⟩
end Go.Proofs.YtodbmeklbamcfaaGreat
