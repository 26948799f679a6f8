import Derived.Test.YtnpgjobaibnknaaKpB
namespace Go.Proofs.Ytnpgjobaibnknaa

structure WSt (xs ys px mx py my : List Str) : Prop where
  hx : xs = px ++ mx
  hy : ys = py ++ my
  lt : ∀ y ∈ py, ∀ x ∈ mx, y < x
theorem WSt.start (xs ys : List Str) : WSt xs ys [] xs [] ys := ⟨rfl, rfl, fun y h => by cases h⟩
theorem WSt.skip {xs ys px mx py my : List Str} {x y : Str} (hr : Rise xs) (h : WSt xs ys px (x :: mx) py (y :: my)) (hl : y < x) : WSt xs ys px (x :: mx) (py ++ [y]) my := by
  refine ⟨h.hx, by rw [h.hy]; simp, fun z hz x' hx' => ?_⟩
  rcases List.mem_append.1 hz with hz | hz
  · exact h.lt z hz x' hx'
  · simp at hz
    subst hz
    rcases List.mem_cons.1 hx' with rfl | hx'
    · exact hl
    · have h1 : Rise (x :: mx) := by have := hr; rw [h.hx] at this; exact (List.pairwise_append.1 this).2.1
      exact str_trans hl ((List.pairwise_cons.1 h1).1 x' hx')
theorem WSt.step {xs ys px mx py my : List Str} {x : Str} (h : WSt xs ys px (x :: mx) py my) : WSt xs ys (px ++ [x]) mx py my :=
  ⟨by rw [h.hx]; simp, h.hy, fun y hy x' hx' => h.lt y hy x' (by simp [hx'])⟩
theorem WSt.has_none {xs ys px mx py : List Str} {x : Str} (h : WSt xs ys px (x :: mx) py []) : hasK ys x = false := by
  refine decide_eq_false fun hm => ?_
  rw [h.hy, List.append_nil] at hm
  exact str_irrefl x (h.lt x hm x (by simp))
theorem WSt.has_some {xs ys px mx py my : List Str} {x y : Str} (hr : Rise ys) (h : WSt xs ys px (x :: mx) py (y :: my)) (hl : ¬ y < x) : hasK ys x = decide (y = x) := by
  unfold hasK
  rw [decide_eq_decide]
  constructor
  · intro hm
    rw [h.hy] at hm
    rcases List.mem_append.1 hm with hm | hm
    · exact absurd (h.lt x hm x (by simp)) (str_irrefl x)
    · rcases List.mem_cons.1 hm with hm | hm
      · exact hm.symm
      · have h1 : Rise (y :: my) := by have := hr; rw [h.hy] at this; exact (List.pairwise_append.1 this).2.1
        exact absurd ((List.pairwise_cons.1 h1).1 x hm) hl
  · rintro rfl
    rw [h.hy]; simp
theorem WSt.done {xs ys px py my : List Str} (h : WSt xs ys px [] py my) : px = xs := by rw [h.hx, List.append_nil]
theorem filter_snoc (px : List Str) (x : Str) (p : Str → Bool) : (px ++ [x]).filter p = if p x then px.filter p ++ [x] else px.filter p := by
  rw [List.filter_append]
  cases h : p x <;> simp [h]
theorem hasK_sort (b : List Str) (k : Str) : hasK (sortS b) k = hasK b k := by unfold hasK; rw [decide_eq_decide, mem_sortS]
theorem walkS_eq (a b : List Str) (both : Bool) : walkS a b both = (sortS a).filter fun k => hasK (sortS b) k == both := by
  unfold walkS
  refine List.filter_congr fun x _ => ?_
  rw [hasK_sort]
end Go.Proofs.Ytnpgjobaibnknaa
