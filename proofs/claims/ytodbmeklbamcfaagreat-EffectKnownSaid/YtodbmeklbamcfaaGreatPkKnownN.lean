/- A pack of texts: RtQ -/
import Derived.Test.YtodbmeklbamcfaaGreatPkKnownK
import Derived.Test.YtodbmeklbamcfaaGreatPkKnownG
import Derived.Shelf.GgSortFunc.InsertionK
/- A row of structs as the library's sort sees it, ahead of it and behind it. No program in sight. -/
namespace Go.Rt
open Go.RowKit Go.Proofs Go.Sort

theorem flatK_list {α : Type} [Inhabited α] (enc : α → List Value) (k : Nat) (hk : 0 < k) (h : ∀ x, (enc x).length = k) (d : Array α) : (flatK enc k d).toList = d.toList.flatMap enc := by
  have hfl : (d.toList.flatMap enc).length = d.size * k := by rw [Go.Rt.flat_len enc k d.toList (fun x _ => h x), Array.length_toList]
  apply List.ext_getElem?
  intro t
  by_cases ht : t < d.size * k
  · have hq : t / k < d.size := Nat.div_lt_of_lt_mul (by rw [Nat.mul_comm]; exact ht)
    have hr : t % k < k := Nat.mod_lt _ hk
    have hd : d.toList[t / k]? = some d[t / k]! := by rw [Array.getElem?_toList]; simp [hq]
    have h1 := Go.Rt.flat_at enc k d.toList (fun x _ => h x) (t / k) _ hd
    have h2 : (d.toList.flatMap enc)[t]? = (enc d[t / k]!)[t % k]? := by
      rw [← h1, List.getElem?_take_of_lt hr, List.getElem?_drop]
      congr 1
      rw [Nat.mul_comm]
      exact (Nat.div_add_mod t k).symm
    rw [h2, Array.getElem?_toList]
    have h3 : t % k < (enc d[t / k]!).length := by rw [h]; exact hr
    simp only [flatK]
    rw [Array.getElem?_map, Array.getElem?_range]
    simp only [ht, if_true, Option.map_some]
    rw [List.getElem?_eq_getElem h3, getElem!_pos (enc d[t / k]!) (t % k) h3]
  · rw [List.getElem?_eq_none (by simp; omega), List.getElem?_eq_none (by rw [hfl]; omega)]
section
variable {W w : World} {l : List SL} {e : TypeId} {zc : List Value}
theorem Sat.row_holds {g n c : Nat} {xs : List Value} (H : Sat W w (row e zc (.slice (some ⟨g, 0, none⟩) n c) n xs :: l)) (F : Array Value) (hF : F.toList = xs) : Holds id w g 0 F ∧ g < w.heap.size := by
  obtain ⟨_, h0, ⟨a0, r0, d0, rfl, ⟨hx0, hh0⟩, _⟩, hw0⟩ := id H
  rcases hh0 with ⟨hv, _⟩ | ⟨g', cap, cur, hv, hg, h1, h2, h3, h4, h5⟩
  · cases hv
  · cases hv
    have hb := (hw0 g _ (join_left hg)).2
    refine ⟨fun j hj => ⟨?_, by simp [World.frozen?, hb]⟩, (Array.getElem?_eq_some_iff.1 hb).1⟩
    have hj2 : j < n * zc.length := by rw [← hx0, ← hF, Array.length_toList]; exact hj
    have h6 : (cur.toList.take (n * zc.length))[j]? = F.toList[j]? := by rw [h4, hF]
    rw [List.getElem?_take_of_lt hj2, Array.getElem?_toList, Array.getElem?_toList] at h6
    simp only [World.cell?, hb, Nat.zero_add]
    simp only [Option.isSome_none, Bool.false_eq_true, if_false]
    rw [h6]
    simp [hj]
/-- Behind the sort: the same row, its things in another order. -/
theorem Sat.row_sortedK {α : Type} [Inhabited α] (enc : α → List Value) (hpos : 0 < zc.length) (hk : ∀ x, (enc x).length = zc.length) {g n c k : Nat} {os : Array Obj} {xs : List Value} (H : Sat W w (row e zc (.slice (some ⟨g, 0, none⟩) n c) n xs :: l)) (d : Array α) (hd : d.size = n) (hT : Typed zc (d.toList.flatMap enc)) :
    Sat W (sortWorldK enc zc.length w g 0 k d os) (row e zc (.slice (some ⟨g, 0, none⟩) n c) n (d.toList.flatMap enc) :: l) := by
  have e1 := flatK_list enc zc.length hpos hk d
  have := H.row_sorted (k := k) (os := os) (flatK enc zc.length d) (by rw [size_flatK, hd]) (by rw [e1]; exact hT)
  rw [e1] at this
  exact this
theorem Sat.row_holdsK {α : Type} [Inhabited α] (enc : α → List Value) (hpos : 0 < zc.length) (hk : ∀ x, (enc x).length = zc.length) {g n c : Nat} (ts : List α) (H : Sat W w (row e zc (.slice (some ⟨g, 0, none⟩) n c) n (ts.flatMap enc) :: l)) : HoldsK enc zc.length w g 0 ts.toArray ∧ g < w.heap.size :=
  H.row_holds _ (flatK_list enc zc.length hpos hk ts.toArray)
end
end Go.Rt
