/- A new slice that is only read: its cells are known, its spare room is not. No program in sight. -/
import Derived.Test.YtnpgjobaibnknaaRtI
namespace Go.Rt
open Go.RowKit

/-- A slice of one-cell elements in a block of the call's own: what it holds up to its length. -/
def seenS (e : TypeId) (v : Value) (xs : List Value) : SL := fun h =>
  (v = .slice none 0 0 ∧ xs = []) ∨ ∃ g cap cur, v = .slice (some ⟨g, 0, none⟩) xs.length cap ∧ h g = some (.cells cur e (0, 0)) ∧ xs.length ≤ cap ∧ cap ≤ maxLen ∧ cur.size = cap ∧ cur.toList.take xs.length = xs
section
variable {W w w' : World} {l : List SL} {e : TypeId} {v : Value} {n : Nat} {xs : List Value}
theorem Sat.addSeen (H : Sat W w l) (hb : Below w.heap.size w w') (hrow : w'.ownsRow w.heap.size e 1 v n xs) : Sat W w' (seenS e v xs :: l) := by
  obtain ⟨hx, hh⟩ := hrow
  rw [Nat.mul_one] at hx
  subst hx
  rcases hh with ⟨rfl, h0⟩ | ⟨g, cap, cur, rfl, hge, hg, h1, h2, h3, h4⟩
  · obtain rfl := List.eq_nil_of_length_eq_zero h0
    exact H.add (a := fun _ => none) w' hb (.inl ⟨rfl, rfl⟩) fun _ _ h => by cases h
  · refine H.add (a := fun k => if k = g then some (.cells cur e (0, 0)) else none) w' hb (.inr ⟨g, cap, cur, rfl, by simp, h1, h2, by simpa using h3, by simpa using h4⟩) fun k o h => ?_
    by_cases hk : k = g
    · subst hk
      simp at h
      subst h
      exact ⟨hge, hg⟩
    · simp [hk] at h
theorem Sat.seenS (H : Sat W w (Go.Rt.seenS e v xs :: l)) : ∃ A c, v = .slice A xs.length c ∧ xs.length ≤ c ∧ c ≤ maxLen ∧ Rd w A xs := by
  obtain ⟨_, h, ⟨a, r, d, rfl, ha, _⟩, hh⟩ := H
  rcases ha with ⟨rfl, rfl⟩ | ⟨g, cap, cur, rfl, hg, h1, h2, h3, h4⟩
  · exact ⟨none, 0, rfl, Nat.le_refl _, by simp [maxLen], Rd.nil _ _⟩
  · refine ⟨_, cap, rfl, h1, h2, fun j u hu => ⟨g, 0, rfl, ?_⟩⟩
    have hw := (hh g _ (join_left hg)).2
    have hj : j < xs.length := (List.getElem?_eq_some_iff.1 hu).1
    rw [← h4, List.getElem?_take, if_pos hj] at hu
    simp [World.cell?, hw]
    simpa using hu
theorem Sat.seen_rd {A : Option Addr} {m c : Nat} (H : Sat W w (Go.Rt.seenS e (.slice A m c) xs :: l)) : Rd w A xs := by
  obtain ⟨A', c', hv, _, _, hr⟩ := H.seenS
  cases hv
  exact hr
theorem RdL.seenS {A : Option Addr} {m c : Nat} : RdL W (Go.Rt.seenS e (.slice A m c) xs :: l) A xs := fun _ H => H.seen_rd
end
end Go.Rt
