/- A new slice that is only read, written at a place; its tail cleared. No program in sight. -/
import Derived.Test.YtnpgjobaibnknaaRtJ
import Derived.Test.YtnpgjobaibnknaaRtG
import Derived.Lib.SliceRun
namespace Go.Rt
open Go.RowKit
section
variable {P : Program} {W w : World} {l : List SL} {e : TypeId} {g c : Nat} {xs : List Value}
theorem Sat.seen_blk {n : Nat} (H : Sat W w (Go.Rt.seenS e (.slice (some ⟨g, 0, none⟩) n c) xs :: l)) :
    ∃ cur, w.heap[g]? = some (.cells cur e (0, 0)) ∧ n = xs.length ∧ xs.length ≤ c ∧ c ≤ maxLen ∧ cur.size = c ∧ cur.toList.take xs.length = xs ∧ W.heap.size ≤ g := by
  obtain ⟨_, h, ⟨a, r, d, rfl, ha, _⟩, hh⟩ := H
  rcases ha with ⟨hv, _⟩ | ⟨g', cap, cur, hv, hg, h1, h2, h3, h4⟩
  · cases hv
  · cases hv
    exact ⟨cur, (hh g _ (join_left hg)).2, rfl, h1, h2, h3, h4, (hh g _ (join_left hg)).1⟩
theorem Sat.seen_setRow {n : Nat} (H : Sat W w (Go.Rt.seenS e (.slice (some ⟨g, 0, none⟩) n c) xs :: l)) (cur : Array Value) (hs : cur.size = c) (ys : List Value) (hy : ys.length ≤ c) (ht : cur.toList.take ys.length = ys) :
    Sat W (w.setRow g cur) (Go.Rt.seenS e (.slice (some ⟨g, 0, none⟩) ys.length c) ys :: l) := by
  obtain ⟨cur1, hw1, _, _, hcm, _, _, hge⟩ := H.seen_blk
  have hb : Below W.heap.size W (w.setRow g cur) := H.bel.trans ⟨rfl, rfl, rfl, by simp, fun k hk => setRow_other w g k _ (by omega)⟩
  refine H.put hb fun a ha hh => ?_
  rcases ha with ⟨hv, _⟩ | ⟨g', cap, cur0, hv, hg, h1, h2, h3, h4⟩
  · cases hv
  · cases hv
    have hw := (hh g _ hg).1
    refine ⟨fun k => if k = g then some (.cells cur e (0, 0)) else none, .inr ⟨g, c, cur, rfl, by simp, hy, h2, hs, ht⟩, fun k hk => ?_, fun k o ek => ?_, fun k hk _ => ?_⟩
    · by_cases e1 : k = g
      · subst e1; left; rw [hg]; simp
      · simp [e1] at hk
    · by_cases e1 : k = g
      · subst e1
        simp at ek
        subst ek
        exact ⟨hge, setRow_heap w k _ cur e _ hw⟩
      · simp [e1] at ek
    · exact setRow_other w g k cur (by rintro rfl; rw [hg] at hk; cases hk)
theorem Sat.seen_set {n : Nat} (H : Sat W w (Go.Rt.seenS e (.slice (some ⟨g, 0, none⟩) n c) xs :: l)) (j : Nat) (u : Value) : Sat W (w.setCell ⟨g, j, none⟩ u) (Go.Rt.seenS e (.slice (some ⟨g, 0, none⟩) n c) (xs.set j u) :: l) := by
  obtain ⟨cur, hg, rfl, h1, h2, h3, h4, _⟩ := H.seen_blk
  rw [setCell_eq_setRow w g j cur e (0, 0) u hg]
  have := H.seen_setRow (cur.setIfInBounds j u) (by simpa using h3) (xs.set j u) (by rw [List.length_set]; exact h1) (by rw [List.length_set, Array.toList_setIfInBounds, List.take_set, h4])
  rwa [List.length_set] at this
theorem Sat.seen_frz {n : Nat} (H : Sat W w (Go.Rt.seenS e (.slice (some ⟨g, 0, none⟩) n c) xs :: l)) (j : Nat) : w.frozen? ⟨g, j, none⟩ = false := by
  obtain ⟨cur, hg, _⟩ := H.seen_blk
  simp [World.frozen?, hg]
theorem Sat.seen_at {n : Nat} (H : Sat W w (Go.Rt.seenS e (.slice (some ⟨g, 0, none⟩) n c) xs :: l)) (j : Nat) {u : Value} (hu : xs[j]? = some u) : w.cell? ⟨g, j, none⟩ = some u := by
  have := H.seen_rd.at j hu
  rwa [Nat.zero_add] at this
theorem Sat.seen_some {A : Option Addr} {n : Nat} (H : Sat W w (Go.Rt.seenS e (.slice A n c) xs :: l)) (hn : 0 < n) : ∃ g, A = some ⟨g, 0, none⟩ := by
  obtain ⟨_, h, ⟨a, r, d, rfl, ha, _⟩, hh⟩ := H
  rcases ha with ⟨hv, _⟩ | ⟨g', cap, cur, hv, _⟩
  · cases hv; omega
  · cases hv; exact ⟨g', rfl⟩

set_option maxRecDepth 100000 in
theorem wpList_clear_seen {ops : Array Oper} {rest : List Oper} {o : Oper} {a : Act} {Q : Exit → Act → World → Prop} (hg : o.guard = none) (hdst : o.dst = none) (x : Operand) (t : TypeId) (hop : o.op = Op.call { callee := Callee.builtin Builtin.clear, args := #[x], argTypes := #[t] })
    (z : Value) (ht : P.underlying t = some (.slice e)) (hv : ∀ w, (zeroValue e).run P w = .ok z w) (hz : z.cells = #[z]) (h1 : z.oneCell' = true) (i n : Nat) (hi : i < n) (hx : a.eval x = .slice (subA (some ⟨g, 0, none⟩) c i) (n - i) (c - i))
    (H : Sat W w (Go.Rt.seenS e (.slice (some ⟨g, 0, none⟩) n c) xs :: l)) (hK : ∀ w', Sat W w' (Go.Rt.seenS e (.slice (some ⟨g, 0, none⟩) i c) (xs.take i) :: l) → wpList P ops Q rest a w') : wpList P ops Q (o :: rest) a w := by
  refine wpList_plain hg fun K hK' => ?_
  obtain ⟨cur, hgg, rfl, h2, h3, h4, h5, _⟩ := H.seen_blk
  have hA : subA (some (⟨g, 0, none⟩ : Addr)) c i = some ⟨g, i, none⟩ := by
    unfold subA
    rw [if_neg (by omega)]
    simp only [Option.map_some, Option.some.injEq]
    unfold Addr.add
    split
    · rename_i h0; subst h0; rfl
    · simp
  rw [hA] at hx
  have hzc : (Builtin.zeroCells z.cells (xs.length - i)).toList = List.replicate (xs.length - i) z := by
    rw [hz]
    simp [Builtin.zeroCells]
    apply List.ext_getElem
    · simp
    · intro i h1 h2
      simp [Nat.mod_one]
  have hst := run_storeCells_at P g i e (List.replicate (xs.length - i) z) 0 cur w hgg (by simp; omega) (by intro v hv'; rw [List.eq_of_mem_replicate hv']; exact h1)
  simp only [Nat.add_zero, List.length_replicate] at hst
  have hcl : cur.toList.length = c := by simpa using h4
  have H2 := H.seen_setRow (cur.toList.take i ++ List.replicate (xs.length - i) z ++ cur.toList.drop (i + (xs.length - i))).toArray (by simp only [List.size_toArray, List.length_append, List.length_take, List.length_replicate, List.length_drop, hcl]; omega) (xs.take i) (by rw [List.length_take]; omega) (by
    rw [List.length_take, Nat.min_eq_left (Nat.le_of_lt hi), List.append_assoc, List.take_append_of_le_length (by rw [List.length_take, hcl]; omega), List.take_take, Nat.min_self, ← h5, List.take_take, Nat.min_eq_left (by omega)])
  rw [List.length_take, Nat.min_eq_left (Nat.le_of_lt hi)] at H2
  have hrun : ∀ ty, (Builtin.clear_ #[t] ty #[.slice (some ⟨g, i, none⟩) (xs.length - i) (c - i)]).run P w = .ok (.tuple #[]) (w.setRow g (cur.toList.take i ++ List.replicate (xs.length - i) z ++ cur.toList.drop (i + (xs.length - i))).toArray) := fun ty => by
    obtain ⟨m, hm⟩ : ∃ m, xs.length - i = m + 1 := ⟨xs.length - i - 1, by omega⟩
    rw [hm] at hzc hst ⊢
    simp [Builtin.clear_, run_underlying ht, hv, hzc, hst]
  unfold Oper.wp
  simp [execOp, hop, resolve, invoke, builtin, hx, hrun, Result.andThen]
  refine hK' _ _ ?_
  rw [hdst]
  exact hK _ (by simpa using H2)
end
end Go.Rt
