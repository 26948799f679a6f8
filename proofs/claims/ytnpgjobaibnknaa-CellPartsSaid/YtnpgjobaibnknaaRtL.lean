/- A new slice of texts, written at a place; its tail cleared. No program in sight. -/
import Derived.Test.YtnpgjobaibnknaaRtJ
import Derived.Test.YtnpgjobaibnknaaRtG
import Derived.Lib.SliceRun
namespace Go.Rt
open Go.RowKit
section
variable {P : Program} {W w : World} {l : List SL} {e : TypeId} {g c n : Nat} {xs : List Value}
theorem Sat.seen_set (H : Sat W w (seenS e (.slice (some ⟨g, 0, none⟩) n c) n xs :: l)) (j : Nat) (hj : j < n) (u : Value) : Sat W (w.setCell ⟨g, j, none⟩ u) (seenS e (.slice (some ⟨g, 0, none⟩) n c) n (xs.set j u) :: l) := by
  obtain ⟨cur, hg, h1, h2, h3, h4, h5⟩ := H.new_blk
  simp only [List.length_cons, List.length_nil, Nat.zero_add, Nat.mul_one] at h3 h4 h5
  rw [setCell_eq_setRow w g j cur e (0, 0) u hg]
  have := H.new_setRow (cur.setIfInBounds j u) n h1 (by simpa using h3) (by
    simp only [List.length_cons, List.length_nil, Nat.zero_add, Nat.mul_one]
    rw [Array.toList_setIfInBounds, List.drop_set_of_lt hj]
    exact h5)
  simp only [List.length_cons, List.length_nil, Nat.zero_add, Nat.mul_one] at this
  rwa [Array.toList_setIfInBounds, List.take_set, h4] at this
theorem Sat.seen_frz (H : Sat W w (seenS e (.slice (some ⟨g, 0, none⟩) n c) n xs :: l)) (j : Nat) : w.frozen? ⟨g, j, none⟩ = false := by
  obtain ⟨cur, hg, _⟩ := H.new_blk
  simp [World.frozen?, hg]
theorem Sat.seen_at (H : Sat W w (seenS e (.slice (some ⟨g, 0, none⟩) n c) n xs :: l)) (j : Nat) {u : Value} (hu : xs[j]? = some u) : w.cell? ⟨g, j, none⟩ = some u := by
  have := H.new_rd.at j hu
  rwa [Nat.zero_add] at this

set_option maxRecDepth 100000 in
theorem wpList_clear_seen {ops : Array Oper} {rest : List Oper} {o : Oper} {a : Act} {Q : Exit → Act → World → Prop} (hg : o.guard = none) (hdst : o.dst = none) (x : Operand) (t : TypeId) (hop : o.op = Op.call { callee := Callee.builtin Builtin.clear, args := #[x], argTypes := #[t] })
    (ht : P.underlying t = some (.slice e)) (hv : ∀ w, (zeroValue e).run P w = .ok (.string ⟨#[]⟩) w) (i : Nat) (hi : i < n) (hx : a.eval x = .slice (subA (some ⟨g, 0, none⟩) c i) (n - i) (c - i))
    (H : Sat W w (seenS e (.slice (some ⟨g, 0, none⟩) n c) n xs :: l)) (hK : ∀ w', Sat W w' (seenS e (.slice (some ⟨g, 0, none⟩) i c) i (xs.take i) :: l) → wpList P ops Q rest a w') : wpList P ops Q (o :: rest) a w := by
  refine wpList_plain hg fun K hK' => ?_
  obtain ⟨cur, hgg, h1, h2, h3, h4, h5⟩ := H.new_blk
  simp only [List.length_cons, List.length_nil, Nat.zero_add, Nat.mul_one] at h3 h4 h5
  have hA : subA (some (⟨g, 0, none⟩ : Addr)) c i = some ⟨g, i, none⟩ := by
    unfold subA
    rw [if_neg (by omega)]
    simp only [Option.map_some, Option.some.injEq]
    unfold Addr.add
    split
    · rename_i h0; subst h0; rfl
    · simp
  rw [hA] at hx
  have hzc : (Builtin.zeroCells (Value.string ⟨#[]⟩).cells (n - i)).toList = List.replicate (n - i) (Value.string ⟨#[]⟩) := by
    simp [Builtin.zeroCells, Value.cells]
    apply List.ext_getElem
    · simp
    · intro i h1 h2
      simp [Nat.mod_one]
  have hst := run_storeCells_at P g i e (List.replicate (n - i) (Value.string ⟨#[]⟩)) 0 cur w hgg (by simp; omega) (by intro v hv'; rw [List.eq_of_mem_replicate hv']; rfl)
  simp only [Nat.add_zero, List.length_replicate] at hst
  have hcl : cur.toList.length = c := by simpa using h3
  have hti : (cur.toList.take i).length = i := by rw [List.length_take]; omega
  have H2 := H.new_setRow (cur.toList.take i ++ List.replicate (n - i) (Value.string ⟨#[]⟩) ++ cur.toList.drop (i + (n - i))).toArray i (by omega) (by simp only [List.size_toArray, List.length_append, List.length_take, List.length_replicate, List.length_drop, hcl]; simp only [List.length_cons, List.length_nil, Nat.zero_add, Nat.mul_one]; omega) (by
    simp only [List.length_cons, List.length_nil, Nat.zero_add, Nat.mul_one]
    rw [List.append_assoc, List.drop_append_of_le_length (by omega), List.drop_of_length_le (by omega), List.nil_append]
    refine Zeros.append (fun j u hu => ?_) (by rw [show i + (n - i) = n by omega]; exact h5) (by simp [Nat.mod_one])
    rw [List.eq_of_mem_replicate (List.mem_of_getElem? hu)]
    simp [Nat.mod_one])
  simp only [List.length_cons, List.length_nil, Nat.zero_add, Nat.mul_one] at H2
  have e9 : (cur.toList.take i ++ List.replicate (n - i) (Value.string ⟨#[]⟩) ++ cur.toList.drop (i + (n - i))).take i = xs.take i := by
    rw [List.append_assoc, List.take_append_of_le_length (by omega), List.take_take, Nat.min_self, ← h4, List.take_take, Nat.min_eq_left (by omega)]
  rw [e9] at H2
  have hrun : ∀ ty, (Builtin.clear_ #[t] ty #[.slice (some ⟨g, i, none⟩) (n - i) (c - i)]).run P w = .ok (.tuple #[]) (w.setRow g (cur.toList.take i ++ List.replicate (n - i) (Value.string ⟨#[]⟩) ++ cur.toList.drop (i + (n - i))).toArray) := fun ty => by
    obtain ⟨m, hm⟩ : ∃ m, n - i = m + 1 := ⟨n - i - 1, by omega⟩
    rw [hm] at hzc hst ⊢
    simp [Builtin.clear_, run_underlying ht, hv, hzc, hst]
  unfold Oper.wp
  simp [execOp, hop, resolve, invoke, builtin, hx, hrun, Result.andThen]
  refine hK' _ _ ?_
  rw [hdst]
  exact hK _ (by simpa using H2)
end
end Go.Rt
