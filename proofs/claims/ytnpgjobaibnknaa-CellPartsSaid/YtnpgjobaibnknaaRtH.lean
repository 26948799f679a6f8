/- Laws: an element of several cells is stored in a slice; a number is appended where there is room; a slice's literal of several elements of several cells. No program in sight. -/
import Derived.Test.YtnpgjobaibnknaaRtG
import Derived.ArgAppend
namespace Go.Rt
open Go.RowKit
theorem flat_at {α : Type} (cs : α → List Value) (sz : Nat) (ts : List α) (h : ∀ x ∈ ts, (cs x).length = sz) (j : Nat) (x : α) (hj : ts[j]? = some x) : ((ts.flatMap cs).drop (j * sz)).take sz = cs x := by
  induction ts generalizing j with
  | nil => simp at hj
  | cons y ts ih =>
    have h1 := h y (by simp)
    have e : (y :: ts).flatMap cs = cs y ++ ts.flatMap cs := rfl
    cases j with
    | zero =>
      simp at hj; subst hj
      rw [e, Nat.zero_mul, List.drop_zero, List.take_left' h1]
    | succ j =>
      rw [e, List.drop_append, List.drop_eq_nil_of_le (by rw [h1, Nat.succ_mul]; omega), List.nil_append, h1]
      rw [show (j + 1) * sz - sz = j * sz by rw [Nat.succ_mul]; omega]
      exact ih (fun z hz => h z (by simp [hz])) j (by simpa using hj)
theorem flat_len {α : Type} (cs : α → List Value) (sz : Nat) (ts : List α) (h : ∀ x ∈ ts, (cs x).length = sz) : (ts.flatMap cs).length = ts.length * sz := by
  induction ts with
  | nil => simp
  | cons x ts ih =>
    have h1 := h x (by simp)
    rw [List.flatMap_cons, List.length_append, h1, ih fun z hz => h z (by simp [hz]), List.length_cons, Nat.succ_mul]
    omega
theorem rd_elem {α : Type} {w : World} {A : Option Addr} (cs : α → List Value) (sz : Nat) (h0 : 0 < sz) {ts : List α} (h : Rd w A (ts.flatMap cs)) (hts : ∀ x ∈ ts, (cs x).length = sz) (j : Nat) (x : α) (hj : ts[j]? = some x) :
    ∃ b o, A = some ⟨b, o, none⟩ ∧ Rd w (some ⟨b, o + j * sz, none⟩) (cs x) := by
  have h1 := flat_at cs sz ts hts j x hj
  have hx : ts.flatMap cs ≠ [] := by
    intro e
    rw [e] at h1
    have := hts x (List.mem_of_getElem? hj)
    rw [← h1] at this
    simp at this
    omega
  obtain ⟨b, o, rfl⟩ := h.open hx
  exact ⟨b, o, rfl, by rw [← h1]; exact (h.drop (j * sz)).take sz⟩

section
variable {P : Program} {W w : World} {l : List SL} {e : TypeId} {zc xs : List Value} {n c g : Nat}

theorem Sat.setEl (H : Sat W w (row e zc (.slice (some ⟨g, 0, none⟩) n c) n xs :: l)) (j : Nat) (hj : j < n) (cs : List Value) (hcs : cs.length = zc.length) (hty : Typed zc cs) :
    ∃ cur, w.heap[g]? = some (.cells cur e (0, 0)) ∧ cur.size = c * zc.length ∧ n ≤ c ∧ Sat W (w.setRow g (cur.toList.take (j * zc.length) ++ cs ++ cur.toList.drop (j * zc.length + zc.length)).toArray) (row e zc (.slice (some ⟨g, 0, none⟩) n c) n ((cur.toList.take (j * zc.length) ++ cs ++ cur.toList.drop (j * zc.length + zc.length)).take (n * zc.length)) :: l) := by
  obtain ⟨cur, hg, h1, h2, h3, h4, h5⟩ := H.row_blk
  have hm : (j + 1) * zc.length ≤ c * zc.length := Nat.mul_le_mul_right _ (by omega)
  rw [Nat.succ_mul] at hm
  have hcl : cur.toList.length = c * zc.length := by simpa using h3
  have hlt : (cur.toList.take (j * zc.length)).length = j * zc.length := by rw [List.length_take, hcl]; omega
  refine ⟨cur, hg, h3, h1, ?_⟩
  have hT : Typed zc (cur.toList.take (j * zc.length) ++ cs ++ cur.toList.drop (j * zc.length + zc.length)) := by
    refine Typed.append (Typed.append (Typed.take h5 _) hty (by rw [hlt]; exact Nat.mul_mod_left _ _)) (Typed.drop h5 _ ?_) ?_
    · rw [← Nat.succ_mul]; exact Nat.mul_mod_left _ _
    · rw [List.length_append, hlt, hcs, ← Nat.succ_mul]; exact Nat.mul_mod_left _ _
  have := H.setRow (cur.toList.take (j * zc.length) ++ cs ++ cur.toList.drop (j * zc.length + zc.length)).toArray n h1 (by simp only [List.size_toArray, List.length_append, hlt, hcs, List.length_drop, hcl]; omega) (by simpa using hT)
  simpa using this

set_option maxRecDepth 100000 in
/-- An element of several cells is written in a row: what it holds then, is told by its length alone. -/
theorem wpList_store_el {ops : Array Oper} {rest : List Oper} {o : Oper} {a : Act} {Q : Exit → Act → World → Prop} (hg : o.guard = none) (hdst : o.dst = none) (x y : Operand) (t : TypeId) (hop : o.op = Op.store t x y)
    (j : Nat) (hj : j < n) (cs : List Value) (hsz : (P.info? t).map (·.size) = some zc.length) (hcs : cs.length = zc.length) (hx : a.eval x = .pointer (some ⟨g, j * zc.length, none⟩)) (hy : a.eval y = .agg cs.toArray)
    (h1 : ∀ u ∈ cs, u.oneCell' = true) (hty : Typed zc cs) (H : Sat W w (row e zc (.slice (some ⟨g, 0, none⟩) n c) n xs :: l)) (hK : ∀ w' ys, Sat W w' (row e zc (.slice (some ⟨g, 0, none⟩) n c) n ys :: l) → wpList P ops Q rest a w') : wpList P ops Q (o :: rest) a w := by
  refine wpList_plain hg fun K hK' => ?_
  obtain ⟨cur, hgg, hcur, hnc, H'⟩ := H.setEl j hj cs hcs hty
  have hm : (j + 1) * zc.length ≤ c * zc.length := Nat.mul_le_mul_right _ (by omega)
  rw [Nat.succ_mul] at hm
  have hst := run_storeCells_at P g (j * zc.length) e cs 0 cur w hgg (by omega) h1
  simp only [Nat.add_zero, hcs] at hst
  have hso : ∀ w, (sizeOf t).run P w = .ok zc.length w := fun w => by
    cases hi : P.info? t with
    | none => simp [hi] at hsz
    | some i => simp [hi] at hsz; simp [sizeOf, typeInfo, hi, Result.andThen, hsz]
  have hrun : (storeVar t ⟨g, j * zc.length, none⟩ (.agg cs.toArray)).run P w = .ok () (w.setRow g (cur.toList.take (j * zc.length) ++ cs ++ cur.toList.drop (j * zc.length + zc.length)).toArray) := by
    simp [storeVar, Value.cells, hso, hst, Result.andThen, hcs]
  unfold Oper.wp
  simp [execOp, hop, hx, hy, Instr.storeAt, Instr.sureAddr, hrun, Result.andThen]
  refine hK' _ _ ?_
  rw [hdst]
  exact hK _ _ (by simpa using H')

set_option maxRecDepth 100000 in
/-- A number is appended to a slice of a variable's cells, in which there is room. -/
theorem wpList_append_room {ops : Array Oper} {rest : List Oper} {o : Oper} {a : Act} {Q : Exit → Act → World → Prop} (hg : o.guard = none) (s x : Operand) (t : TypeId) (hop : o.op = Op.call { callee := Callee.builtin Builtin.append, args := #[s, x], argTypes := #[t, t] })
    (el : TypeId) (i : TypeInfo) (ht : P.underlying t = some (.slice el)) (hi : P.info? el = some i) (hsize : i.size = 1) (cur : Array Value) (tag : TypeId) (hs : a.eval s = .slice (some ⟨g, 0, none⟩) n c) (hn : n < c) (hc : c ≤ cur.size)
    (A : Option Addr) (c' : Nat) (v : Value) (hx : a.eval x = .slice A 1 c') (hr : Rd w A [v]) (h1 : v.oneCell' = true) (H : Sat W w (pt g cur tag :: l))
    (hK : ∀ w', Sat W w' (pt g (cur.setIfInBounds n v) tag :: l) → wpList P ops Q rest (a.put o.dst (.slice (some ⟨g, 0, none⟩) (n + 1) c)) w') : wpList P ops Q (o :: rest) a w := by
  refine wpList_plain hg fun K hK' => ?_
  obtain ⟨b, off, rfl⟩ := hr.open (by simp)
  have hcell : (w.cell? ⟨g, n, none⟩).isSome = true := by rw [H.cell]; simp; omega
  have hfro := H.frz n
  have hrun := run_append_room_cells (P := P) w t o.type el i ht hi g 0 n c ⟨b, off, none⟩ 1 c' [v] (by simp [hsize]) (fun j u hj => by rw [Addr.add_lit]; exact hr.at j hj) (by simpa using h1) (by omega)
    (fun j hj => by simp at hj; subst hj; simpa [hsize] using hcell) (fun j hj => by simp at hj; subst hj; simpa [hsize] using hfro)
  have hw : w.setCells g (0 + n * i.size) [v] = w.setCell ⟨g, n, none⟩ v := by rw [hsize, Nat.zero_add, Nat.mul_one]; rfl
  rw [hw] at hrun
  unfold Oper.wp
  simp [execOp, hop, resolve, invoke, builtin, hs, hx, hrun, Result.andThen]
  exact hK' _ _ (hK _ (H.setCell n v))
end
end Go.Rt
