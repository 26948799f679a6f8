/- A law on copying into an array of bytes that the call owns. No program in sight. -/
import Derived.Test.YtnpgjobaibnknaaRtC
namespace Go.Rt
open Go.RowKit
section
variable {P : Program} {W w : World} {l : List SL}

theorem Sat.setPt {b : Nat} {c : Array Value} {t : TypeId} (H : Sat W w (pt b c t :: l)) (cur : Array Value) : Sat W (w.setRow b cur) (pt b cur t :: l) := by
  have hge := H.ge
  have hb : Below W.heap.size W (w.setRow b cur) := H.bel.trans ⟨rfl, rfl, rfl, by simp, fun k hk => setRow_other w b k _ (by omega)⟩
  refine H.put hb fun a ha hh => ⟨fun k => if k = b then some (.cells cur t (0, 0)) else none, by simp [pt], fun k hk => ?_, fun k o e => ?_, fun k hk _ => ?_⟩
  · by_cases e : k = b
    · subst e; left; have : a k = _ := ha; rw [this]; simp
    · simp [e] at hk
  · by_cases e1 : k = b
    · subst e1
      simp at e
      subst e
      have h1 := hh k _ ha
      exact ⟨h1.2, setRow_heap w k _ cur t _ h1.1⟩
    · simp [e1] at e
  · exact setRow_other w b k cur (by rintro rfl; have : a k = _ := ha; rw [this] at hk; cases hk)

/-- 'copy(a[:], s)' into an array of bytes. -/
theorem wp_copy_pt {o : Oper} {a : Act} {K : Act → World → Prop} {Q : Exit → Act → World → Prop} (d s : Operand) (dT sT : TypeId)
    (ho : o.op = .call { callee := .builtin .copy, args := #[d, s], argTypes := #[dT, sT] })
    (e : TypeId) (i : TypeInfo) (hu : P.underlying dT = some (.slice e)) (hi : P.info? e = some i) (hsize : i.size = 1)
    (g n : Nat) (cur : Array Value) (tag : TypeId) (hd : a.eval d = .slice (some ⟨g, 0, none⟩) n n) (hn : cur.size = n) (H : Sat W w (pt g cur tag :: l))
    (A : Option Addr) (m c' : Nat) (news : List Value) (hx : a.eval s = .slice A m c') (hl : news.length = m) (hr : Rd w A news) (h1 : ∀ u ∈ news, u.oneCell' = true) (hmn : m ≤ n)
    (h : ∀ w', Sat W w' (pt g (news ++ cur.toList.drop m).toArray tag :: l) → K (a.put o.dst (goInt m)) w') : o.wp P a w K Q := by
  have hg := H.heap
  have hmin : Nat.min m n = m := Nat.min_eq_left hmn
  have hf : (Builtin.firstCells i.size m (.slice A m c')).run P w = .ok news.toArray w := by
    cases A with
    | none =>
      have : news = [] := by
        cases news with
        | nil => rfl
        | cons x r => obtain ⟨_, _, h⟩ := hr.open (by simp); cases h
      subst this
      exact run_firstCells_none w _ _ _ _
    | some ad =>
      refine run_firstCells_some w i.size m ad m c' news (by rw [hsize]; omega) fun j u hu => ?_
      obtain ⟨b, o, h, hc⟩ := hr j u hu
      cases h
      unfold Addr.add
      split
      · rename_i hj; subst hj; simpa using hc
      · exact hc
  have hst := run_storeCells_at P g 0 tag news 0 cur w hg (by omega) h1
  simp only [Nat.add_zero, Nat.zero_add, List.take_zero, List.nil_append] at hst
  have hrun : (Builtin.copy_ #[dT, sT] o.type #[.slice (some ⟨g, 0, none⟩) n n, .slice A m c']).run P w = .ok (goInt m) (w.setRow g (news ++ cur.toList.drop m).toArray) := by
    subst hl
    simp [Builtin.copy_, run_underlying hu, Builtin.lenOf, sizeOf, typeInfo, hi, hmin, hf, hst]
  unfold Oper.wp execOp
  simp only [ho, resolve, invoke, builtin, Sem.run_bind, Sem.run_pure, Result.andThen_ok, List.map_toArray, List.map_cons, List.map_nil, hd, hx, hrun]
  exact h _ (H.setPt _)

theorem step_copy_pt {ops : Array Oper} {o : Oper} {a : Act} {K : Act → World → Prop} {Q : Exit → Act → World → Prop} {E : Prop} (hgd : o.guard = none) (d s : Operand) (dT sT : TypeId)
    (ho : o.op = .call { callee := .builtin .copy, args := #[d, s], argTypes := #[dT, sT] })
    (e : TypeId) (i : TypeInfo) (hu : P.underlying dT = some (.slice e)) (hi : P.info? e = some i) (hsize : i.size = 1)
    (g n : Nat) (cur : Array Value) (tag : TypeId) (hd : a.eval d = .slice (some ⟨g, 0, none⟩) n n) (hn : cur.size = n) (H : Sat W w (pt g cur tag :: l))
    (A : Option Addr) (m c' : Nat) (news : List Value) (hx : a.eval s = .slice A m c') (hl : news.length = m) (hr : Rd w A news) (h1 : ∀ u ∈ news, u.oneCell' = true) (hmn : m ≤ n)
    (h : ∀ w', Sat W w' (pt g (news ++ cur.toList.drop m).toArray tag :: l) → K (a.put o.dst (goInt m)) w') :
    if Region.wanted o (yielded ops a.tmps) = true then Oper.wp P o a w K Q else E := by
  have hw : Region.wanted o (yielded ops a.tmps) = true := by simp [Region.wanted, hgd]
  rw [if_pos hw]
  exact wp_copy_pt d s dT sT ho e i hu hi hsize g n cur tag hd hn H A m c' news hx hl hr h1 hmn h

set_option maxRecDepth 100000 in
/-- A variable of several cells is written at once. -/
theorem wpList_store_pt {ops : Array Oper} {rest : List Oper} {o : Oper} {a : Act} {Q : Exit → Act → World → Prop} (hg : o.guard = none) (hdst : o.dst = none) (x y : Operand) (t : TypeId) (hop : o.op = Op.store t x y)
    (g : Nat) (cur : Array Value) (tag : TypeId) (cs : List Value) (hsz : (P.info? t).map (·.size) = some cs.length) (hx : a.eval x = .pointer (some ⟨g, 0, none⟩)) (hy : a.eval y = .agg cs.toArray)
    (hn : cur.size = cs.length) (h1 : ∀ u ∈ cs, u.oneCell' = true) (H : Sat W w (pt g cur tag :: l)) (hK : ∀ w', Sat W w' (pt g cs.toArray tag :: l) → wpList P ops Q rest a w') : wpList P ops Q (o :: rest) a w := by
  refine wpList_plain hg fun K hK' => ?_
  have hgg := H.heap
  have hst := run_storeCells_at P g 0 tag cs 0 cur w hgg (by omega) h1
  simp only [Nat.add_zero, Nat.zero_add, List.take_zero, List.nil_append] at hst
  have hdr : cur.toList.drop cs.length = [] := List.drop_eq_nil_of_le (by simp [hn])
  rw [hdr, List.append_nil] at hst
  have hso : ∀ w, (sizeOf t).run P w = .ok cs.length w := fun w => by
    cases hi : P.info? t with
    | none => simp [hi] at hsz
    | some i => simp [hi] at hsz; simp [sizeOf, typeInfo, hi, Result.andThen, hsz]
  have hrun : (storeVar t ⟨g, 0, none⟩ (.agg cs.toArray)).run P w = .ok () (w.setRow g cs.toArray) := by
    simp [storeVar, Value.cells, hso, hst, Result.andThen]
  unfold Oper.wp
  simp [execOp, hop, hx, hy, Instr.storeAt, Instr.sureAddr, hrun, Result.andThen]
  refine hK' _ _ ?_
  rw [hdst]
  exact hK _ (H.setPt _)
end
end Go.Rt
