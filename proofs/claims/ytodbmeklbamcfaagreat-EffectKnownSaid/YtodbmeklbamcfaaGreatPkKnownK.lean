/- A pack of texts: RtM, RtP -/
import Derived.Test.YtodbmeklbamcfaaGreatPkKnownG
import Derived.RangeFuncFrom
import Derived.OwnWalkIn
import Derived.Sort.OwnSorted
/- What a call owns, where a function is ranged over; append inside a fence; a row of texts, sorted. No program in sight. -/
namespace Go.Rt
open Go.RowKit Go.Proofs Go.Sort

/-- A part of memory without a place. -/
def Hp.but (h : Hp) (r : Nat) : Hp := fun k => if k = r then none else h k
/-- It speaks of cells alone. -/
def Cellish (A : SL) : Prop := ∀ (h : Hp) (r : Nat), (∀ o, h r = some o → o.isCells = false) → A h → A (h.but r)
theorem Cellish.pt (b : Nat) (c : Array Value) (t : TypeId) : Cellish (pt b c t) := fun h r hr ha => by
  unfold Go.Rt.pt at ha ⊢
  unfold Hp.but
  split
  · rename_i e
    subst e
    exact absurd (hr _ ha) (by simp [Obj.isCells])
  · exact ha
theorem Cellish.row (e : TypeId) (zc : List Value) (v : Value) (n : Nat) (xs : List Value) : Cellish (row e zc v n xs) := fun h r hr ha => by
  obtain ⟨hx, ha⟩ := ha
  refine ⟨hx, ?_⟩
  rcases ha with ha | ⟨g, cap, cur, hv, hg, rest⟩
  · exact .inl ha
  · exact .inr ⟨g, cap, cur, hv, Cellish.pt g cur e h r hr hg, rest⟩
theorem Cellish.new (e : TypeId) (zc : List Value) (v : Value) (n : Nat) (xs : List Value) : Cellish (newS e zc v n xs) := fun h r hr ha => by
  obtain ⟨hx, ha⟩ := ha
  refine ⟨hx, ?_⟩
  rcases ha with ha | ⟨g, cap, cur, hv, hg, rest⟩
  · exact .inl ha
  · exact .inr ⟨g, cap, cur, hv, Cellish.pt g cur e h r hr hg, rest⟩
theorem Cellish.own : ∀ (l : List SL), (∀ A ∈ l, Cellish A) → Cellish (Own l)
  | [], _ => fun _ _ _ _ => trivial
  | A :: l, hl => fun h r hr ho => by
    obtain ⟨a, b, hab, rfl, ha, hb⟩ := ho
    have ea : ∀ o, a r = some o → o.isCells = false := fun o e => hr o (by simp [Hp.join, e])
    have eb : ∀ o, b r = some o → o.isCells = false := fun o e => hr o (by rcases hab r with h | h <;> simp_all [Hp.join])
    refine ⟨a.but r, b.but r, fun k => ?_, ?_, hl A (by simp) a r ea ha, Cellish.own l (fun B hB => hl B (by simp [hB])) b r eb hb⟩
    · unfold Hp.but
      split
      · exact .inl rfl
      · exact hab k
    · funext k
      by_cases e1 : k = r <;> simp [Hp.but, Hp.join, e1]
section
variable {P : Program} {W w w' : World} {l : List SL} {e : TypeId} {zc : List Value} {v : Value} {n : Nat} {xs : List Value}
theorem Sat.turned (H : Sat W w l) (hl : ∀ A ∈ l, Cellish A) {row : Option Nat} (hg : w.grownBy w' row) (hr : ∀ r, row = some r → W.heap.size ≤ r ∧ ∃ o : Obj, w.heap[r]? = some o ∧ o.isCells = false) : Sat W w' l := by
  refine ⟨H.bel.grown hg H.bel.size fun k ek => (hr k ek).1, ?_⟩
  obtain ⟨h, ho, hh⟩ := H.has
  cases row with
  | none => exact ⟨h, ho, fun k o ek => ⟨(hh k o ek).1, by rw [hg.block k (Array.getElem?_eq_some_iff.1 (hh k o ek).2).1 (by simp)]; exact (hh k o ek).2⟩⟩
  | some r =>
    obtain ⟨_, o1, hr1, hr2⟩ := hr r rfl
    refine ⟨h.but r, Cellish.own l hl h r (fun o ek => ?_) ho, fun k o ek => ?_⟩
    · have := (hh r o ek).2
      rw [hr1] at this
      cases this
      exact hr2
    · unfold Hp.but at ek
      split at ek
      · cases ek
      · rename_i hne
        exact ⟨(hh k o ek).1, by rw [hg.block k (Array.getElem?_eq_some_iff.1 (hh k o ek).2).1 (by simpa using fun e => hne e)]; exact (hh k o ek).2⟩
/-- What the call owns is apart from what was owned ahead of it. -/
theorem Sat.joined {A : SL} (H : Sat W w l) (H2 : Sat w w' [A]) : Sat W w' (A :: l) := by
  obtain ⟨h, ⟨a, b, _, rfl, ha, _⟩, hh⟩ := H2.has
  exact H.add w' H2.bel ha fun k o ek => hh k o (by simp [Hp.join, ek])
theorem Sat.earlier {W0 : World} (H : Sat W w l) (hb : Below W0.heap.size W0 W) : Sat W0 w l := by
  obtain ⟨h, ho, hh⟩ := H.has
  exact ⟨hb.trans (H.bel.mono hb.size), h, ho, fun k o ek => ⟨Nat.le_trans hb.size (hh k o ek).1, (hh k o ek).2⟩⟩
theorem wpListIn_append_new {F : Fence} {m0 : Nat} {ops : Array Oper} {rest : List Oper} {o : Oper} {a : Act} {Q : Exit → Act → World → Prop} (hgd : o.guard = none) (s x : Operand) (t : TypeId)
    (ho : o.op = .call { callee := .builtin .append, args := #[s, x], argTypes := #[t, t] })
    (e : TypeId) (i : TypeInfo) (z : Value) (zc : List Value) (bytes : Nat) (ht : P.underlying t = some (.slice e)) (hi : P.info? e = some i) (hz : i.zero = some z) (hzc : z.cells = zc.toArray)
    (hsize : i.size = zc.length) (hby : i.bytes = bytes) (hpos : 0 < zc.length)
    (v : Value) (n : Nat) (xs : List Value) (hs : a.eval s = v) (H : Sat W w (newS e zc v n xs :: l))
    (A : Addr) (m c : Nat) (news : List Value) (hx : a.eval x = .slice (some A) m c) (hl : news.length = m * zc.length) (hr : Rd w (some A) news) (hc : ∀ j u, news[j]? = some u → w.cell? (A.add j) = some u) (h1 : ∀ u ∈ news, u.oneCell' = true)
    (h63 : n + m ≤ maxLen) (hbytes : (n + m) * bytes ≤ 140737488355328)
    (h : ∀ A' c' w', Sat W w' (newS e zc (.slice A' (n + m) c') (n + m) (xs ++ news) :: l) → KeepsOthers w w' → wpListIn F m0 P ops Q rest (a.put o.dst (.slice A' (n + m) c')) w') : wpListIn F m0 P ops Q (o :: rest) a w := by
  subst hby
  refine wpListIn_plain hgd fun K hK' => ?_
  obtain ⟨A', c', w', hrun, H'⟩ := run_append_new (P := P) t o.type e i z zc ht hi hz hzc hsize hpos v n xs H (some A) m c news hl hr h1 h63 hbytes
  obtain ⟨v2, w2, hrun2, _, hg, _⟩ := run_append_own (P := P) w W.heap.size t o.type e i z zc.length i.bytes ht hi hz hsize rfl (by rw [hzc]; simp) hpos v n xs H.new_owns A m c news hl hc h1 h63 hbytes H.bel.size
  rw [hrun] at hrun2
  cases hrun2
  have hko : KeepsOthers w w' := KeepsOthers.of_grownBy hg fun j o1 hj ho1 => by
    rcases H.new_owns.2 with ⟨hv, _⟩ | ⟨g, cap, cur, hv, _, hgb, _⟩
    · rw [hv] at hj; cases hj
    · rw [hv] at hj
      have : g = j := by simpa [Value.ownBlock] using hj
      subst this
      rw [hgb] at ho1; cases ho1; rfl
  unfold Oper.wpIn
  refine ⟨?_, ?_⟩
  · simp [Oper.about, ho, resolve, Target.leads, Sem.run_pure]
  · rw [Oper.semAt_plain F _ _ (by rw [ho]; intro c hc'; cases hc')]
    simp [execOp, ho, resolve, invoke, builtin, hs, hx, hrun, Result.andThen]
    exact hK' _ _ (h A' c' w' H' hko)
/-- A slice of texts behind the sort. -/
theorem Sat.new_sorted {g n c k : Nat} {os : Array Obj} {ss ts : List (List UInt8)} (H : Sat W w (seenS e (.slice (some ⟨g, 0, none⟩) n c) n (ss.map encStr) :: l)) (hl : ts.length = ss.length) :
    Sat W (grow (putRow encStr (Sort.ahead w k) g 0 ts.toArray) os) (seenS e (.slice (some ⟨g, 0, none⟩) n c) n (ts.map encStr) :: l) := by
  obtain ⟨hx, hh⟩ := H.new_owns
  simp only [List.length_cons, List.length_nil, Nat.zero_add, Nat.mul_one, List.length_map] at hx hh
  have hgb := grownBy_sorted (w := w) (g := g) (n := k) (os := os) ts.toArray
  have hge : W.heap.size ≤ g := by
    rcases hh with ⟨hv, _⟩ | ⟨g', _, _, hv, hge, _⟩
    · cases hv
    · cases hv; exact hge
  refine H.put (H.bel.grown hgb H.bel.size fun j ej => by cases ej; exact hge) fun a ha hown => ?_
  obtain ⟨_, ha⟩ := ha
  simp only [List.length_cons, List.length_nil, Nat.zero_add, Nat.mul_one] at ha
  rcases ha with ⟨hv, _⟩ | ⟨g', cap, cur, hv, hg, h1, h2, h3, h4, h5⟩
  · cases hv
  · cases hv
    have hw := (hown g _ hg).1
    refine ⟨fun j => if j = g then some (.cells (putCells encStr 0 ts.toArray cur) e (0, 0)) else none, ⟨by simp [hl, hx], .inr ⟨g, c, putCells encStr 0 ts.toArray cur, rfl, by simp, h1, h2, by simp only [List.length_cons, List.length_nil, Nat.zero_add, Nat.mul_one]; simp [putCells, h3], ?_, ?_⟩⟩, fun j hj => ?_, fun j o ej => ?_, fun j hj hj2 => ?_⟩
    · simp only [List.length_cons, List.length_nil, Nat.zero_add, Nat.mul_one]
      rw [← hx, ← hl]
      exact take_putCells cur ts (by omega)
    · simp only [List.length_cons, List.length_nil, Nat.zero_add, Nat.mul_one]
      have e8 : (putCells encStr 0 ts.toArray cur).toList.drop n = cur.toList.drop n := by
        apply List.ext_getElem?
        intro j
        rw [List.getElem?_drop, List.getElem?_drop, Array.getElem?_toList, Array.getElem?_toList]
        simp [putCells, show ¬ n + j < ts.length by omega]
      rw [e8]
      exact h5
    · by_cases e1 : j = g
      · subst e1; left; rw [hg]; simp
      · simp [e1] at hj
    · by_cases e1 : j = g
      · subst e1
        simp at ej
        subst ej
        exact ⟨hge, heap_sorted _ hw⟩
      · simp [e1] at ej
    · exact hgb.block j hj2 (by intro e1; cases e1; rw [hg] at hj; cases hj)
end
end Go.Rt

/- A row of structs, sorted in its place. No program in sight. -/
namespace Go.Rt
open Go.RowKit Go.Proofs Go.Sort

theorem heap_turned {w : World} {g n : Nat} {os : Array Obj} {cur : Array Value} {e : TypeId} {fr : Nat × Nat} (d : Array Value) (hb : w.heap[g]? = some (.cells cur e fr)) :
    (grow (putRow id (Sort.ahead w n) g 0 d) os).heap[g]? = some (.cells (putCells id 0 d cur) e fr) := by
  have hg : g < w.heap.size := (Array.getElem?_eq_some_iff.1 hb).1
  rw [heap_grow_old _ _ (by simpa using hg)]
  simp [putRow, mapBlock, Sort.ahead, Array.getElem?_modify, hb, onCells]
theorem grownBy_turned {w : World} {g n : Nat} {os : Array Obj} (d : Array Value) : w.grownBy (grow (putRow id (Sort.ahead w n) g 0 d) os) (some g) := by
  refine ⟨rfl, rfl, rfl, by simp, fun k hk hne => ?_⟩
  rw [heap_grow_old _ _ (by simpa using hk)]
  have : g ≠ k := fun e => hne (by rw [e])
  simp [putRow, mapBlock, Sort.ahead, Array.getElem?_modify, this]
theorem take_turned (cur F : Array Value) (h : F.size ≤ cur.size) : (putCells id 0 F cur).toList.take F.size = F.toList := by
  apply List.ext_getElem?
  intro j
  by_cases hj : j < F.size
  · rw [List.getElem?_take_of_lt hj, Array.getElem?_toList, Array.getElem?_toList]
    simp [putCells, hj, show j < cur.size by omega]
  · rw [List.getElem?_eq_none (by simp [putCells]; omega), List.getElem?_eq_none (by simpa using hj)]
section
variable {W w : World} {l : List SL} {e : TypeId} {zc : List Value}
theorem typed_turned {cur F : Array Value} (h : Typed zc cur.toList) (hF : Typed zc F.toList) (hs : F.size ≤ cur.size) : Typed zc (putCells id 0 F cur).toList := fun j u hu => by
  by_cases hj : j < F.size
  · refine hF j u ?_
    rw [Array.getElem?_toList] at hu ⊢
    simpa [putCells, hj, show j < cur.size by omega] using hu
  · refine h j u ?_
    rw [Array.getElem?_toList] at hu ⊢
    simpa [putCells, hj] using hu
theorem Sat.row_sorted {g n c k : Nat} {os : Array Obj} {xs : List Value} (F : Array Value) (H : Sat W w (row e zc (.slice (some ⟨g, 0, none⟩) n c) n xs :: l)) (hF : F.size = n * zc.length) (hT : Typed zc F.toList) :
    Sat W (grow (putRow id (Sort.ahead w k) g 0 F) os) (row e zc (.slice (some ⟨g, 0, none⟩) n c) n F.toList :: l) := by
  obtain ⟨_, h0, ⟨a0, r0, d0, rfl, ⟨hx0, hh0⟩, _⟩, hw0⟩ := id H
  have hge : W.heap.size ≤ g := by
    rcases hh0 with ⟨hv, _⟩ | ⟨g', _, _, hv, hg, _⟩
    · cases hv
    · cases hv
      exact (hw0 g _ (join_left hg)).1
  have hgb := grownBy_turned (w := w) (g := g) (n := k) (os := os) F
  refine H.put (H.bel.grown hgb H.bel.size fun j ej => by cases ej; exact hge) fun a ha hown => ?_
  obtain ⟨hx, ha⟩ := ha
  rcases ha with ⟨hv, _⟩ | ⟨g', cap, cur, hv, hg, h1, h2, h3, h4, h5⟩
  · cases hv
  · cases hv
    have hw := (hown g _ hg).1
    have hle : F.size ≤ cur.size := by rw [hF, h3]; exact Nat.mul_le_mul_right _ h1
    refine ⟨fun j => if j = g then some (.cells (putCells id 0 F cur) e (0, 0)) else none, ⟨by simp [hF], .inr ⟨g, c, putCells id 0 F cur, rfl, by simp, h1, h2, by simp [putCells, h3], ?_, typed_turned h5 hT hle⟩⟩, fun j hj => ?_, fun j o ej => ?_, fun j hj hj2 => ?_⟩
    · rw [← hF]
      exact take_turned cur F hle
    · by_cases e1 : j = g
      · subst e1; left; rw [hg]; simp
      · simp [e1] at hj
    · by_cases e1 : j = g
      · subst e1
        simp at ej
        subst ej
        exact ⟨hge, heap_turned _ hw⟩
      · simp [e1] at ej
    · exact hgb.block j hj2 (by intro e1; cases e1; rw [hg] at hj; cases hj)
end
end Go.Rt
