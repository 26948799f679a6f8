/- A new slice whose spare room holds zero cells: made by append alone. No program in sight. -/
import Derived.Test.YtnpgjobaibnknaaRtI
namespace Go.Rt
open Go.RowKit

/-- Zero cells, element by element. -/
def Zeros (zc cs : List Value) : Prop := ∀ j u, cs[j]? = some u → u = zc.getD (j % zc.length) undef
theorem Zeros.nil (zc : List Value) : Zeros zc [] := fun j u h => by simp at h
theorem Zeros.append {zc a b : List Value} (ha : Zeros zc a) (hb : Zeros zc b) (hl : a.length % zc.length = 0) : Zeros zc (a ++ b) := fun j u h => by
  rw [List.getElem?_append] at h
  split at h
  · exact ha j u h
  · rename_i hj
    have h1 := hb _ u h
    have e : (j - a.length) % zc.length = j % zc.length := by
      have := Nat.add_mod (j - a.length) a.length zc.length
      rw [Nat.sub_add_cancel (by omega), hl, Nat.add_zero, Nat.mod_mod] at this
      exact this.symm
    rwa [e] at h1
theorem Zeros.drop {zc a : List Value} (ha : Zeros zc a) (k : Nat) (hk : k % zc.length = 0) : Zeros zc (a.drop k) := fun j u h => by
  rw [List.getElem?_drop] at h
  have h1 := ha _ u h
  have e : (k + j) % zc.length = j % zc.length := by rw [Nat.add_mod, hk, Nat.zero_add, Nat.mod_mod]
  rwa [e] at h1
theorem Zeros.zeros (zc : List Value) (n : Nat) : Zeros zc (Builtin.zeroCells zc.toArray n).toList := fun j u h => by
  unfold Builtin.zeroCells at h
  simp only [Array.toList_map, Array.toList_range, List.getElem?_map, List.size_toArray] at h
  cases hr : (List.range (n * zc.length))[j]? with
  | none => rw [hr] at h; cases h
  | some i =>
    rw [hr] at h
    obtain ⟨hlt, hi⟩ := List.getElem?_eq_some_iff.1 hr
    have hi' : i = j := by simpa using hi.symm
    subst hi'
    simp only [Option.map_some, Option.some.injEq] at h
    have hlt' : i < n * zc.length := by simpa using hlt
    have hpos : 0 < zc.length := by
      rcases Nat.eq_zero_or_pos zc.length with h0 | h0
      · rw [h0] at hlt'; omega
      · exact h0
    have hm : i % zc.length < zc.length := Nat.mod_lt _ hpos
    rw [← h]
    simp [List.getD, hm]
theorem Zeros.typed {zc cs : List Value} (h : Zeros zc cs) (hz : LikeZ zc) (hp : 0 < zc.length) : Typed zc cs := fun j u hu => by
  rw [h j u hu]
  have hm : j % zc.length < zc.length := Nat.mod_lt _ hp
  have e2 : zc.getD (j % zc.length) undef = zc[j % zc.length] := by simp [List.getD, hm]
  rw [e2]
  exact hz _ _ (List.getElem?_eq_getElem hm)

/-- A slice in a block of the call's own: what it holds up to its length; whatever lies behind is zero. -/
def newS (e : TypeId) (zc : List Value) (v : Value) (n : Nat) (xs : List Value) : SL := fun h =>
  xs.length = n * zc.length ∧
  ((v = .slice none 0 0 ∧ n = 0) ∨
   ∃ g cap cur, v = .slice (some ⟨g, 0, none⟩) n cap ∧ h g = some (.cells cur e (0, 0)) ∧ n ≤ cap ∧ cap ≤ maxLen ∧ cur.size = cap * zc.length ∧ cur.toList.take (n * zc.length) = xs ∧ Zeros zc (cur.toList.drop (n * zc.length)))
/-- The same of texts. -/
abbrev seenS (e : TypeId) (v : Value) (n : Nat) (xs : List Value) : SL := newS e [.string ⟨#[]⟩] v n xs

section
variable {P : Program} {W w w' : World} {l : List SL} {e : TypeId} {zc : List Value} {v : Value} {n c : Nat} {xs : List Value} {A : Option Addr}
theorem Sat.new_nil (H : Sat W w l) (e : TypeId) (zc : List Value) : Sat W w (newS e zc (.slice none 0 0) 0 [] :: l) :=
  H.add (a := fun _ => none) w (Below.refl _ _) ⟨by simp, .inl ⟨rfl, rfl⟩⟩ fun _ _ h => by cases h
theorem Sat.new_owns (H : Sat W w (newS e zc v n xs :: l)) : w.ownsRow W.heap.size e zc.length v n xs := by
  obtain ⟨_, h, ⟨a, r, d, rfl, ⟨hx, ha⟩, _⟩, hh⟩ := H
  refine ⟨hx, ?_⟩
  rcases ha with ha | ⟨g, cap, cur, hv, hg, h1, h2, h3, h4, _⟩
  · exact .inl ha
  · have := hh g _ (join_left hg)
    exact .inr ⟨g, cap, cur, hv, this.1, this.2, h1, h2, h3, h4⟩
theorem Sat.new_slice (H : Sat W w (newS e zc v n xs :: l)) :
    xs.length = n * zc.length ∧ ∃ A c, v = .slice A n c ∧ n ≤ c ∧ c ≤ maxLen ∧ (A = none → c = 0 ∧ n = 0) ∧ ∀ a, A = some a → a.off = 0 ∧ a.spot = none ∧ W.heap.size ≤ a.block ∧ a.block < w.heap.size := by
  obtain ⟨hx, h⟩ := H.new_owns
  rcases h with ⟨rfl, rfl⟩ | ⟨g, cap, cur, rfl, hge, hg, h1, h2, h3, h4⟩
  · exact ⟨hx, none, 0, rfl, Nat.le_refl _, by simp [maxLen], fun _ => ⟨rfl, rfl⟩, nofun⟩
  · exact ⟨hx, _, cap, rfl, h1, h2, nofun, fun a h => by cases h; exact ⟨rfl, rfl, hge, (Array.getElem?_eq_some_iff.1 hg).1⟩⟩
theorem Sat.new_some (H : Sat W w (newS e zc (.slice A n c) n xs :: l)) (hn : 0 < n) : ∃ g, A = some ⟨g, 0, none⟩ := by
  obtain ⟨_, h⟩ := H.new_owns
  rcases h with ⟨_, h0⟩ | ⟨g, cap, cur, hv, _⟩
  · omega
  · cases hv; exact ⟨g, rfl⟩
theorem Sat.new_blk {g : Nat} (H : Sat W w (newS e zc (.slice (some ⟨g, 0, none⟩) n c) n xs :: l)) :
    ∃ cur, w.heap[g]? = some (.cells cur e (0, 0)) ∧ n ≤ c ∧ c ≤ maxLen ∧ cur.size = c * zc.length ∧ cur.toList.take (n * zc.length) = xs ∧ Zeros zc (cur.toList.drop (n * zc.length)) := by
  obtain ⟨_, h, ⟨a, r, d, rfl, ⟨hx, ha⟩, _⟩, hh⟩ := H
  rcases ha with ⟨hv, h0⟩ | ⟨g', cap, cur, hv, h1, h2, h3, h4, h5, h6⟩
  · cases hv
  · cases hv; exact ⟨cur, (hh g _ (join_left h1)).2, h2, h3, h4, h5, h6⟩
theorem Sat.new_rd (H : Sat W w (newS e zc (.slice A n c) n xs :: l)) : Rd w A xs := by
  obtain ⟨hx, h⟩ := H.new_owns
  rcases h with ⟨hv, h0⟩ | ⟨g, cap, cur, hv, hge, hg, h1, h2, h3, h4⟩
  · subst h0
    have : xs = [] := List.eq_nil_of_length_eq_zero (by simpa using hx)
    subst this
    exact Rd.nil _ _
  · cases hv
    refine fun j u hu => ⟨g, 0, rfl, ?_⟩
    have hj : j < xs.length := (List.getElem?_eq_some_iff.1 hu).1
    rw [← h4, List.getElem?_take, if_pos (by omega)] at hu
    simp [World.cell?, hg]
    simpa using hu
theorem Sat.new_setRow {g : Nat} (H : Sat W w (newS e zc (.slice (some ⟨g, 0, none⟩) n c) n xs :: l)) (cur : Array Value) (n' : Nat) (hn : n' ≤ c) (hs : cur.size = c * zc.length) (ht : Zeros zc (cur.toList.drop (n' * zc.length))) :
    Sat W (w.setRow g cur) (newS e zc (.slice (some ⟨g, 0, none⟩) n' c) n' (cur.toList.take (n' * zc.length)) :: l) := by
  have hge : W.heap.size ≤ g := (H.new_owns.lt g rfl).1
  have hb : Below W.heap.size W (w.setRow g cur) := H.bel.trans ⟨rfl, rfl, rfl, by simp, fun k hk => setRow_other w g k _ (by omega)⟩
  refine H.put hb fun a ⟨hx, ha⟩ hh => ?_
  rcases ha with ⟨hv, _⟩ | ⟨g', cap, cur0, hv, hg, h1, h2, h3, h4, h5⟩
  · cases hv
  · cases hv
    have hw := (hh g _ hg).1
    refine ⟨fun k => if k = g then some (.cells cur e (0, 0)) else none, ⟨?_, .inr ⟨g, c, cur, rfl, by simp, hn, h2, hs, rfl, ht⟩⟩, fun k hk => ?_, fun k o ek => ?_, fun k hk _ => ?_⟩
    · have hcl : cur.toList.length = c * zc.length := by simpa using hs
      rw [List.length_take, hcl]
      exact Nat.min_eq_left (Nat.mul_le_mul_right _ hn)
    · by_cases e1 : k = g
      · subst e1; left; rw [hg]; simp
      · simp [e1] at hk
    · by_cases e1 : k = g
      · subst e1
        simp at ek
        subst ek
        exact ⟨hge, setRow_heap w k _ cur e _ hw⟩
      · simp [e1] at ek
    · exact setRow_other w g k cur (by rintro rfl; rw [hg] at hk; cases hk)
theorem Sat.new_grew (H : Sat W w l) (xs : List Value) (need old : Nat) (hx : xs.length = need * zc.length) (h63 : need ≤ maxLen) (cur : Array Value)
    (hc : cur = xs.toArray ++ Builtin.zeroCells zc.toArray (grownCap w need old e - need)) :
    Sat W (w.drew.alloc (.cells cur e)) (newS e zc (.slice (some ⟨w.heap.size, 0, none⟩) need (grownCap w need old e)) need xs :: l) := by
  have hge := grownCap_ge w need old e
  have hcm : grownCap w need old e ≤ maxLen := grownCap_le_maxLen w need old e h63
  have hs : cur.size = grownCap w need old e * zc.length := by
    rw [hc]
    simp only [Array.size_append, List.size_toArray, size_zeroCells, hx, ← Nat.add_mul]
    congr 1
    omega
  refine (H.drew.alloc cur e).head fun h hh => ⟨hx, .inr ⟨w.heap.size, _, cur, rfl, hh, hge, hcm, hs, ?_, ?_⟩⟩
  · rw [hc, Array.toList_append, ← hx]
    exact List.take_left
  · rw [hc, Array.toList_append, ← hx]
    show Zeros zc ((xs ++ _).drop xs.length)
    rw [List.drop_left]
    exact Zeros.zeros zc _
/-- It is a row, if what it holds is. -/
theorem Sat.new_row (H : Sat W w (newS e zc v n xs :: l)) (hx : Typed zc xs) (hz : LikeZ zc) (hp : 0 < zc.length) : Sat W w (row e zc v n xs :: l) := by
  refine H.head fun h ⟨h1, ha⟩ => ⟨h1, ?_⟩
  rcases ha with ha | ⟨g, cap, cur, hv, hg, h2, h3, h4, h5, h6⟩
  · exact .inl ha
  · refine .inr ⟨g, cap, cur, hv, hg, h2, h3, h4, h5, ?_⟩
    have := Typed.append hx (h6.typed hz hp) (by rw [h1]; simp)
    rwa [← h5, List.take_append_drop] at this

theorem run_append_new (t ty e : TypeId) (i : TypeInfo) (z : Value) (zc : List Value) (ht : P.underlying t = some (.slice e)) (hi : P.info? e = some i) (hz : i.zero = some z) (hzc : z.cells = zc.toArray)
    (hsize : i.size = zc.length) (hpos : 0 < zc.length)
    (v : Value) (n : Nat) (xs : List Value) (H : Sat W w (newS e zc v n xs :: l))
    (A : Option Addr) (m c : Nat) (news : List Value) (hl : news.length = m * zc.length) (hr : Rd w A news) (h1 : ∀ u ∈ news, u.oneCell' = true)
    (h63 : n + m ≤ maxLen) (hbytes : (n + m) * i.bytes ≤ 140737488355328) :
    ∃ A' c' w', (Builtin.append_ #[t, t] ty #[v, .slice A m c]).run P w = .ok (.slice A' (n + m) c') w' ∧ Sat W w' (newS e zc (.slice A' (n + m) c') (n + m) (xs ++ news) :: l) := by
  obtain ⟨hxl, A', c', rfl, hnc, hcm, hA0, hA1⟩ := H.new_slice
  rcases Nat.eq_zero_or_pos m with hm | hm
  · subst hm
    have hn0 : news = [] := List.eq_nil_of_length_eq_zero (by simpa using hl)
    subst hn0
    have hf : (Builtin.firstCells i.size 0 (.slice A 0 c)).run P w = .ok #[] w := by
      cases A with
      | none => exact run_firstCells_none w _ _ _ _
      | some ad => exact run_firstCells_some w i.size 0 ad 0 c [] (by simp) (by intro j u h; simp at h)
    refine ⟨A', c', w, ?_, by simpa using H⟩
    cases A' with
    | none => simp [Builtin.append_, run_underlying ht, sizeOf, typeInfo, hi, Builtin.lenOf, hnc, hf]
    | some ad => simp [Builtin.append_, run_underlying ht, sizeOf, typeInfo, hi, Builtin.lenOf, hnc, hf, storeCells]
  · have hx0 : news ≠ [] := by
      intro h0
      subst h0
      have : m * zc.length ≥ 1 := Nat.mul_pos hm hpos
      simp at hl; omega
    obtain ⟨b, off, rfl⟩ := hr.open hx0
    have hnews : ∀ j u, news[j]? = some u → w.cell? ((⟨b, off, none⟩ : Addr).add j) = some u := fun j u hu => by
      have h0 := hr.at j hu
      unfold Addr.add
      split
      · rename_i hj; subst hj; simpa using h0
      · exact h0
    have hl' : news.length = m * i.size := by rw [hsize]; exact hl
    have hlen : (xs ++ news).length = (n + m) * zc.length := by rw [List.length_append, hxl, hl, Nat.add_mul]
    cases A' with
    | none =>
      obtain ⟨rfl, rfl⟩ := hA0 rfl
      have hx : xs = [] := List.eq_nil_of_length_eq_zero (by simpa using hxl)
      subst hx
      have hrun := run_append_nil (P := P) w t ty e i z ht hi hz ⟨b, off, none⟩ m c news hl' hnews (by omega) (by simp only [maxLen] at h63; omega) (by have hb := hbytes; simp only [Nat.zero_add] at hb; omega)
      refine ⟨_, _, _, by simpa using hrun, ?_⟩
      have hs := H.tail.new_grew (e := e) (zc := zc) news m 0 hl (by omega) _ (by rw [← hzc])
      simpa using hs
    | some ad =>
      obtain ⟨h0, hsp, hge, hlt⟩ := hA1 ad rfl
      obtain ⟨g, off', sp⟩ := ad
      dsimp only at h0 hsp hge hlt
      subst h0 hsp
      obtain ⟨cur, hg, _, _, hcs, htake, htc⟩ := H.new_blk
      by_cases hroom : n + m ≤ c'
      · have hfit : n * i.size + news.length ≤ cur.size := by rw [hl', hcs, hsize, ← Nat.add_mul]; exact Nat.mul_le_mul_right _ hroom
        have hrun := run_append_room (P := P) w t ty e i ht hi g n c' cur hg ⟨b, off, none⟩ m c news hl' hnews h1 hroom hfit
        refine ⟨_, _, _, hrun, ?_⟩
        have e0 : (cur.toList.take (n * i.size) ++ news ++ cur.toList.drop (n * i.size + news.length)).toArray.toList = (xs ++ news) ++ (cur.toList.drop (n * zc.length)).drop (m * zc.length) := by
          simp only [hsize]
          rw [htake, List.drop_drop, hl]
        have hs := H.new_setRow (cur.toList.take (n * i.size) ++ news ++ cur.toList.drop (n * i.size + news.length)).toArray (n + m) hroom ?_ ?_
        · rw [e0, ← hlen, List.take_left] at hs
          exact hs
        · simp only [List.size_toArray, List.length_append, List.length_take, List.length_drop, Array.length_toList]
          rw [← hcs]; omega
        · rw [e0, ← hlen, List.drop_left]
          exact htc.drop _ (by simp)
      · have holds : ∀ j u, xs[j]? = some u → w.cell? ((⟨g, 0, none⟩ : Addr).add j) = some u := H.new_owns.cells (g := g) rfl
        have hrun := run_append_grow (P := P) w t ty e i z ht hi hz ⟨g, 0, none⟩ n c' xs (by rw [hsize]; exact hxl) holds ⟨b, off, none⟩ m c news hl' hnews (by omega) (by simp only [maxLen] at h63; omega) (growslice_fits (by omega) hbytes)
        refine ⟨_, _, _, hrun, ?_⟩
        exact H.tail.new_grew (e := e) (zc := zc) (xs ++ news) (n + m) c' hlen h63 _ (by rw [← hzc]; simp)
theorem wp_append_new {o : Oper} {a : Act} {K : Act → World → Prop} {Q : Exit → Act → World → Prop} (s x : Operand) (t : TypeId)
    (ho : o.op = .call { callee := .builtin .append, args := #[s, x], argTypes := #[t, t] })
    (e : TypeId) (i : TypeInfo) (z : Value) (zc : List Value) (bytes : Nat) (ht : P.underlying t = some (.slice e)) (hi : P.info? e = some i) (hz : i.zero = some z) (hzc : z.cells = zc.toArray)
    (hsize : i.size = zc.length) (hby : i.bytes = bytes) (hpos : 0 < zc.length)
    (v : Value) (n : Nat) (xs : List Value) (hs : a.eval s = v) (H : Sat W w (newS e zc v n xs :: l))
    (A : Option Addr) (m c : Nat) (news : List Value) (hx : a.eval x = .slice A m c) (hl : news.length = m * zc.length) (hr : Rd w A news) (h1 : ∀ u ∈ news, u.oneCell' = true)
    (h63 : n + m ≤ maxLen) (hbytes : (n + m) * bytes ≤ 140737488355328)
    (h : ∀ A' c' w', Sat W w' (newS e zc (.slice A' (n + m) c') (n + m) (xs ++ news) :: l) → K (a.put o.dst (.slice A' (n + m) c')) w') : o.wp P a w K Q := by
  subst hby
  obtain ⟨A', c', w', hrun, H'⟩ := run_append_new (P := P) t o.type e i z zc ht hi hz hzc hsize hpos v n xs H A m c news hl hr h1 h63 hbytes
  unfold Oper.wp execOp
  simp only [ho, resolve, invoke, builtin, Sem.run_bind, Sem.run_pure, Result.andThen_ok, List.map_toArray, List.map_cons, List.map_nil, hs, hx, hrun]
  exact h A' c' w' H'
set_option maxRecDepth 100000 in
theorem wpList_append_new {ops : Array Oper} {rest : List Oper} {o : Oper} {a : Act} {Q : Exit → Act → World → Prop} (hgd : o.guard = none) (s x : Operand) (t : TypeId)
    (ho : o.op = .call { callee := .builtin .append, args := #[s, x], argTypes := #[t, t] })
    (e : TypeId) (i : TypeInfo) (z : Value) (zc : List Value) (bytes : Nat) (ht : P.underlying t = some (.slice e)) (hi : P.info? e = some i) (hz : i.zero = some z) (hzc : z.cells = zc.toArray)
    (hsize : i.size = zc.length) (hby : i.bytes = bytes) (hpos : 0 < zc.length)
    (v : Value) (n : Nat) (xs : List Value) (hs : a.eval s = v) (H : Sat W w (newS e zc v n xs :: l))
    (A : Option Addr) (m c : Nat) (news : List Value) (hx : a.eval x = .slice A m c) (hl : news.length = m * zc.length) (hr : Rd w A news) (h1 : ∀ u ∈ news, u.oneCell' = true)
    (h63 : n + m ≤ maxLen) (hbytes : (n + m) * bytes ≤ 140737488355328)
    (h : ∀ A' c' w', Sat W w' (newS e zc (.slice A' (n + m) c') (n + m) (xs ++ news) :: l) → wpList P ops Q rest (a.put o.dst (.slice A' (n + m) c')) w') : wpList P ops Q (o :: rest) a w :=
  wpList_plain hgd fun _ hK => wp_append_new s x t ho e i z zc bytes ht hi hz hzc hsize hby hpos v n xs hs H A m c news hx hl hr h1 h63 hbytes fun A' c' w' H' => hK _ _ (h A' c' w' H')
theorem step_append_new {ops : Array Oper} {o : Oper} {a : Act} {K : Act → World → Prop} {Q : Exit → Act → World → Prop} {E : Prop} (hgd : o.guard = none) (s x : Operand) (t : TypeId)
    (ho : o.op = .call { callee := .builtin .append, args := #[s, x], argTypes := #[t, t] })
    (e : TypeId) (i : TypeInfo) (z : Value) (zc : List Value) (bytes : Nat) (ht : P.underlying t = some (.slice e)) (hi : P.info? e = some i) (hz : i.zero = some z) (hzc : z.cells = zc.toArray)
    (hsize : i.size = zc.length) (hby : i.bytes = bytes) (hpos : 0 < zc.length)
    (v : Value) (n : Nat) (xs : List Value) (hs : a.eval s = v) (H : Sat W w (newS e zc v n xs :: l))
    (A : Option Addr) (m c : Nat) (news : List Value) (hx : a.eval x = .slice A m c) (hl : news.length = m * zc.length) (hr : Rd w A news) (h1 : ∀ u ∈ news, u.oneCell' = true)
    (h63 : n + m ≤ maxLen) (hbytes : (n + m) * bytes ≤ 140737488355328)
    (h : ∀ A' c' w', Sat W w' (newS e zc (.slice A' (n + m) c') (n + m) (xs ++ news) :: l) → K (a.put o.dst (.slice A' (n + m) c')) w') :
    if Region.wanted o (yielded ops a.tmps) = true then Oper.wp P o a w K Q else E := by
  have hw : Region.wanted o (yielded ops a.tmps) = true := by simp [Region.wanted, hgd]
  rw [if_pos hw]
  exact wp_append_new s x t ho e i z zc bytes ht hi hz hzc hsize hby hpos v n xs hs H A m c news hx hl hr h1 h63 hbytes h
theorem RdL.newS : RdL W (Go.Rt.newS e zc (.slice A n c) n xs :: l) A xs := fun _ H => H.new_rd
theorem Sat.seen_rd (H : Sat W w (Go.Rt.newS e zc (.slice A n c) n xs :: l)) : Rd w A xs := H.new_rd
theorem RdL.seenS : RdL W (Go.Rt.newS e zc (.slice A n c) n xs :: l) A xs := fun _ H => H.new_rd
end
end Go.Rt
