/- A pack of texts: RtH, RtI, RtJ -/
import Derived.Test.YtodbmeklbamcfaaGreatPkKnownF
import Derived.ArgAppend
/- Laws: an element of several cells is stored in a slice; a number is appended where there is room; a slice's literal of several elements of several cells. No program in sight. -/
namespace Go.Rt
open Go.RowKit
theorem flat_at {α : Type} (cs : α → List Value) (sz : Nat) (ts : List α) (h : ∀ x ∈ ts, (cs x).length = sz) (j : Nat) (x : α) (hj : ts[j]? = some x) : ((ts.flatMap cs).drop (j * sz)).take sz = cs x := by
  induction ts generalizing j with
  | nil => simp at hj
  | cons y ts ih =>
    have h1 := h y (by simp)
    have e : (y :: ts).flatMap cs = cs y ++ ts.flatMap cs := rfl
    cases j with
    | zero =>
      simp at hj; subst hj
      rw [e, Nat.zero_mul, List.drop_zero, List.take_left' h1]
    | succ j =>
      rw [e, List.drop_append, List.drop_eq_nil_of_le (by rw [h1, Nat.succ_mul]; omega), List.nil_append, h1]
      rw [show (j + 1) * sz - sz = j * sz by rw [Nat.succ_mul]; omega]
      exact ih (fun z hz => h z (by simp [hz])) j (by simpa using hj)
theorem flat_len {α : Type} (cs : α → List Value) (sz : Nat) (ts : List α) (h : ∀ x ∈ ts, (cs x).length = sz) : (ts.flatMap cs).length = ts.length * sz := by
  induction ts with
  | nil => simp
  | cons x ts ih =>
    have h1 := h x (by simp)
    rw [List.flatMap_cons, List.length_append, h1, ih fun z hz => h z (by simp [hz]), List.length_cons, Nat.succ_mul]
    omega
theorem rd_elem {α : Type} {w : World} {A : Option Addr} (cs : α → List Value) (sz : Nat) (h0 : 0 < sz) {ts : List α} (h : Rd w A (ts.flatMap cs)) (hts : ∀ x ∈ ts, (cs x).length = sz) (j : Nat) (x : α) (hj : ts[j]? = some x) :
    ∃ b o, A = some ⟨b, o, none⟩ ∧ Rd w (some ⟨b, o + j * sz, none⟩) (cs x) := by
  have h1 := flat_at cs sz ts hts j x hj
  have hx : ts.flatMap cs ≠ [] := by
    intro e
    rw [e] at h1
    have := hts x (List.mem_of_getElem? hj)
    rw [← h1] at this
    simp at this
    omega
  obtain ⟨b, o, rfl⟩ := h.open hx
  exact ⟨b, o, rfl, by rw [← h1]; exact (h.drop (j * sz)).take sz⟩

section
variable {P : Program} {W w : World} {l : List SL} {e : TypeId} {zc xs : List Value} {n c g : Nat}

theorem Sat.setEl (H : Sat W w (row e zc (.slice (some ⟨g, 0, none⟩) n c) n xs :: l)) (j : Nat) (hj : j < n) (cs : List Value) (hcs : cs.length = zc.length) (hty : Typed zc cs) :
    ∃ cur, w.heap[g]? = some (.cells cur e (0, 0)) ∧ cur.size = c * zc.length ∧ n ≤ c ∧ Sat W (w.setRow g (cur.toList.take (j * zc.length) ++ cs ++ cur.toList.drop (j * zc.length + zc.length)).toArray) (row e zc (.slice (some ⟨g, 0, none⟩) n c) n ((cur.toList.take (j * zc.length) ++ cs ++ cur.toList.drop (j * zc.length + zc.length)).take (n * zc.length)) :: l) := by
  obtain ⟨cur, hg, h1, h2, h3, h4, h5⟩ := H.row_blk
  have hm : (j + 1) * zc.length ≤ c * zc.length := Nat.mul_le_mul_right _ (by omega)
  rw [Nat.succ_mul] at hm
  have hcl : cur.toList.length = c * zc.length := by simpa using h3
  have hlt : (cur.toList.take (j * zc.length)).length = j * zc.length := by rw [List.length_take, hcl]; omega
  refine ⟨cur, hg, h3, h1, ?_⟩
  have hT : Typed zc (cur.toList.take (j * zc.length) ++ cs ++ cur.toList.drop (j * zc.length + zc.length)) := by
    refine Typed.append (Typed.append (Typed.take h5 _) hty (by rw [hlt]; exact Nat.mul_mod_left _ _)) (Typed.drop h5 _ ?_) ?_
    · rw [← Nat.succ_mul]; exact Nat.mul_mod_left _ _
    · rw [List.length_append, hlt, hcs, ← Nat.succ_mul]; exact Nat.mul_mod_left _ _
  have := H.setRow (cur.toList.take (j * zc.length) ++ cs ++ cur.toList.drop (j * zc.length + zc.length)).toArray n h1 (by simp only [List.size_toArray, List.length_append, hlt, hcs, List.length_drop, hcl]; omega) (by simpa using hT)
  simpa using this

set_option maxRecDepth 100000 in
/-- An element of several cells is written in a row: what it holds then, is told by its length alone. -/
theorem wpList_store_el {ops : Array Oper} {rest : List Oper} {o : Oper} {a : Act} {Q : Exit → Act → World → Prop} (hg : o.guard = none) (hdst : o.dst = none) (x y : Operand) (t : TypeId) (hop : o.op = Op.store t x y)
    (j : Nat) (hj : j < n) (cs : List Value) (hsz : (P.info? t).map (·.size) = some zc.length) (hcs : cs.length = zc.length) (hx : a.eval x = .pointer (some ⟨g, j * zc.length, none⟩)) (hy : a.eval y = .agg cs.toArray)
    (h1 : ∀ u ∈ cs, u.oneCell' = true) (hty : Typed zc cs) (H : Sat W w (row e zc (.slice (some ⟨g, 0, none⟩) n c) n xs :: l)) (hK : ∀ w' ys, Sat W w' (row e zc (.slice (some ⟨g, 0, none⟩) n c) n ys :: l) → wpList P ops Q rest a w') : wpList P ops Q (o :: rest) a w := by
  refine wpList_plain hg fun K hK' => ?_
  obtain ⟨cur, hgg, hcur, hnc, H'⟩ := H.setEl j hj cs hcs hty
  have hm : (j + 1) * zc.length ≤ c * zc.length := Nat.mul_le_mul_right _ (by omega)
  rw [Nat.succ_mul] at hm
  have hst := run_storeCells_at P g (j * zc.length) e cs 0 cur w hgg (by omega) h1
  simp only [Nat.add_zero, hcs] at hst
  have hso : ∀ w, (sizeOf t).run P w = .ok zc.length w := fun w => by
    cases hi : P.info? t with
    | none => simp [hi] at hsz
    | some i => simp [hi] at hsz; simp [sizeOf, typeInfo, hi, Result.andThen, hsz]
  have hrun : (storeVar t ⟨g, j * zc.length, none⟩ (.agg cs.toArray)).run P w = .ok () (w.setRow g (cur.toList.take (j * zc.length) ++ cs ++ cur.toList.drop (j * zc.length + zc.length)).toArray) := by
    simp [storeVar, Value.cells, hso, hst, Result.andThen, hcs]
  unfold Oper.wp
  simp [execOp, hop, hx, hy, Instr.storeAt, Instr.sureAddr, hrun, Result.andThen]
  refine hK' _ _ ?_
  rw [hdst]
  exact hK _ _ (by simpa using H')

set_option maxRecDepth 100000 in
/-- A number is appended to a slice of a variable's cells, in which there is room. -/
theorem wpList_append_room {ops : Array Oper} {rest : List Oper} {o : Oper} {a : Act} {Q : Exit → Act → World → Prop} (hg : o.guard = none) (s x : Operand) (t : TypeId) (hop : o.op = Op.call { callee := Callee.builtin Builtin.append, args := #[s, x], argTypes := #[t, t] })
    (el : TypeId) (i : TypeInfo) (ht : P.underlying t = some (.slice el)) (hi : P.info? el = some i) (hsize : i.size = 1) (cur : Array Value) (tag : TypeId) (hs : a.eval s = .slice (some ⟨g, 0, none⟩) n c) (hn : n < c) (hc : c ≤ cur.size)
    (A : Option Addr) (c' : Nat) (v : Value) (hx : a.eval x = .slice A 1 c') (hr : Rd w A [v]) (h1 : v.oneCell' = true) (H : Sat W w (pt g cur tag :: l))
    (hK : ∀ w', Sat W w' (pt g (cur.setIfInBounds n v) tag :: l) → wpList P ops Q rest (a.put o.dst (.slice (some ⟨g, 0, none⟩) (n + 1) c)) w') : wpList P ops Q (o :: rest) a w := by
  refine wpList_plain hg fun K hK' => ?_
  obtain ⟨b, off, rfl⟩ := hr.open (by simp)
  have hcell : (w.cell? ⟨g, n, none⟩).isSome = true := by rw [H.cell]; simp; omega
  have hfro := H.frz n
  have hrun := run_append_room_cells (P := P) w t o.type el i ht hi g 0 n c ⟨b, off, none⟩ 1 c' [v] (by simp [hsize]) (fun j u hj => by rw [Addr.add_lit]; exact hr.at j hj) (by simpa using h1) (by omega)
    (fun j hj => by simp at hj; subst hj; simpa [hsize] using hcell) (fun j hj => by simp at hj; subst hj; simpa [hsize] using hfro)
  have hw : w.setCells g (0 + n * i.size) [v] = w.setCell ⟨g, n, none⟩ v := by rw [hsize, Nat.zero_add, Nat.mul_one]; rfl
  rw [hw] at hrun
  unfold Oper.wp
  simp [execOp, hop, resolve, invoke, builtin, hs, hx, hrun, Result.andThen]
  exact hK' _ _ (hK _ (H.setCell n v))
end
end Go.Rt

/- A slice's literal of several elements of several cells each. No program in sight. -/
namespace Go.Rt
open Go.RowKit

theorem fill_many (sz : Nat) : ∀ (css : List (List Value)) (k : Nat) (acc : Array Value) (pre old post : List Value), (∀ c ∈ css, c.length = sz) → acc.toList = pre ++ old ++ post → old.length = css.length * sz → pre.length = k * sz →
    ∃ r : Array Value, Instr.fill (fun i => some (i * sz, sz)) acc ((css.zipIdx k).map fun p => (p.2, Value.agg p.1.toArray)) = some r ∧ r.toList = pre ++ css.flatten ++ post
  | [], k, acc, pre, old, post, _, h2, h3, _ => by
    have : old = [] := List.eq_nil_of_length_eq_zero (by simpa using h3)
    subst this
    exact ⟨acc, rfl, by simpa using h2⟩
  | c :: css, k, acc, pre, old, post, h1, h2, h3, h4 => by
    have hc := h1 c (by simp)
    have h3' : old.length = css.length * sz + sz := by rw [h3, List.length_cons, Nat.succ_mul]
    have hsz : acc.size = k * sz + (css.length * sz + sz) + post.length := by
      have := congrArg List.length h2
      simp only [List.length_append, h3', h4, Array.length_toList] at this
      exact this
    have hf := foldl_set c (k * sz) 0 acc pre (old.take sz) (old.drop sz ++ post) (by rw [h2, List.append_assoc, List.append_assoc, ← List.append_assoc (old.take sz), List.take_append_drop]) (by rw [List.length_take, h3', hc]; omega) (by rw [h4]; omega)
    obtain ⟨r, hr1, hr2⟩ := fill_many sz css (k + 1) ((c.zipIdx 0).foldl (fun (cs : Array Value) (p : Value × Nat) => cs.setIfInBounds (k * sz + p.2) p.1) acc) (pre ++ c) (old.drop sz) post (fun x hx => h1 x (by simp [hx])) (by rw [hf]; simp) (by rw [List.length_drop, h3']; omega) (by rw [List.length_append, h4, hc, Nat.succ_mul])
    refine ⟨r, ?_, by rw [hr2]; simp⟩
    rw [← hr1]
    simp only [List.zipIdx_cons, List.map_cons, Instr.fill, Value.cells, List.size_toArray, hc]
    rw [if_neg (by simp; omega)]
    congr 1
    simp

section
variable {P : Program} {W w : World} {l : List SL}
theorem run_buildSlice_many (t e : TypeId) (i : TypeInfo) (z : Value) (sz : Nat) (css : List (List Value)) (hc : ∀ c ∈ css, c.length = sz) (ht : P.underlying t = some (.slice e)) (hi : P.info? e = some i) (hz : i.zero = some z) (hsize : i.size = sz)
    (hpos : 0 < sz) (hn : 0 < css.length) (hsm : css.length * sz ≤ 1000000) (parts : Array (Nat × Value)) (hp : parts.toList = css.zipIdx.map fun p => (p.2, Value.agg p.1.toArray)) :
    (Instr.buildSlice t css.length parts).run P w = .ok (.slice (some ⟨w.heap.size, 0, none⟩) css.length css.length) (w.alloc (.cells css.flatten.toArray e)) := by
  have h0 : (sizeOf e).run P w = .ok sz w := by simp [sizeOf, typeInfo, hi, Result.andThen, hsize]
  have hzv : (zeroValue e).run P w = .ok z w := by simp [zeroValue, typeInfo, hi, hz, Result.andThen]
  obtain ⟨r, hr1, hr2⟩ := fill_many sz css 0 ((Array.range (css.length * sz)).map fun x => z.cells[x % z.cells.size]!) [] ((Array.range (css.length * sz)).map fun x => z.cells[x % z.cells.size]!).toList [] hc (by simp) (by simp) (by simp)
  have hr3 : r = css.flatten.toArray := by apply Array.toList_inj.1; rw [hr2]; simp
  subst hr3
  have hpz : ¬ css.length * sz = 0 := by have := Nat.mul_pos hn hpos; omega
  have hbig : ¬ 16777216 < css.length * sz := by omega
  rw [← hp] at hr1
  simp [Instr.buildSlice, run_underlying ht, h0, hbig, newRow, Result.andThen]
  rw [if_neg hpz]
  simp [hzv, hr1, Result.andThen]

set_option maxRecDepth 100000 in
theorem wpList_buildSlice_many {ops : Array Oper} {rest : List Oper} {o : Oper} {a : Act} {Q : Exit → Act → World → Prop} (hw : Region.wanted o (yielded ops a.tmps) = true) (xs : Array (Nat × Operand)) (t : TypeId) (n : Nat) (hop : o.op = Op.buildSlice t n xs)
    (e : TypeId) (i : TypeInfo) (z : Value) (sz : Nat) (css : List (List Value)) (hn' : css.length = n) (hc : ∀ c ∈ css, c.length = sz) (hx : (xs.map fun p => (p.1, a.eval p.2)).toList = css.zipIdx.map fun p => (p.2, Value.agg p.1.toArray))
    (ht : P.underlying t = some (.slice e)) (hi : P.info? e = some i) (hz : i.zero = some z) (hsize : i.size = sz) (hpos : 0 < sz) (hn : 0 < n) (hsm : n * sz ≤ 1000000)
    (hK : wpList P ops Q rest (a.put o.dst (.slice (some ⟨w.heap.size, 0, none⟩) n n)) (w.alloc (.cells css.flatten.toArray e))) : wpList P ops Q (o :: rest) a w := by
  subst hn'
  refine BigFrame.wpList_want hw fun K hK' => ?_
  have hrun := run_buildSlice_many (P := P) (w := w) t e i z sz css hc ht hi hz hsize hpos hn hsm (xs.map fun p => (p.1, a.eval p.2)) hx
  unfold Oper.wp
  simp [execOp, hop, hrun, Result.andThen]
  exact hK' _ _ hK
end
end Go.Rt

/- A new slice whose spare room holds zero cells: made by append alone. No program in sight. -/
namespace Go.Rt
open Go.RowKit

/-- Zero cells, element by element. -/
def Zeros (zc cs : List Value) : Prop := ∀ j u, cs[j]? = some u → u = zc.getD (j % zc.length) undef
theorem Zeros.nil (zc : List Value) : Zeros zc [] := fun j u h => by simp at h
theorem Zeros.append {zc a b : List Value} (ha : Zeros zc a) (hb : Zeros zc b) (hl : a.length % zc.length = 0) : Zeros zc (a ++ b) := fun j u h => by
  rw [List.getElem?_append] at h
  split at h
  · exact ha j u h
  · rename_i hj
    have h1 := hb _ u h
    have e : (j - a.length) % zc.length = j % zc.length := by
      have := Nat.add_mod (j - a.length) a.length zc.length
      rw [Nat.sub_add_cancel (by omega), hl, Nat.add_zero, Nat.mod_mod] at this
      exact this.symm
    rwa [e] at h1
theorem Zeros.drop {zc a : List Value} (ha : Zeros zc a) (k : Nat) (hk : k % zc.length = 0) : Zeros zc (a.drop k) := fun j u h => by
  rw [List.getElem?_drop] at h
  have h1 := ha _ u h
  have e : (k + j) % zc.length = j % zc.length := by rw [Nat.add_mod, hk, Nat.zero_add, Nat.mod_mod]
  rwa [e] at h1
theorem Zeros.zeros (zc : List Value) (n : Nat) : Zeros zc (Builtin.zeroCells zc.toArray n).toList := fun j u h => by
  unfold Builtin.zeroCells at h
  simp only [Array.toList_map, Array.toList_range, List.getElem?_map, List.size_toArray] at h
  cases hr : (List.range (n * zc.length))[j]? with
  | none => rw [hr] at h; cases h
  | some i =>
    rw [hr] at h
    obtain ⟨hlt, hi⟩ := List.getElem?_eq_some_iff.1 hr
    have hi' : i = j := by simpa using hi.symm
    subst hi'
    simp only [Option.map_some, Option.some.injEq] at h
    have hlt' : i < n * zc.length := by simpa using hlt
    have hpos : 0 < zc.length := by
      rcases Nat.eq_zero_or_pos zc.length with h0 | h0
      · rw [h0] at hlt'; omega
      · exact h0
    have hm : i % zc.length < zc.length := Nat.mod_lt _ hpos
    rw [← h]
    simp [List.getD, hm]
theorem Zeros.typed {zc cs : List Value} (h : Zeros zc cs) (hz : LikeZ zc) (hp : 0 < zc.length) : Typed zc cs := fun j u hu => by
  rw [h j u hu]
  have hm : j % zc.length < zc.length := Nat.mod_lt _ hp
  have e2 : zc.getD (j % zc.length) undef = zc[j % zc.length] := by simp [List.getD, hm]
  rw [e2]
  exact hz _ _ (List.getElem?_eq_getElem hm)

/-- A slice in a block of the call's own: what it holds up to its length; whatever lies behind is zero. -/
def newS (e : TypeId) (zc : List Value) (v : Value) (n : Nat) (xs : List Value) : SL := fun h =>
  xs.length = n * zc.length ∧
  ((v = .slice none 0 0 ∧ n = 0) ∨
   ∃ g cap cur, v = .slice (some ⟨g, 0, none⟩) n cap ∧ h g = some (.cells cur e (0, 0)) ∧ n ≤ cap ∧ cap ≤ maxLen ∧ cur.size = cap * zc.length ∧ cur.toList.take (n * zc.length) = xs ∧ Zeros zc (cur.toList.drop (n * zc.length)))
/-- The same of texts. -/
abbrev seenS (e : TypeId) (v : Value) (n : Nat) (xs : List Value) : SL := newS e [.string ⟨#[]⟩] v n xs

section
variable {P : Program} {W w w' : World} {l : List SL} {e : TypeId} {zc : List Value} {v : Value} {n c : Nat} {xs : List Value} {A : Option Addr}
theorem Sat.new_nil (H : Sat W w l) (e : TypeId) (zc : List Value) : Sat W w (newS e zc (.slice none 0 0) 0 [] :: l) :=
  H.add (a := fun _ => none) w (Below.refl _ _) ⟨by simp, .inl ⟨rfl, rfl⟩⟩ fun _ _ h => by cases h
theorem Sat.new_owns (H : Sat W w (newS e zc v n xs :: l)) : w.ownsRow W.heap.size e zc.length v n xs := by
  obtain ⟨_, h, ⟨a, r, d, rfl, ⟨hx, ha⟩, _⟩, hh⟩ := H
  refine ⟨hx, ?_⟩
  rcases ha with ha | ⟨g, cap, cur, hv, hg, h1, h2, h3, h4, _⟩
  · exact .inl ha
  · have := hh g _ (join_left hg)
    exact .inr ⟨g, cap, cur, hv, this.1, this.2, h1, h2, h3, h4⟩
theorem Sat.new_slice (H : Sat W w (newS e zc v n xs :: l)) :
    xs.length = n * zc.length ∧ ∃ A c, v = .slice A n c ∧ n ≤ c ∧ c ≤ maxLen ∧ (A = none → c = 0 ∧ n = 0) ∧ ∀ a, A = some a → a.off = 0 ∧ a.spot = none ∧ W.heap.size ≤ a.block ∧ a.block < w.heap.size := by
  obtain ⟨hx, h⟩ := H.new_owns
  rcases h with ⟨rfl, rfl⟩ | ⟨g, cap, cur, rfl, hge, hg, h1, h2, h3, h4⟩
  · exact ⟨hx, none, 0, rfl, Nat.le_refl _, by simp [maxLen], fun _ => ⟨rfl, rfl⟩, nofun⟩
  · exact ⟨hx, _, cap, rfl, h1, h2, nofun, fun a h => by cases h; exact ⟨rfl, rfl, hge, (Array.getElem?_eq_some_iff.1 hg).1⟩⟩
theorem Sat.new_some (H : Sat W w (newS e zc (.slice A n c) n xs :: l)) (hn : 0 < n) : ∃ g, A = some ⟨g, 0, none⟩ := by
  obtain ⟨_, h⟩ := H.new_owns
  rcases h with ⟨_, h0⟩ | ⟨g, cap, cur, hv, _⟩
  · omega
  · cases hv; exact ⟨g, rfl⟩
theorem Sat.new_blk {g : Nat} (H : Sat W w (newS e zc (.slice (some ⟨g, 0, none⟩) n c) n xs :: l)) :
    ∃ cur, w.heap[g]? = some (.cells cur e (0, 0)) ∧ n ≤ c ∧ c ≤ maxLen ∧ cur.size = c * zc.length ∧ cur.toList.take (n * zc.length) = xs ∧ Zeros zc (cur.toList.drop (n * zc.length)) := by
  obtain ⟨_, h, ⟨a, r, d, rfl, ⟨hx, ha⟩, _⟩, hh⟩ := H
  rcases ha with ⟨hv, h0⟩ | ⟨g', cap, cur, hv, h1, h2, h3, h4, h5, h6⟩
  · cases hv
  · cases hv; exact ⟨cur, (hh g _ (join_left h1)).2, h2, h3, h4, h5, h6⟩
theorem Sat.new_rd (H : Sat W w (newS e zc (.slice A n c) n xs :: l)) : Rd w A xs := by
  obtain ⟨hx, h⟩ := H.new_owns
  rcases h with ⟨hv, h0⟩ | ⟨g, cap, cur, hv, hge, hg, h1, h2, h3, h4⟩
  · subst h0
    have : xs = [] := List.eq_nil_of_length_eq_zero (by simpa using hx)
    subst this
    exact Rd.nil _ _
  · cases hv
    refine fun j u hu => ⟨g, 0, rfl, ?_⟩
    have hj : j < xs.length := (List.getElem?_eq_some_iff.1 hu).1
    rw [← h4, List.getElem?_take, if_pos (by omega)] at hu
    simp [World.cell?, hg]
    simpa using hu
theorem Sat.new_setRow {g : Nat} (H : Sat W w (newS e zc (.slice (some ⟨g, 0, none⟩) n c) n xs :: l)) (cur : Array Value) (n' : Nat) (hn : n' ≤ c) (hs : cur.size = c * zc.length) (ht : Zeros zc (cur.toList.drop (n' * zc.length))) :
    Sat W (w.setRow g cur) (newS e zc (.slice (some ⟨g, 0, none⟩) n' c) n' (cur.toList.take (n' * zc.length)) :: l) := by
  have hge : W.heap.size ≤ g := (H.new_owns.lt g rfl).1
  have hb : Below W.heap.size W (w.setRow g cur) := H.bel.trans ⟨rfl, rfl, rfl, by simp, fun k hk => setRow_other w g k _ (by omega)⟩
  refine H.put hb fun a ⟨hx, ha⟩ hh => ?_
  rcases ha with ⟨hv, _⟩ | ⟨g', cap, cur0, hv, hg, h1, h2, h3, h4, h5⟩
  · cases hv
  · cases hv
    have hw := (hh g _ hg).1
    refine ⟨fun k => if k = g then some (.cells cur e (0, 0)) else none, ⟨?_, .inr ⟨g, c, cur, rfl, by simp, hn, h2, hs, rfl, ht⟩⟩, fun k hk => ?_, fun k o ek => ?_, fun k hk _ => ?_⟩
    · have hcl : cur.toList.length = c * zc.length := by simpa using hs
      rw [List.length_take, hcl]
      exact Nat.min_eq_left (Nat.mul_le_mul_right _ hn)
    · by_cases e1 : k = g
      · subst e1; left; rw [hg]; simp
      · simp [e1] at hk
    · by_cases e1 : k = g
      · subst e1
        simp at ek
        subst ek
        exact ⟨hge, setRow_heap w k _ cur e _ hw⟩
      · simp [e1] at ek
    · exact setRow_other w g k cur (by rintro rfl; rw [hg] at hk; cases hk)
theorem Sat.new_grew (H : Sat W w l) (xs : List Value) (need old : Nat) (hx : xs.length = need * zc.length) (h63 : need ≤ maxLen) (cur : Array Value)
    (hc : cur = xs.toArray ++ Builtin.zeroCells zc.toArray (grownCap w need old e - need)) :
    Sat W (w.drew.alloc (.cells cur e)) (newS e zc (.slice (some ⟨w.heap.size, 0, none⟩) need (grownCap w need old e)) need xs :: l) := by
  have hge := grownCap_ge w need old e
  have hcm : grownCap w need old e ≤ maxLen := grownCap_le_maxLen w need old e h63
  have hs : cur.size = grownCap w need old e * zc.length := by
    rw [hc]
    simp only [Array.size_append, List.size_toArray, size_zeroCells, hx, ← Nat.add_mul]
    congr 1
    omega
  refine (H.drew.alloc cur e).head fun h hh => ⟨hx, .inr ⟨w.heap.size, _, cur, rfl, hh, hge, hcm, hs, ?_, ?_⟩⟩
  · rw [hc, Array.toList_append, ← hx]
    exact List.take_left
  · rw [hc, Array.toList_append, ← hx]
    show Zeros zc ((xs ++ _).drop xs.length)
    rw [List.drop_left]
    exact Zeros.zeros zc _
/-- It is a row, if what it holds is. -/
theorem Sat.new_row (H : Sat W w (newS e zc v n xs :: l)) (hx : Typed zc xs) (hz : LikeZ zc) (hp : 0 < zc.length) : Sat W w (row e zc v n xs :: l) := by
  refine H.head fun h ⟨h1, ha⟩ => ⟨h1, ?_⟩
  rcases ha with ha | ⟨g, cap, cur, hv, hg, h2, h3, h4, h5, h6⟩
  · exact .inl ha
  · refine .inr ⟨g, cap, cur, hv, hg, h2, h3, h4, h5, ?_⟩
    have := Typed.append hx (h6.typed hz hp) (by rw [h1]; simp)
    rwa [← h5, List.take_append_drop] at this

theorem run_append_new (t ty e : TypeId) (i : TypeInfo) (z : Value) (zc : List Value) (ht : P.underlying t = some (.slice e)) (hi : P.info? e = some i) (hz : i.zero = some z) (hzc : z.cells = zc.toArray)
    (hsize : i.size = zc.length) (hpos : 0 < zc.length)
    (v : Value) (n : Nat) (xs : List Value) (H : Sat W w (newS e zc v n xs :: l))
    (A : Option Addr) (m c : Nat) (news : List Value) (hl : news.length = m * zc.length) (hr : Rd w A news) (h1 : ∀ u ∈ news, u.oneCell' = true)
    (h63 : n + m ≤ maxLen) (hbytes : (n + m) * i.bytes ≤ 140737488355328) :
    ∃ A' c' w', (Builtin.append_ #[t, t] ty #[v, .slice A m c]).run P w = .ok (.slice A' (n + m) c') w' ∧ Sat W w' (newS e zc (.slice A' (n + m) c') (n + m) (xs ++ news) :: l) := by
  obtain ⟨hxl, A', c', rfl, hnc, hcm, hA0, hA1⟩ := H.new_slice
  rcases Nat.eq_zero_or_pos m with hm | hm
  · subst hm
    have hn0 : news = [] := List.eq_nil_of_length_eq_zero (by simpa using hl)
    subst hn0
    have hf : (Builtin.firstCells i.size 0 (.slice A 0 c)).run P w = .ok #[] w := by
      cases A with
      | none => exact run_firstCells_none w _ _ _ _
      | some ad => exact run_firstCells_some w i.size 0 ad 0 c [] (by simp) (by intro j u h; simp at h)
    refine ⟨A', c', w, ?_, by simpa using H⟩
    cases A' with
    | none => simp [Builtin.append_, run_underlying ht, sizeOf, typeInfo, hi, Builtin.lenOf, hnc, hf]
    | some ad => simp [Builtin.append_, run_underlying ht, sizeOf, typeInfo, hi, Builtin.lenOf, hnc, hf, storeCells]
  · have hx0 : news ≠ [] := by
      intro h0
      subst h0
      have : m * zc.length ≥ 1 := Nat.mul_pos hm hpos
      simp at hl; omega
    obtain ⟨b, off, rfl⟩ := hr.open hx0
    have hnews : ∀ j u, news[j]? = some u → w.cell? ((⟨b, off, none⟩ : Addr).add j) = some u := fun j u hu => by
      have h0 := hr.at j hu
      unfold Addr.add
      split
      · rename_i hj; subst hj; simpa using h0
      · exact h0
    have hl' : news.length = m * i.size := by rw [hsize]; exact hl
    have hlen : (xs ++ news).length = (n + m) * zc.length := by rw [List.length_append, hxl, hl, Nat.add_mul]
    cases A' with
    | none =>
      obtain ⟨rfl, rfl⟩ := hA0 rfl
      have hx : xs = [] := List.eq_nil_of_length_eq_zero (by simpa using hxl)
      subst hx
      have hrun := run_append_nil (P := P) w t ty e i z ht hi hz ⟨b, off, none⟩ m c news hl' hnews (by omega) (by simp only [maxLen] at h63; omega) (by have hb := hbytes; simp only [Nat.zero_add] at hb; omega)
      refine ⟨_, _, _, by simpa using hrun, ?_⟩
      have hs := H.tail.new_grew (e := e) (zc := zc) news m 0 hl (by omega) _ (by rw [← hzc])
      simpa using hs
    | some ad =>
      obtain ⟨h0, hsp, hge, hlt⟩ := hA1 ad rfl
      obtain ⟨g, off', sp⟩ := ad
      dsimp only at h0 hsp hge hlt
      subst h0 hsp
      obtain ⟨cur, hg, _, _, hcs, htake, htc⟩ := H.new_blk
      by_cases hroom : n + m ≤ c'
      · have hfit : n * i.size + news.length ≤ cur.size := by rw [hl', hcs, hsize, ← Nat.add_mul]; exact Nat.mul_le_mul_right _ hroom
        have hrun := run_append_room (P := P) w t ty e i ht hi g n c' cur hg ⟨b, off, none⟩ m c news hl' hnews h1 hroom hfit
        refine ⟨_, _, _, hrun, ?_⟩
        have e0 : (cur.toList.take (n * i.size) ++ news ++ cur.toList.drop (n * i.size + news.length)).toArray.toList = (xs ++ news) ++ (cur.toList.drop (n * zc.length)).drop (m * zc.length) := by
          simp only [hsize]
          rw [htake, List.drop_drop, hl]
        have hs := H.new_setRow (cur.toList.take (n * i.size) ++ news ++ cur.toList.drop (n * i.size + news.length)).toArray (n + m) hroom ?_ ?_
        · rw [e0, ← hlen, List.take_left] at hs
          exact hs
        · simp only [List.size_toArray, List.length_append, List.length_take, List.length_drop, Array.length_toList]
          rw [← hcs]; omega
        · rw [e0, ← hlen, List.drop_left]
          exact htc.drop _ (by simp)
      · have holds : ∀ j u, xs[j]? = some u → w.cell? ((⟨g, 0, none⟩ : Addr).add j) = some u := H.new_owns.cells (g := g) rfl
        have hrun := run_append_grow (P := P) w t ty e i z ht hi hz ⟨g, 0, none⟩ n c' xs (by rw [hsize]; exact hxl) holds ⟨b, off, none⟩ m c news hl' hnews (by omega) (by simp only [maxLen] at h63; omega) (growslice_fits (by omega) hbytes)
        refine ⟨_, _, _, hrun, ?_⟩
        exact H.tail.new_grew (e := e) (zc := zc) (xs ++ news) (n + m) c' hlen h63 _ (by rw [← hzc]; simp)
theorem wp_append_new {o : Oper} {a : Act} {K : Act → World → Prop} {Q : Exit → Act → World → Prop} (s x : Operand) (t : TypeId)
    (ho : o.op = .call { callee := .builtin .append, args := #[s, x], argTypes := #[t, t] })
    (e : TypeId) (i : TypeInfo) (z : Value) (zc : List Value) (bytes : Nat) (ht : P.underlying t = some (.slice e)) (hi : P.info? e = some i) (hz : i.zero = some z) (hzc : z.cells = zc.toArray)
    (hsize : i.size = zc.length) (hby : i.bytes = bytes) (hpos : 0 < zc.length)
    (v : Value) (n : Nat) (xs : List Value) (hs : a.eval s = v) (H : Sat W w (newS e zc v n xs :: l))
    (A : Option Addr) (m c : Nat) (news : List Value) (hx : a.eval x = .slice A m c) (hl : news.length = m * zc.length) (hr : Rd w A news) (h1 : ∀ u ∈ news, u.oneCell' = true)
    (h63 : n + m ≤ maxLen) (hbytes : (n + m) * bytes ≤ 140737488355328)
    (h : ∀ A' c' w', Sat W w' (newS e zc (.slice A' (n + m) c') (n + m) (xs ++ news) :: l) → K (a.put o.dst (.slice A' (n + m) c')) w') : o.wp P a w K Q := by
  subst hby
  obtain ⟨A', c', w', hrun, H'⟩ := run_append_new (P := P) t o.type e i z zc ht hi hz hzc hsize hpos v n xs H A m c news hl hr h1 h63 hbytes
  unfold Oper.wp execOp
  simp only [ho, resolve, invoke, builtin, Sem.run_bind, Sem.run_pure, Result.andThen_ok, List.map_toArray, List.map_cons, List.map_nil, hs, hx, hrun]
  exact h A' c' w' H'
set_option maxRecDepth 100000 in
theorem wpList_append_new {ops : Array Oper} {rest : List Oper} {o : Oper} {a : Act} {Q : Exit → Act → World → Prop} (hgd : o.guard = none) (s x : Operand) (t : TypeId)
    (ho : o.op = .call { callee := .builtin .append, args := #[s, x], argTypes := #[t, t] })
    (e : TypeId) (i : TypeInfo) (z : Value) (zc : List Value) (bytes : Nat) (ht : P.underlying t = some (.slice e)) (hi : P.info? e = some i) (hz : i.zero = some z) (hzc : z.cells = zc.toArray)
    (hsize : i.size = zc.length) (hby : i.bytes = bytes) (hpos : 0 < zc.length)
    (v : Value) (n : Nat) (xs : List Value) (hs : a.eval s = v) (H : Sat W w (newS e zc v n xs :: l))
    (A : Option Addr) (m c : Nat) (news : List Value) (hx : a.eval x = .slice A m c) (hl : news.length = m * zc.length) (hr : Rd w A news) (h1 : ∀ u ∈ news, u.oneCell' = true)
    (h63 : n + m ≤ maxLen) (hbytes : (n + m) * bytes ≤ 140737488355328)
    (h : ∀ A' c' w', Sat W w' (newS e zc (.slice A' (n + m) c') (n + m) (xs ++ news) :: l) → wpList P ops Q rest (a.put o.dst (.slice A' (n + m) c')) w') : wpList P ops Q (o :: rest) a w :=
  wpList_plain hgd fun _ hK => wp_append_new s x t ho e i z zc bytes ht hi hz hzc hsize hby hpos v n xs hs H A m c news hx hl hr h1 h63 hbytes fun A' c' w' H' => hK _ _ (h A' c' w' H')
theorem step_append_new {ops : Array Oper} {o : Oper} {a : Act} {K : Act → World → Prop} {Q : Exit → Act → World → Prop} {E : Prop} (hgd : o.guard = none) (s x : Operand) (t : TypeId)
    (ho : o.op = .call { callee := .builtin .append, args := #[s, x], argTypes := #[t, t] })
    (e : TypeId) (i : TypeInfo) (z : Value) (zc : List Value) (bytes : Nat) (ht : P.underlying t = some (.slice e)) (hi : P.info? e = some i) (hz : i.zero = some z) (hzc : z.cells = zc.toArray)
    (hsize : i.size = zc.length) (hby : i.bytes = bytes) (hpos : 0 < zc.length)
    (v : Value) (n : Nat) (xs : List Value) (hs : a.eval s = v) (H : Sat W w (newS e zc v n xs :: l))
    (A : Option Addr) (m c : Nat) (news : List Value) (hx : a.eval x = .slice A m c) (hl : news.length = m * zc.length) (hr : Rd w A news) (h1 : ∀ u ∈ news, u.oneCell' = true)
    (h63 : n + m ≤ maxLen) (hbytes : (n + m) * bytes ≤ 140737488355328)
    (h : ∀ A' c' w', Sat W w' (newS e zc (.slice A' (n + m) c') (n + m) (xs ++ news) :: l) → K (a.put o.dst (.slice A' (n + m) c')) w') :
    if Region.wanted o (yielded ops a.tmps) = true then Oper.wp P o a w K Q else E := by
  have hw : Region.wanted o (yielded ops a.tmps) = true := by simp [Region.wanted, hgd]
  rw [if_pos hw]
  exact wp_append_new s x t ho e i z zc bytes ht hi hz hzc hsize hby hpos v n xs hs H A m c news hx hl hr h1 h63 hbytes h
theorem RdL.newS : RdL W (Go.Rt.newS e zc (.slice A n c) n xs :: l) A xs := fun _ H => H.new_rd
theorem Sat.seen_rd (H : Sat W w (Go.Rt.newS e zc (.slice A n c) n xs :: l)) : Rd w A xs := H.new_rd
theorem RdL.seenS : RdL W (Go.Rt.newS e zc (.slice A n c) n xs :: l) A xs := fun _ H => H.new_rd
end
end Go.Rt
