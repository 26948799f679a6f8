/- A pack of texts: RtL, RtN, RtS -/
import Derived.Test.YtodbmeklbamcfaaGreatPkKnownG
import Derived.Test.YtodbmeklbamcfaaGreatPkKnownF
import Derived.Lib.SliceRun
/- A new slice of texts, written at a place; its tail cleared. No program in sight. -/
namespace Go.Rt
open Go.RowKit
section
variable {P : Program} {W w : World} {l : List SL} {e : TypeId} {g c n : Nat} {xs : List Value}
theorem Sat.seen_set (H : Sat W w (seenS e (.slice (some ⟨g, 0, none⟩) n c) n xs :: l)) (j : Nat) (hj : j < n) (u : Value) : Sat W (w.setCell ⟨g, j, none⟩ u) (seenS e (.slice (some ⟨g, 0, none⟩) n c) n (xs.set j u) :: l) := by
  obtain ⟨cur, hg, h1, h2, h3, h4, h5⟩ := H.new_blk
  simp only [List.length_cons, List.length_nil, Nat.zero_add, Nat.mul_one] at h3 h4 h5
  rw [setCell_eq_setRow w g j cur e (0, 0) u hg]
  have := H.new_setRow (cur.setIfInBounds j u) n h1 (by simpa using h3) (by
    simp only [List.length_cons, List.length_nil, Nat.zero_add, Nat.mul_one]
    rw [Array.toList_setIfInBounds, List.drop_set_of_lt hj]
    exact h5)
  simp only [List.length_cons, List.length_nil, Nat.zero_add, Nat.mul_one] at this
  rwa [Array.toList_setIfInBounds, List.take_set, h4] at this
theorem Sat.seen_frz (H : Sat W w (seenS e (.slice (some ⟨g, 0, none⟩) n c) n xs :: l)) (j : Nat) : w.frozen? ⟨g, j, none⟩ = false := by
  obtain ⟨cur, hg, _⟩ := H.new_blk
  simp [World.frozen?, hg]
theorem Sat.seen_at (H : Sat W w (seenS e (.slice (some ⟨g, 0, none⟩) n c) n xs :: l)) (j : Nat) {u : Value} (hu : xs[j]? = some u) : w.cell? ⟨g, j, none⟩ = some u := by
  have := H.new_rd.at j hu
  rwa [Nat.zero_add] at this

set_option maxRecDepth 100000 in
theorem wpList_clear_seen {ops : Array Oper} {rest : List Oper} {o : Oper} {a : Act} {Q : Exit → Act → World → Prop} (hg : o.guard = none) (hdst : o.dst = none) (x : Operand) (t : TypeId) (hop : o.op = Op.call { callee := Callee.builtin Builtin.clear, args := #[x], argTypes := #[t] })
    (ht : P.underlying t = some (.slice e)) (hv : ∀ w, (zeroValue e).run P w = .ok (.string ⟨#[]⟩) w) (i : Nat) (hi : i < n) (hx : a.eval x = .slice (subA (some ⟨g, 0, none⟩) c i) (n - i) (c - i))
    (H : Sat W w (seenS e (.slice (some ⟨g, 0, none⟩) n c) n xs :: l)) (hK : ∀ w', Sat W w' (seenS e (.slice (some ⟨g, 0, none⟩) i c) i (xs.take i) :: l) → wpList P ops Q rest a w') : wpList P ops Q (o :: rest) a w := by
  refine wpList_plain hg fun K hK' => ?_
  obtain ⟨cur, hgg, h1, h2, h3, h4, h5⟩ := H.new_blk
  simp only [List.length_cons, List.length_nil, Nat.zero_add, Nat.mul_one] at h3 h4 h5
  have hA : subA (some (⟨g, 0, none⟩ : Addr)) c i = some ⟨g, i, none⟩ := by
    unfold subA
    rw [if_neg (by omega)]
    simp only [Option.map_some, Option.some.injEq]
    unfold Addr.add
    split
    · rename_i h0; subst h0; rfl
    · simp
  rw [hA] at hx
  have hzc : (Builtin.zeroCells (Value.string ⟨#[]⟩).cells (n - i)).toList = List.replicate (n - i) (Value.string ⟨#[]⟩) := by
    simp [Builtin.zeroCells, Value.cells]
    apply List.ext_getElem
    · simp
    · intro i h1 h2
      simp [Nat.mod_one]
  have hst := run_storeCells_at P g i e (List.replicate (n - i) (Value.string ⟨#[]⟩)) 0 cur w hgg (by simp; omega) (by intro v hv'; rw [List.eq_of_mem_replicate hv']; rfl)
  simp only [Nat.add_zero, List.length_replicate] at hst
  have hcl : cur.toList.length = c := by simpa using h3
  have hti : (cur.toList.take i).length = i := by rw [List.length_take]; omega
  have H2 := H.new_setRow (cur.toList.take i ++ List.replicate (n - i) (Value.string ⟨#[]⟩) ++ cur.toList.drop (i + (n - i))).toArray i (by omega) (by simp only [List.size_toArray, List.length_append, List.length_take, List.length_replicate, List.length_drop, hcl]; simp only [List.length_cons, List.length_nil, Nat.zero_add, Nat.mul_one]; omega) (by
    simp only [List.length_cons, List.length_nil, Nat.zero_add, Nat.mul_one]
    rw [List.append_assoc, List.drop_append_of_le_length (by omega), List.drop_of_length_le (by omega), List.nil_append]
    refine Zeros.append (fun j u hu => ?_) (by rw [show i + (n - i) = n by omega]; exact h5) (by simp [Nat.mod_one])
    rw [List.eq_of_mem_replicate (List.mem_of_getElem? hu)]
    simp [Nat.mod_one])
  simp only [List.length_cons, List.length_nil, Nat.zero_add, Nat.mul_one] at H2
  have e9 : (cur.toList.take i ++ List.replicate (n - i) (Value.string ⟨#[]⟩) ++ cur.toList.drop (i + (n - i))).take i = xs.take i := by
    rw [List.append_assoc, List.take_append_of_le_length (by omega), List.take_take, Nat.min_self, ← h4, List.take_take, Nat.min_eq_left (by omega)]
  rw [e9] at H2
  have hrun : ∀ ty, (Builtin.clear_ #[t] ty #[.slice (some ⟨g, i, none⟩) (n - i) (c - i)]).run P w = .ok (.tuple #[]) (w.setRow g (cur.toList.take i ++ List.replicate (n - i) (Value.string ⟨#[]⟩) ++ cur.toList.drop (i + (n - i))).toArray) := fun ty => by
    obtain ⟨m, hm⟩ : ∃ m, n - i = m + 1 := ⟨n - i - 1, by omega⟩
    rw [hm] at hzc hst ⊢
    simp [Builtin.clear_, run_underlying ht, hv, hzc, hst]
  unfold Oper.wp
  simp [execOp, hop, resolve, invoke, builtin, hx, hrun, Result.andThen]
  refine hK' _ _ ?_
  rw [hdst]
  exact hK _ (by simpa using H2)
end
end Go.Rt

/- Parts of slices whose elements have several cells; in regions that draw their order, too. No program in sight. -/
namespace Go.Rt
open Go.RowKit

def subZ (sz : Nat) (A : Option Addr) (c l : Nat) : Option Addr := if c = l then A else A.map (·.add (l * sz))
theorem subZ_rd {w : World} {sz : Nat} {A : Option Addr} {n c : Nat} {xs : List Value} (h : Rd w A xs) (hn : xs.length = n * sz) (hc : n ≤ c) (l m : Nat) (hl : l + m ≤ n) : Rd w (subZ sz A c l) ((xs.drop (l * sz)).take (m * sz)) := by
  unfold subZ
  by_cases hcl : c = l
  · obtain rfl : m = 0 := by omega
    rw [if_pos hcl, Nat.zero_mul, List.take_zero]
    exact Rd.nil _ _
  · rw [if_neg hcl]
    by_cases hx : xs = []
    · subst hx; simp only [List.drop_nil, List.take_nil]; exact Rd.nil _ _
    · obtain ⟨b, o, rfl⟩ := h.open hx
      have e : (some (⟨b, o, none⟩ : Addr)).map (·.add (l * sz)) = some ⟨b, o + l * sz, none⟩ := by
        simp only [Option.map_some, Option.some.injEq]
        unfold Addr.add
        split
        · rename_i h0; rw [h0]; rfl
        · rfl
      rw [e]
      exact (h.drop _).take _
theorem subZ_zero (sz : Nat) (A : Option Addr) (c : Nat) : subZ sz A c 0 = A := by
  unfold subZ
  split
  · rfl
  · cases A with
    | none => rfl
    | some a => simp [Addr.add]
section
variable {P : Program} {w : World}
theorem run_slice_partZ (t e : TypeId) (i : TypeInfo) (sz : Nat) (hu : P.underlying t = some (.slice e)) (hi : P.info? e = some i) (hs : i.size = sz) (A : Option Addr) (n c l h : Nat) (hl : l ≤ h) (hh : h ≤ c) :
    (Instr.slice t (.slice A n c) (some (.int .i64 l)) (some (.int .i64 h)) none).run P w = .ok (.slice (subZ sz A c l) (h - l) (c - l)) w := by
  have h1 := run_sliceBound (P := P) (w := w) .i64 (h : Int) c .sliceAcap (by omega) (by omega)
  have h2 := run_sliceBound (P := P) (w := w) .i64 (l : Int) h .sliceB (by omega) (by omega)
  simp only [Int.toNat_natCast] at h1 h2
  simp [Instr.slice, run_underlying hu, Instr.sliceBounds, h1, h2, sizeOf, typeInfo, hi, hs, Result.andThen, subZ]
theorem run_slice_fromZ (t e : TypeId) (i : TypeInfo) (sz : Nat) (hu : P.underlying t = some (.slice e)) (hi : P.info? e = some i) (hs : i.size = sz) (A : Option Addr) (n c l : Nat) (hl : l ≤ n) :
    (Instr.slice t (.slice A n c) (some (.int .i64 l)) none none).run P w = .ok (.slice (subZ sz A c l) (n - l) (c - l)) w := by
  have h2 := run_sliceBound (P := P) (w := w) .i64 (l : Int) n .sliceB (by omega) (by omega)
  simp only [Int.toNat_natCast] at h2
  simp [Instr.slice, run_underlying hu, Instr.sliceBounds, h2, sizeOf, typeInfo, hi, hs, Result.andThen, subZ]
theorem run_slice_toZ (t e : TypeId) (i : TypeInfo) (hu : P.underlying t = some (.slice e)) (hi : P.info? e = some i) (A : Option Addr) (n c h : Nat) (hh : h ≤ c) :
    (Instr.slice t (.slice A n c) none (some (.int .i64 h)) none).run P w = .ok (.slice A h c) w := by
  have h1 := run_sliceBound (P := P) (w := w) .i64 (h : Int) c .sliceAcap (by omega) (by omega)
  simp only [Int.toNat_natCast] at h1
  have h2 := subZ_zero i.size A c
  unfold subZ at h2
  simp only [Nat.zero_mul] at h2
  simp [Instr.slice, run_underlying hu, Instr.sliceBounds, h1, sizeOf, typeInfo, hi, Result.andThen, h2]

theorem wpList_slice_fromZ {ops : Array Oper} {rest : List Oper} {o : Oper} {a : Act} {Q : Exit → Act → World → Prop} (hw : Region.wanted o (yielded ops a.tmps) = true) (x lo : Operand) (t : TypeId) (hop : o.op = Op.slice t x (some lo) none none)
    (e : TypeId) (i : TypeInfo) (sz : Nat) (hu : P.underlying t = some (.slice e)) (hi : P.info? e = some i) (hs : i.size = sz) (A : Option Addr) (n c l : Nat) (hx : a.eval x = .slice A n c) (hlo : a.eval lo = .int .i64 l) (hl : l ≤ n)
    (hK : wpList P ops Q rest (a.put o.dst (.slice (subZ sz A c l) (n - l) (c - l))) w) : wpList P ops Q (o :: rest) a w := by
  refine BigFrame.wpList_want hw fun K hK' => ?_
  have hrun := run_slice_fromZ (P := P) (w := w) t e i sz hu hi hs A n c l hl
  unfold Oper.wp
  simp [execOp, hop, hx, hlo, Instr.sliceAt, run_underlying hu, hrun, Result.andThen]
  exact hK' _ _ hK
theorem wpList_slice_partZ {ops : Array Oper} {rest : List Oper} {o : Oper} {a : Act} {Q : Exit → Act → World → Prop} (hw : Region.wanted o (yielded ops a.tmps) = true) (x lo hi' : Operand) (t : TypeId) (hop : o.op = Op.slice t x (some lo) (some hi') none)
    (e : TypeId) (i : TypeInfo) (sz : Nat) (hu : P.underlying t = some (.slice e)) (hi : P.info? e = some i) (hs : i.size = sz) (A : Option Addr) (n c l h : Nat) (hx : a.eval x = .slice A n c) (hlo : a.eval lo = .int .i64 l) (hhi : a.eval hi' = .int .i64 h) (hl : l ≤ h) (hh : h ≤ c)
    (hK : wpList P ops Q rest (a.put o.dst (.slice (subZ sz A c l) (h - l) (c - l))) w) : wpList P ops Q (o :: rest) a w := by
  refine BigFrame.wpList_want hw fun K hK' => ?_
  have hrun := run_slice_partZ (P := P) (w := w) t e i sz hu hi hs A n c l h hl hh
  unfold Oper.wp
  simp [execOp, hop, hx, hlo, hhi, Instr.sliceAt, run_underlying hu, hrun, Result.andThen]
  exact hK' _ _ hK
theorem wpList_slice_toZ {ops : Array Oper} {rest : List Oper} {o : Oper} {a : Act} {Q : Exit → Act → World → Prop} (hw : Region.wanted o (yielded ops a.tmps) = true) (x hi' : Operand) (t : TypeId) (hop : o.op = Op.slice t x none (some hi') none)
    (e : TypeId) (i : TypeInfo) (hu : P.underlying t = some (.slice e)) (hi : P.info? e = some i) (A : Option Addr) (n c h : Nat) (hx : a.eval x = .slice A n c) (hhi : a.eval hi' = .int .i64 h) (hh : h ≤ c)
    (hK : wpList P ops Q rest (a.put o.dst (.slice A h c)) w) : wpList P ops Q (o :: rest) a w := by
  refine BigFrame.wpList_want hw fun K hK' => ?_
  have hrun := run_slice_toZ (P := P) (w := w) t e i hu hi A n c h hh
  unfold Oper.wp
  simp [execOp, hop, hx, hhi, Instr.sliceAt, run_underlying hu, hrun, Result.andThen]
  exact hK' _ _ hK
theorem step_slice_fromZ {ops : Array Oper} {o : Oper} {a : Act} {K : Act → World → Prop} {Q : Exit → Act → World → Prop} {E : Prop} (hgd : o.guard = none) (x lo : Operand) (t : TypeId) (hop : o.op = Op.slice t x (some lo) none none)
    (e : TypeId) (i : TypeInfo) (sz : Nat) (hu : P.underlying t = some (.slice e)) (hi : P.info? e = some i) (hs : i.size = sz) (A : Option Addr) (n c l : Nat) (hx : a.eval x = .slice A n c) (hlo : a.eval lo = .int .i64 l) (hl : l ≤ n)
    (hK : K (a.put o.dst (.slice (subZ sz A c l) (n - l) (c - l))) w) : if Region.wanted o (yielded ops a.tmps) = true then Oper.wp P o a w K Q else E := by
  have hw : Region.wanted o (yielded ops a.tmps) = true := by simp [Region.wanted, hgd]
  rw [if_pos hw]
  have hrun := run_slice_fromZ (P := P) (w := w) t e i sz hu hi hs A n c l hl
  unfold Oper.wp
  simp [execOp, hop, hx, hlo, Instr.sliceAt, run_underlying hu, hrun, Result.andThen]
  exact hK
theorem step_slice_toZ {ops : Array Oper} {o : Oper} {a : Act} {K : Act → World → Prop} {Q : Exit → Act → World → Prop} {E : Prop} (hgd : o.guard = none) (x hi' : Operand) (t : TypeId) (hop : o.op = Op.slice t x none (some hi') none)
    (e : TypeId) (i : TypeInfo) (hu : P.underlying t = some (.slice e)) (hi : P.info? e = some i) (A : Option Addr) (n c h : Nat) (hx : a.eval x = .slice A n c) (hhi : a.eval hi' = .int .i64 h) (hh : h ≤ c)
    (hK : K (a.put o.dst (.slice A h c)) w) : if Region.wanted o (yielded ops a.tmps) = true then Oper.wp P o a w K Q else E := by
  have hw : Region.wanted o (yielded ops a.tmps) = true := by simp [Region.wanted, hgd]
  rw [if_pos hw]
  have hrun := run_slice_toZ (P := P) (w := w) t e i hu hi A n c h hh
  unfold Oper.wp
  simp [execOp, hop, hx, hhi, Instr.sliceAt, run_underlying hu, hrun, Result.andThen]
  exact hK
end
section
variable {W w : World} {l : List SL}
theorem Sat.new_made (H : Sat W w l) (e : TypeId) (zc : List Value) : Sat W (w.alloc (.cells #[] e)) (newS e zc (.slice (some ⟨w.heap.size, 0, none⟩) 0 0) 0 [] :: l) :=
  (H.alloc #[] e).head fun h hh => ⟨by simp, .inr ⟨w.heap.size, 0, #[], rfl, hh, Nat.le_refl _, by simp [maxLen], by simp, by simp, by simpa using Zeros.nil _⟩⟩
end
end Go.Rt

/- Laws on a row of structs: an element written at a place, and what the row holds then; its tail cleared. No program in sight. -/
namespace Go.Rt
open Go.RowKit
theorem take_splice {cur xs cs : List Value} {k m n : Nat} (h : cur.take n = xs) (hk : k + m ≤ n) (hn : n ≤ cur.length) (hcs : cs.length = m) : (cur.take k ++ cs ++ cur.drop (k + m)).take n = xs.take k ++ cs ++ xs.drop (k + m) := by
  subst h
  have hl : (cur.take k ++ cs).length = k + m := by rw [List.length_append, List.length_take, hcs]; omega
  rw [List.take_append, hl, List.take_of_length_le (by omega), List.take_take, Nat.min_eq_left (by omega), List.drop_take]
theorem flat_set {α : Type} (cs : α → List Value) (sz : Nat) : ∀ (ts : List α) (j : Nat) (y : α), (∀ x ∈ ts, (cs x).length = sz) → j < ts.length → (ts.flatMap cs).take (j * sz) ++ cs y ++ (ts.flatMap cs).drop (j * sz + sz) = (ts.set j y).flatMap cs
  | [], j, y, _, hj => by simp at hj
  | x :: ts, 0, y, h, _ => by
    have h1 := h x (by simp)
    rw [List.flatMap_cons, Nat.zero_mul, List.take_zero, List.nil_append, Nat.zero_add, List.drop_left' h1, List.set_cons_zero, List.flatMap_cons]
  | x :: ts, j + 1, y, h, hj => by
    have h1 := h x (by simp)
    have ih := flat_set cs sz ts j y (fun z hz => h z (by simp [hz])) (by simpa using hj)
    rw [List.flatMap_cons, List.set_cons_succ, List.flatMap_cons, ← ih, Nat.succ_mul]
    rw [List.take_append, List.drop_append, List.take_of_length_le (by omega), List.drop_eq_nil_of_le (by omega), h1, List.nil_append]
    rw [show j * sz + sz - sz = j * sz by omega, show j * sz + sz + sz - sz = j * sz + sz by omega]
    simp

section
variable {P : Program} {W w : World} {l : List SL} {e : TypeId} {zc xs : List Value} {n c g : Nat}

/-- An element of several cells is written in a row: what the row holds then. -/
theorem wpList_store_elx {ops : Array Oper} {rest : List Oper} {o : Oper} {a : Act} {Q : Exit → Act → World → Prop} (hg : o.guard = none) (hdst : o.dst = none) (x y : Operand) (t : TypeId) (hop : o.op = Op.store t x y)
    (j : Nat) (hj : j < n) (cs : List Value) (hsz : (P.info? t).map (·.size) = some zc.length) (hcs : cs.length = zc.length) (hx : a.eval x = .pointer (some ⟨g, j * zc.length, none⟩)) (hy : a.eval y = .agg cs.toArray)
    (h1 : ∀ u ∈ cs, u.oneCell' = true) (hty : Typed zc cs) (H : Sat W w (row e zc (.slice (some ⟨g, 0, none⟩) n c) n xs :: l)) (hK : ∀ w', Sat W w' (row e zc (.slice (some ⟨g, 0, none⟩) n c) n (xs.take (j * zc.length) ++ cs ++ xs.drop (j * zc.length + zc.length)) :: l) → wpList P ops Q rest a w') : wpList P ops Q (o :: rest) a w := by
  refine wpList_plain hg fun K hK' => ?_
  obtain ⟨cur, hgg, hcur, hnc, H'⟩ := H.setEl j hj cs hcs hty
  obtain ⟨cur', hgg', _, _, _, htk, _⟩ := H.row_blk
  rw [hgg] at hgg'
  simp only [Option.some.injEq, Obj.cells.injEq, and_true] at hgg'
  obtain rfl := hgg'
  have hm : (j + 1) * zc.length ≤ n * zc.length := Nat.mul_le_mul_right _ (by omega)
  have hmc : n * zc.length ≤ c * zc.length := Nat.mul_le_mul_right _ (by omega)
  rw [Nat.succ_mul] at hm
  have hcl : cur.toList.length = c * zc.length := by simpa using hcur
  rw [take_splice htk hm (by omega) hcs] at H'
  have hst := run_storeCells_at P g (j * zc.length) e cs 0 cur w hgg (by omega) h1
  simp only [Nat.add_zero, hcs] at hst
  have hso : ∀ w, (sizeOf t).run P w = .ok zc.length w := fun w => by
    cases hi : P.info? t with
    | none => simp [hi] at hsz
    | some i => simp [hi] at hsz; simp [sizeOf, typeInfo, hi, Result.andThen, hsz]
  have hrun : (storeVar t ⟨g, j * zc.length, none⟩ (.agg cs.toArray)).run P w = .ok () (w.setRow g (cur.toList.take (j * zc.length) ++ cs ++ cur.toList.drop (j * zc.length + zc.length)).toArray) := by
    simp [storeVar, Value.cells, hso, hst, Result.andThen, hcs]
  unfold Oper.wp
  simp [execOp, hop, hx, hy, Instr.storeAt, Instr.sureAddr, hrun, Result.andThen]
  refine hK' _ _ ?_
  rw [hdst]
  exact hK _ (by simpa using H')

set_option maxRecDepth 100000 in
/-- 'clear(s[i:])': the row up to i. -/
theorem wpList_clear_row {ops : Array Oper} {rest : List Oper} {o : Oper} {a : Act} {Q : Exit → Act → World → Prop} (hg : o.guard = none) (hdst : o.dst = none) (x : Operand) (t : TypeId) (hop : o.op = Op.call { callee := Callee.builtin Builtin.clear, args := #[x], argTypes := #[t] })
    (ht : P.underlying t = some (.slice e)) (z : Value) (hv : ∀ w, (zeroValue e).run P w = .ok z w) (hzc : z.cells = zc.toArray) (hp : 0 < zc.length) (hz1 : ∀ u ∈ zc, u.oneCell' = true) (hzz : LikeZ zc) (i : Nat) (hi : i < n) (hx : a.eval x = .slice (subZ zc.length (some ⟨g, 0, none⟩) c i) (n - i) (c - i))
    (H : Sat W w (row e zc (.slice (some ⟨g, 0, none⟩) n c) n xs :: l)) (hK : ∀ w', Sat W w' (row e zc (.slice (some ⟨g, 0, none⟩) i c) i (xs.take (i * zc.length)) :: l) → wpList P ops Q rest a w') : wpList P ops Q (o :: rest) a w := by
  refine wpList_plain hg fun K hK' => ?_
  obtain ⟨cur, hgg, h1, h2, h3, h4, h5⟩ := H.row_blk
  have hA : subZ zc.length (some (⟨g, 0, none⟩ : Addr)) c i = some ⟨g, i * zc.length, none⟩ := by
    unfold subZ
    rw [if_neg (by omega)]
    simp only [Option.map_some, Option.some.injEq]
    unfold Addr.add
    split
    · rename_i h0; rw [h0]
    · simp
  rw [hA] at hx
  generalize hZ : (Builtin.zeroCells zc.toArray (n - i)).toList = Z at *
  have hZl : Z.length = (n - i) * zc.length := by rw [← hZ]; simp [Builtin.zeroCells]
  have hZt : Typed zc Z := by rw [← hZ]; exact Typed.zeros hzz _
  have hZ1 : ∀ u ∈ Z, u.oneCell' = true := by
    intro u hu
    obtain ⟨j, hj⟩ := List.getElem?_of_mem hu
    have h7 := Zeros.zeros zc (n - i) j u (by rw [hZ]; exact hj)
    have h8 : j % zc.length < zc.length := Nat.mod_lt _ hp
    rw [h7]
    refine hz1 _ ?_
    simp only [List.getD, List.getElem?_eq_getElem h8, Option.getD_some]
    exact List.getElem_mem h8
  have hcl : cur.toList.length = c * zc.length := by simpa using h3
  have hm1 : i * zc.length + (n - i) * zc.length = n * zc.length := by rw [← Nat.add_mul]; congr 1; omega
  have hm2 : n * zc.length ≤ c * zc.length := Nat.mul_le_mul_right _ (by omega)
  have hst := run_storeCells_at P g (i * zc.length) e Z 0 cur w hgg (by omega) hZ1
  simp only [Nat.add_zero, hZl] at hst
  have hti : (cur.toList.take (i * zc.length)).length = i * zc.length := by rw [List.length_take]; omega
  have H2 := H.setRow (cur.toList.take (i * zc.length) ++ Z ++ cur.toList.drop (i * zc.length + (n - i) * zc.length)).toArray i (by omega) (by simp only [List.size_toArray, List.length_append, hti, hZl, List.length_drop, hcl]; omega) (by
    refine Typed.append (Typed.append (Typed.take h5 _) hZt (by rw [hti]; exact Nat.mul_mod_left _ _)) (Typed.drop h5 _ ?_) ?_
    · rw [hm1]; exact Nat.mul_mod_left _ _
    · rw [List.length_append, hti, hZl, hm1]; exact Nat.mul_mod_left _ _)
  have e9 : (cur.toList.take (i * zc.length) ++ Z ++ cur.toList.drop (i * zc.length + (n - i) * zc.length)).take (i * zc.length) = xs.take (i * zc.length) := by
    rw [List.append_assoc, List.take_append_of_le_length (by omega), List.take_take, Nat.min_self, ← h4, List.take_take, Nat.min_eq_left (by omega)]
  rw [e9] at H2
  have hrun : ∀ ty, (Builtin.clear_ #[t] ty #[.slice (some ⟨g, i * zc.length, none⟩) (n - i) (c - i)]).run P w = .ok (.tuple #[]) (w.setRow g (cur.toList.take (i * zc.length) ++ Z ++ cur.toList.drop (i * zc.length + (n - i) * zc.length)).toArray) := fun ty => by
    obtain ⟨m, hm⟩ : ∃ m, n - i = m + 1 := ⟨n - i - 1, by omega⟩
    rw [hm] at hZ hst ⊢
    simp [Builtin.clear_, run_underlying ht, hv, hzc, hZ, hst]
  unfold Oper.wp
  simp [execOp, hop, resolve, invoke, builtin, hx, hrun, Result.andThen]
  refine hK' _ _ ?_
  rw [hdst]
  exact hK _ (by simpa using H2)
end
end Go.Rt
