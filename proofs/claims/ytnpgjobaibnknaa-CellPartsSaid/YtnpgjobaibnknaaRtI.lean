/- A slice's literal of several elements of several cells each. No program in sight. -/
import Derived.Test.YtnpgjobaibnknaaRtH
namespace Go.Rt
open Go.RowKit

theorem fill_many (sz : Nat) : ∀ (css : List (List Value)) (k : Nat) (acc : Array Value) (pre old post : List Value), (∀ c ∈ css, c.length = sz) → acc.toList = pre ++ old ++ post → old.length = css.length * sz → pre.length = k * sz →
    ∃ r : Array Value, Instr.fill (fun i => some (i * sz, sz)) acc ((css.zipIdx k).map fun p => (p.2, Value.agg p.1.toArray)) = some r ∧ r.toList = pre ++ css.flatten ++ post
  | [], k, acc, pre, old, post, _, h2, h3, _ => by
    have : old = [] := List.eq_nil_of_length_eq_zero (by simpa using h3)
    subst this
    exact ⟨acc, rfl, by simpa using h2⟩
  | c :: css, k, acc, pre, old, post, h1, h2, h3, h4 => by
    have hc := h1 c (by simp)
    have h3' : old.length = css.length * sz + sz := by rw [h3, List.length_cons, Nat.succ_mul]
    have hsz : acc.size = k * sz + (css.length * sz + sz) + post.length := by
      have := congrArg List.length h2
      simp only [List.length_append, h3', h4, Array.length_toList] at this
      exact this
    have hf := foldl_set c (k * sz) 0 acc pre (old.take sz) (old.drop sz ++ post) (by rw [h2, List.append_assoc, List.append_assoc, ← List.append_assoc (old.take sz), List.take_append_drop]) (by rw [List.length_take, h3', hc]; omega) (by rw [h4]; omega)
    obtain ⟨r, hr1, hr2⟩ := fill_many sz css (k + 1) ((c.zipIdx 0).foldl (fun (cs : Array Value) (p : Value × Nat) => cs.setIfInBounds (k * sz + p.2) p.1) acc) (pre ++ c) (old.drop sz) post (fun x hx => h1 x (by simp [hx])) (by rw [hf]; simp) (by rw [List.length_drop, h3']; omega) (by rw [List.length_append, h4, hc, Nat.succ_mul])
    refine ⟨r, ?_, by rw [hr2]; simp⟩
    rw [← hr1]
    simp only [List.zipIdx_cons, List.map_cons, Instr.fill, Value.cells, List.size_toArray, hc]
    rw [if_neg (by simp; omega)]
    congr 1
    simp

section
variable {P : Program} {W w : World} {l : List SL}
theorem run_buildSlice_many (t e : TypeId) (i : TypeInfo) (z : Value) (sz : Nat) (css : List (List Value)) (hc : ∀ c ∈ css, c.length = sz) (ht : P.underlying t = some (.slice e)) (hi : P.info? e = some i) (hz : i.zero = some z) (hsize : i.size = sz)
    (hpos : 0 < sz) (hn : 0 < css.length) (hsm : css.length * sz ≤ 1000000) (parts : Array (Nat × Value)) (hp : parts.toList = css.zipIdx.map fun p => (p.2, Value.agg p.1.toArray)) :
    (Instr.buildSlice t css.length parts).run P w = .ok (.slice (some ⟨w.heap.size, 0, none⟩) css.length css.length) (w.alloc (.cells css.flatten.toArray e)) := by
  have h0 : (sizeOf e).run P w = .ok sz w := by simp [sizeOf, typeInfo, hi, Result.andThen, hsize]
  have hzv : (zeroValue e).run P w = .ok z w := by simp [zeroValue, typeInfo, hi, hz, Result.andThen]
  obtain ⟨r, hr1, hr2⟩ := fill_many sz css 0 ((Array.range (css.length * sz)).map fun x => z.cells[x % z.cells.size]!) [] ((Array.range (css.length * sz)).map fun x => z.cells[x % z.cells.size]!).toList [] hc (by simp) (by simp) (by simp)
  have hr3 : r = css.flatten.toArray := by apply Array.toList_inj.1; rw [hr2]; simp
  subst hr3
  have hpz : ¬ css.length * sz = 0 := by have := Nat.mul_pos hn hpos; omega
  have hbig : ¬ 16777216 < css.length * sz := by omega
  rw [← hp] at hr1
  simp [Instr.buildSlice, run_underlying ht, h0, hbig, newRow, Result.andThen]
  rw [if_neg hpz]
  simp [hzv, hr1, Result.andThen]

set_option maxRecDepth 100000 in
theorem wpList_buildSlice_many {ops : Array Oper} {rest : List Oper} {o : Oper} {a : Act} {Q : Exit → Act → World → Prop} (hw : Region.wanted o (yielded ops a.tmps) = true) (xs : Array (Nat × Operand)) (t : TypeId) (n : Nat) (hop : o.op = Op.buildSlice t n xs)
    (e : TypeId) (i : TypeInfo) (z : Value) (sz : Nat) (css : List (List Value)) (hn' : css.length = n) (hc : ∀ c ∈ css, c.length = sz) (hx : (xs.map fun p => (p.1, a.eval p.2)).toList = css.zipIdx.map fun p => (p.2, Value.agg p.1.toArray))
    (ht : P.underlying t = some (.slice e)) (hi : P.info? e = some i) (hz : i.zero = some z) (hsize : i.size = sz) (hpos : 0 < sz) (hn : 0 < n) (hsm : n * sz ≤ 1000000)
    (hK : wpList P ops Q rest (a.put o.dst (.slice (some ⟨w.heap.size, 0, none⟩) n n)) (w.alloc (.cells css.flatten.toArray e))) : wpList P ops Q (o :: rest) a w := by
  subst hn'
  refine BigFrame.wpList_want hw fun K hK' => ?_
  have hrun := run_buildSlice_many (P := P) (w := w) t e i z sz css hc ht hi hz hsize hpos hn hsm (xs.map fun p => (p.1, a.eval p.2)) hx
  unfold Oper.wp
  simp [execOp, hop, hrun, Result.andThen]
  exact hK' _ _ hK
end
end Go.Rt
