/- Laws on a slice's literal of one element of several cells, and on a variable of several cells at its birth. No program in sight. -/
import Derived.Test.YtnpgjobaibnknaaRtD
namespace Go.Rt
open Go.RowKit

/-- A slice of bytes as it came in: nothing lies where there is no array. -/
structure Bsl (A : Option Addr) (n c : Nat) : Prop where
  le : n ≤ c
  none : A = none → c = 0
  max : c ≤ maxLen

theorem foldl_set (l : List Value) (off k : Nat) : ∀ (acc : Array Value) (pre old post : List Value), acc.toList = pre ++ old ++ post → old.length = l.length → pre.length = off + k →
    ((l.zipIdx k).foldl (fun (cs : Array Value) (p : Value × Nat) => cs.setIfInBounds (off + p.2) p.1) acc).toList = pre ++ l ++ post := by
  induction l generalizing k with
  | nil =>
    intro acc pre old post h1 h2 _
    have : old = [] := List.eq_nil_of_length_eq_zero h2
    subst this
    simpa using h1
  | cons x l ih =>
    intro acc pre old post h1 h2 h3
    match old, h2 with
    | y :: old, h2 =>
      simp only [List.zipIdx_cons, List.foldl_cons]
      have h4 : (acc.setIfInBounds (off + k) x).toList = (pre ++ [x]) ++ old ++ post := by
        rw [Array.toList_setIfInBounds, h1, ← h3]
        simp
      have := ih (k + 1) _ (pre ++ [x]) old post h4 (by simpa using h2) (by simp; omega)
      simpa using this

/-- A row is a row of fewer elements, too. -/
theorem Sat.shrink {W w : World} {l : List SL} {e : TypeId} {zc : List Value} {A : Option Addr} {m c : Nat} {xs : List Value} (H : Sat W w (row e zc (.slice A m c) m xs :: l)) (n : Nat) (hn : n ≤ m) (hz : A = none → n = 0) : Sat W w (row e zc (.slice A n c) n (xs.take (n * zc.length)) :: l) := by
  refine H.head fun h ⟨hx, hh⟩ => ⟨?_, ?_⟩
  · rw [List.length_take, hx]; exact Nat.min_eq_left (Nat.mul_le_mul_right _ hn)
  · rcases hh with ⟨hv, hm⟩ | ⟨g, cap, cur, hv, hg, h1, h2, h3, h4, h5⟩
    · cases hv
      exact .inl ⟨by rw [hz rfl], hz rfl⟩
    · cases hv
      refine .inr ⟨g, c, cur, rfl, hg, Nat.le_trans hn h1, h2, h3, ?_, h5⟩
      rw [← h4, List.take_take, Nat.min_eq_left (Nat.mul_le_mul_right _ hn)]

theorem Sat.drops {W w : World} : ∀ (a : List SL) {b : List SL}, Sat W w (a ++ b) → Sat W w b
  | [], _, H => H
  | _ :: a, _, H => Sat.drops a (Sat.tail H)
/-- The first n things alone. -/
theorem Sat.takes {W w : World} {l : List SL} (n : Nat) (H : Sat W w l) : Sat W w (l.take n) := by
  have h1 : l.Perm (l.drop n ++ l.take n) := by
    have := List.perm_append_comm (l₁ := l.take n) (l₂ := l.drop n)
    rwa [List.take_append_drop] at this
  exact Sat.drops _ (H.perm h1)

section
variable {P : Program} {W w : World} {l : List SL}

/-- '[]T{x}' where x has several cells. -/
theorem run_buildSlice_one (t e : TypeId) (i : TypeInfo) (z : Value) (cs : List Value) (v : Value) (hv : v.cells = cs.toArray) (ht : P.underlying t = some (.slice e)) (hi : P.info? e = some i) (hz : i.zero = some z) (hzs : z.cells.size = cs.length) (hsize : i.size = cs.length)
    (hpos : 0 < cs.length) (hsm : cs.length ≤ 1000000) :
    (Instr.buildSlice t 1 #[(0, v)]).run P w = .ok (.slice (some ⟨w.heap.size, 0, none⟩) 1 1) (w.alloc (.cells cs.toArray e)) := by
  have h0 : (sizeOf e).run P w = .ok cs.length w := by simp [sizeOf, typeInfo, hi, Result.andThen, hsize]
  have hzv : (zeroValue e).run P w = .ok z w := by simp [zeroValue, typeInfo, hi, hz, Result.andThen]
  have hfill : Instr.fill (fun i => some (i * cs.length, cs.length)) ((Array.range (1 * cs.length)).map fun x => z.cells[x % z.cells.size]!) [(0, v)] = some cs.toArray := by
    simp only [Instr.fill, hv, List.size_toArray, Nat.zero_mul, Nat.zero_add]
    rw [if_neg (by simp)]
    congr 1
    apply Array.toList_inj.1
    have hf := foldl_set cs 0 0 ((Array.range (1 * cs.length)).map fun x => z.cells[x % z.cells.size]!) [] ((Array.range (1 * cs.length)).map fun x => z.cells[x % z.cells.size]!).toList [] (by simp) (by simp) rfl
    simp only [Nat.zero_add, List.append_nil, List.nil_append] at hf
    simpa using hf
  have hcs : ¬ cs = [] := by rintro rfl; simp at hpos
  have hbig : ¬ 16777216 < cs.length := by omega
  simp only [Nat.one_mul] at hfill
  simp [Instr.buildSlice, run_underlying ht, h0, hzv, hcs, hbig, newRow, Result.andThen]
  rw [hfill]
  simp [Result.andThen]

set_option maxRecDepth 100000 in
theorem wpList_buildSlice_one {ops : Array Oper} {rest : List Oper} {o : Oper} {a : Act} {Q : Exit → Act → World → Prop} (hg : o.guard = none) (x : Operand) (t : TypeId) (hop : o.op = Op.buildSlice t 1 #[(0, x)])
    (e : TypeId) (i : TypeInfo) (z : Value) (cs : List Value) (hx : a.eval x = .agg cs.toArray) (ht : P.underlying t = some (.slice e)) (hi : P.info? e = some i) (hz : i.zero = some z) (hzs : z.cells.size = cs.length) (hsize : i.size = cs.length)
    (hpos : 0 < cs.length) (hsm : cs.length ≤ 1000000)
    (hK : wpList P ops Q rest (a.put o.dst (.slice (some ⟨w.heap.size, 0, none⟩) 1 1)) (w.alloc (.cells cs.toArray e))) : wpList P ops Q (o :: rest) a w := by
  refine wpList_plain hg fun K hK' => ?_
  have hrun := run_buildSlice_one (P := P) (w := w) t e i z cs (a.eval x) (by rw [hx]; rfl) ht hi hz hzs hsize hpos hsm
  unfold Oper.wp
  simp [execOp, hop, hrun, Result.andThen]
  exact hK' _ _ hK
end
end Go.Rt
