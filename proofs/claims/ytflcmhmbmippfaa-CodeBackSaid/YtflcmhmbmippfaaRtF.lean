/- Laws on a range over a string, its iterator owned like any other thing. No program in sight. -/
import Derived.Test.YtflcmhmbmippfaaRtE
import Derived.Laws.RangeString
namespace Go.Rt
open Go.RowKit

/-- An iterator over a string, so far on. -/
def itr (k : Nat) (s : ByteArray) (pos : Nat) : SL := fun h => h k = some (.stringIter s pos)

section
variable {P : Program} {W w : World} {l : List SL}

theorem Sat.iter (H : Sat W w l) (s : ByteArray) : Sat W (w.iter s 0) (itr w.heap.size s 0 :: l) := by
  refine H.add (a := fun k => if k = w.heap.size then some (.stringIter s 0) else none) _ ((Below.refl _ _).alloc (Nat.le_refl _) _) (by simp [itr]) fun k o e => ?_
  by_cases hk : k = w.heap.size
  · subst hk
    simp at e
    subst e
    exact ⟨Nat.le_refl _, heap_new w _⟩
  · simp [hk] at e

theorem Sat.iter_heap {k : Nat} {s : ByteArray} {pos : Nat} (H : Sat W w (itr k s pos :: l)) : w.heap[k]? = some (.stringIter s pos) := by
  obtain ⟨_, h, ⟨a, r, d, rfl, ha, _⟩, hh⟩ := H
  exact (hh k _ (join_left ha)).2
theorem Sat.iter_ge {k : Nat} {s : ByteArray} {pos : Nat} (H : Sat W w (itr k s pos :: l)) : W.heap.size ≤ k := by
  obtain ⟨_, h, ⟨a, r, d, rfl, ha, _⟩, hh⟩ := H
  exact (hh k _ (join_left ha)).1

def setIter (w : World) (k : Nat) (s : ByteArray) (pos : Nat) : World := { w with heap := w.heap.setIfInBounds k (.stringIter s pos) }
theorem Sat.iter_set {k : Nat} {s : ByteArray} {pos : Nat} (H : Sat W w (itr k s pos :: l)) (pos' : Nat) : Sat W (setIter w k s pos') (itr k s pos' :: l) := by
  have hge := H.iter_ge
  have hlt : k < w.heap.size := (Array.getElem?_eq_some_iff.1 H.iter_heap).1
  have hb : Below W.heap.size W (setIter w k s pos') := by
    refine H.bel.trans ⟨rfl, rfl, rfl, by simp [setIter], fun j hj => ?_⟩
    have hne : k ≠ j := by omega
    simp [setIter, hne]
  refine H.put hb fun a ha hh => ⟨fun j => if j = k then some (.stringIter s pos') else none, by simp [itr], fun j hj => ?_, fun j o e => ?_, fun j hj _ => ?_⟩
  · by_cases e : j = k
    · subst e; left; have : a j = _ := ha; rw [this]; simp
    · simp [e] at hj
  · by_cases e1 : j = k
    · subst e1
      simp at e
      subst e
      exact ⟨hge, by simp [setIter, hlt]⟩
    · simp [e1] at e
  · have hne : k ≠ j := by rintro rfl; have : a k = _ := ha; rw [this] at hj; cases hj
    simp [setIter, hne]

theorem run_next_more {k : Nat} {s : ByteArray} {pos : Nat} (ty : TypeId) (hk : w.heap[k]? = some (.stringIter s pos)) (h : pos < s.size) (ha : (s[pos]'h).toNat < 128) :
    (Instr.next (.pointer (some ⟨k, 0, none⟩)) true ty).run P w = .ok (.tuple #[.bool true, .int .i64 pos, .int .i32 (s[pos]'h).toNat]) (setIter w k s (pos + 1)) := by
  simp only [Instr.next, getObj, setObj, Sem.run_bind, Sem.run, hk, Result.andThen, h, if_true, decode_ascii s pos h ha]
  simp [goInt, setIter]
theorem run_next_over {k : Nat} {s : ByteArray} {pos : Nat} (ty : TypeId) (hk : w.heap[k]? = some (.stringIter s pos)) (h : ¬ pos < s.size) :
    (Instr.next (.pointer (some ⟨k, 0, none⟩)) true ty).run P w = .ok (.tuple #[.bool false]) w := by
  simp [Instr.next, getObj, Sem.run, hk, h]

set_option maxRecDepth 100000 in
theorem wpList_next_more {ops : Array Oper} {rest : List Oper} {o : Oper} {a : Act} {Q : Exit → Act → World → Prop} (hg : o.guard = none) (it : Operand) (hop : o.op = Op.next it true)
    (k : Nat) (s : ByteArray) (pos : Nat) (hit : a.eval it = .pointer (some ⟨k, 0, none⟩)) (H : Sat W w (itr k s pos :: l)) (c : Nat) (h : pos < s.size) (hc : (s[pos]'h).toNat = c) (ha : c < 128)
    (hK : ∀ w', Sat W w' (itr k s (pos + 1) :: l) → wpList P ops Q rest (a.put o.dst (.tuple #[.bool true, .int .i64 pos, .int .i32 c])) w') : wpList P ops Q (o :: rest) a w := by
  refine wpList_plain hg fun K hK' => ?_
  subst hc
  have hrun := run_next_more (P := P) (w := w) o.type H.iter_heap h ha
  unfold Oper.wp
  simp [execOp, hop, hit, hrun, Result.andThen]
  exact hK' _ _ (hK _ (H.iter_set (pos + 1)))
set_option maxRecDepth 100000 in
theorem wpList_next_over {ops : Array Oper} {rest : List Oper} {o : Oper} {a : Act} {Q : Exit → Act → World → Prop} (hg : o.guard = none) (it : Operand) (hop : o.op = Op.next it true)
    (k : Nat) (s : ByteArray) (pos : Nat) (hit : a.eval it = .pointer (some ⟨k, 0, none⟩)) (H : Sat W w (itr k s pos :: l)) (h : ¬ pos < s.size)
    (hK : wpList P ops Q rest (a.put o.dst (.tuple #[.bool false])) w) : wpList P ops Q (o :: rest) a w := by
  refine wpList_plain hg fun K hK' => ?_
  have hrun := run_next_over (P := P) (w := w) o.type H.iter_heap h
  unfold Oper.wp
  simp [execOp, hop, hit, hrun, Result.andThen]
  exact hK' _ _ hK
end
end Go.Rt
