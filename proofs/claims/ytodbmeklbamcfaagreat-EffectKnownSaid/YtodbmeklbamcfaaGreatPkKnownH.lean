/- A pack of texts: RtK -/
import Derived.Test.YtodbmeklbamcfaaGreatPkKnownG
import Derived.Lib.AppendZerosOnto
/- Zero values appended to nil: a new row with room. No program in sight. -/
namespace Go.Rt
open Go.RowKit
section
variable {P : Program} {W w : World} {l : List SL}
set_option maxRecDepth 100000 in
theorem wpList_append_zeros {ops : Array Oper} {rest : List Oper} {o : Oper} {a : Act} {Q : Exit → Act → World → Prop} (hgd : o.guard = none) (s x : Operand) (t tn : TypeId)
    (ho : o.op = .call { callee := .builtin .append, args := #[s, x], argTypes := #[t, tn] })
    (e : TypeId) (i : TypeInfo) (z : Value) (zc : List Value) (kn : IntKind) (ht : P.underlying t = some (.slice e)) (htn : P.underlying tn = some (.int kn)) (hi : P.info? e = some i) (hz : i.zero = some z) (hzc : z.cells = zc.toArray)
    (hsize : i.size = zc.length) (hpos : 0 < zc.length) (hzz : LikeZ zc) (hs : a.eval s = .slice none 0 0) (k : Nat) (hx : a.eval x = .int .i64 k) (h0 : 0 < k) (h63 : k ≤ maxLen) (hbytes : k * i.bytes ≤ 140737488355328) (H : Sat W w l)
    (hK : ∀ g c' w', Sat W w' (row e zc (.slice (some ⟨g, 0, none⟩) 0 c') 0 [] :: l) → k ≤ c' → wpList P ops Q rest (a.put o.dst (.slice (some ⟨g, 0, none⟩) k c')) w') : wpList P ops Q (o :: rest) a w := by
  refine wpList_plain hgd fun K hK' => ?_
  have hold : (Builtin.firstCells i.size 0 (.slice none 0 0)).run P w.drew = .ok #[] w.drew := run_firstCells_none w.drew i.size 0 0 0
  have h63' : ((0 + k : Nat) : Int) ≤ 9223372036854775807 := by unfold maxLen at h63; omega
  have hrun := Lib.run_append_grow_zeros w t tn o.type e i z .i64 kn ht htn hi hz none 0 0 [] hold k h0 (by omega) (by omega) h63' (by omega) (by rw [Nat.zero_add]; exact growslice_fits h0 hbytes)
  have hge := grownCap_ge w (0 + k) 0 e
  have hle := grownCap_le_maxLen w (0 + k) 0 e (by omega)
  rw [Nat.zero_add] at hrun hge hle
  generalize grownCap w k 0 e = G at *
  have hcs : ((#[] : Array Value) ++ Builtin.zeroCells z.cells k ++ Builtin.zeroCells z.cells (G - k)).size = G * zc.length := by
    have h1 : (Builtin.zeroCells z.cells k).size = k * zc.length := by rw [size_zeroCells, hzc]; rfl
    have h2 : (Builtin.zeroCells z.cells (G - k)).size = (G - k) * zc.length := by rw [size_zeroCells, hzc]; rfl
    rw [Array.size_append, Array.size_append, h1, h2, show (#[] : Array Value).size = 0 from rfl, Nat.zero_add, ← Nat.add_mul]
    congr 1
    omega
  have hty : Typed zc ((#[] : Array Value) ++ Builtin.zeroCells z.cells k ++ Builtin.zeroCells z.cells (G - k)).toList := by
    rw [hzc]
    simp only [Array.toList_append, List.nil_append]
    refine Typed.append (Typed.zeros hzz k) (Typed.zeros hzz _) ?_
    rw [Array.length_toList, size_zeroCells]
    simp
  have H2 := (H.drew).made ((#[] : Array Value) ++ Builtin.zeroCells z.cells k ++ Builtin.zeroCells z.cells (G - k)) e zc 0 G (by omega) hle hcs hty
  rw [Nat.zero_mul, List.take_zero] at H2
  unfold Oper.wp execOp
  simp only [ho, resolve, invoke, builtin, Sem.run_bind, Sem.run_pure, Result.andThen_ok, List.map_toArray, List.map_cons, List.map_nil, hs, hx, hrun]
  exact hK' _ _ (hK _ _ _ H2 hge)
end
end Go.Rt
