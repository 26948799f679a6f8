/- Instructions as values: their cells; two held against each other. -/
import Derived.Test.YtflcmhmbmippfaaCpE
import Derived.Test.YtflcmhmbmippfaaRtF
import Derived.Test.YtflcmhmbmippfaaWdU
namespace Go.Proofs.Ytflcmhmbmippfaa
open Go.RowKit Go.Rt

def Ins.cs (i : Ins) : List Value := [.int .i64 i.op, .int .i64 i.a, .int .i64 i.b, .int .i64 i.c, .int .i64 i.n, .string ⟨i.s.toArray⟩]
def Ins.v (i : Ins) : Value := .agg i.cs.toArray
/-- Are two instructions the same? -/
def insEq (i k : Ins) : Bool := (i.op == k.op) && ((i.a == k.a) && ((i.b == k.b) && ((i.c == k.c) && ((i.n == k.n) && (i.s == k.s)))))
theorem insEq_iff (i k : Ins) : insEq i k = true ↔ i = k := by
  obtain ⟨a, b, c, d, e, f⟩ := i
  obtain ⟨a', b', c', d', e', f'⟩ := k
  simp [insEq]
theorem ba_beq (s t : List UInt8) : ((⟨s.toArray⟩ : ByteArray).toList == (⟨t.toArray⟩ : ByteArray).toList) = (s == t) := by
  have h : ∀ s : List UInt8, (⟨s.toArray⟩ : ByteArray).toList = s := fun s => by
    simp
  rw [h, h]

theorem ins_equal (i k : Ins) (w : World) : (Op.equalIn 10000 26 (.agg i.cs.toArray) (.agg k.cs.toArray)).run Try.prog w = .ok (insEq i k) w := by
  obtain ⟨a, b, c, d, e, f⟩ := i
  obtain ⟨a', b', c', d', e', f'⟩ := k
  unfold Ins.cs insEq
  dsimp only
  go_simp
  by_cases h1 : a = a' <;> by_cases h2 : b = b' <;> by_cases h3 : c = c' <;> by_cases h4 : d = d' <;> by_cases h5 : e = e' <;> by_cases h6 : f = f' <;> simp [h1, h2, h3, h4, h5, h6]

theorem wpList_eqi {w : World} {ops : Array Oper} {rest : List Oper} {o : Oper} {a : Act} {Q : Exit → Act → World → Prop} (hw : Region.wanted o (yielded ops a.tmps) = true) (x y : Operand) (t2 : TypeId) (neq : Bool) (hop : o.op = Op.binOp (if neq then .neq else .eql) 26 x y t2)
    (i k : Ins) (hx : a.eval x = .agg i.cs.toArray) (hy : a.eval y = .agg k.cs.toArray) (hK : wpList Try.prog ops Q rest (a.put o.dst (.bool (xor neq (insEq i k)))) w) : wpList Try.prog ops Q (o :: rest) a w := by
  refine BigFrame.wpList_want hw fun K hK' => ?_
  have h0 := ins_equal i k w
  have hm : Try.prog.eqGuardType Try.prog.depth 26 = false := by kernel_rfl
  have h1 : ∀ op, (eqGuard op 26 x y (.agg i.cs.toArray) (.agg k.cs.toArray)).run Try.prog w = .ok () w := fun op => run_eqGuard_agg (P := Try.prog) w op 26 x y _ _ hm
  unfold Oper.wp
  cases neq with
  | true =>
    have h2 := run_neq_struct (P := Try.prog) w 26 i.cs.toArray k.cs.toArray
    rw [h0] at h2
    simp only [Result.andThen_ok] at h2
    simp only [execOp, hop, if_true, hx, hy, Sem.run_bind, h1, h2, Result.andThen_ok]
    exact hK' _ _ (by simpa using hK)
  | false =>
    have h2 := run_eql_struct (P := Try.prog) w 26 i.cs.toArray k.cs.toArray
    rw [h0] at h2
    simp only [Result.andThen_ok] at h2
    simp only [execOp, hop, Bool.false_eq_true, if_false, hx, hy, Sem.run_bind, h1, h2, Result.andThen_ok]
    exact hK' _ _ (by simpa using hK)
theorem ins_one (i : Ins) : ∀ u ∈ i.cs, u.oneCell' = true := by
  intro u hu
  simp only [Ins.cs, List.mem_cons, List.not_mem_nil, or_false] at hu
  rcases hu with rfl | rfl | rfl | rfl | rfl | rfl <;> rfl
theorem ins_size (i : Ins) : (Try.prog.info? 26).map (·.size) = some i.cs.length := by
  rw [show i.cs.length = 6 from rfl]; kernel_rfl
end Go.Proofs.Ytflcmhmbmippfaa
