/- A law on reading a variable of several cells at once. No program in sight. -/
import Derived.Test.YtnpgjobaibnknaaRtB
namespace Go.Rt
open Go.RowKit
theorem RdL.pt {W : World} {l : List SL} {b : Nat} {xs : List Value} {t : TypeId} : RdL W (Go.Rt.pt b xs.toArray t :: l) (some ⟨b, 0, none⟩) xs := fun w H j u hu => ⟨b, 0, rfl, by rw [Nat.zero_add, H.cell j]; simpa using hu⟩

section
variable {P : Program} {w : World}

theorem run_loadVar_rd (t : TypeId) (b off : Nat) (vs : List Value) (hagg : (match P.underlying t with | some (.struct _) | some (.array _ _) => true | _ => false) = true) (hsz : (P.info? t).map (·.size) = some vs.length)
    (hr : Rd w (some ⟨b, off, none⟩) vs) : (loadVar t ⟨b, off, none⟩).run P w = .ok (.agg vs.toArray) w := by
  have h1 : ∀ w, (isAgg t).run P w = .ok true w := fun w => by
    cases hu : P.underlying t with
    | none => simp [hu] at hagg
    | some u => rw [hu] at hagg; cases u <;> simp_all [isAgg, underlying, Result.andThen]
  have h2 : ∀ w, (sizeOf t).run P w = .ok vs.length w := fun w => by
    cases hi : P.info? t with
    | none => simp [hi] at hsz
    | some i => simp [hi] at hsz; simp [sizeOf, typeInfo, hi, Result.andThen, hsz]
  have h3 := run_loadCells_list (P := P) w ⟨b, off, none⟩ vs (fun k v h => by rw [Addr.add_lit]; exact hr.at k h)
  simp [loadVar, h1, h2, h3, Result.andThen]

set_option maxRecDepth 100000 in
theorem wpList_load_rd {ops : Array Oper} {rest : List Oper} {o : Oper} {a : Act} {Q : Exit → Act → World → Prop} (hg : o.guard = none) (x : Operand) (t : TypeId) (hop : o.op = Op.load t x)
    (b off : Nat) (vs : List Value) (hagg : (match P.underlying t with | some (.struct _) | some (.array _ _) => true | _ => false) = true) (hsz : (P.info? t).map (·.size) = some vs.length) (ha : a.eval x = .pointer (some ⟨b, off, none⟩))
    (hr : Rd w (some ⟨b, off, none⟩) vs) (hK : wpList P ops Q rest (a.put o.dst (.agg vs.toArray)) w) : wpList P ops Q (o :: rest) a w := by
  refine wpList_plain hg fun K hK' => ?_
  have h1 := run_loadVar_rd (P := P) t b off vs hagg hsz hr
  unfold Oper.wp
  simp [execOp, hop, ha, Instr.loadAt, Instr.sureAddr, h1, Result.andThen]
  exact hK' _ _ hK
end
end Go.Rt
