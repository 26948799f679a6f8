/- Parts of slices whose elements have several cells; in regions that draw their order, too. No program in sight. -/
import Derived.Test.YtnpgjobaibnknaaRtL
namespace Go.Rt
open Go.RowKit

def subZ (sz : Nat) (A : Option Addr) (c l : Nat) : Option Addr := if c = l then A else A.map (·.add (l * sz))
theorem subZ_rd {w : World} {sz : Nat} {A : Option Addr} {n c : Nat} {xs : List Value} (h : Rd w A xs) (hn : xs.length = n * sz) (hc : n ≤ c) (l m : Nat) (hl : l + m ≤ n) : Rd w (subZ sz A c l) ((xs.drop (l * sz)).take (m * sz)) := by
  unfold subZ
  by_cases hcl : c = l
  · obtain rfl : m = 0 := by omega
    rw [if_pos hcl, Nat.zero_mul, List.take_zero]
    exact Rd.nil _ _
  · rw [if_neg hcl]
    by_cases hx : xs = []
    · subst hx; simp only [List.drop_nil, List.take_nil]; exact Rd.nil _ _
    · obtain ⟨b, o, rfl⟩ := h.open hx
      have e : (some (⟨b, o, none⟩ : Addr)).map (·.add (l * sz)) = some ⟨b, o + l * sz, none⟩ := by
        simp only [Option.map_some, Option.some.injEq]
        unfold Addr.add
        split
        · rename_i h0; rw [h0]; rfl
        · rfl
      rw [e]
      exact (h.drop _).take _
theorem subZ_zero (sz : Nat) (A : Option Addr) (c : Nat) : subZ sz A c 0 = A := by
  unfold subZ
  split
  · rfl
  · cases A with
    | none => rfl
    | some a => simp [Addr.add]
section
variable {P : Program} {w : World}
theorem run_slice_partZ (t e : TypeId) (i : TypeInfo) (sz : Nat) (hu : P.underlying t = some (.slice e)) (hi : P.info? e = some i) (hs : i.size = sz) (A : Option Addr) (n c l h : Nat) (hl : l ≤ h) (hh : h ≤ c) :
    (Instr.slice t (.slice A n c) (some (.int .i64 l)) (some (.int .i64 h)) none).run P w = .ok (.slice (subZ sz A c l) (h - l) (c - l)) w := by
  have h1 := run_sliceBound (P := P) (w := w) .i64 (h : Int) c .sliceAcap (by omega) (by omega)
  have h2 := run_sliceBound (P := P) (w := w) .i64 (l : Int) h .sliceB (by omega) (by omega)
  simp only [Int.toNat_natCast] at h1 h2
  simp [Instr.slice, run_underlying hu, Instr.sliceBounds, h1, h2, sizeOf, typeInfo, hi, hs, Result.andThen, subZ]
theorem run_slice_fromZ (t e : TypeId) (i : TypeInfo) (sz : Nat) (hu : P.underlying t = some (.slice e)) (hi : P.info? e = some i) (hs : i.size = sz) (A : Option Addr) (n c l : Nat) (hl : l ≤ n) :
    (Instr.slice t (.slice A n c) (some (.int .i64 l)) none none).run P w = .ok (.slice (subZ sz A c l) (n - l) (c - l)) w := by
  have h2 := run_sliceBound (P := P) (w := w) .i64 (l : Int) n .sliceB (by omega) (by omega)
  simp only [Int.toNat_natCast] at h2
  simp [Instr.slice, run_underlying hu, Instr.sliceBounds, h2, sizeOf, typeInfo, hi, hs, Result.andThen, subZ]
theorem run_slice_toZ (t e : TypeId) (i : TypeInfo) (hu : P.underlying t = some (.slice e)) (hi : P.info? e = some i) (A : Option Addr) (n c h : Nat) (hh : h ≤ c) :
    (Instr.slice t (.slice A n c) none (some (.int .i64 h)) none).run P w = .ok (.slice A h c) w := by
  have h1 := run_sliceBound (P := P) (w := w) .i64 (h : Int) c .sliceAcap (by omega) (by omega)
  simp only [Int.toNat_natCast] at h1
  have h2 := subZ_zero i.size A c
  unfold subZ at h2
  simp only [Nat.zero_mul] at h2
  simp [Instr.slice, run_underlying hu, Instr.sliceBounds, h1, sizeOf, typeInfo, hi, Result.andThen, h2]

theorem wpList_slice_fromZ {ops : Array Oper} {rest : List Oper} {o : Oper} {a : Act} {Q : Exit → Act → World → Prop} (hw : Region.wanted o (yielded ops a.tmps) = true) (x lo : Operand) (t : TypeId) (hop : o.op = Op.slice t x (some lo) none none)
    (e : TypeId) (i : TypeInfo) (sz : Nat) (hu : P.underlying t = some (.slice e)) (hi : P.info? e = some i) (hs : i.size = sz) (A : Option Addr) (n c l : Nat) (hx : a.eval x = .slice A n c) (hlo : a.eval lo = .int .i64 l) (hl : l ≤ n)
    (hK : wpList P ops Q rest (a.put o.dst (.slice (subZ sz A c l) (n - l) (c - l))) w) : wpList P ops Q (o :: rest) a w := by
  refine BigFrame.wpList_want hw fun K hK' => ?_
  have hrun := run_slice_fromZ (P := P) (w := w) t e i sz hu hi hs A n c l hl
  unfold Oper.wp
  simp [execOp, hop, hx, hlo, Instr.sliceAt, run_underlying hu, hrun, Result.andThen]
  exact hK' _ _ hK
theorem wpList_slice_partZ {ops : Array Oper} {rest : List Oper} {o : Oper} {a : Act} {Q : Exit → Act → World → Prop} (hw : Region.wanted o (yielded ops a.tmps) = true) (x lo hi' : Operand) (t : TypeId) (hop : o.op = Op.slice t x (some lo) (some hi') none)
    (e : TypeId) (i : TypeInfo) (sz : Nat) (hu : P.underlying t = some (.slice e)) (hi : P.info? e = some i) (hs : i.size = sz) (A : Option Addr) (n c l h : Nat) (hx : a.eval x = .slice A n c) (hlo : a.eval lo = .int .i64 l) (hhi : a.eval hi' = .int .i64 h) (hl : l ≤ h) (hh : h ≤ c)
    (hK : wpList P ops Q rest (a.put o.dst (.slice (subZ sz A c l) (h - l) (c - l))) w) : wpList P ops Q (o :: rest) a w := by
  refine BigFrame.wpList_want hw fun K hK' => ?_
  have hrun := run_slice_partZ (P := P) (w := w) t e i sz hu hi hs A n c l h hl hh
  unfold Oper.wp
  simp [execOp, hop, hx, hlo, hhi, Instr.sliceAt, run_underlying hu, hrun, Result.andThen]
  exact hK' _ _ hK
theorem wpList_slice_toZ {ops : Array Oper} {rest : List Oper} {o : Oper} {a : Act} {Q : Exit → Act → World → Prop} (hw : Region.wanted o (yielded ops a.tmps) = true) (x hi' : Operand) (t : TypeId) (hop : o.op = Op.slice t x none (some hi') none)
    (e : TypeId) (i : TypeInfo) (hu : P.underlying t = some (.slice e)) (hi : P.info? e = some i) (A : Option Addr) (n c h : Nat) (hx : a.eval x = .slice A n c) (hhi : a.eval hi' = .int .i64 h) (hh : h ≤ c)
    (hK : wpList P ops Q rest (a.put o.dst (.slice A h c)) w) : wpList P ops Q (o :: rest) a w := by
  refine BigFrame.wpList_want hw fun K hK' => ?_
  have hrun := run_slice_toZ (P := P) (w := w) t e i hu hi A n c h hh
  unfold Oper.wp
  simp [execOp, hop, hx, hhi, Instr.sliceAt, run_underlying hu, hrun, Result.andThen]
  exact hK' _ _ hK
theorem step_slice_fromZ {ops : Array Oper} {o : Oper} {a : Act} {K : Act → World → Prop} {Q : Exit → Act → World → Prop} {E : Prop} (hgd : o.guard = none) (x lo : Operand) (t : TypeId) (hop : o.op = Op.slice t x (some lo) none none)
    (e : TypeId) (i : TypeInfo) (sz : Nat) (hu : P.underlying t = some (.slice e)) (hi : P.info? e = some i) (hs : i.size = sz) (A : Option Addr) (n c l : Nat) (hx : a.eval x = .slice A n c) (hlo : a.eval lo = .int .i64 l) (hl : l ≤ n)
    (hK : K (a.put o.dst (.slice (subZ sz A c l) (n - l) (c - l))) w) : if Region.wanted o (yielded ops a.tmps) = true then Oper.wp P o a w K Q else E := by
  have hw : Region.wanted o (yielded ops a.tmps) = true := by simp [Region.wanted, hgd]
  rw [if_pos hw]
  have hrun := run_slice_fromZ (P := P) (w := w) t e i sz hu hi hs A n c l hl
  unfold Oper.wp
  simp [execOp, hop, hx, hlo, Instr.sliceAt, run_underlying hu, hrun, Result.andThen]
  exact hK
theorem step_slice_toZ {ops : Array Oper} {o : Oper} {a : Act} {K : Act → World → Prop} {Q : Exit → Act → World → Prop} {E : Prop} (hgd : o.guard = none) (x hi' : Operand) (t : TypeId) (hop : o.op = Op.slice t x none (some hi') none)
    (e : TypeId) (i : TypeInfo) (hu : P.underlying t = some (.slice e)) (hi : P.info? e = some i) (A : Option Addr) (n c h : Nat) (hx : a.eval x = .slice A n c) (hhi : a.eval hi' = .int .i64 h) (hh : h ≤ c)
    (hK : K (a.put o.dst (.slice A h c)) w) : if Region.wanted o (yielded ops a.tmps) = true then Oper.wp P o a w K Q else E := by
  have hw : Region.wanted o (yielded ops a.tmps) = true := by simp [Region.wanted, hgd]
  rw [if_pos hw]
  have hrun := run_slice_toZ (P := P) (w := w) t e i hu hi A n c h hh
  unfold Oper.wp
  simp [execOp, hop, hx, hhi, Instr.sliceAt, run_underlying hu, hrun, Result.andThen]
  exact hK
end
section
variable {W w : World} {l : List SL}
theorem Sat.new_made (H : Sat W w l) (e : TypeId) (zc : List Value) : Sat W (w.alloc (.cells #[] e)) (newS e zc (.slice (some ⟨w.heap.size, 0, none⟩) 0 0) 0 [] :: l) :=
  (H.alloc #[] e).head fun h hh => ⟨by simp, .inr ⟨w.heap.size, 0, #[], rfl, hh, Nat.le_refl _, by simp [maxLen], by simp, by simp, by simpa using Zeros.nil _⟩⟩
end
end Go.Rt
