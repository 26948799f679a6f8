/- A pack of texts: RtG -/
import Derived.Test.YtodbmeklbamcfaaGreatPkKnownE
import Derived.BigFrame
import Derived.Laws.Slices
/- Laws on a part of a slice of one-cell elements. No program in sight. -/
namespace Go.Rt
open Go.RowKit

/-- Where a part of a slice begins. -/
def subA (A : Option Addr) (c l : Nat) : Option Addr := if c = l then A else A.map (·.add l)
theorem subA_rd {w : World} {A : Option Addr} {n c : Nat} {xs : List Value} (h : Rd w A xs) (hn : xs.length = n) (hc : n ≤ c) (l m : Nat) (hl : l + m ≤ n) : Rd w (subA A c l) ((xs.drop l).take m) := by
  unfold subA
  by_cases hcl : c = l
  · obtain rfl : m = 0 := by omega
    rw [if_pos hcl, List.take_zero]
    exact Rd.nil _ _
  · rw [if_neg hcl]
    by_cases hx : xs = []
    · subst hx; simp only [List.drop_nil, List.take_nil]; exact Rd.nil _ _
    · obtain ⟨b, o, rfl⟩ := h.open hx
      have e : (some (⟨b, o, none⟩ : Addr)).map (·.add l) = some ⟨b, o + l, none⟩ := by
        simp only [Option.map_some, Option.some.injEq]
        unfold Addr.add
        split
        · rename_i h0; subst h0; rfl
        · rfl
      rw [e]
      exact (h.drop l).take m
theorem subA_bsl {A : Option Addr} {n c : Nat} (h : Bsl A n c) (l m : Nat) (hl : l + m ≤ n) : Bsl (subA A c l) m (c - l) := by
  have h1 := h.le
  have h2 := h.max
  refine ⟨by omega, (fun e => ?_), by omega⟩
  unfold subA at e
  by_cases hcl : c = l
  · omega
  · rw [if_neg hcl] at e
    have := h.none (by simpa using e)
    omega

section
variable {P : Program} {w : World}
theorem run_slice_part (t e : TypeId) (i : TypeInfo) (hu : P.underlying t = some (.slice e)) (hi : P.info? e = some i) (hs : i.size = 1) (A : Option Addr) (n c l h : Nat) (hl : l ≤ h) (hh : h ≤ c) :
    (Instr.slice t (.slice A n c) (some (.int .i64 l)) (some (.int .i64 h)) none).run P w = .ok (.slice (subA A c l) (h - l) (c - l)) w := by
  have h1 := run_sliceBound (P := P) (w := w) .i64 (h : Int) c .sliceAcap (by omega) (by omega)
  have h2 := run_sliceBound (P := P) (w := w) .i64 (l : Int) h .sliceB (by omega) (by omega)
  simp only [Int.toNat_natCast] at h1 h2
  simp [Instr.slice, run_underlying hu, Instr.sliceBounds, h1, h2, sizeOf, typeInfo, hi, hs, Result.andThen, subA]
theorem run_slice_from (t e : TypeId) (i : TypeInfo) (hu : P.underlying t = some (.slice e)) (hi : P.info? e = some i) (hs : i.size = 1) (A : Option Addr) (n c l : Nat) (hl : l ≤ n) :
    (Instr.slice t (.slice A n c) (some (.int .i64 l)) none none).run P w = .ok (.slice (subA A c l) (n - l) (c - l)) w := by
  have h2 := run_sliceBound (P := P) (w := w) .i64 (l : Int) n .sliceB (by omega) (by omega)
  simp only [Int.toNat_natCast] at h2
  simp [Instr.slice, run_underlying hu, Instr.sliceBounds, h2, sizeOf, typeInfo, hi, hs, Result.andThen, subA]
theorem run_slice_to (t e : TypeId) (i : TypeInfo) (hu : P.underlying t = some (.slice e)) (hi : P.info? e = some i) (A : Option Addr) (n c h : Nat) (hh : h ≤ c) :
    (Instr.slice t (.slice A n c) none (some (.int .i64 h)) none).run P w = .ok (.slice (subA A c 0) h c) w := by
  have h1 := run_sliceBound (P := P) (w := w) .i64 (h : Int) c .sliceAcap (by omega) (by omega)
  simp only [Int.toNat_natCast] at h1
  simp [Instr.slice, run_underlying hu, Instr.sliceBounds, h1, sizeOf, typeInfo, hi, Result.andThen, subA]

theorem wpList_slice_from {ops : Array Oper} {rest : List Oper} {o : Oper} {a : Act} {Q : Exit → Act → World → Prop} (hw : Region.wanted o (yielded ops a.tmps) = true) (x lo : Operand) (t : TypeId) (hop : o.op = Op.slice t x (some lo) none none)
    (e : TypeId) (i : TypeInfo) (hu : P.underlying t = some (.slice e)) (hi : P.info? e = some i) (hs : i.size = 1) (A : Option Addr) (n c l : Nat) (hx : a.eval x = .slice A n c) (hlo : a.eval lo = .int .i64 l) (hl : l ≤ n)
    (hK : wpList P ops Q rest (a.put o.dst (.slice (subA A c l) (n - l) (c - l))) w) : wpList P ops Q (o :: rest) a w := by
  refine BigFrame.wpList_want hw fun K hK' => ?_
  have hrun := run_slice_from (P := P) (w := w) t e i hu hi hs A n c l hl
  unfold Oper.wp
  simp [execOp, hop, hx, hlo, Instr.sliceAt, run_underlying hu, hrun, Result.andThen]
  exact hK' _ _ hK
theorem wpList_slice_part {ops : Array Oper} {rest : List Oper} {o : Oper} {a : Act} {Q : Exit → Act → World → Prop} (hw : Region.wanted o (yielded ops a.tmps) = true) (x lo hi' : Operand) (t : TypeId) (hop : o.op = Op.slice t x (some lo) (some hi') none)
    (e : TypeId) (i : TypeInfo) (hu : P.underlying t = some (.slice e)) (hi : P.info? e = some i) (hs : i.size = 1) (A : Option Addr) (n c l h : Nat) (hx : a.eval x = .slice A n c) (hlo : a.eval lo = .int .i64 l) (hhi : a.eval hi' = .int .i64 h) (hl : l ≤ h) (hh : h ≤ c)
    (hK : wpList P ops Q rest (a.put o.dst (.slice (subA A c l) (h - l) (c - l))) w) : wpList P ops Q (o :: rest) a w := by
  refine BigFrame.wpList_want hw fun K hK' => ?_
  have hrun := run_slice_part (P := P) (w := w) t e i hu hi hs A n c l h hl hh
  unfold Oper.wp
  simp [execOp, hop, hx, hlo, hhi, Instr.sliceAt, run_underlying hu, hrun, Result.andThen]
  exact hK' _ _ hK
theorem wpList_slice_to {ops : Array Oper} {rest : List Oper} {o : Oper} {a : Act} {Q : Exit → Act → World → Prop} (hw : Region.wanted o (yielded ops a.tmps) = true) (x hi' : Operand) (t : TypeId) (hop : o.op = Op.slice t x none (some hi') none)
    (e : TypeId) (i : TypeInfo) (hu : P.underlying t = some (.slice e)) (hi : P.info? e = some i) (A : Option Addr) (n c h : Nat) (hx : a.eval x = .slice A n c) (hhi : a.eval hi' = .int .i64 h) (hh : h ≤ c)
    (hK : wpList P ops Q rest (a.put o.dst (.slice (subA A c 0) h c)) w) : wpList P ops Q (o :: rest) a w := by
  refine BigFrame.wpList_want hw fun K hK' => ?_
  have hrun := run_slice_to (P := P) (w := w) t e i hu hi A n c h hh
  unfold Oper.wp
  simp [execOp, hop, hx, hhi, Instr.sliceAt, run_underlying hu, hrun, Result.andThen]
  exact hK' _ _ hK
end
end Go.Rt
