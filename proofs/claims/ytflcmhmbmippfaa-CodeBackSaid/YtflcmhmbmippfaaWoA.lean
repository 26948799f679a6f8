/- A list of things that came in, opened to its cells. -/
import Derived.Test.YtflcmhmbmippfaaRows
import Derived.Test.YtflcmhmbmippfaaWdI
import Derived.ProofKit
import Derived.SizedLaws
import Derived.Deep.Slices
import Derived.OpenShut
namespace Go.Proofs.Ytflcmhmbmippfaa
open Go.ChangeShapes Go.WideShapes Go.RowKit Go.Rt Go.Deep

theorem rd_of_cells {w : World} (a : Addr) (xs : List Value) (h : ∀ j u, xs[j]? = some u → w.cell? (a.add j) = some u) : Rd w (some a) xs := by
  intro j u hu
  have h0 : ∃ u0, xs[0]? = some u0 := by
    cases xs with
    | nil => simp at hu
    | cons x xs => exact ⟨x, rfl⟩
  obtain ⟨u0, h0⟩ := h0
  have h1 := h 0 u0 h0
  have hs : a.spot = none := by
    have e : a.add 0 = a := by simp [Addr.add]
    rw [e] at h1
    cases hsp : a.spot with
    | none => rfl
    | some k =>
      exfalso
      unfold World.cell? at h1
      split at h1
      · simp [hsp] at h1
      · cases h1
  obtain ⟨b, o, s⟩ := a
  dsimp only at hs
  subst hs
  refine ⟨b, o, rfl, ?_⟩
  have := h j u hu
  rwa [Addr.add_lit] at this

theorem bytes_of : ∀ vs : List Value, (∀ i, i < vs.length → ∃ m : Int, vs[i]? = some (.int .u8 m) ∧ 0 ≤ m ∧ m < 256) → ∃ d : List UInt8, vs = d.map B
  | [], _ => ⟨[], rfl⟩
  | v :: vs, h => by
    obtain ⟨d, hd⟩ := bytes_of vs fun i hi => by
      have := h (i + 1) (by simpa using hi)
      simpa using this
    obtain ⟨m, hm, h0, h1⟩ := h 0 (by simp)
    simp at hm
    refine ⟨UInt8.ofNat m.toNat :: d, ?_⟩
    rw [List.map_cons, ← hd, hm]
    congr 1
    unfold B
    congr 1
    rw [UInt8.toNat_ofNat']
    omega

section
variable {H : Type} {enc : TypeId × Value → H} {w : World} {base : Nat} {spare : Nat → Bool} {held : Bool}

theorem wf_u8 {m : Int} (h : (Lit.int .u8 m).wf = true) : 0 ≤ m ∧ m < 256 := by
  have e1 : IntKind.u8.min = 0 := rfl
  have e2 : IntKind.u8.max = 255 := rfl
  simp only [Lit.wf, Bool.and_eq_true, decide_eq_true_eq] at h
  omega
theorem wf_i64 {m : Int} (h : (Lit.int .i64 m).wf = true) : -9223372036854775808 ≤ m ∧ m ≤ 9223372036854775807 := by
  have e1 : IntKind.i64.min = -9223372036854775808 := rfl
  have e2 : IntKind.i64.max = 9223372036854775807 := rfl
  simp only [Lit.wf, Bool.and_eq_true, decide_eq_true_eq] at h
  omega

/-- What is known of a thing that came in. -/
structure Th.Came (x : Th) : Prop where
  k : -9223372036854775808 ≤ x.k ∧ x.k ≤ 9223372036854775807
  n : -9223372036854775808 ≤ x.n ∧ x.n ≤ 9223372036854775807
  d : x.d.length = 32

theorem bulk_lits (xs : List (DataW H × List MemPlace)) : xs.length ≤ Rows.uptoBulkAll (xs.map (·.1)) := by
  induction xs with
  | nil => simp [Rows.uptoBulkAll]
  | cons x xs ih =>
    have : 1 ≤ Rows.uptoBulk x.1 := by cases x.1 with
      | lit v => cases v <;> simp [Rows.uptoBulk]
      | _ => simp [Rows.uptoBulk]
    simp only [List.map_cons, Rows.uptoBulkAll, List.length_cons]
    omega

theorem bulkAll_append (a b : List (DataW H)) : Rows.uptoBulkAll (a ++ b) = Rows.uptoBulkAll a + Rows.uptoBulkAll b := by
  induction a with
  | nil => simp [Rows.uptoBulkAll]
  | cons x a ih => simp only [List.cons_append, Rows.uptoBulkAll, ih]; omega

theorem mem_weightsAll {P : Program} {e : TypeId} {n : Nat} {d : DataW H} : ∀ {l : List (DataW H)}, d ∈ l → n ∈ d.weights P e → n ∈ DataW.weightsAll P e l
  | [], h, _ => by cases h
  | x :: l, h, hn => by
    simp only [DataW.weightsAll, List.mem_append]
    rcases List.mem_cons.1 h with rfl | h
    · exact .inl hn
    · exact .inr (mem_weightsAll h hn)

end
end Go.Proofs.Ytflcmhmbmippfaa
