/- A pack of texts: WoA, WoD -/
import Derived.Test.YtodbmeklbamcfaaGreatRows
import Derived.Test.YtodbmeklbamcfaaGreatPkBackS
import Derived.ProofKit
import Derived.SizedLaws
import Derived.Deep.Slices
import Derived.OpenShut
import Derived.Test.YtodbmeklbamcfaaGreatPkBackE
/- A list of things that came in, opened to its cells. -/
namespace Go.Proofs.YtodbmeklbamcfaaGreat
open Go.ChangeShapes Go.WideShapes Go.RowKit Go.Rt Go.Deep

theorem rd_of_cells {w : World} (a : Addr) (xs : List Value) (h : ∀ j u, xs[j]? = some u → w.cell? (a.add j) = some u) : Rd w (some a) xs := by
  intro j u hu
  have h0 : ∃ u0, xs[0]? = some u0 := by
    cases xs with
    | nil => simp at hu
    | cons x xs => exact ⟨x, rfl⟩
  obtain ⟨u0, h0⟩ := h0
  have h1 := h 0 u0 h0
  have hs : a.spot = none := by
    have e : a.add 0 = a := by simp [Addr.add]
    rw [e] at h1
    cases hsp : a.spot with
    | none => rfl
    | some k =>
      exfalso
      unfold World.cell? at h1
      split at h1
      · simp [hsp] at h1
      · cases h1
  obtain ⟨b, o, s⟩ := a
  dsimp only at hs
  subst hs
  refine ⟨b, o, rfl, ?_⟩
  have := h j u hu
  rwa [Addr.add_lit] at this

theorem bytes_of : ∀ vs : List Value, (∀ i, i < vs.length → ∃ m : Int, vs[i]? = some (.int .u8 m) ∧ 0 ≤ m ∧ m < 256) → ∃ d : List UInt8, vs = d.map B
  | [], _ => ⟨[], rfl⟩
  | v :: vs, h => by
    obtain ⟨d, hd⟩ := bytes_of vs fun i hi => by
      have := h (i + 1) (by simpa using hi)
      simpa using this
    obtain ⟨m, hm, h0, h1⟩ := h 0 (by simp)
    simp at hm
    refine ⟨UInt8.ofNat m.toNat :: d, ?_⟩
    rw [List.map_cons, ← hd, hm]
    congr 1
    unfold B
    congr 1
    rw [UInt8.toNat_ofNat']
    omega

section
variable {H : Type} {enc : TypeId × Value → H} {w : World} {base : Nat} {spare : Nat → Bool} {held : Bool}

theorem wf_u8 {m : Int} (h : (Lit.int .u8 m).wf = true) : 0 ≤ m ∧ m < 256 := by
  have e1 : IntKind.u8.min = 0 := rfl
  have e2 : IntKind.u8.max = 255 := rfl
  simp only [Lit.wf, Bool.and_eq_true, decide_eq_true_eq] at h
  omega
theorem wf_i64 {m : Int} (h : (Lit.int .i64 m).wf = true) : -9223372036854775808 ≤ m ∧ m ≤ 9223372036854775807 := by
  have e1 : IntKind.i64.min = -9223372036854775808 := rfl
  have e2 : IntKind.i64.max = 9223372036854775807 := rfl
  simp only [Lit.wf, Bool.and_eq_true, decide_eq_true_eq] at h
  omega

/-- What is known of a thing that came in. -/
structure Th.Came (x : Th) : Prop where
  k : -9223372036854775808 ≤ x.k ∧ x.k ≤ 9223372036854775807
  n : -9223372036854775808 ≤ x.n ∧ x.n ≤ 9223372036854775807
  d : x.d.length = 32

theorem bulk_lits (xs : List (DataW H × List MemPlace)) : xs.length ≤ Rows.uptoBulkAll (xs.map (·.1)) := by
  induction xs with
  | nil => simp [Rows.uptoBulkAll]
  | cons x xs ih =>
    have : 1 ≤ Rows.uptoBulk x.1 := by cases x.1 with
      | lit v => cases v <;> simp [Rows.uptoBulk]
      | _ => simp [Rows.uptoBulk]
    simp only [List.map_cons, Rows.uptoBulkAll, List.length_cons]
    omega

theorem bulkAll_append (a b : List (DataW H)) : Rows.uptoBulkAll (a ++ b) = Rows.uptoBulkAll a + Rows.uptoBulkAll b := by
  induction a with
  | nil => simp [Rows.uptoBulkAll]
  | cons x a ih => simp only [List.cons_append, Rows.uptoBulkAll, ih]; omega

theorem mem_weightsAll {P : Program} {e : TypeId} {n : Nat} {d : DataW H} : ∀ {l : List (DataW H)}, d ∈ l → n ∈ d.weights P e → n ∈ DataW.weightsAll P e l
  | [], h, _ => by cases h
  | x :: l, h, hn => by
    simp only [DataW.weightsAll, List.mem_append]
    rcases List.mem_cons.1 h with rfl | h
    · exact .inl hn
    · exact .inr (mem_weightsAll h hn)

end
end Go.Proofs.YtodbmeklbamcfaaGreat

/- Bytes that came in, opened to their cells. -/
namespace Go.Proofs.YtodbmeklbamcfaaGreat
open Go.ChangeShapes Go.WideShapes Go.RowKit Go.Rt Go.Deep
section
variable {H : Type} {enc : TypeId × Value → H} {w : World} {base : Nat} {spare : Nat → Bool} {held : Bool}
theorem open_bytes {fuel : Nat} {v : Value} {y : DataW H × List MemPlace} (h : DataW.trod enc Tryz.prog w base spare held fuel 30 [v] = some y) :
    ∃ (A : Option Addr) (c : Nat) (bs : List UInt8), v = .slice A bs.length c ∧ bs.length ≤ c ∧ c ≤ maxLen ∧ Rd w A (bs.map B) := by
  have c1 : Tryz.prog.cellsOf 5 = 1 := by kernel_rfl
  rcases open_slice1 Tryz.underlying30 c1 h with ⟨h1, _⟩ | ⟨a, len, cap, m, n, V, D, Pl, h1, _, hl, hmax, hm, hy, hi⟩
  · exact ⟨none, 0, [], by simpa using h1, Nat.le_refl _, by simp [maxLen], Rd.nil _ _⟩
  · have hlm : len ≤ m := by rw [hm]; split <;> omega
    obtain ⟨d, hd⟩ := bytes_of ((List.range len).map V) fun i hil => by
      have hil' : i < len := by simpa using hil
      obtain ⟨_, ht⟩ := hi i (by omega)
      obtain ⟨k, e0, _, w0⟩ := DataW.trod_int Tryz.underlying5 ht
      have hb := wf_u8 w0
      exact ⟨k, by simp at e0; simp [hil', e0], hb.1, hb.2⟩
    have hdl : d.length = len := by have := congrArg List.length hd; simpa using this.symm
    refine ⟨some a, cap, d, by rw [hdl]; simpa using h1, by omega, hmax, ?_⟩
    rw [← hd]
    refine rd_of_cells a _ fun j u hu => ?_
    have hj : j < len := by have := (List.getElem?_eq_some_iff.1 hu).1; simpa using this
    have hc := (hi j (by omega)).1
    have hu' : V j = u := by simpa [hj] using hu
    rw [hc, hu']
theorem open_bsl {fuel : Nat} {v : Value} {y : DataW H × List MemPlace} (h : DataW.trod enc Tryz.prog w base spare held fuel 30 [v] = some y) :
    ∃ (A : Option Addr) (c : Nat) (bs : List UInt8), v = .slice A bs.length c ∧ Bsl A bs.length c ∧ Rd w A (bs.map B) := by
  obtain ⟨A, c, bs, hv, hc, hm, hr⟩ := open_bytes h
  rcases open_slice Tryz.underlying30 h with ⟨h1, _⟩ | ⟨a, len, cap, m, n, D, Pl, h1, _, hl, hmax, _⟩
  · rw [hv] at h1
    simp at h1
    exact ⟨A, c, bs, hv, ⟨hc, (fun _ => h1.2.2), hm⟩, hr⟩
  · rw [hv] at h1
    simp at h1
    exact ⟨A, c, bs, hv, ⟨hc, (fun e => by rw [h1.1] at e; cases e), hm⟩, hr⟩
end
end Go.Proofs.YtodbmeklbamcfaaGreat
