/- A list of asks that came in, opened to its cells. -/
import Derived.Test.YtkfeejlpgcmilaaWoA
import Derived.Test.YtkfeejlpgcmilaaWdQ
namespace Go.Proofs.Ytkfeejlpgcmilaa
open Go.ChangeShapes Go.WideShapes Go.RowKit Go.Rt Go.Deep

def qnC (ts : List Qn) : List Value := ts.flatMap Qn.cs
/-- What is known of an ask that came in. -/
structure Qn.Came (x : Qn) : Prop where
  k : -9223372036854775808 ≤ x.k ∧ x.k ≤ 9223372036854775807
  low : -9223372036854775808 ≤ x.low ∧ x.low ≤ 9223372036854775807
  n : -9223372036854775808 ≤ x.n ∧ x.n ≤ 9223372036854775807

section
variable {H : Type} {enc : TypeId × Value → H} {w : World} {base : Nat} {spare : Nat → Bool} {held : Bool}

theorem ask_of_trod {fuel : Nat} {cs : List Value} {y : DataW H × List MemPlace} (h : DataW.trod enc Try.prog w base spare held fuel 67 cs = some y) : ∃ x : Qn, x.Came ∧ cs = x.cs := by
  have c67 : Try.prog.cellsOf 67 = 3 := by kernel_rfl
  have c3 : Try.prog.cellsOf 3 = 1 := by kernel_rfl
  obtain ⟨xs, n, rfl, hy, hlen, hxl, hf⟩ := DataW.trod_struct Try.underlying67 h
  rw [c67] at hlen
  match cs, hlen with
  | [a, b, c], _ =>
    match xs, hxl with
    | [y0, y1, y2], _ =>
      have f0 : DataW.trod enc Try.prog w base spare held n 3 (([a, b, c].drop 0).take (Try.prog.cellsOf 3)) = some y0 := hf 0 _ rfl
      have f1 : DataW.trod enc Try.prog w base spare held n 3 (([a, b, c].drop 1).take (Try.prog.cellsOf 3)) = some y1 := hf 1 _ rfl
      have f2 : DataW.trod enc Try.prog w base spare held n 3 (([a, b, c].drop 2).take (Try.prog.cellsOf 3)) = some y2 := hf 2 _ rfl
      rw [c3] at f0 f1 f2
      obtain ⟨k, e0, _, w0⟩ := DataW.trod_int Try.underlying3 f0
      obtain ⟨l, e1, _, w1⟩ := DataW.trod_int Try.underlying3 f1
      obtain ⟨m, e2, _, w2⟩ := DataW.trod_int Try.underlying3 f2
      simp at e0 e1 e2
      exact ⟨⟨k, l, m⟩, ⟨wf_i64 w0, wf_i64 w1, wf_i64 w2⟩, by rw [e0, e1, e2]; rfl⟩

/-- A list of asks that came in: its cells are asks. -/
theorem open_asks {fuel : Nat} {v : Value} {y : DataW H × List MemPlace} (h : DataW.trod enc Try.prog w base spare held fuel 62 [v] = some y) :
    ∃ (A : Option Addr) (c : Nat) (ts : List Qn), v = .slice A ts.length c ∧ (∀ x ∈ ts, x.Came) ∧ Rd w A (qnC ts) := by
  have c3 : Try.prog.cellsOf 67 = 3 := by kernel_rfl
  rcases open_slice Try.underlying62 h with ⟨h1, _⟩ | ⟨a, len, cap, m, n, D, Pl, h1, _, hl, _, hm, hy, hi⟩
  · exact ⟨none, 0, [], by simpa using h1, by simp, Rd.nil _ _⟩
  · have hlm : len ≤ m := by rw [hm]; split <;> omega
    have hx : ∀ i, ∃ x : Qn, i < len → x.Came ∧ w.cells? base (a.add (i * 3)) 3 = some x.cs := fun i => by
      by_cases hil : i < len
      · obtain ⟨cs', hc, ht⟩ := hi i (by omega)
        rw [c3] at hc
        obtain ⟨x, h2, rfl⟩ := ask_of_trod ht
        exact ⟨x, fun _ => ⟨h2, hc⟩⟩
      · exact ⟨⟨0, 0, 0⟩, fun h => absurd h hil⟩
    obtain ⟨f, hf⟩ := Classical.axiomOfChoice hx
    have hC : ∀ x ∈ (List.range len).map f, x.Came ∧ x.cs.length = 3 := fun x hx => by
      simp only [List.mem_map, List.mem_range] at hx
      obtain ⟨i, hil, rfl⟩ := hx
      have := (hf i hil).1
      exact ⟨this, rfl⟩
    refine ⟨some a, cap, (List.range len).map f, by simpa using h1, fun x hx => (hC x hx).1, rd_of_cells a _ fun j u hu => ?_⟩
    · have hcell : ∀ (k : Nat), k ≤ len → ∀ j u, (qnC ((List.range k).map f))[j]? = some u → w.cell? (a.add j) = some u := fun k => by
        induction k with
        | zero => intro _ j u hu; simp [qnC] at hu
        | succ k ih =>
          intro hk j u hu
          have hlen : (qnC ((List.range k).map f)).length = k * 3 := by
            have : ∀ k, k ≤ len → (qnC ((List.range k).map f)).length = k * 3 := fun k => by
              induction k with
              | zero => intro _; rfl
              | succ k ih =>
                intro hk
                have h3 := (hC (f k) (List.mem_map.2 ⟨k, List.mem_range.2 (by omega), rfl⟩)).2
                have h4 := ih (by omega)
                simp only [qnC, List.range_succ, List.map_append, List.flatMap_append, List.map_cons, List.map_nil, List.flatMap_cons, List.flatMap_nil, List.append_nil, List.length_append] at h4 ⊢
                omega
            exact this k (by omega)
          have e : qnC ((List.range (k + 1)).map f) = qnC ((List.range k).map f) ++ (f k).cs := by
            simp [qnC, List.range_succ]
          rw [e] at hu
          by_cases hj : j < k * 3
          · rw [List.getElem?_append_left (by omega)] at hu
            exact ih (by omega) j u hu
          · rw [List.getElem?_append_right (by omega), hlen] at hu
            obtain ⟨_, _, hat⟩ := World.cells?_some (hf k (by omega)).2
            have hj2 : j - k * 3 < 3 := by
              have h3 := (hC (f k) (List.mem_map.2 ⟨k, List.mem_range.2 (by omega), rfl⟩)).2
              have := (List.getElem?_eq_some_iff.1 hu).1
              omega
            have h5 := hat (j - k * 3) hj2
            rw [hu, add_add, show k * 3 + (j - k * 3) = j by omega] at h5
            exact h5
      exact hcell len (Nat.le_refl _) j u hu
end
end Go.Proofs.Ytkfeejlpgcmilaa
