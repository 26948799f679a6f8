/- A list of spans that came in, opened. -/
import Derived.Test.YtnpgjobaibnknaaKoA
import Derived.Test.YtnpgjobaibnknaaOpN
import Derived.Test.YtnpgjobaibnknaaKdS
namespace Go.Proofs.Ytnpgjobaibnknaa
open Go.ChangeShapes Go.WideShapes Go.RowKit Go.Rt Go.Deep

section
variable {H : Type} {enc : TypeId × Value → H} {w : World} {base : Nat} {spare : Nat → Bool} {held : Bool}
def OkSp (s : Sp) : Prop := s.lo.length ≤ maxLen ∧ s.hi.length ≤ maxLen
set_option maxRecDepth 100000 in
theorem sp_of_trod {fuel : Nat} {cs : List Value} {y : DataW H × List MemPlace} (h : DataW.trod enc Try.prog w base spare held fuel 54 cs = some y) : ∃ s : Sp, OkSp s ∧ cs = s.cs := by
  have c2 : Try.prog.cellsOf 54 = 2 := by kernel_rfl
  have c9 : Try.prog.cellsOf 9 = 1 := by kernel_rfl
  obtain ⟨xs, n, rfl, hy, hlen, hxl, hf⟩ := DataW.trod_struct Try.underlying54 h
  rw [c2] at hlen
  match cs, hlen with
  | [a, b], _ =>
    match xs, hxl with
    | [y0, y1], _ =>
      have f0 : DataW.trod enc Try.prog w base spare held n 9 (([a, b].drop 0).take (Try.prog.cellsOf 9)) = some y0 := hf 0 _ rfl
      have f1 : DataW.trod enc Try.prog w base spare held n 9 (([a, b].drop 1).take (Try.prog.cellsOf 9)) = some y1 := hf 1 _ rfl
      rw [c9] at f0 f1
      obtain ⟨s, e0, z0, w0⟩ := DataW.trod_string Try.underlying9 f0
      obtain ⟨t, e1, z1, w1⟩ := DataW.trod_string Try.underlying9 f1
      simp at e0 e1
      refine ⟨⟨s.data.toList, t.data.toList⟩, ⟨?_, ?_⟩, by rw [e0, e1]; rfl⟩
      · show s.data.toList.length ≤ maxLen
        rw [Array.length_toList]
        exact w0
      · show t.data.toList.length ≤ maxLen
        rw [Array.length_toList]
        exact w1
theorem open_spans {fuel : Nat} {v : Value} {y : DataW H × List MemPlace} (h : DataW.trod enc Try.prog w base spare held fuel 34 [v] = some y) :
    ∃ (A : Option Addr) (c : Nat) (ts : List Sp), v = .slice A ts.length c ∧ Bsl A ts.length c ∧ (∀ x ∈ ts, OkSp x) ∧ Rd w A (spC ts) :=
  open_list3 Sp.cs 2 OkSp ⟨[], []⟩ Try.underlying34 (by kernel_rfl) (fun _ _ => rfl) sp_of_trod h
end
end Go.Proofs.Ytnpgjobaibnknaa
