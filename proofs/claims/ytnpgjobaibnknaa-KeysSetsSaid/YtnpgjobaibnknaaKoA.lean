/- A list of texts that came in, opened. -/
import Derived.Test.YtnpgjobaibnknaaOpM
import Derived.Test.YtnpgjobaibnknaaKdA
namespace Go.Proofs.Ytnpgjobaibnknaa
open Go.ChangeShapes Go.WideShapes Go.RowKit Go.Rt Go.Deep

section
variable {H : Type} {enc : TypeId × Value → H} {w : World} {base : Nat} {spare : Nat → Bool} {held : Bool}
theorem str_of_trod {fuel : Nat} {cs : List Value} {y : DataW H × List MemPlace} (h : DataW.trod enc Try.prog w base spare held fuel 9 cs = some y) : ∃ x : Str, x.length ≤ maxLen ∧ cs = [encStr x] ∧ x.length ∈ y.1.weights Try.prog 9 := by
  obtain ⟨s, e, z, hw⟩ := DataW.trod_string Try.underlying9 h
  refine ⟨s.data.toList, by rw [Array.length_toList]; exact hw, e, ?_⟩
  rw [z]
  simp [DataW.weights]
theorem flat_encStr (l : List Str) : l.flatMap (fun x => [encStr x]) = tsC l := by
  induction l with
  | nil => rfl
  | cons x l ih => rw [List.flatMap_cons, ih]; rfl
theorem open_texts {fuel : Nat} {v : Value} {y : DataW H × List MemPlace} (h : DataW.trod enc Try.prog w base spare held fuel 22 [v] = some y) :
    ∃ (A : Option Addr) (c : Nat) (ts : List Str), v = .slice A ts.length c ∧ Bsl A ts.length c ∧ (∀ x ∈ ts, x.length ≤ maxLen) ∧ Rd w A (tsC ts) := by
  obtain ⟨A, c, ts, hv, hb, hx, hr, _⟩ := open_list2 (fun x => [encStr x]) 1 (fun x : Str => x.length ≤ maxLen) [] (fun x => x.length) Try.underlying22 (by kernel_rfl) (fun _ _ => rfl) str_of_trod h
  rw [flat_encStr] at hr
  exact ⟨A, c, ts, hv, hb, hx, hr⟩
end
end Go.Proofs.Ytnpgjobaibnknaa
