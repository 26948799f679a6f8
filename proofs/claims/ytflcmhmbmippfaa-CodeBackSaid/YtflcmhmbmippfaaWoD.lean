/- Bytes that came in, opened to their cells. -/
import Derived.Test.YtflcmhmbmippfaaWoA
import Derived.Test.YtflcmhmbmippfaaRtE
namespace Go.Proofs.Ytflcmhmbmippfaa
open Go.ChangeShapes Go.WideShapes Go.RowKit Go.Rt Go.Deep
section
variable {H : Type} {enc : TypeId × Value → H} {w : World} {base : Nat} {spare : Nat → Bool} {held : Bool}
theorem open_bytes {fuel : Nat} {v : Value} {y : DataW H × List MemPlace} (h : DataW.trod enc Try.prog w base spare held fuel 22 [v] = some y) :
    ∃ (A : Option Addr) (c : Nat) (bs : List UInt8), v = .slice A bs.length c ∧ bs.length ≤ c ∧ c ≤ maxLen ∧ Rd w A (bs.map B) := by
  have c1 : Try.prog.cellsOf 5 = 1 := by kernel_rfl
  rcases open_slice1 Try.underlying22 c1 h with ⟨h1, _⟩ | ⟨a, len, cap, m, n, V, D, Pl, h1, _, hl, hmax, hm, hy, hi⟩
  · exact ⟨none, 0, [], by simpa using h1, Nat.le_refl _, by simp [maxLen], Rd.nil _ _⟩
  · have hlm : len ≤ m := by rw [hm]; split <;> omega
    obtain ⟨d, hd⟩ := bytes_of ((List.range len).map V) fun i hil => by
      have hil' : i < len := by simpa using hil
      obtain ⟨_, ht⟩ := hi i (by omega)
      obtain ⟨k, e0, _, w0⟩ := DataW.trod_int Try.underlying5 ht
      have hb := wf_u8 w0
      exact ⟨k, by simp at e0; simp [hil', e0], hb.1, hb.2⟩
    have hdl : d.length = len := by have := congrArg List.length hd; simpa using this.symm
    refine ⟨some a, cap, d, by rw [hdl]; simpa using h1, by omega, hmax, ?_⟩
    rw [← hd]
    refine rd_of_cells a _ fun j u hu => ?_
    have hj : j < len := by have := (List.getElem?_eq_some_iff.1 hu).1; simpa using this
    have hc := (hi j (by omega)).1
    have hu' : V j = u := by simpa [hj] using hu
    rw [hc, hu']
theorem open_bsl {fuel : Nat} {v : Value} {y : DataW H × List MemPlace} (h : DataW.trod enc Try.prog w base spare held fuel 22 [v] = some y) :
    ∃ (A : Option Addr) (c : Nat) (bs : List UInt8), v = .slice A bs.length c ∧ Bsl A bs.length c ∧ Rd w A (bs.map B) := by
  obtain ⟨A, c, bs, hv, hc, hm, hr⟩ := open_bytes h
  rcases open_slice Try.underlying22 h with ⟨h1, _⟩ | ⟨a, len, cap, m, n, D, Pl, h1, _, hl, hmax, _⟩
  · rw [hv] at h1
    simp at h1
    exact ⟨A, c, bs, hv, ⟨hc, (fun _ => h1.2.2), hm⟩, hr⟩
  · rw [hv] at h1
    simp at h1
    exact ⟨A, c, bs, hv, ⟨hc, (fun e => by rw [h1.1] at e; cases e), hm⟩, hr⟩
end
end Go.Proofs.Ytflcmhmbmippfaa
