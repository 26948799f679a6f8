/- A pack of texts: KoD -/
import Derived.Test.YtodbmeklbamcfaaGreatPkBackZG
import Derived.Test.YtodbmeklbamcfaaGreatPkBackZH
/- An effect that came in, opened. -/
namespace Go.Proofs.YtodbmeklbamcfaaGreat
open Go.ChangeShapes Go.WideShapes Go.RowKit Go.Rt Go.Deep

section
variable {H : Type} {enc : TypeId × Value → H} {w : World} {base : Nat} {spare : Nat → Bool} {held : Bool}
/-- What is known of an effect that came in: its lists read, and lie in their room. -/
structure EfIn (w : World) (x : Ef) (p : EfAt) : Prop where
  why : -9223372036854775808 ≤ x.why ∧ x.why ≤ 9223372036854775807
  steps : -9223372036854775808 ≤ x.steps ∧ x.steps ≤ 9223372036854775807
  b : Bsl p.A x.rs.length p.c
  b' : Bsl p.A' x.ss.length p.c'
  b'' : Bsl p.A'' x.ws.length p.c''
  r : Rd w p.A (tsC x.rs)
  r' : Rd w p.A' (spC x.ss)
  r'' : Rd w p.A'' (wtC x.ws)
set_option maxRecDepth 100000 in
theorem ef_of_trod {fuel : Nat} {cs : List Value} {y : DataW H × List MemPlace} (h : DataW.trod enc Tryz.prog w base spare held fuel 26 cs = some y) : ∃ (x : Ef) (p : EfAt), EfIn w x p ∧ cs = x.cs p := by
  have c5 : Tryz.prog.cellsOf 26 = 5 := by kernel_rfl
  have ci : Tryz.prog.cellsOf 3 = 1 := by kernel_rfl
  have ct : Tryz.prog.cellsOf 22 = 1 := by kernel_rfl
  have cp : Tryz.prog.cellsOf 23 = 1 := by kernel_rfl
  have cw : Tryz.prog.cellsOf 24 = 1 := by kernel_rfl
  obtain ⟨xs, n, rfl, hy, hlen, hxl, hf⟩ := DataW.trod_struct Tryz.underlying26 h
  rw [c5] at hlen
  match cs, hlen with
  | [a, b, c, d, e], _ =>
    match xs, hxl with
    | [y0, y1, y2, y3, y4], _ =>
      have f0 : DataW.trod enc Tryz.prog w base spare held n 3 (([a, b, c, d, e].drop 0).take (Tryz.prog.cellsOf 3)) = some y0 := hf 0 _ rfl
      have f1 : DataW.trod enc Tryz.prog w base spare held n 3 (([a, b, c, d, e].drop 1).take (Tryz.prog.cellsOf 3)) = some y1 := hf 1 _ rfl
      have f2 : DataW.trod enc Tryz.prog w base spare held n 22 (([a, b, c, d, e].drop 2).take (Tryz.prog.cellsOf 22)) = some y2 := hf 2 _ rfl
      have f3 : DataW.trod enc Tryz.prog w base spare held n 23 (([a, b, c, d, e].drop 3).take (Tryz.prog.cellsOf 23)) = some y3 := hf 3 _ rfl
      have f4 : DataW.trod enc Tryz.prog w base spare held n 24 (([a, b, c, d, e].drop 4).take (Tryz.prog.cellsOf 24)) = some y4 := hf 4 _ rfl
      rw [ci] at f0 f1
      rw [ct] at f2
      rw [cp] at f3
      rw [cw] at f4
      obtain ⟨i, e0, _, w0⟩ := DataW.trod_int Tryz.underlying3 f0
      obtain ⟨j, e1, _, w1⟩ := DataW.trod_int Tryz.underlying3 f1
      obtain ⟨A2, k2, rs, v2, b2, _, r2⟩ := open_texts f2
      obtain ⟨A3, k3, ss, v3, b3, _, r3⟩ := open_spans f3
      obtain ⟨A4, k4, ws, v4, b4, _, r4⟩ := open_writes f4
      simp at e0 e1
      exact ⟨⟨i, j, rs, ss, ws⟩, ⟨A2, k2, A3, k3, A4, k4⟩, ⟨wf_i64' w0, wf_i64' w1, b2, b3, b4, r2, r3, r4⟩, by rw [e0, e1]; show [_, _, c, d, e] = _; rw [v2, v3, v4]; rfl⟩
end
end Go.Proofs.YtodbmeklbamcfaaGreat
