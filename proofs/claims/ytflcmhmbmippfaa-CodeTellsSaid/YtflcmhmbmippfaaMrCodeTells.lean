/- MrCodeTells, in one text: CoA, ClTells, WrCodeTells. -/
import Derived.Test.YtflcmhmbmippfaaWoA
import Derived.Test.YtflcmhmbmippfaaCdB
import Derived.Test.YtflcmhmbmippfaaCdI
import Derived.Test.YtflcmhmbmippfaaRows
import Derived.Test.YtflcmhmbmippfaaRtR
namespace Go.Proofs.Ytflcmhmbmippfaa
open Go.ChangeShapes Go.WideShapes Go.RowKit Go.Rt Go.Deep

section
variable {H : Type} {enc : TypeId × Value → H} {w : World} {base : Nat} {spare : Nat → Bool} {held : Bool}

set_option maxRecDepth 100000 in
theorem ins_of_trod {fuel : Nat} {cs : List Value} {y : DataW H × List MemPlace} (h : DataW.trod enc Try.prog w base spare held fuel 26 cs = some y) : ∃ x : Ins, x.s.length ≤ maxLen ∧ cs = x.cs := by
  have c6 : Try.prog.cellsOf 26 = 6 := by kernel_rfl
  have c3 : Try.prog.cellsOf 3 = 1 := by kernel_rfl
  have c9 : Try.prog.cellsOf 9 = 1 := by kernel_rfl
  obtain ⟨xs, n, rfl, hy, hlen, hxl, hf⟩ := DataW.trod_struct Try.underlying26 h
  rw [c6] at hlen
  match cs, hlen with
  | [a, b, c, d, e, f], _ =>
    match xs, hxl with
    | [y0, y1, y2, y3, y4, y5], _ =>
      have f0 : DataW.trod enc Try.prog w base spare held n 3 (([a, b, c, d, e, f].drop 0).take (Try.prog.cellsOf 3)) = some y0 := hf 0 _ rfl
      have f1 : DataW.trod enc Try.prog w base spare held n 3 (([a, b, c, d, e, f].drop 1).take (Try.prog.cellsOf 3)) = some y1 := hf 1 _ rfl
      have f2 : DataW.trod enc Try.prog w base spare held n 3 (([a, b, c, d, e, f].drop 2).take (Try.prog.cellsOf 3)) = some y2 := hf 2 _ rfl
      have f3 : DataW.trod enc Try.prog w base spare held n 3 (([a, b, c, d, e, f].drop 3).take (Try.prog.cellsOf 3)) = some y3 := hf 3 _ rfl
      have f4 : DataW.trod enc Try.prog w base spare held n 3 (([a, b, c, d, e, f].drop 4).take (Try.prog.cellsOf 3)) = some y4 := hf 4 _ rfl
      have f5 : DataW.trod enc Try.prog w base spare held n 9 (([a, b, c, d, e, f].drop 5).take (Try.prog.cellsOf 9)) = some y5 := hf 5 _ rfl
      rw [c3] at f0 f1 f2 f3 f4
      rw [c9] at f5
      obtain ⟨k0, e0, _, w0⟩ := DataW.trod_int Try.underlying3 f0
      obtain ⟨k1, e1, _, w1⟩ := DataW.trod_int Try.underlying3 f1
      obtain ⟨k2, e2, _, w2⟩ := DataW.trod_int Try.underlying3 f2
      obtain ⟨k3, e3, _, w3⟩ := DataW.trod_int Try.underlying3 f3
      obtain ⟨k4, e4, _, w4⟩ := DataW.trod_int Try.underlying3 f4
      obtain ⟨s, e5, z5, w5⟩ := DataW.trod_string Try.underlying9 f5
      simp at e0 e1 e2 e3 e4 e5
      refine ⟨⟨k0, k1, k2, k3, k4, s.data.toList⟩, ?_, by rw [e0, e1, e2, e3, e4, e5]; rfl⟩
      show s.data.toList.length ≤ maxLen
      rw [Array.length_toList]
      exact w5
end
end Go.Proofs.Ytflcmhmbmippfaa

/- CodeTells answers true. -/
namespace Go.Proofs.Ytflcmhmbmippfaa
open Go.RowKit Go.Rt

/-- What is told of an instruction: its bytes, and whether it may be. -/
def outB (i : Ins) : List UInt8 := if mayB i then insBytes i else []
def outE (i : Ins) : Int := if mayB i then 0 else 2
theorem cBytes_any {W w : World} {l : List SL} (i : Ins) (hs : i.s.length ≤ maxLen) (H : Sat W w l) :
    Calls Try.prog 16 #[.agg i.cs.toArray] w fun e w' => ∃ A c, e = .returned (.tuple #[.slice A (outB i).length c, .int .i64 (outE i)]) ∧ Sat W w' (row 5 zB (.slice A (outB i).length c) (outB i).length ((outB i).map B) :: l) := by
  unfold outB outE
  by_cases hm : mayB i = true
  · rw [if_pos hm, if_pos hm]; exact cBytes_fine i hm H
  · rw [if_neg hm, if_neg hm]
    refine (cBytes_bad i hs (by simpa using hm) H).mono ?_
    rintro e w' ⟨rfl, h⟩
    exact ⟨none, 0, rfl, h.nil 5 zB⟩
theorem cSize_any {W w : World} {l : List SL} (i : Ins) (hs : i.s.length ≤ maxLen) (H : Sat W w l) :
    Calls Try.prog 21 #[.agg i.cs.toArray] w fun e w' => e = .returned (.int .i64 ((outB i).length : Nat)) ∧ Sat W w' l := by
  unfold outB
  by_cases hm : mayB i = true
  · rw [if_pos hm]; exact cSize_fine i hm H
  · rw [if_neg hm]; exact cSize_bad i hs (by simpa using hm) H
theorem kBytes_any {W w : World} {l : List SL} (i : Ins) (hs : i.s.length ≤ maxLen) (H : Sat W w l) :
    Calls Try.prog 17 #[.agg i.cs.toArray] w fun e w' => ∃ A c, e = .returned (.tuple #[.slice A (outB i).length c, .int .i64 (outE i)]) ∧ Sat W w' (row 5 zB (.slice A (outB i).length c) (outB i).length ((outB i).map B) :: l) := by
  unfold outB outE
  by_cases hm : mayB i = true
  · rw [if_pos hm, if_pos hm]; exact kBytes_fine i hm H
  · rw [if_neg hm, if_neg hm]
    refine (kBytes_bad i hs (by simpa using hm) H).mono ?_
    rintro e w' ⟨rfl, h⟩
    exact ⟨none, 0, rfl, h.nil 5 zB⟩
theorem kSize_any {W w : World} {l : List SL} (i : Ins) (hs : i.s.length ≤ maxLen) (H : Sat W w l) :
    Calls Try.prog 22 #[.agg i.cs.toArray] w fun e w' => e = .returned (.int .i64 ((outB i).length : Nat)) ∧ Sat W w' l := by
  unfold outB
  by_cases hm : mayB i = true
  · rw [if_pos hm]; exact kSize_fine i hm H
  · rw [if_neg hm]; exact kSize_bad i hs (by simpa using hm) H
theorem cCheck_out {W w : World} {l : List SL} (i : Ins) (hs : i.s.length ≤ maxLen) (H : Sat W w l) :
    Calls Try.prog 19 #[.agg i.cs.toArray] w fun e w' => e = .returned (.int .i64 (outE i)) ∧ Sat W w' l := cCheck_any i hs H
theorem kCheck_out {W w : World} {l : List SL} (i : Ins) (hs : i.s.length ≤ maxLen) (H : Sat W w l) :
    Calls Try.prog 20 #[.agg i.cs.toArray] w fun e w' => e = .returned (.int .i64 (outE i)) ∧ Sat W w' l := by
  have h := kCheck_any i hs H
  rw [← may_eq] at h
  exact h

set_option maxRecDepth 100000 in
set_option maxHeartbeats 8000000 in
theorem lawCodeTells_any {W : World} (i : Ins) (hs : i.s.length ≤ maxLen) :
    Calls Try.prog 4 #[.agg i.cs.toArray] W fun e w' => e = .returned (.bool true) ∧ Sat W w' [] := by
  have H0 := (Sat.start W).alloc i.cs.toArray 26
  have cB := fun (w : World) l (h : Sat W w l) => cBytes_any i hs h
  have kB := fun (w : World) l (h : Sat W w l) => kBytes_any i hs h
  have cS := fun (w : World) l (h : Sat W w l) => cSize_any i hs h
  have kS := fun (w : World) l (h : Sat W w l) => kSize_any i hs h
  have cC := fun (w : World) l (h : Sat W w l) => cCheck_out i hs h
  have kC := fun (w : World) l (h : Sat W w l) => kCheck_out i hs h
  obtain ⟨op, ia, ib, ic, im, is⟩ := i
  unfold maxLen at hs
  dsimp only at hs
  generalize outB ⟨op, ia, ib, ic, im, is⟩ = ys at *
  generalize outE ⟨op, ia, ib, ic, im, is⟩ = ec at *
  have CB := Lib.hid cB
  have KB := Lib.hid kB
  have CS := Lib.hid cS
  have KS := Lib.hid kS
  have CC := Lib.hid cC
  have KC := Lib.hid kC
  clear cB kB cS kS cC kC
  show Calls Try.prog 4 #[.agg #[.int .i64 op, .int .i64 ia, .int .i64 ib, .int .i64 ic, .int .i64 im, .string ⟨is.toArray⟩]] W _
  by_cases hbig : 300 < is.length
  · go_enter Try.func4, Try.ntmps4
    go_wp2_with fail
    refine (iawake_any H0).mono ?_
    rintro e w1 ⟨rfl, H1⟩
    go_wp2
    go_ret
    exact ⟨rfl, H1.tail⟩
  · have hb : is.length ≤ 300 := by omega
    clear hbig
    go_enter Try.func4, Try.ntmps4
    go_wp2_with fail
    refine (CB.out _ _ H0).mono ?_
    rintro e w1 ⟨A, c, rfl, H1⟩
    clear H0
    generalize W.heap.size = bx at H1 ⊢
    have a0 : w1.cell? ⟨bx, 0, none⟩ = some (.int .i64 op) := H1.swap.cell 0
    have a1 : w1.cell? ⟨bx, 1, none⟩ = some (.int .i64 ia) := H1.swap.cell 1
    have a2 : w1.cell? ⟨bx, 2, none⟩ = some (.int .i64 ib) := H1.swap.cell 2
    have a3 : w1.cell? ⟨bx, 3, none⟩ = some (.int .i64 ic) := H1.swap.cell 3
    have a4 : w1.cell? ⟨bx, 4, none⟩ = some (.int .i64 im) := H1.swap.cell 4
    have a5 : w1.cell? ⟨bx, 5, none⟩ = some (.string ⟨is.toArray⟩) := H1.swap.cell 5
    go_wp2_with fail
    refine (KB.out _ _ H1).mono ?_
    rintro e w2 ⟨A', c', rfl, H2⟩
    clear H1 a0 a1 a2 a3 a4 a5
    have hA : RdL W (row 5 zB (.slice A' ys.length c') ys.length (ys.map B) :: row 5 zB (.slice A ys.length c) ys.length (ys.map B) :: pt bx (Ins.cs ⟨op, ia, ib, ic, im, is⟩).toArray 26 :: []) A (ys.map B) := RdL.pull 1 RdL.row
    have hsm := fun w (h : Sat W w (row 5 zB (.slice A' ys.length c') ys.length (ys.map B) :: row 5 zB (.slice A ys.length c) ys.length (ys.map B) :: pt bx (Ins.cs ⟨op, ia, ib, ic, im, is⟩).toArray 26 :: [])) => same_any A A' c c' ys ys w (hA w h) h.rd
    rw [show (ys == ys) = true by simp] at hsm
    have SM := Lib.hid hsm
    clear hsm hA
    have b0 : w2.cell? ⟨bx, 0, none⟩ = some (.int .i64 op) := (H2.pull 2).cell 0
    have b1 : w2.cell? ⟨bx, 1, none⟩ = some (.int .i64 ia) := (H2.pull 2).cell 1
    have b2 : w2.cell? ⟨bx, 2, none⟩ = some (.int .i64 ib) := (H2.pull 2).cell 2
    have b3 : w2.cell? ⟨bx, 3, none⟩ = some (.int .i64 ic) := (H2.pull 2).cell 3
    have b4 : w2.cell? ⟨bx, 4, none⟩ = some (.int .i64 im) := (H2.pull 2).cell 4
    have b5 : w2.cell? ⟨bx, 5, none⟩ = some (.string ⟨is.toArray⟩) := (H2.pull 2).cell 5
    go_wp2_with fail
    go_region_held3 (fun w' => w'.cell? ⟨bx, 0, none⟩ = some (.int .i64 op) ∧ w'.cell? ⟨bx, 1, none⟩ = some (.int .i64 ia) ∧ w'.cell? ⟨bx, 2, none⟩ = some (.int .i64 ib) ∧ w'.cell? ⟨bx, 3, none⟩ = some (.int .i64 ic) ∧ w'.cell? ⟨bx, 4, none⟩ = some (.int .i64 im) ∧ w'.cell? ⟨bx, 5, none⟩ = some (.string ⟨is.toArray⟩)) (exact ⟨‹_›, ‹_›, ‹_›, ‹_›, ‹_›, ‹_›⟩) (first
      | (go_at_call 18; refine (SM.out _ H2.drew).mono ?_; rintro e _ ⟨rfl, rfl⟩)
      | (go_at_call 19; refine (CC.out _ _ H2.drew).mono ?_; rintro e w3 ⟨rfl, H3⟩
         have x0 : w3.cell? ⟨bx, 0, none⟩ = some (.int .i64 op) := (H3.pull 2).cell 0
         have x1 : w3.cell? ⟨bx, 1, none⟩ = some (.int .i64 ia) := (H3.pull 2).cell 1
         have x2 : w3.cell? ⟨bx, 2, none⟩ = some (.int .i64 ib) := (H3.pull 2).cell 2
         have x3 : w3.cell? ⟨bx, 3, none⟩ = some (.int .i64 ic) := (H3.pull 2).cell 3
         have x4 : w3.cell? ⟨bx, 4, none⟩ = some (.int .i64 im) := (H3.pull 2).cell 4
         have x5 : w3.cell? ⟨bx, 5, none⟩ = some (.string ⟨is.toArray⟩) := (H3.pull 2).cell 5)
      | (go_at_call 20; refine (KC.out _ _ H3).mono ?_; rintro e w4 ⟨rfl, H4⟩
         have y0 : w4.cell? ⟨bx, 0, none⟩ = some (.int .i64 op) := (H4.pull 2).cell 0
         have y1 : w4.cell? ⟨bx, 1, none⟩ = some (.int .i64 ia) := (H4.pull 2).cell 1
         have y2 : w4.cell? ⟨bx, 2, none⟩ = some (.int .i64 ib) := (H4.pull 2).cell 2
         have y3 : w4.cell? ⟨bx, 3, none⟩ = some (.int .i64 ic) := (H4.pull 2).cell 3
         have y4 : w4.cell? ⟨bx, 4, none⟩ = some (.int .i64 im) := (H4.pull 2).cell 4
         have y5 : w4.cell? ⟨bx, 5, none⟩ = some (.string ⟨is.toArray⟩) := (H4.pull 2).cell 5)
      | (go_at_call 21; refine (CS.out _ _ H4).mono ?_; rintro e w5 ⟨rfl, H5⟩
         have z0 : w5.cell? ⟨bx, 0, none⟩ = some (.int .i64 op) := (H5.pull 2).cell 0
         have z1 : w5.cell? ⟨bx, 1, none⟩ = some (.int .i64 ia) := (H5.pull 2).cell 1
         have z2 : w5.cell? ⟨bx, 2, none⟩ = some (.int .i64 ib) := (H5.pull 2).cell 2
         have z3 : w5.cell? ⟨bx, 3, none⟩ = some (.int .i64 ic) := (H5.pull 2).cell 3
         have z4 : w5.cell? ⟨bx, 4, none⟩ = some (.int .i64 im) := (H5.pull 2).cell 4
         have z5 : w5.cell? ⟨bx, 5, none⟩ = some (.string ⟨is.toArray⟩) := (H5.pull 2).cell 5)
      | (go_at_call 22; refine (KS.out _ _ H5).mono ?_; rintro e w6 ⟨rfl, H6⟩
         have u0 : w6.cell? ⟨bx, 0, none⟩ = some (.int .i64 op) := (H6.pull 2).cell 0
         have u1 : w6.cell? ⟨bx, 1, none⟩ = some (.int .i64 ia) := (H6.pull 2).cell 1
         have u2 : w6.cell? ⟨bx, 2, none⟩ = some (.int .i64 ib) := (H6.pull 2).cell 2
         have u3 : w6.cell? ⟨bx, 3, none⟩ = some (.int .i64 ic) := (H6.pull 2).cell 3
         have u4 : w6.cell? ⟨bx, 4, none⟩ = some (.int .i64 im) := (H6.pull 2).cell 4
         have u5 : w6.cell? ⟨bx, 5, none⟩ = some (.string ⟨is.toArray⟩) := (H6.pull 2).cell 5))
    go_wp2_with fail
    refine (over_any A c ys H6.swap).mono ?_
    rintro e w7 ⟨rfl, zs, H7⟩
    have H8 := H7.tail
    have v0 : w7.cell? ⟨bx, 0, none⟩ = some (.int .i64 op) := H8.swap.cell 0
    have v1 : w7.cell? ⟨bx, 1, none⟩ = some (.int .i64 ia) := H8.swap.cell 1
    have v2 : w7.cell? ⟨bx, 2, none⟩ = some (.int .i64 ib) := H8.swap.cell 2
    have v3 : w7.cell? ⟨bx, 3, none⟩ = some (.int .i64 ic) := H8.swap.cell 3
    have v4 : w7.cell? ⟨bx, 4, none⟩ = some (.int .i64 im) := H8.swap.cell 4
    have v5 : w7.cell? ⟨bx, 5, none⟩ = some (.string ⟨is.toArray⟩) := H8.swap.cell 5
    go_wp2_with fail
    refine (CB.out _ _ H8).mono ?_
    rintro e w8 ⟨A2, c2, rfl, H9⟩
    have hs2 := same_any A2 A' c2 c' ys ys w8 H9.rd H9.swap.rd
    rw [show (ys == ys) = true by simp] at hs2
    have SM2 := Lib.hid hs2
    clear hs2
    go_wp2_with fail
    refine SM2.out.mono ?_
    rintro e _ ⟨rfl, rfl⟩
    go_wp2_with fail
    refine (iawake_any H9.tail.tail.tail).mono ?_
    rintro e w10 ⟨rfl, H10⟩
    go_wp2
    go_ret
    exact ⟨rfl, H10⟩
end Go.Proofs.Ytflcmhmbmippfaa

/- The row of CodeTells: for every input it answers true, and the input reads as it did. -/
namespace Go.Proofs.Ytflcmhmbmippfaa
open Go.ChangeShapes Go.WideShapes Go.ChangeMaps Go.RowKit Go.Rt

theorem codeTells_own : ownKnob Try.prog.godebug = none := by kernel_rfl
theorem codeTells_laid : laidOutB Try.prog = true := by kernel_rfl

set_option maxRecDepth 100000 in
theorem codeTells_lifted (os : Os) (started : os.Started) (H : Type) (enc : TypeId × Value → H) :
    ReturnsInHanded {} Try.checked os 4 .any (Rows.codeTellsSpec.pre6 enc Try.prog Try.f4 Rows.codeTellsRow.domain false) (Rows.codeTellsSpec.post enc Try.prog Try.f4 false true false false) := by
  refine returnsInHanded_of_change (C := Try.checked) codeTells_own started (by kernel_rfl) Try.func4
    (ChangeSpec.witness6 (enc := enc) (C := Try.checked) false ⟨#[], #[.agg #[.int .i64 0, .int .i64 0, .int .i64 0, .int .i64 0, .int .i64 0, .string ⟨#[]⟩]], []⟩ 8 (by kernel_rfl) (by kernel_rfl) (by kernel_rfl) (by kernel_rfl)) ?_
  intro W base args ds gs before hval0 hW _ _
  have hval : ∀ (j : Nat) t v, Try.f4.params[j]? = some t → args[j]? = some v → Value.okWide Try.prog W .any base t v := hval0
  have hW' := hW
  obtain ⟨p, q, hA0, hV, rfl, _, _⟩ := hW
  have hA : DataW.TrodAll enc Try.prog W 0 (fun _ => true) true Try.f4.params.toList args.toList ds p := hA0
  rw [Try.params4] at hA hval
  obtain ⟨rfl, rfl⟩ := trodVars_none hV
  obtain ⟨v0, d0, rfl, rfl, h0⟩ := trodAll_one hA
  obtain ⟨f0, hf0⟩ := h0
  obtain ⟨x0, z0, hv0⟩ := ins_of_trod hf0
  replace hv0 := agg_of_cells hv0 (by simp [Ins.cs])
  rw [hv0] at hW' ⊢
  refine (lawCodeTells_any x0 z0).mono fun e W' ⟨he, hw⟩ => ?_
  subst he
  exact ⟨_, rfl, post_law (tB := 4) hW' rfl rfl (by kernel_rfl) Try.underlying4 codeTells_laid (by rw [Try.params4]; decide +kernel) hw.bel⟩

theorem codeTells_holds : Rows.CodeTellsSaid :=
  OpenClaim.holds_of_wide 4 Try.f4 rfl rfl rfl rfl rfl rfl rfl ⟨rfl, rfl, rfl, rfl, rfl⟩ rfl rfl rfl rfl rfl (by kernel_rfl) Try.func4 (by kernel_rfl)
    (of_decide_eq_true (by kernel_rfl)) (by unfold Func.isWrapper; rw [if_neg (of_decide_eq_false (by kernel_rfl))]; exact ⟨rfl, rfl⟩)
    (fun os started H enc _ => codeTells_lifted os started H enc)
#print axioms codeTells_holds
end Go.Proofs.Ytflcmhmbmippfaa
