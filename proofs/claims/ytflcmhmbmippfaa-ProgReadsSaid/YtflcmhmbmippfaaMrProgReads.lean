/- MrProgReads, in one text: ClPReads, WrProgReads. -/
import Derived.Test.YtflcmhmbmippfaaMkE
import Derived.Test.YtflcmhmbmippfaaRows
import Derived.Test.YtflcmhmbmippfaaMkC
import Derived.Test.YtflcmhmbmippfaaMkB
/- ProgReads answers true. -/
namespace Go.Proofs.Ytflcmhmbmippfaa
open Go.RowKit Go.Rt

theorem sameP_self (l : List Ins) : sameP l l = true := (sameP_iff l l).2 rfl
theorem readP_len (bs : List UInt8) : (readP bs).1.length ≤ 60 := by
  unfold readP
  split
  · exact (by decide : (0:Nat) ≤ 60)
  · split
    · exact (by decide : (0:Nat) ≤ 60)
    · unfold endP
      split
      · exact (by decide : (0:Nat) ≤ 60)
      · split
        · exact (by decide : (0:Nat) ≤ 60)
        · split
          · exact (by decide : (0:Nat) ≤ 60)
          · rename_i h _ _ _
            have h1 := (accP_len (by simpa using h)).1
            have h2 := cnt60 bs
            dsimp only
            omega

set_option maxRecDepth 100000 in
set_option maxHeartbeats 8000000 in
theorem lawProgReads_any {W : World} (A0 : Option Addr) (c0 : Nat) (bs : List UInt8) (hA : Bsl A0 bs.length c0) (hr0 : Rd W A0 (bs.map B)) :
    Calls Try.prog 8 #[.slice A0 bs.length c0] W fun e w' => e = .returned (.bool true) ∧ Sat W w' [] := by
  by_cases hbig : 600 < bs.length
  · go_enter Try.func8, Try.ntmps8
    go_wp2_with fail
    refine (pawake_any (Sat.start W)).mono ?_
    rintro e w1 ⟨rfl, H1⟩
    go_wp2
    go_ret
    exact ⟨rfl, H1⟩
  · have hb : bs.length ≤ 600 := by omega
    clear hbig
    have HAA := Lib.hid hA
    clear hA
    have hlent := lent_any A0 c0 bs (RdL.old hr0) (by omega) (Sat.start W)
    have HL := Lib.hid hlent
    clear hlent
    have hn := readP_len bs
    obtain ⟨T, HT⟩ : ∃ T, Hid (readP bs = T) := ⟨_, rfl⟩
    rw [HT.out] at hn
    obtain ⟨out, fe, fa⟩ := T
    dsimp only at hn
    have hss := sameP_self out
    have hol : out.length ≤ maxLen := by unfold maxLen; omega
    go_enter Try.func8, Try.ntmps8
    go_wp2_with fail
    refine HL.out.mono ?_
    rintro e w1 ⟨g, rfl, H1⟩
    clear HL
    have hlen : (lent bs).length = bs.length + 3 := by simp [lent]
    have htk : (lent bs).take bs.length = bs := by simp [lent]
    have HLT := Lib.hid htk
    clear htk
    have hrl : RdL W [row 5 zB (.slice (some ⟨g, 0, none⟩) (bs.length + 3) (bs.length + 3)) (bs.length + 3) ((lent bs).map B)] (some ⟨g, 0, none⟩) (bs.map B) := fun w' h => by
      have h1 := h.rd.take bs.length
      rw [← List.map_take, HLT.out] at h1
      exact h1
    have hc := pRead_any (some ⟨g, 0, none⟩) (bs.length + 3) bs ⟨by omega, by simp, by unfold maxLen; omega⟩ hrl (by omega) H1
    rw [HT.out] at hc
    have HC := Lib.hid hc
    clear hc hlen hrl HLT
    go_wp2_with fail
    refine HC.out.mono ?_
    rintro e w2 ⟨A2, c2, hp, H2⟩
    obtain rfl : e = .returned (.tuple #[.slice A2 out.length c2, .agg #[.int .i64 fe, .int .i64 fa]]) := hp
    clear HC H1
    have H3 : Sat W (w2.alloc (.cells #[.int .i64 fe, .int .i64 fa] 29)) [pt w2.heap.size #[.int .i64 fe, .int .i64 fa] 29, row 26 zI (.slice A2 out.length c2) out.length (insC out), row 5 zB (.slice (some ⟨g, 0, none⟩) (bs.length + 3) (bs.length + 3)) (bs.length + 3) ((lent bs).map B)] := H2.alloc _ _
    have hk := qRead_any A0 c0 bs HAA.out (RdL.old hr0) (by omega) H3
    rw [HT.out] at hk
    have HK := Lib.hid hk
    clear hk
    go_wp2_with fail
    refine HK.out.mono ?_
    rintro e w3 ⟨A3, c3, hp, H4⟩
    obtain rfl : e = .returned (.tuple #[.slice A3 out.length c3, .agg #[.int .i64 fe, .int .i64 fa]]) := hp
    clear HK H2 H3
    have H5 := H4.alloc #[.int .i64 fe, .int .i64 fa] 29
    have hsp := SameProg_any A2 A3 c2 c3 out out hol (H5.pull 3).rd H5.swap.rd
    rw [hss] at hsp
    have HSP := Lib.hid hsp
    clear hsp
    go_wp2_with fail
    refine HSP.out.mono ?_
    rintro e w4 ⟨rfl, hB⟩
    have H6 := H5.below hB
    clear HSP H5 H4
    generalize w2.heap.size = q5 at H6 ⊢
    generalize w3.heap.size = q7 at H6 ⊢
    have n0 : w4.cell? ⟨q5, 0, none⟩ = some (.int .i64 fe) := (H6.pull 2).cell 0
    have n1 : w4.cell? ⟨q5, 1, none⟩ = some (.int .i64 fa) := (H6.pull 2).cell 1
    have m0 : w4.cell? ⟨q7, 0, none⟩ = some (.int .i64 fe) := H6.cell 0
    have m1 : w4.cell? ⟨q7, 1, none⟩ = some (.int .i64 fa) := H6.cell 1
    have hkp := kept_any (some ⟨g, 0, none⟩) A0 c0 (lent bs) bs (RdL.pull 4 RdL.row) (RdL.old hr0) (by simp [lent]; try omega) (by simp [lent]; try omega) H6
    rw [show (lent bs == lent bs) = true by simp, show (lent bs).length = bs.length + 3 by simp [lent]] at hkp
    have HKP := Lib.hid hkp
    clear hkp
    go_wp2_with fail
    refine HKP.out.mono ?_
    rintro e w5 ⟨rfl, H7⟩
    clear HKP H6 n0 n1 m0 m1
    go_wp2_with fail
    refine (OverProg_any A2 out.length c2 (insC out) (H7.pull 3)).mono ?_
    rintro e w6 ⟨rfl, H8⟩
    have hc := pRead_any A0 c0 bs HAA.out (RdL.old hr0) (by omega) H8
    rw [HT.out] at hc
    have HC := Lib.hid hc
    clear hc HT
    go_wp2_with fail
    refine HC.out.mono ?_
    rintro e w7 ⟨A7, c7, hp, H9⟩
    obtain rfl : e = .returned (.tuple #[.slice A7 out.length c7, .agg #[.int .i64 fe, .int .i64 fa]]) := hp
    clear HC
    have H10 := H9.alloc #[.int .i64 fe, .int .i64 fa] 29
    have hsp := SameProg_any A7 A3 c7 c3 out out hol H10.swap.rd (H10.pull 3).rd
    rw [hss] at hsp
    have HSP := Lib.hid hsp
    clear hsp H7 H8 H9
    go_wp2_with fail
    refine HSP.out.mono ?_
    rintro e w8 ⟨rfl, hB⟩
    have H11 := (H10.below hB).drops [_, _, _, _, _]
    clear HSP H10
    go_wp2_with fail
    refine (pawake_any H11.tail).mono ?_
    rintro e w9 ⟨rfl, H12⟩
    go_wp2
    go_ret
    exact ⟨rfl, H12⟩
end Go.Proofs.Ytflcmhmbmippfaa

/- The row of ProgReads: for every input it answers true, and the input reads as it did. -/
namespace Go.Proofs.Ytflcmhmbmippfaa
open Go.ChangeShapes Go.WideShapes Go.ChangeMaps Go.RowKit Go.Rt

theorem progReads_own : ownKnob Try.prog.godebug = none := by kernel_rfl
theorem progReads_laid : laidOutB Try.prog = true := by kernel_rfl

set_option maxRecDepth 100000 in
theorem progReads_lifted (os : Os) (started : os.Started) (H : Type) (enc : TypeId × Value → H) :
    ReturnsInHanded {} Try.checked os 8 .any (Rows.progReadsSpec.pre6 enc Try.prog Try.f8 Rows.progReadsRow.domain false) (Rows.progReadsSpec.post enc Try.prog Try.f8 false true false false) := by
  refine returnsInHanded_of_change (C := Try.checked) progReads_own started (by kernel_rfl) Try.func8
    (ChangeSpec.witness6 (enc := enc) (C := Try.checked) false ⟨#[], #[.slice none 0 0], []⟩ 8 (by kernel_rfl) (by kernel_rfl) (by kernel_rfl) (by kernel_rfl)) ?_
  intro W base args ds gs before hval0 hW _ _
  have hval : ∀ (j : Nat) t v, Try.f8.params[j]? = some t → args[j]? = some v → Value.okWide Try.prog W .any base t v := hval0
  have hW' := hW
  obtain ⟨p, q, hA0, hV, rfl, _, _⟩ := hW
  have hA : DataW.TrodAll enc Try.prog W 0 (fun _ => true) true Try.f8.params.toList args.toList ds p := hA0
  rw [Try.params8] at hA hval
  obtain ⟨rfl, rfl⟩ := trodVars_none hV
  obtain ⟨v0, d0, rfl, rfl, h0⟩ := trodAll_one hA
  obtain ⟨a0, l0, c0, rfl⟩ := okWide_slice Try.underlying22 (hval 0 22 v0 rfl rfl)
  obtain ⟨f0, hf0⟩ := h0
  obtain ⟨A0, k0, x0, hv0, hc0, hr0⟩ := open_bsl hf0
  rw [hv0] at hW' ⊢
  refine (lawProgReads_any A0 k0 x0 hc0 hr0).mono fun e W' ⟨he, hw⟩ => ?_
  subst he
  exact ⟨_, rfl, post_law (tB := 4) hW' rfl rfl (by kernel_rfl) Try.underlying4 progReads_laid (by rw [Try.params8]; decide +kernel) hw.bel⟩

theorem progReads_holds : Rows.ProgReadsSaid :=
  OpenClaim.holds_of_wide 8 Try.f8 rfl rfl rfl rfl rfl rfl rfl ⟨rfl, rfl, rfl, rfl, rfl⟩ rfl rfl rfl rfl rfl (by kernel_rfl) Try.func8 (by kernel_rfl)
    (of_decide_eq_true (by kernel_rfl)) (by unfold Func.isWrapper; rw [if_neg (of_decide_eq_false (by kernel_rfl))]; exact ⟨rfl, rfl⟩)
    (fun os started H enc _ => progReads_lifted os started H enc)
#print axioms progReads_holds
end Go.Proofs.Ytflcmhmbmippfaa
