/- CodeReads answers true. -/
import Derived.Test.YtflcmhmbmippfaaCdI
namespace Go.Proofs.Ytflcmhmbmippfaa
open Go.RowKit Go.Rt

theorem insEq_self (i : Ins) : insEq i i = true := (insEq_iff i i).2 rfl

set_option maxRecDepth 100000 in
set_option maxHeartbeats 8000000 in
theorem lawCodeReads_any {W : World} (A0 : Option Addr) (c0 : Nat) (bs : List UInt8) (hA : Bsl A0 bs.length c0) (at_ : Int) (hr0 : Rd W A0 (bs.map B)) :
    Calls Try.prog 3 #[.slice A0 bs.length c0, .int .i64 at_] W fun e w' => e = .returned (.bool true) ∧ Sat W w' [] := by
  by_cases hbig : 300 < bs.length
  · go_enter Try.func3, Try.ntmps3
    go_wp2_with fail
    refine (iawake_any (Sat.start W)).mono ?_
    rintro e w1 ⟨rfl, H1⟩
    go_wp2
    go_ret
    exact ⟨rfl, H1⟩
  · have hb : bs.length ≤ 300 := by omega
    clear hbig
    have HAA := Lib.hid hA
    clear hA
    have hlent := lent_any A0 c0 bs (RdL.old hr0) (by omega) (Sat.start W)
    have HL := Lib.hid hlent
    clear hlent
    obtain ⟨T, HT⟩ : ∃ T, Hid (insAt bs at_ = T) := ⟨_, rfl⟩
    obtain ⟨⟨op, ia, ib, ic, im, is⟩, m, fe, fa⟩ := T
    have hee := insEq_self ⟨op, ia, ib, ic, im, is⟩
    go_enter Try.func3, Try.ntmps3
    go_wp2_with fail
    refine HL.out.mono ?_
    rintro e w1 ⟨g, rfl, H1⟩
    clear HL
    have hlen : (lent bs).length = bs.length + 3 := by simp [lent]
    have htk : (lent bs).take bs.length = bs := by simp [lent]
    have HLT := Lib.hid htk
    clear htk
    have hrl : RdL W [row 5 zB (.slice (some ⟨g, 0, none⟩) (bs.length + 3) (bs.length + 3)) (bs.length + 3) ((lent bs).map B)] (some ⟨g, 0, none⟩) (bs.map B) := fun w' h => by
      have h1 := h.rd.take bs.length
      rw [← List.map_take, HLT.out] at h1
      exact h1
    have hc := cRead_any (some ⟨g, 0, none⟩) (bs.length + 3) bs ⟨by omega, by simp, by unfold maxLen; omega⟩ hrl (by omega) at_ H1
    rw [HT.out] at hc
    have HC := Lib.hid hc
    clear hc hlen hrl HLT
    go_wp2_with fail
    refine HC.out.mono ?_
    rintro e w2 hp
    obtain ⟨rfl, H2⟩ : e = .returned (.tuple #[.agg #[.int .i64 op, .int .i64 ia, .int .i64 ib, .int .i64 ic, .int .i64 im, .string ⟨is.toArray⟩], .int .i64 m, .agg #[.int .i64 fe, .int .i64 fa]]) ∧ Sat W w2 [row 5 zB (.slice (some ⟨g, 0, none⟩) (bs.length + 3) (bs.length + 3)) (bs.length + 3) ((lent bs).map B)] := hp
    clear HC H1
    have H3 : Sat W ((w2.alloc (.cells #[.int .i64 op, .int .i64 ia, .int .i64 ib, .int .i64 ic, .int .i64 im, .string ⟨is.toArray⟩] 26)).alloc (.cells #[.int .i64 fe, .int .i64 fa] 29)) [pt (w2.heap.size + 1) #[.int .i64 fe, .int .i64 fa] 29, pt w2.heap.size #[.int .i64 op, .int .i64 ia, .int .i64 ib, .int .i64 ic, .int .i64 im, .string ⟨is.toArray⟩] 26, row 5 zB (.slice (some ⟨g, 0, none⟩) (bs.length + 3) (bs.length + 3)) (bs.length + 3) ((lent bs).map B)] := by
      have h := (H2.alloc #[.int .i64 op, .int .i64 ia, .int .i64 ib, .int .i64 ic, .int .i64 im, .string ⟨is.toArray⟩] 26).alloc #[.int .i64 fe, .int .i64 fa] 29
      simp only [World.size_alloc] at h
      exact h
    have hk := kRead_any A0 c0 bs HAA.out (RdL.old hr0) (by omega) at_ H3
    rw [HT.out] at hk
    have HK := Lib.hid hk
    clear hk HT
    go_wp2_with fail
    refine HK.out.mono ?_
    rintro e w3 hp
    obtain ⟨rfl, H4⟩ : e = .returned (.tuple #[.agg #[.int .i64 op, .int .i64 ia, .int .i64 ib, .int .i64 ic, .int .i64 im, .string ⟨is.toArray⟩], .int .i64 m, .agg #[.int .i64 fe, .int .i64 fa]]) ∧ Sat W w3 _ := hp
    clear HK H2 H3
    generalize w2.heap.size + 1 = q8 at H4 ⊢
    generalize w2.heap.size = q6 at H4 ⊢
    have m0 : w3.cell? ⟨q6, 0, none⟩ = some (.int .i64 op) := H4.swap.cell 0
    have m1 : w3.cell? ⟨q6, 1, none⟩ = some (.int .i64 ia) := H4.swap.cell 1
    have m2 : w3.cell? ⟨q6, 2, none⟩ = some (.int .i64 ib) := H4.swap.cell 2
    have m3 : w3.cell? ⟨q6, 3, none⟩ = some (.int .i64 ic) := H4.swap.cell 3
    have m4 : w3.cell? ⟨q6, 4, none⟩ = some (.int .i64 im) := H4.swap.cell 4
    have m5 : w3.cell? ⟨q6, 5, none⟩ = some (.string ⟨is.toArray⟩) := H4.swap.cell 5
    have n0 : w3.cell? ⟨q8, 0, none⟩ = some (.int .i64 fe) := H4.cell 0
    have n1 : w3.cell? ⟨q8, 1, none⟩ = some (.int .i64 fa) := H4.cell 1
    have hl8 := H4.lt
    have hl6 := H4.swap.lt
    have H5 := (H4.alloc #[.int .i64 op, .int .i64 ia, .int .i64 ib, .int .i64 ic, .int .i64 im, .string ⟨is.toArray⟩] 26).alloc #[.int .i64 fe, .int .i64 fa] 29
    have hkp := kept_any (some ⟨g, 0, none⟩) A0 c0 (lent bs) bs (RdL.pull 4 RdL.row) (RdL.old hr0) (by simp [lent]; try omega) (by simp [lent]; try omega) H5
    rw [show (lent bs == lent bs) = true by simp, show (lent bs).length = bs.length + 3 by simp [lent]] at hkp
    have HKP := Lib.hid hkp
    clear hkp
    go_wp2_with (first | (refine wpList_eqi (by rfl) (.tmp 32) (.tmp 33) 26 false rfl ⟨op, ia, ib, ic, im, is⟩ ⟨op, ia, ib, ic, im, is⟩ rfl rfl ?_; rw [hee]))
    refine HKP.out.mono ?_
    rintro e w4 ⟨rfl, H6⟩
    go_wp2_with fail
    refine (iawake_any H6.tail.tail.tail.tail.tail).mono ?_
    rintro e w5 ⟨rfl, H7⟩
    go_wp2
    go_ret
    exact ⟨rfl, H7⟩
end Go.Proofs.Ytflcmhmbmippfaa
