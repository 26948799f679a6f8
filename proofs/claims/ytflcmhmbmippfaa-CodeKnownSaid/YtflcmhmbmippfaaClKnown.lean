/- CodeKnown answers true. -/
import Derived.Test.YtflcmhmbmippfaaCdI
namespace Go.Proofs.Ytflcmhmbmippfaa
open Go.RowKit Go.Rt

set_option maxRecDepth 100000 in
set_option maxHeartbeats 8000000 in
theorem iknown_any {W w : World} {l : List SL} (H : Sat W w l) :
    Calls Try.prog 5 #[] w fun e w' => e = .returned (.bool true) ∧ Sat W w' l := by
  have hee : insEq ⟨2, 1, 2, 0, 0, []⟩ ⟨2, 1, 2, 0, 0, []⟩ = true := by decide
  have H1 : Sat W (w.alloc (.cells (([9, 2, 1, 2] : List UInt8).map B).toArray 5)) (pt w.heap.size (([9, 2, 1, 2] : List UInt8).map B).toArray 5 :: l) := H.alloc _ _
  have hc := cRead_any (some ⟨w.heap.size, 0, none⟩) 4 [9, 2, 1, 2] ⟨by decide, by simp, by decide⟩ RdL.pt (by decide) 1 H1
  rw [show insAt [9, 2, 1, 2] 1 = (⟨2, 1, 2, 0, 0, []⟩, 4, 0, 0) by kernel_rfl] at hc
  have HC := Lib.hid hc
  clear hc
  go_enter Try.func5, Try.ntmps5
  go_wp2_with fail
  refine HC.out.mono ?_
  rintro e w1 hp
  obtain ⟨rfl, H2⟩ : e = .returned (.tuple #[.agg #[.int .i64 2, .int .i64 1, .int .i64 2, .int .i64 0, .int .i64 0, .string ⟨#[]⟩], .int .i64 4, .agg #[.int .i64 0, .int .i64 0]]) ∧ Sat W w1 _ := hp
  clear HC H1
  have H4 : Sat W (((w1.alloc (.cells #[.int .i64 2, .int .i64 1, .int .i64 2, .int .i64 0, .int .i64 0, .string ⟨#[]⟩] 26)).alloc (.cells #[.int .i64 0, .int .i64 0] 29)).alloc (.cells (([6, 0, 1, 2, 16] : List UInt8).map B).toArray 5))
      (pt (w1.heap.size + 2) (([6, 0, 1, 2, 16] : List UInt8).map B).toArray 5 :: pt (w1.heap.size + 1) #[.int .i64 0, .int .i64 0] 29 :: pt w1.heap.size #[.int .i64 2, .int .i64 1, .int .i64 2, .int .i64 0, .int .i64 0, .string ⟨#[]⟩] 26 :: l) := by
    have h := ((H2.tail.alloc #[.int .i64 2, .int .i64 1, .int .i64 2, .int .i64 0, .int .i64 0, .string ⟨#[]⟩] 26).alloc #[.int .i64 0, .int .i64 0] 29).alloc (([6, 0, 1, 2, 16] : List UInt8).map B).toArray 5
    simp only [World.size_alloc] at h
    exact h
  go_wp2_with fail
  refine (iis_true ⟨6, 0, 1, 2, 16, []⟩ (by decide) (some ⟨w1.heap.size + 2, 0, none⟩) 5 [6, 0, 1, 2, 16] (by decide) RdL.pt H4).mono ?_
  rintro e w2 ⟨rfl, H5⟩
  clear H2 H4
  generalize w1.heap.size + 1 = q3 at H5 ⊢
  generalize w1.heap.size = q1 at H5 ⊢
  have H6 : Sat W (w2.alloc (.cells (([13, 60] : List UInt8).map B).toArray 5)) _ := H5.tail.alloc _ _
  go_wp2_with fail
  refine (iis_true ⟨13, 0, 0, 0, 60, []⟩ (by decide) (some ⟨w2.heap.size, 0, none⟩) 2 [13, 60] (by decide) RdL.pt H6).mono ?_
  rintro e w3 ⟨rfl, H7⟩
  replace H7 := H7.tail
  clear H5 H6
  have m0 : w3.cell? ⟨q1, 0, none⟩ = some (.int .i64 2) := H7.swap.cell 0
  have m1 : w3.cell? ⟨q1, 1, none⟩ = some (.int .i64 1) := H7.swap.cell 1
  have m2 : w3.cell? ⟨q1, 2, none⟩ = some (.int .i64 2) := H7.swap.cell 2
  have m3 : w3.cell? ⟨q1, 3, none⟩ = some (.int .i64 0) := H7.swap.cell 3
  have m4 : w3.cell? ⟨q1, 4, none⟩ = some (.int .i64 0) := H7.swap.cell 4
  have m5 : w3.cell? ⟨q1, 5, none⟩ = some (.string ⟨#[]⟩) := H7.swap.cell 5
  have n0 : w3.cell? ⟨q3, 0, none⟩ = some (.int .i64 0) := H7.cell 0
  go_wp2_with (first | (refine wpList_eqi (by rfl) (.tmp 21) (.tmp 22) 26 false rfl ⟨2, 1, 2, 0, 0, []⟩ ⟨2, 1, 2, 0, 0, []⟩ rfl rfl ?_; rw [hee]))
  refine (cCheck_any ⟨1, 8, 0, 0, 0, []⟩ (by decide) H7.tail.tail).mono ?_
  rintro e w4 ⟨rfl, H8⟩
  rw [if_neg (show ¬ mayB ⟨1, 8, 0, 0, 0, []⟩ = true by decide)]
  go_wp2_with fail
  refine (cCheck_any ⟨6, 0, 0, 0, 17, []⟩ (by decide) H8).mono ?_
  rintro e w5 ⟨rfl, H9⟩
  rw [if_neg (show ¬ mayB ⟨6, 0, 0, 0, 17, []⟩ = true by decide)]
  go_wp2_with fail
  refine (cCheck_any ⟨0, 0, 0, 0, 0, []⟩ (by decide) H9).mono ?_
  rintro e w6 ⟨rfl, H10⟩
  rw [if_neg (show ¬ mayB ⟨0, 0, 0, 0, 0, []⟩ = true by decide)]
  go_wp2_with fail
  refine (cSize_fine ⟨2, 1, 2, 0, 0, []⟩ (by decide) H10).mono ?_
  rintro e w7 ⟨rfl, H11⟩
  rw [show (insBytes ⟨2, 1, 2, 0, 0, []⟩).length = 3 by decide]
  clear H7 H8 H9 H10 m0 m1 m2 m3 m4 m5 n0
  go_wp2_with fail
  refine (iawake_any H11).mono ?_
  rintro e w8 ⟨rfl, H12⟩
  have H13 : Sat W (w8.alloc (.cells (([16] : List UInt8).map B).toArray 5)) _ := H12.alloc _ _
  go_wp2_with fail
  refine (ifails_true (some ⟨w8.heap.size, 0, none⟩) 1 [16] ⟨by decide, by simp, by decide⟩ RdL.pt (by decide) 0 5 0 (by kernel_rfl) H13).mono ?_
  rintro e w9 ⟨rfl, H14⟩
  have H15 : Sat W (w9.alloc (.cells (([2, 1] : List UInt8).map B).toArray 5)) _ := H14.tail.alloc _ _
  clear H11 H12 H13
  go_wp2_with fail
  refine (ifails_true (some ⟨w9.heap.size, 0, none⟩) 2 [2, 1] ⟨by decide, by simp, by decide⟩ RdL.pt (by decide) 0 4 2 (by kernel_rfl) H15).mono ?_
  rintro e w10 ⟨rfl, H16⟩
  have H17 : Sat W (w10.alloc (.cells (([15] : List UInt8).map B).toArray 5)) _ := H16.tail.alloc _ _
  clear H14 H15
  go_wp2_with fail
  refine (ifails_true (some ⟨w10.heap.size, 0, none⟩) 1 [15] ⟨by decide, by simp, by decide⟩ RdL.pt (by decide) 2 5 0 (by kernel_rfl) H17).mono ?_
  rintro e w11 ⟨rfl, H18⟩
  go_wp2
  go_ret
  exact ⟨rfl, H18.tail⟩
end Go.Proofs.Ytflcmhmbmippfaa
