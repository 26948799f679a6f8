/- MrProgKnown, in one text: ClPKnown, WrProgKnown. -/
import Derived.Test.YtflcmhmbmippfaaMkE
import Derived.Test.YtflcmhmbmippfaaShR
import Derived.Test.YtflcmhmbmippfaaRows
import Derived.Test.YtflcmhmbmippfaaMkB
/- ProgKnown answers true. -/
namespace Go.Proofs.Ytflcmhmbmippfaa
open Go.RowKit Go.Rt

set_option maxRecDepth 100000 in
set_option maxHeartbeats 8000000 in
theorem pknown_any {W w : World} {l : List SL} (H : Sat W w l) :
    Calls Try.prog 10 #[] w fun e w' => e = .returned (.bool true) ∧ Sat W w' l := by
  have hrep := fun w0 => Try.strings_Repeat ⟨#[120]⟩ 64 w0 (by decide) (by decide)
  obtain ⟨xs, hxs⟩ : ∃ xs, Lib.repeatL (⟨#[120]⟩ : ByteArray).data.toList 64 = xs := ⟨_, rfl⟩
  have hlen : xs.length = 64 := by rw [← hxs]; kernel_rfl
  have hc9 : checkP [⟨1, 0, 0, 0, 0, xs⟩, ⟨1, 0, 0, 0, 0, xs⟩, ⟨1, 0, 0, 0, 0, xs⟩, ⟨1, 0, 0, 0, 0, xs⟩, ⟨1, 0, 0, 0, 0, xs⟩, ⟨1, 0, 0, 0, 0, xs⟩, ⟨1, 0, 0, 0, 0, xs⟩, ⟨1, 0, 0, 0, 0, xs⟩, ⟨1, 0, 0, 0, 0, xs⟩] = (3, 7) := by rw [← hxs]; kernel_rfl
  rw [hxs] at hrep
  have HREP := Lib.hid hrep
  have HC9 := Lib.hid hc9
  clear hrep hxs hc9
  go_enter Try.func10, Try.ntmps10
  go_wp2_with fail
  refine (pBytes_any none 0 [] (by simp) (by simp [maxLen]) (fun _ _ => Rd.nil _ _) H).mono ?_
  rintro e w1 ⟨A1, c1, rfl, H1⟩
  rw [show outP [] = [0] from by kernel_rfl] at H1 ⊢
  rw [show (checkP []).1 = 0 from by kernel_rfl]
  clear H
  have H2 : Sat W (w1.alloc (.cells (([2, 13, 1, 15] : List UInt8).map B).toArray 5)) _ := H1.alloc _ _
  go_wp2_with fail
  refine (pRead_any (some ⟨w1.heap.size, 0, none⟩) 4 [2, 13, 1, 15] ⟨by decide, by simp, by decide⟩ RdL.pt (by decide) H2).mono ?_
  rintro e w2 ⟨A2, c2, hp, H3⟩
  rw [show readP [2, 13, 1, 15] = ([⟨13, 0, 0, 0, 1, []⟩, ⟨15, 0, 0, 0, 0, []⟩], 0, 0) from by kernel_rfl] at hp H3
  obtain rfl : e = .returned (.tuple #[.slice A2 2 c2, .agg #[.int .i64 0, .int .i64 0]]) := hp
  clear H1 H2
  have H4 := H3.alloc #[.int .i64 0, .int .i64 0] 29
  go_wp2_with fail
  refine (phalt_any H4).mono ?_
  rintro e w3 ⟨rfl, H5⟩
  clear H3 H4
  generalize w2.heap.size = q4 at H5 ⊢
  have H6 : Sat W (w3.alloc (.cells #[.int .i64 15, .int .i64 0, .int .i64 0, .int .i64 0, .int .i64 0, .string ⟨#[]⟩, .int .i64 0, .int .i64 0, .int .i64 0, .int .i64 0, .int .i64 0, .string ⟨#[]⟩] 26)) (pt w3.heap.size (insC [⟨15, 0, 0, 0, 0, []⟩, ⟨0, 0, 0, 0, 0, []⟩]).toArray 26 :: _) := H5.alloc _ _
  go_wp2_with fail
  refine (pCheck_any (some ⟨w3.heap.size, 0, none⟩) 2 [⟨15, 0, 0, 0, 0, []⟩, ⟨0, 0, 0, 0, 0, []⟩] (by intro x hx; simp at hx; rcases hx with rfl | rfl <;> simp [maxLen]) (by simp [maxLen]) RdL.pt H6).mono ?_
  rintro e w4 ⟨rfl, H7⟩
  rw [show checkP [⟨15, 0, 0, 0, 0, []⟩, ⟨0, 0, 0, 0, 0, []⟩] = (2, 1) from by kernel_rfl]
  clear H5 H6
  go_wp2_with fail
  refine (HREP.out _).mono ?_
  rintro e w5 ⟨rfl, hB⟩
  have H8 := H7.below hB
  clear HREP H7
  have H9 := (H8.alloc #[.int .i64 1, .int .i64 0, .int .i64 0, .int .i64 0, .int .i64 0, .string ⟨xs.toArray⟩] 26)
  have h10 := H9.alloc #[.int .i64 1, .int .i64 0, .int .i64 0, .int .i64 0, .int .i64 0, .string ⟨xs.toArray⟩, .int .i64 1, .int .i64 0, .int .i64 0, .int .i64 0, .int .i64 0, .string ⟨xs.toArray⟩, .int .i64 1, .int .i64 0, .int .i64 0, .int .i64 0, .int .i64 0, .string ⟨xs.toArray⟩, .int .i64 1, .int .i64 0, .int .i64 0, .int .i64 0, .int .i64 0, .string ⟨xs.toArray⟩, .int .i64 1, .int .i64 0, .int .i64 0, .int .i64 0, .int .i64 0, .string ⟨xs.toArray⟩, .int .i64 1, .int .i64 0, .int .i64 0, .int .i64 0, .int .i64 0, .string ⟨xs.toArray⟩, .int .i64 1, .int .i64 0, .int .i64 0, .int .i64 0, .int .i64 0, .string ⟨xs.toArray⟩, .int .i64 1, .int .i64 0, .int .i64 0, .int .i64 0, .int .i64 0, .string ⟨xs.toArray⟩, .int .i64 1, .int .i64 0, .int .i64 0, .int .i64 0, .int .i64 0, .string ⟨xs.toArray⟩] 26
  simp only [World.size_alloc] at h10
  have H10 : Sat W ((w5.alloc (.cells #[.int .i64 1, .int .i64 0, .int .i64 0, .int .i64 0, .int .i64 0, .string ⟨xs.toArray⟩] 26)).alloc (.cells #[.int .i64 1, .int .i64 0, .int .i64 0, .int .i64 0, .int .i64 0, .string ⟨xs.toArray⟩, .int .i64 1, .int .i64 0, .int .i64 0, .int .i64 0, .int .i64 0, .string ⟨xs.toArray⟩, .int .i64 1, .int .i64 0, .int .i64 0, .int .i64 0, .int .i64 0, .string ⟨xs.toArray⟩, .int .i64 1, .int .i64 0, .int .i64 0, .int .i64 0, .int .i64 0, .string ⟨xs.toArray⟩, .int .i64 1, .int .i64 0, .int .i64 0, .int .i64 0, .int .i64 0, .string ⟨xs.toArray⟩, .int .i64 1, .int .i64 0, .int .i64 0, .int .i64 0, .int .i64 0, .string ⟨xs.toArray⟩, .int .i64 1, .int .i64 0, .int .i64 0, .int .i64 0, .int .i64 0, .string ⟨xs.toArray⟩, .int .i64 1, .int .i64 0, .int .i64 0, .int .i64 0, .int .i64 0, .string ⟨xs.toArray⟩, .int .i64 1, .int .i64 0, .int .i64 0, .int .i64 0, .int .i64 0, .string ⟨xs.toArray⟩] 26)) (pt (w5.heap.size + 1) (insC [⟨1, 0, 0, 0, 0, xs⟩, ⟨1, 0, 0, 0, 0, xs⟩, ⟨1, 0, 0, 0, 0, xs⟩, ⟨1, 0, 0, 0, 0, xs⟩, ⟨1, 0, 0, 0, 0, xs⟩, ⟨1, 0, 0, 0, 0, xs⟩, ⟨1, 0, 0, 0, 0, xs⟩, ⟨1, 0, 0, 0, 0, xs⟩, ⟨1, 0, 0, 0, 0, xs⟩]).toArray 26 :: _) := h10
  have hck := pCheck_any (some ⟨w5.heap.size + 1, 0, none⟩) 9 [⟨1, 0, 0, 0, 0, xs⟩, ⟨1, 0, 0, 0, 0, xs⟩, ⟨1, 0, 0, 0, 0, xs⟩, ⟨1, 0, 0, 0, 0, xs⟩, ⟨1, 0, 0, 0, 0, xs⟩, ⟨1, 0, 0, 0, 0, xs⟩, ⟨1, 0, 0, 0, 0, xs⟩, ⟨1, 0, 0, 0, 0, xs⟩, ⟨1, 0, 0, 0, 0, xs⟩] (by intro x hx; simp at hx; subst hx; unfold maxLen; simp [hlen]) (by simp [maxLen]) RdL.pt H10
  rw [HC9.out] at hck
  have HCK := Lib.hid hck
  clear hck HC9 H8 H9 hlen
  go_wp2_with fail
  refine HCK.out.mono ?_
  rintro e w6 ⟨rfl, H11⟩
  clear HCK H10
  have H12 : Sat W (w6.alloc (.cells (([0] : List UInt8).map B).toArray 5)) _ := H11.alloc _ _
  go_wp2_with fail
  refine (same_any A1 (some ⟨w6.heap.size, 0, none⟩) c1 1 [0] [0] _ (H12.pull 7).rd (RdL.pt _ H12)).mono ?_
  rintro e _ ⟨rfl, rfl⟩
  clear H11
  go_wp2_with fail
  refine (pjump_any 1 H12).mono ?_
  rintro e w7 ⟨rfl, H13⟩
  clear H12
  go_wp2_with fail
  refine (phalt_any H13).mono ?_
  rintro e w8 ⟨rfl, H14⟩
  clear H13
  have H15 : Sat W (w8.alloc (.cells #[.int .i64 13, .int .i64 0, .int .i64 0, .int .i64 0, .int .i64 1, .string ⟨#[]⟩, .int .i64 15, .int .i64 0, .int .i64 0, .int .i64 0, .int .i64 0, .string ⟨#[]⟩] 26)) (pt w8.heap.size (insC [⟨13, 0, 0, 0, 1, []⟩, ⟨15, 0, 0, 0, 0, []⟩]).toArray 26 :: _) := H14.alloc _ _
  go_wp2_with fail
  refine (SameProg_any A2 (some ⟨w8.heap.size, 0, none⟩) c2 2 [⟨13, 0, 0, 0, 1, []⟩, ⟨15, 0, 0, 0, 0, []⟩] [⟨13, 0, 0, 0, 1, []⟩, ⟨15, 0, 0, 0, 0, []⟩] (by simp [maxLen]) (H15.pull 6).rd (RdL.pt _ H15)).mono ?_
  rintro e w9 ⟨rfl, hB2⟩
  rw [show sameP [⟨13, 0, 0, 0, 1, []⟩, ⟨15, 0, 0, 0, 0, []⟩] [⟨13, 0, 0, 0, 1, []⟩, ⟨15, 0, 0, 0, 0, []⟩] = true from by kernel_rfl]
  have H16 := H15.below hB2
  clear H14 H15
  have z0 : w9.cell? ⟨q4, 0, none⟩ = some (.int .i64 0) := (H16.pull 5).cell 0
  have H17 : Sat W (w9.alloc (.cells (([1, 15, 0] : List UInt8).map B).toArray 5)) _ := H16.alloc _ _
  go_wp2_with fail
  refine (pfails_true (some ⟨w9.heap.size, 0, none⟩) 3 [1, 15, 0] ⟨by decide, by simp, by decide⟩ RdL.pt (by decide) 4 2 (by kernel_rfl) H17).mono ?_
  rintro e w10 ⟨rfl, H18⟩
  clear H16 H17 z0
  have H19 : Sat W (w10.alloc (.cells (([61] : List UInt8).map B).toArray 5)) _ := H18.alloc _ _
  go_wp2_with fail
  refine (pfails_true (some ⟨w10.heap.size, 0, none⟩) 1 [61] ⟨by decide, by simp, by decide⟩ RdL.pt (by decide) 3 0 (by kernel_rfl) H19).mono ?_
  rintro e w11 ⟨rfl, H20⟩
  clear H18 H19
  go_wp2_with fail
  refine (pawake_any H20).mono ?_
  rintro e w12 ⟨rfl, H21⟩
  go_wp2
  go_ret
  exact ⟨rfl, H21.drops [_, _, _, _, _, _, _, _, _, _, _]⟩
theorem lawProgKnown_any {W : World} : Calls Try.prog 10 #[] W fun e w' => e = .returned (.bool true) ∧ Sat W w' [] := pknown_any (Sat.start W)
end Go.Proofs.Ytflcmhmbmippfaa

/- The row of ProgKnown: for every input it answers true, and the input reads as it did. -/
namespace Go.Proofs.Ytflcmhmbmippfaa
open Go.ChangeShapes Go.WideShapes Go.ChangeMaps Go.RowKit Go.Rt

theorem progKnown_own : ownKnob Try.prog.godebug = none := by kernel_rfl
theorem progKnown_laid : laidOutB Try.prog = true := by kernel_rfl

set_option maxRecDepth 100000 in
theorem progKnown_lifted (os : Os) (started : os.Started) (H : Type) (enc : TypeId × Value → H) :
    ReturnsInHanded {} Try.checked os 10 .any (Rows.progKnownSpec.pre6 enc Try.prog Try.f10 Rows.progKnownRow.domain false) (Rows.progKnownSpec.post enc Try.prog Try.f10 false true false false) := by
  refine returnsInHanded_of_change (C := Try.checked) progKnown_own started (by kernel_rfl) Try.func10
    (ChangeSpec.witness6 (enc := enc) (C := Try.checked) false ⟨#[], #[], []⟩ 8 (by kernel_rfl) (by kernel_rfl) (by kernel_rfl) (by kernel_rfl)) ?_
  intro W base args ds gs before hval0 hW _ _
  have hval : ∀ (j : Nat) t v, Try.f10.params[j]? = some t → args[j]? = some v → Value.okWide Try.prog W .any base t v := hval0
  have hW' := hW
  obtain ⟨p, q, hA0, hV, rfl, _, _⟩ := hW
  have hA : DataW.TrodAll enc Try.prog W 0 (fun _ => true) true Try.f10.params.toList args.toList ds p := hA0
  rw [Try.params10] at hA hval
  obtain ⟨rfl, rfl⟩ := trodVars_none hV
  obtain ⟨ha, rfl, rfl⟩ := trodAll_nil hA
  obtain rfl : args = #[] := by cases args; simp_all
  refine (lawProgKnown_any).mono fun e W' ⟨he, hw⟩ => ?_
  subst he
  exact ⟨_, rfl, post_law (tB := 4) hW' rfl rfl (by kernel_rfl) Try.underlying4 progKnown_laid (by rw [Try.params10]; decide +kernel) hw.bel⟩

theorem progKnown_holds : Rows.ProgKnownSaid :=
  OpenClaim.holds_of_wide 10 Try.f10 rfl rfl rfl rfl rfl rfl rfl ⟨rfl, rfl, rfl, rfl, rfl⟩ rfl rfl rfl rfl rfl (by kernel_rfl) Try.func10 (by kernel_rfl)
    (of_decide_eq_true (by kernel_rfl)) (by unfold Func.isWrapper; rw [if_neg (of_decide_eq_false (by kernel_rfl))]; exact ⟨rfl, rfl⟩)
    (fun os started H enc _ => progKnown_lifted os started H enc)
#print axioms progKnown_holds
end Go.Proofs.Ytflcmhmbmippfaa
