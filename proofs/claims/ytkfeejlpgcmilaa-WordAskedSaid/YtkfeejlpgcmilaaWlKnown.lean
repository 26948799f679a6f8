/- WordKnown answers true. -/
import Derived.Test.YtkfeejlpgcmilaaWdM
namespace Go.Proofs.Ytkfeejlpgcmilaa
open Go.RowKit Go.Rt

theorem rInt_told {W w : World} {l : List SL} (p : Nat) (bs : List UInt8) (pl : Nat) (fe fa low high : Int) (T : Told) (ht : toldInt bs pl fe fa low high 5 = T) (hp : pl ≤ bs.length) (hb : bs.length ≤ 1000000000) (hf : fe = 0 → fa = 0) (H : Sat W w (rdr p bs pl fe fa :: l)) :
    Calls Try.prog 32 #[.pointer (some ⟨p, 0, none⟩), .int .i64 low, .int .i64 high] w fun e w' => e = .returned (.int .i64 T.n) ∧ Sat W w' (rdr p bs T.pl T.fe T.fa :: l) := by
  subst ht; exact rInt_any p bs pl fe fa low high hp hb hf H
theorem rText_told {W w : World} {l : List SL} (p : Nat) (bs : List UInt8) (pl : Nat) (fe fa high : Int) (T : ToldT) (ht : toldTxt bs pl fe fa high = T) (hp : pl ≤ bs.length) (hb : bs.length ≤ 1000000000) (hf : fe = 0 → fa = 0) (H : Sat W w (rdr p bs pl fe fa :: l)) :
    Calls Try.prog 35 #[.pointer (some ⟨p, 0, none⟩), .int .i64 high] w fun e w' => e = .returned (.string ⟨T.s.toArray⟩) ∧ Sat W w' (rdr p bs T.pl T.fe T.fa :: l) := by
  subst ht; exact rText_any p bs pl fe fa high hp hb hf H

set_option maxRecDepth 100000 in
set_option maxHeartbeats 1600000 in
theorem known_any {W w : World} {l : List SL} (H : Sat W w l) :
    Calls Try.prog 6 #[] w fun e w' => e = .returned (.bool true) ∧ Sat W w' l := by
  go_enter Try.func6, Try.ntmps6
  go_wp2_with fail
  have H1 : Sat W (w.alloc (.cells (thC [Th.mk 1 0 ⟨#[97, 98]⟩ noID]).toArray 35)) _ := H.alloc _ _
  refine (all_any (some ⟨w.heap.size, 0, none⟩) 1 [Th.mk 1 0 ⟨#[97, 98]⟩ noID] (by intro x hx; simp only [List.mem_singleton] at hx; subst hx; exact ⟨by decide, by decide, by decide⟩) (by decide) (by decide) RdL.pt H1).mono ?_
  rintro e w1 h1
  unfold AllPost at h1
  rw [if_neg (by decide), show putAll [Th.mk 1 0 ⟨#[97, 98]⟩ noID] = [2, 97, 98] by decide] at h1
  obtain ⟨A1, c1, rfl, H2⟩ := h1
  clear H1
  replace H2 := H2.swap.tail
  go_wp2_with fail
  have H3 : Sat W (w1.alloc (.cells (thC [Th.mk 0 (-1) ⟨#[]⟩ noID]).toArray 35)) _ := H2.alloc _ _
  refine (all_any (some ⟨w1.heap.size, 0, none⟩) 1 [Th.mk 0 (-1) ⟨#[]⟩ noID] (by intro x hx; simp only [List.mem_singleton] at hx; subst hx; exact ⟨by decide, by decide, by decide⟩) (by decide) (by decide) RdL.pt H3).mono ?_
  rintro e w2 h1
  unfold AllPost at h1
  rw [if_pos (by decide)] at h1
  obtain ⟨rfl, H4⟩ := h1
  clear H2 H3
  replace H4 := H4.tail
  go_wp2_with fail
  have H5 : Sat W (w2.alloc (.cells (([128, 1, 5] : List UInt8).map B).toArray 5)) _ := H4.alloc _ _
  refine (open_any (some ⟨w2.heap.size, 0, none⟩) 3 [128, 1, 5] RdL.pt (by decide) H5).mono ?_
  rintro e w3 ⟨pr, rfl, H6⟩
  replace H6 := H6.swap.tail
  clear H4 H5
  go_wp2_with fail
  have H7 : Sat W (w3.alloc (.cells (([3, 1, 2] : List UInt8).map B).toArray 5)) _ := H6.alloc _ _
  refine (open_any (some ⟨w3.heap.size, 0, none⟩) 3 [3, 1, 2] RdL.pt (by decide) H7).mono ?_
  rintro e w4 ⟨ps, rfl, H8⟩
  replace H8 := H8.swap.tail
  clear H6 H7
  go_wp2_with fail
  have H9 : Sat W (w4.alloc (.cells (([2, 1] : List UInt8).map B).toArray 5)) _ := H8.alloc _ _
  refine (open_any (some ⟨w4.heap.size, 0, none⟩) 2 [2, 1] RdL.pt (by decide) H9).mono ?_
  rintro e w5 ⟨pt', rfl, H10⟩
  replace H10 := H10.swap.tail
  clear H8 H9
  go_wp2_with fail
  have H11 : Sat W (w5.alloc (.cells (([127] : List UInt8).map B).toArray 5)) _ := H10.alloc _ _
  refine (is_any 127 (by decide) (some ⟨w5.heap.size, 0, none⟩) 1 [127] RdL.pt H11).mono ?_
  rintro e w6 ⟨rfl, H12⟩
  replace H12 := H12.tail
  rw [show (!decide ((127 : Int) < 0) && (sev (127 : Int).toNat == [127])) = true by decide]
  clear H10 H11
  go_wp2_with fail
  have H13 : Sat W (w6.alloc (.cells (([255, 255, 255, 255, 255, 255, 255, 255, 127] : List UInt8).map B).toArray 5)) _ := H12.alloc _ _
  refine (is_any 9223372036854775807 (by decide) (some ⟨w6.heap.size, 0, none⟩) 9 [255, 255, 255, 255, 255, 255, 255, 255, 127] RdL.pt H13).mono ?_
  rintro e w7 ⟨rfl, H14⟩
  replace H14 := H14.tail
  rw [show (!decide ((9223372036854775807 : Int) < 0) && (sev (9223372036854775807 : Int).toNat == [255, 255, 255, 255, 255, 255, 255, 255, 127])) = true by decide +kernel]
  clear H12 H13
  go_wp2_with fail
  have H15 : Sat W (w7.alloc (.cells (([2, 97, 98] : List UInt8).map B).toArray 5)) _ := H14.alloc _ _
  refine (same_any A1 (some ⟨w7.heap.size, 0, none⟩) c1 3 [2, 97, 98] [2, 97, 98] _ (H15.pull 4).rd (Rd.new w7 (([2, 97, 98] : List UInt8).map B).toArray 5)).mono ?_
  rintro e w8 ⟨rfl, rfl⟩
  rw [show (([2, 97, 98] : List UInt8) == [2, 97, 98]) = true by decide]
  have H16 := H15.tail.pull 2
  clear H14 H15
  generalize w7.alloc _ = w8 at H16 ⊢
  go_wp2_with fail
  refine (rInt_told pr _ _ _ _ 0 200 ⟨128, 2, 0, 0⟩ (by kernel_rfl) (by decide) (by decide) (fun _ => rfl) H16).mono ?_
  rintro e w9 ⟨rfl, H17⟩
  go_wp2_with fail
  refine (rInt_told pr _ _ _ _ 0 4 ⟨0, 2, 5, 2⟩ (by kernel_rfl) (by decide) (by decide) (fun _ => rfl) H17).mono ?_
  rintro e w10 ⟨rfl, H18⟩
  go_wp2_with fail
  refine (rAt_any pr _ _ _ _ H18).mono ?_
  rintro e _ ⟨rfl, rfl⟩
  go_wp2_with fail
  refine (rFault_any pr _ _ _ _ H18).mono ?_
  rintro e w11 ⟨rfl, H19⟩
  go_wp2_with fail
  refine (rInt_told pr _ _ _ _ 0 9 ⟨0, 2, 5, 2⟩ (by kernel_rfl) (by decide) (by decide) (fun h => by cases h) H19).mono ?_
  rintro e w12 ⟨rfl, H20⟩
  have H21 := H20.pull 2
  clear H16 H17 H18 H19 H20
  go_wp2_with fail
  refine (rText_told ps _ _ _ _ 2 ⟨[], 0, 3, 0⟩ (by kernel_rfl) (by decide) (by decide) (fun _ => rfl) H21).mono ?_
  rintro e w13 ⟨rfl, H22⟩
  go_wp2_with fail
  refine (rFault_any ps _ _ _ _ H22).mono ?_
  rintro e w14 ⟨rfl, H23⟩
  go_wp2_with fail
  refine (rText_told ps _ _ _ _ 9 ⟨[], 0, 3, 0⟩ (by kernel_rfl) (by decide) (by decide) (fun h => by cases h) H23).mono ?_
  rintro e w15 ⟨rfl, H24⟩
  have H25 := H24.pull 2
  clear H21 H22 H23 H24
  go_wp2_with fail
  refine (rText_told pt' _ _ _ _ 9 ⟨[], 0, 4, 2⟩ (by kernel_rfl) (by decide) (by decide) (fun _ => rfl) H25).mono ?_
  rintro e w16 ⟨rfl, H26⟩
  go_wp2_with fail
  refine (rFault_any pt' _ _ _ _ H26).mono ?_
  rintro e w17 ⟨rfl, H27⟩
  go_wp2_with fail
  refine (rLeft_any pt' _ _ _ _ (by decide) (by decide) H27).mono ?_
  rintro e w18 ⟨rfl, H28⟩
  have H29 := H28.tail.tail.tail.tail
  clear H25 H26 H27 H28
  go_wp2_with fail
  refine (awake_any H29).mono ?_
  rintro e w19 ⟨rfl, H30⟩
  go_wp2_with fail
  have H31 : Sat W (w19.alloc (.cells (([128, 128, 128, 128, 128, 128, 128, 128, 128] : List UInt8).map B).toArray 5)) _ := H30.alloc _ _
  refine (wrong_any (some ⟨w19.heap.size, 0, none⟩) 9 [128, 128, 128, 128, 128, 128, 128, 128, 128] 5 0 (by decide) RdL.pt 0 (by kernel_rfl) H31).mono ?_
  rintro e w20 ⟨rfl, H32⟩
  replace H32 := H32.tail
  clear H29 H30 H31
  have e1 : num8 (⟨#[1, 0, 0, 0, 0, 0, 0, 1, 2]⟩ : ByteArray).data.toList = 258 := by decide
  have e2 : num8 (⟨#[]⟩ : ByteArray).data.toList = 0 := by decide
  go_wp2_with fail
  refine (num_any ⟨#[1, 0, 0, 0, 0, 0, 0, 1, 2]⟩ (by decide) _).mono ?_
  rintro e w21 ⟨rfl, B21⟩
  rw [e1]
  go_wp2_with fail
  refine (num_any ⟨#[]⟩ (by decide) _).mono ?_
  rintro e w22 ⟨rfl, B22⟩
  rw [e2]
  go_wp2_with fail
  go_ret
  exact ⟨rfl, (H32.below B21).below B22⟩
end Go.Proofs.Ytkfeejlpgcmilaa
