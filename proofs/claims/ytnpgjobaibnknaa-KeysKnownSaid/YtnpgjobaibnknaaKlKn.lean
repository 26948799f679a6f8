/- KeysKnown answers true. -/
import Derived.Test.YtnpgjobaibnknaaKdK
namespace Go.Proofs.Ytnpgjobaibnknaa
open Go.RowKit Go.Rt

set_option maxRecDepth 100000 in
set_option maxHeartbeats 8000000 in
theorem lawKeysKnown_any {W w : World} {l : List SL} (H : Sat W w l) :
    Calls Try.prog 11 #[] w fun e w' => e = .returned (.bool true) ∧ Sat W w' l := by
  go_enter Try.func11, Try.ntmps11
  have G1 : Sat W (w.alloc (.cells #[.string ⟨#[97]⟩] 9)) (pt (w.heap.size) (tsC [[97]]).toArray 9 :: l) := by
    have h := H.alloc #[.string ⟨#[97]⟩] 9
    exact h
  have G2 : Sat W ((w.alloc (.cells #[.string ⟨#[97]⟩] 9)).alloc (.cells #[.string ⟨#[99]⟩] 9)) (pt (w.heap.size + 1) (tsC [[99]]).toArray 9 :: pt (w.heap.size) (tsC [[97]]).toArray 9 :: l) := by
    have h := G1.alloc #[.string ⟨#[99]⟩] 9
    simp only [World.size_alloc] at h
    exact h
  clear G1
  have G3 : Sat W (((w.alloc (.cells #[.string ⟨#[97]⟩] 9)).alloc (.cells #[.string ⟨#[99]⟩] 9)).alloc (.cells #[.string ⟨#[97]⟩, .string ⟨#[99]⟩] 9)) (pt (w.heap.size + 2) (tsC [[97], [99]]).toArray 9 :: pt (w.heap.size + 1) (tsC [[99]]).toArray 9 :: pt (w.heap.size) (tsC [[97]]).toArray 9 :: l) := by
    have h := G2.alloc #[.string ⟨#[97]⟩, .string ⟨#[99]⟩] 9
    simp only [World.size_alloc] at h
    exact h
  clear G2
  have G4 : Sat W ((((w.alloc (.cells #[.string ⟨#[97]⟩] 9)).alloc (.cells #[.string ⟨#[99]⟩] 9)).alloc (.cells #[.string ⟨#[97]⟩, .string ⟨#[99]⟩] 9)).alloc (.cells #[.string ⟨#[98]⟩, .string ⟨#[99]⟩] 9)) (pt (w.heap.size + 3) (tsC [[98], [99]]).toArray 9 :: pt (w.heap.size + 2) (tsC [[97], [99]]).toArray 9 :: pt (w.heap.size + 1) (tsC [[99]]).toArray 9 :: pt (w.heap.size) (tsC [[97]]).toArray 9 :: l) := by
    have h := G3.alloc #[.string ⟨#[98]⟩, .string ⟨#[99]⟩] 9
    simp only [World.size_alloc] at h
    exact h
  clear G3
  go_wp2_with fail
  refine (eUnion_any (some ⟨w.heap.size + 2, 0, none⟩) (some ⟨w.heap.size + 3, 0, none⟩) 2 2 [[97], [99]] [[98], [99]] (by simp) (by simp) (by simp [maxLen]) (by simp [maxLen]) (RdL.tail (RdL.pt)) (RdL.pt) G4).mono ?_
  rintro e w1 ⟨A1, c1, rfl, G5⟩
  rw [show unionS [[97], [99]] [[98], [99]] = [[97], [98], [99]] from by decide] at G5 ⊢
  clear G4
  have G6 : Sat W (w1.alloc (.cells #[.string ⟨#[97]⟩, .string ⟨#[98]⟩, .string ⟨#[99]⟩] 9)) (pt (w1.heap.size) (tsC [[97], [98], [99]]).toArray 9 :: seenS 9 (.slice A1 3 c1) (tsC [[97], [98], [99]]) :: pt (w.heap.size + 3) (tsC [[98], [99]]).toArray 9 :: pt (w.heap.size + 2) (tsC [[97], [99]]).toArray 9 :: pt (w.heap.size + 1) (tsC [[99]]).toArray 9 :: pt (w.heap.size) (tsC [[97]]).toArray 9 :: l) := by
    have h := G5.alloc #[.string ⟨#[97]⟩, .string ⟨#[98]⟩, .string ⟨#[99]⟩] 9
    exact h
  clear G5
  go_wp2_with fail
  refine (SameTexts_any (A1) (some ⟨w1.heap.size, 0, none⟩) c1 3 [[97], [98], [99]] [[97], [98], [99]] (by simp [maxLen]) ((RdL.tail (RdL.seenS) : RdL W _ _ (tsC [[97], [98], [99]])) _ G6) ((RdL.pt : RdL W _ _ (tsC [[97], [98], [99]])) _ G6)).mono ?_
  rintro e w2 ⟨rfl, hB⟩
  have G7 := G6.below hB
  clear G6 hB
  rw [decide_eq_true (show ([[97], [98], [99]] : List Str) = [[97], [98], [99]] from rfl)]
  have G8 := G7.tail
  clear G7
  have G9 := G8.tail
  clear G8
  have G10 := G9.tail
  clear G9
  go_wp2_with fail
  refine (eMinus_any (some ⟨w.heap.size + 2, 0, none⟩) (some ⟨w.heap.size + 1, 0, none⟩) 2 1 [[97], [99]] [[99]] (by simp) (by simp) (by simp [maxLen]) (by simp [maxLen]) (RdL.pt) (RdL.tail (RdL.pt)) G10).mono ?_
  rintro e w3 ⟨A3, c3, rfl, G11⟩
  rw [show minusS [[97], [99]] [[99]] = [[97]] from by decide] at G11 ⊢
  clear G10
  go_wp2_with fail
  refine (SameTexts_any (A3) (some ⟨w.heap.size, 0, none⟩) c3 1 [[97]] [[97]] (by simp [maxLen]) ((RdL.row : RdL W _ _ (tsC [[97]])) _ G11) ((RdL.tail (RdL.tail (RdL.tail (RdL.pt))) : RdL W _ _ (tsC [[97]])) _ G11)).mono ?_
  rintro e w4 ⟨rfl, hB⟩
  have G12 := G11.below hB
  clear G11 hB
  rw [decide_eq_true (show ([[97]] : List Str) = [[97]] from rfl)]
  have G13 := G12.tail
  clear G12
  have G14 : Sat W (w4.alloc (.cells #[.string ⟨#[99]⟩, .string ⟨#[100]⟩] 9)) (pt (w4.heap.size) (tsC [[99], [100]]).toArray 9 :: pt (w.heap.size + 2) (tsC [[97], [99]]).toArray 9 :: pt (w.heap.size + 1) (tsC [[99]]).toArray 9 :: pt (w.heap.size) (tsC [[97]]).toArray 9 :: l) := by
    have h := G13.alloc #[.string ⟨#[99]⟩, .string ⟨#[100]⟩] 9
    exact h
  clear G13
  go_wp2_with fail
  refine (eBoth_any (some ⟨w.heap.size + 2, 0, none⟩) (some ⟨w4.heap.size, 0, none⟩) 2 2 [[97], [99]] [[99], [100]] (by simp) (by simp) (by simp [maxLen]) (by simp [maxLen]) (RdL.tail (RdL.pt)) (RdL.pt) G14).mono ?_
  rintro e w5 ⟨A5, c5, rfl, G15⟩
  rw [show bothS [[97], [99]] [[99], [100]] = [[99]] from by decide] at G15 ⊢
  clear G14
  go_wp2_with fail
  refine (SameTexts_any (A5) (some ⟨w.heap.size + 1, 0, none⟩) c5 1 [[99]] [[99]] (by simp [maxLen]) ((RdL.row : RdL W _ _ (tsC [[99]])) _ G15) ((RdL.tail (RdL.tail (RdL.tail (RdL.pt))) : RdL W _ _ (tsC [[99]])) _ G15)).mono ?_
  rintro e w6 ⟨rfl, hB⟩
  have G16 := G15.below hB
  clear G15 hB
  rw [decide_eq_true (show ([[99]] : List Str) = [[99]] from rfl)]
  have G17 := G16.tail
  clear G16
  have G18 := G17.tail
  clear G17
  have G19 : Sat W (w6.alloc (.cells #[.string ⟨#[97]⟩, .string ⟨#[98]⟩, .string ⟨#[99]⟩] 9)) (pt (w6.heap.size) (tsC [[97], [98], [99]]).toArray 9 :: pt (w.heap.size + 2) (tsC [[97], [99]]).toArray 9 :: pt (w.heap.size + 1) (tsC [[99]]).toArray 9 :: pt (w.heap.size) (tsC [[97]]).toArray 9 :: l) := by
    have h := G18.alloc #[.string ⟨#[97]⟩, .string ⟨#[98]⟩, .string ⟨#[99]⟩] 9
    exact h
  clear G18
  have G20 : Sat W ((w6.alloc (.cells #[.string ⟨#[97]⟩, .string ⟨#[98]⟩, .string ⟨#[99]⟩] 9)).alloc (.cells #[.string ⟨#[98]⟩, .string ⟨#[99]⟩] 54)) (pt (w6.heap.size + 1) (spC [⟨[98], [99]⟩]).toArray 54 :: pt (w6.heap.size) (tsC [[97], [98], [99]]).toArray 9 :: pt (w.heap.size + 2) (tsC [[97], [99]]).toArray 9 :: pt (w.heap.size + 1) (tsC [[99]]).toArray 9 :: pt (w.heap.size) (tsC [[97]]).toArray 9 :: l) := by
    have h := G19.alloc #[.string ⟨#[98]⟩, .string ⟨#[99]⟩] 54
    simp only [World.size_alloc] at h
    exact h
  clear G19
  go_wp2_with fail
  refine (eAmong_any (some ⟨w6.heap.size, 0, none⟩) (some ⟨w6.heap.size + 1, 0, none⟩) 3 1 [[97], [98], [99]] [⟨[98], [99]⟩] (by simp) (by simp [maxLen]) (by simp [maxLen]) (RdL.tail (RdL.pt)) (RdL.pt) G20).mono ?_
  rintro e w7 ⟨A7, c7, rfl, G21⟩
  rw [show amongS [[97], [98], [99]] [⟨[98], [99]⟩] = [[98]] from by decide] at G21 ⊢
  clear G20
  have G22 : Sat W (w7.alloc (.cells #[.string ⟨#[98]⟩] 9)) (pt (w7.heap.size) (tsC [[98]]).toArray 9 :: seenS 9 (.slice A7 1 c7) (tsC [[98]]) :: pt (w6.heap.size + 1) (spC [⟨[98], [99]⟩]).toArray 54 :: pt (w6.heap.size) (tsC [[97], [98], [99]]).toArray 9 :: pt (w.heap.size + 2) (tsC [[97], [99]]).toArray 9 :: pt (w.heap.size + 1) (tsC [[99]]).toArray 9 :: pt (w.heap.size) (tsC [[97]]).toArray 9 :: l) := by
    have h := G21.alloc #[.string ⟨#[98]⟩] 9
    exact h
  clear G21
  go_wp2_with fail
  refine (SameTexts_any (A7) (some ⟨w7.heap.size, 0, none⟩) c7 1 [[98]] [[98]] (by simp [maxLen]) ((RdL.tail (RdL.seenS) : RdL W _ _ (tsC [[98]])) _ G22) ((RdL.pt : RdL W _ _ (tsC [[98]])) _ G22)).mono ?_
  rintro e w8 ⟨rfl, hB⟩
  have G23 := G22.below hB
  clear G22 hB
  rw [decide_eq_true (show ([[98]] : List Str) = [[98]] from rfl)]
  have G24 := G23.tail
  clear G23
  have G25 := G24.tail
  clear G24
  have G26 := G25.tail
  clear G25
  have G27 := G26.tail
  clear G26
  have G28 : Sat W (w8.alloc (.cells #[.string ⟨#[98]⟩] 9)) (pt (w8.heap.size) (tsC [[98]]).toArray 9 :: pt (w.heap.size + 2) (tsC [[97], [99]]).toArray 9 :: pt (w.heap.size + 1) (tsC [[99]]).toArray 9 :: pt (w.heap.size) (tsC [[97]]).toArray 9 :: l) := by
    have h := G27.alloc #[.string ⟨#[98]⟩] 9
    exact h
  clear G27
  have G29 : Sat W ((w8.alloc (.cells #[.string ⟨#[98]⟩] 9)).alloc (.cells #[.string ⟨#[97]⟩, .string ⟨#[98]⟩] 54)) (pt (w8.heap.size + 1) (spC [⟨[97], [98]⟩]).toArray 54 :: pt (w8.heap.size) (tsC [[98]]).toArray 9 :: pt (w.heap.size + 2) (tsC [[97], [99]]).toArray 9 :: pt (w.heap.size + 1) (tsC [[99]]).toArray 9 :: pt (w.heap.size) (tsC [[97]]).toArray 9 :: l) := by
    have h := G28.alloc #[.string ⟨#[97]⟩, .string ⟨#[98]⟩] 54
    simp only [World.size_alloc] at h
    exact h
  clear G28
  go_wp2_with fail
  refine (eMeets_any (some ⟨w.heap.size, 0, none⟩) (some ⟨w8.heap.size, 0, none⟩) (some ⟨w8.heap.size + 1, 0, none⟩) 1 1 1 [[97]] [[98]] [⟨[97], [98]⟩] (by simp) (by simp [maxLen]) (by simp) (by simp [maxLen]) (by simp [maxLen]) (RdL.tail (RdL.tail (RdL.tail (RdL.tail (RdL.pt))))) (RdL.tail (RdL.pt)) (RdL.pt) G29).mono ?_
  rintro e w9 ⟨rfl, G30⟩
  rw [show meetsB [[97]] [[98]] [⟨[97], [98]⟩] = true from by decide]
  clear G29
  have G31 := G30.tail
  clear G30
  have G32 := G31.tail
  clear G31
  have G33 : Sat W (w9.alloc (.cells #[.string ⟨#[98]⟩] 9)) (pt (w9.heap.size) (tsC [[98]]).toArray 9 :: pt (w.heap.size + 2) (tsC [[97], [99]]).toArray 9 :: pt (w.heap.size + 1) (tsC [[99]]).toArray 9 :: pt (w.heap.size) (tsC [[97]]).toArray 9 :: l) := by
    have h := G32.alloc #[.string ⟨#[98]⟩] 9
    exact h
  clear G32
  go_wp2_with fail
  refine (eMeets_any (some ⟨w.heap.size, 0, none⟩) (some ⟨w9.heap.size, 0, none⟩) (none) 1 1 0 [[97]] [[98]] [] (by simp) (by simp [maxLen]) (by simp) (by simp [maxLen]) (by simp [maxLen]) (RdL.tail (RdL.tail (RdL.tail (RdL.pt)))) (RdL.pt) (fun _ _ => Rd.nil _ _) G33).mono ?_
  rintro e w10 ⟨rfl, G34⟩
  rw [show meetsB [[97]] [[98]] [] = false from by decide]
  clear G33
  have G35 := G34.tail
  clear G34
  go_wp2_with fail
  refine (eawake_any G35).mono ?_
  rintro e w11 ⟨rfl, G36⟩
  have G37 := G36.tail
  clear G36
  have G38 := G37.tail
  clear G37
  have G39 := G38.tail
  clear G38
  go_wp2
  go_ret
  exact ⟨rfl, G39⟩
end Go.Proofs.Ytnpgjobaibnknaa
