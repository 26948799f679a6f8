/- The laws' helpers on keys: a set in memory of its own, the chapter's examples. -/
import Derived.Test.YtnpgjobaibnknaaKdM
namespace Go.Proofs.Ytnpgjobaibnknaa
open Go.RowKit Go.Rt

theorem eSort_sat {W w : World} {L : List SL} (A : Option Addr) (c : Nat) (l : List Str) (hl : l.length ≤ 1000000000) (hx : ∀ x ∈ l, x.length ≤ maxLen) (hr : Rd w A (tsC l)) (H : Sat W w L) :
    Calls Try.prog 17 #[.slice A l.length c] w fun e w' => ∃ A' c', e = .returned (.slice A' (sortS l).length c') ∧ Sat W w' (seenS 9 (.slice A' (sortS l).length c') (sortS l).length (tsC (sortS l)) :: L) := by
  refine (eSort_row A c l hl hx hr).mono ?_
  rintro e w' ⟨A', c', rfl, H2⟩
  exact ⟨A', c', rfl, H.joined H2⟩

set_option maxRecDepth 100000 in
set_option maxHeartbeats 4000000 in
theorem eawake_any {W w : World} {l : List SL} (H : Sat W w l) :
    Calls Try.prog 15 #[] w fun e w' => e = .returned (.bool true) ∧ Sat W w' l := by
  go_enter Try.func15, Try.ntmps15
  have H1 : Sat W (w.alloc (.cells #[.string ⟨#[98]⟩, .string ⟨#[97]⟩, .string ⟨#[98]⟩] 9)) (pt w.heap.size (tsC [[98], [97], [98]]).toArray 9 :: l) := H.alloc _ _
  go_wp2_with fail
  refine (eSort_sat (some ⟨w.heap.size, 0, none⟩) 3 [[98], [97], [98]] (by decide) (by intro x hx; simp at hx; rcases hx with rfl | rfl | rfl <;> simp [maxLen]) (RdL.pt _ H1) H1).mono ?_
  rintro e w1 ⟨A1, c1, rfl, H2⟩
  rw [show sortS [[98], [97], [98]] = [[97], [98]] from by decide] at H2 ⊢
  clear H1
  have H3 : Sat W (w1.alloc (.cells #[.string ⟨#[97]⟩, .string ⟨#[98]⟩] 9)) (pt w1.heap.size (tsC [[97], [98]]).toArray 9 :: _) := H2.alloc _ _
  go_wp2_with fail
  refine (SameTexts_any A1 (some ⟨w1.heap.size, 0, none⟩) c1 2 [[97], [98]] [[97], [98]] (by simp [maxLen]) H3.swap.seen_rd (RdL.pt _ H3)).mono ?_
  rintro e w2 ⟨rfl, hB⟩
  have H4 := (H3.below hB).tail.tail.tail
  clear H2 H3
  have H5 : Sat W (w2.alloc (.cells #[.string ⟨#[97]⟩, .string ⟨#[98]⟩] 9)) (pt w2.heap.size (tsC [[97], [98]]).toArray 9 :: l) := H4.alloc _ _
  rw [decide_eq_true (show ([[97], [98]] : List Str) = [[97], [98]] from rfl)]
  go_wp2_with fail
  refine (eCheck_any (some ⟨w2.heap.size, 0, none⟩) 2 [[97], [98]] (by simp [maxLen]) (RdL.pt _ H5)).mono ?_
  rintro e w3 ⟨rfl, hB⟩
  rw [show checkK [[97], [98]] = true from by decide]
  have H6 := (H5.below hB).tail
  clear H4 H5
  have H7 : Sat W (w3.alloc (.cells #[.string ⟨#[97]⟩, .string ⟨#[97]⟩] 9)) (pt w3.heap.size (tsC [[97], [97]]).toArray 9 :: l) := H6.alloc _ _
  go_wp2_with fail
  refine (eCheck_any (some ⟨w3.heap.size, 0, none⟩) 2 [[97], [97]] (by simp [maxLen]) (RdL.pt _ H7)).mono ?_
  rintro e w4 ⟨rfl, hB⟩
  rw [show checkK [[97], [97]] = false from by decide]
  have H8 := (H7.below hB).tail
  clear H6 H7
  have H9 : Sat W (w4.alloc (.cells #[.string ⟨#[97]⟩, .string ⟨#[98]⟩] 9)) (pt w4.heap.size (tsC [[97], [98]]).toArray 9 :: l) := H8.alloc _ _
  go_wp2_with fail
  refine (eHas_any (some ⟨w4.heap.size, 0, none⟩) 2 [[97], [98]] [98] (by simp [maxLen]) (RdL.pt _ H9)).mono ?_
  rintro e _ ⟨rfl, rfl⟩
  rw [show hasK [[97], [98]] [98] = true from by decide]
  go_wp2
  go_ret
  exact ⟨rfl, H9.tail⟩

set_option maxRecDepth 100000 in
theorem kPick_any (x : Int) (n : Nat) (hn : 1 ≤ n ∧ n ≤ 1000000) (w : World) :
    Calls Try.prog 21 #[.int .i64 x, .int .i64 n] w fun e w' => (∃ t : Nat, t < n ∧ e = .returned (.int .i64 t)) ∧ w = w' := by
  have e1 : decide ((n : Int) < 1) = false := by simp; omega
  have hn0 : ¬ (n : Int) = 0 := by omega
  have hb1 : Int.tmod x n < n := Int.tmod_lt_of_pos x (by omega)
  have hb2 : -(n : Int) < Int.tmod x n := by
    have h := Int.lt_tmod_of_pos x (show (0 : Int) < n by omega)
    exact h
  have hw1 : IntKind.i64.wrap (Int.tmod x n) = Int.tmod x n := IntWalk.i64_in _ (by omega)
  have hw2 : IntKind.i64.wrap (Int.tmod x n + n) = Int.tmod x n + n := IntWalk.i64_in _ (by omega)
  by_cases h : Int.tmod x n < 0
  · have e2 : decide (Int.tmod x n < 0) = true := by simpa using h
    have e3 : ((Int.tmod x n + n).toNat : Int) = Int.tmod x n + n := Int.toNat_of_nonneg (by omega)
    have h4 : (Int.tmod x n + n).toNat < n := by omega
    have E3 := Lib.hid e3
    clear h e3
    go_enter Try.func21, Try.ntmps21
    go_wp2
    go_ret
    exact ⟨⟨(Int.tmod x n + n).toNat, h4, by rw [E3.out]; rfl⟩, rfl⟩
  · have e2 : decide (Int.tmod x n < 0) = false := by simpa using h
    have e3 : ((Int.tmod x n).toNat : Int) = Int.tmod x n := Int.toNat_of_nonneg (by omega)
    have h4 : (Int.tmod x n).toNat < n := by omega
    have E3 := Lib.hid e3
    clear h e3
    go_enter Try.func21, Try.ntmps21
    go_wp2
    go_ret
    exact ⟨⟨(Int.tmod x n).toNat, h4, by rw [E3.out]; rfl⟩, rfl⟩
end Go.Proofs.Ytnpgjobaibnknaa
