/- The laws' helpers on instructions: just these bytes, this fault, the chapter's examples. -/
import Derived.Test.YtflcmhmbmippfaaCdH
namespace Go.Proofs.Ytflcmhmbmippfaa
open Go.RowKit Go.Rt

theorem insAt_out (bs : List UInt8) (at_ : Int) (h : at_ < 0 ∨ (bs.length : Int) < at_) : insAt bs at_ = (Ins.zero, 0, 5, 0) := by unfold insAt; rw [if_pos h]
theorem cRead_any {W w : World} {l : List SL} (A : Option Addr) (c : Nat) (bs : List UInt8) (hA : Bsl A bs.length c) (hr : RdL W l A (bs.map B)) (hb : bs.length ≤ 1000000000) (at_ : Int) (H : Sat W w l) :
    Calls Try.prog 13 #[.slice A bs.length c, .int .i64 at_] w fun e w' => ReadPost W l (insAt bs at_) e w' := by
  by_cases h : at_ < 0 ∨ (bs.length : Int) < at_
  · rw [insAt_out bs at_ h]
    exact cRead_out A bs.length c at_ h H
  · obtain ⟨k, rfl⟩ : ∃ k : Nat, at_ = k := ⟨at_.toNat, by omega⟩
    exact cRead_in A c bs hA hr hb k (by omega) H
theorem kRead_any {W w : World} {l : List SL} (A : Option Addr) (c : Nat) (bs : List UInt8) (hA : Bsl A bs.length c) (hr : RdL W l A (bs.map B)) (hb : bs.length ≤ 1000000000) (at_ : Int) (H : Sat W w l) :
    Calls Try.prog 14 #[.slice A bs.length c, .int .i64 at_] w fun e w' => ReadPost W l (insAt bs at_) e w' := by
  by_cases h : at_ < 0 ∨ (bs.length : Int) < at_
  · rw [insAt_out bs at_ h]
    exact kRead_out A bs.length c at_ h H
  · obtain ⟨k, rfl⟩ : ∃ k : Nat, at_ = k := ⟨at_.toNat, by omega⟩
    exact kRead_in A c bs hA hr hb k (by omega) H

theorem eqi_zero : insEq Ins.zero Ins.zero = true := by decide

set_option maxRecDepth 100000 in
set_option maxHeartbeats 4000000 in
theorem ifails_true {W w : World} {l : List SL} (A : Option Addr) (c : Nat) (bs : List UInt8) (hA : Bsl A bs.length c) (hr : RdL W l A (bs.map B)) (hb : bs.length ≤ 1000000000) (at_ we wa : Int) (h : insAt bs at_ = (Ins.zero, 0, we, wa)) (H : Sat W w l) :
    Calls Try.prog 25 #[.slice A bs.length c, .int .i64 at_, .agg #[.int .i64 we, .int .i64 wa]] w fun e w' => e = .returned (.bool true) ∧ Sat W w' l := by
  have hc := cRead_any (W := W) (w := w.alloc (.cells #[.int .i64 we, .int .i64 wa] 29)) (l := pt w.heap.size #[.int .i64 we, .int .i64 wa] 29 :: l) A c bs hA (RdL.tail hr) hb at_ (H.alloc _ _)
  rw [h] at hc
  have HC := Lib.hid hc
  clear hc h
  have hz := eqi_zero
  go_enter Try.func25, Try.ntmps25
  go_wp2_with fail
  refine HC.out.mono ?_
  rintro e w1 hp
  obtain ⟨rfl, H1⟩ : e = .returned (.tuple #[.agg #[.int .i64 0, .int .i64 0, .int .i64 0, .int .i64 0, .int .i64 0, .string ⟨#[]⟩], .int .i64 0, .agg #[.int .i64 we, .int .i64 wa]]) ∧ Sat W w1 (pt w.heap.size #[.int .i64 we, .int .i64 wa] 29 :: l) := hp
  clear HC
  generalize w.heap.size = ff at H1 ⊢
  have f0 : w1.cell? ⟨ff, 0, none⟩ = some (.int .i64 we) := H1.cell 0
  have f1 : w1.cell? ⟨ff, 1, none⟩ = some (.int .i64 wa) := H1.cell 1
  have hlt := H1.lt
  go_wp2_with (first | (refine wpList_eqi (by rfl) (.tmp 25) (.tmp 26) 26 false rfl Ins.zero Ins.zero rfl rfl ?_))
  go_ret
  exact ⟨rfl, (H1.tail.alloc' _).alloc' _⟩

set_option maxRecDepth 100000 in
set_option maxHeartbeats 4000000 in
theorem iis_true {W w : World} {l : List SL} (i : Ins) (hm : mayB i = true) (A' : Option Addr) (c' : Nat) (ys : List UInt8) (hy : insBytes i = ys) (hr : RdL W l A' (ys.map B)) (H : Sat W w l) :
    Calls Try.prog 24 #[.agg i.cs.toArray, .slice A' ys.length c'] w fun e w' => e = .returned (.bool true) ∧ Sat W w' l := by
  subst hy
  have hc := cBytes_fine (W := W) (w := w.alloc (.cells i.cs.toArray 26)) (l := pt w.heap.size i.cs.toArray 26 :: l) i hm (H.alloc _ _)
  obtain ⟨op, ia, ib, ic, im, is⟩ := i
  generalize insBytes ⟨op, ia, ib, ic, im, is⟩ = ys at *
  have HC := Lib.hid hc
  clear hc hm
  show Calls Try.prog 24 #[.agg #[.int .i64 op, .int .i64 ia, .int .i64 ib, .int .i64 ic, .int .i64 im, .string ⟨is.toArray⟩], .slice A' ys.length c'] w _
  go_enter Try.func24, Try.ntmps24
  go_wp2_with fail
  refine HC.out.mono ?_
  rintro e w1 ⟨A, c, rfl, H1⟩
  clear HC
  have h1 : Rd w1 A (ys.map B) := H1.rd
  have h2 : Rd w1 A' (ys.map B) := hr w1 H1.tail.tail
  go_wp2_with fail
  refine (same_any A A' c c' ys ys w1 h1 h2).mono ?_
  rintro e _ ⟨rfl, rfl⟩
  rw [show (ys == ys) = true by simp]
  go_wp2
  go_ret
  exact ⟨rfl, H1.tail.tail⟩

set_option maxRecDepth 100000 in
set_option maxHeartbeats 4000000 in
theorem iawake_any {W w : World} {l : List SL} (H : Sat W w l) :
    Calls Try.prog 11 #[] w fun e w' => e = .returned (.bool true) ∧ Sat W w' l := by
  go_enter Try.func11, Try.ntmps11
  have H1 : Sat W (w.alloc (.cells (([1, 1, 2, 97, 98] : List UInt8).map B).toArray 5)) _ := H.alloc _ _
  go_wp2_with fail
  refine (iis_true ⟨1, 1, 0, 0, 0, [97, 98]⟩ (by decide) (some ⟨w.heap.size, 0, none⟩) 5 [1, 1, 2, 97, 98] (by decide) RdL.pt H1).mono ?_
  rintro e w1 ⟨rfl, H2⟩
  clear H1
  have H3 : Sat W (w1.alloc (.cells (([15] : List UInt8).map B).toArray 5)) _ := H2.tail.alloc _ _
  go_wp2_with fail
  refine (iis_true ⟨15, 0, 0, 0, 0, []⟩ (by decide) (some ⟨w1.heap.size, 0, none⟩) 1 [15] (by decide) RdL.pt H3).mono ?_
  rintro e w2 ⟨rfl, H4⟩
  clear H2 H3
  go_wp2_with fail
  refine (cCheck_any ⟨15, 1, 0, 0, 0, []⟩ (by decide) H4.tail).mono ?_
  rintro e w3 ⟨rfl, H5⟩
  rw [if_neg (show ¬ mayB ⟨15, 1, 0, 0, 0, []⟩ = true by decide)]
  clear H4
  have H7 : Sat W (w3.alloc (.cells (([2, 8] : List UInt8).map B).toArray 5)) _ := H5.alloc _ _
  go_wp2_with fail
  refine (ifails_true (some ⟨w3.heap.size, 0, none⟩) 2 [2, 8] ⟨by decide, by simp, by decide⟩ RdL.pt (by decide) 0 5 1 (by kernel_rfl) H7).mono ?_
  rintro e w4 ⟨rfl, H8⟩
  clear H5 H7
  go_wp2
  go_ret
  exact ⟨rfl, H8.tail⟩

set_option maxRecDepth 100000 in
theorem Pick_any (x : Int) (n : Nat) (hn : 1 ≤ n ∧ n ≤ 1000000) (w : World) :
    Calls Try.prog 27 #[.int .i64 x, .int .i64 n] w fun e w' => (∃ t : Nat, t < n ∧ e = .returned (.int .i64 t)) ∧ w = w' := by
  have e1 : decide ((n : Int) < 1) = false := by simp; omega
  have hn0 : ¬ (n : Int) = 0 := by omega
  have hb1 : Int.tmod x n < n := Int.tmod_lt_of_pos x (by omega)
  have hb2 : -(n : Int) < Int.tmod x n := by
    have h := Int.lt_tmod_of_pos x (show (0 : Int) < n by omega)
    exact h
  have hw1 : IntKind.i64.wrap (Int.tmod x n) = Int.tmod x n := IntWalk.i64_in _ (by omega)
  have hw2 : IntKind.i64.wrap (Int.tmod x n + n) = Int.tmod x n + n := IntWalk.i64_in _ (by omega)
  by_cases h : Int.tmod x n < 0
  · have e2 : decide (Int.tmod x n < 0) = true := by simpa using h
    have e3 : ((Int.tmod x n + n).toNat : Int) = Int.tmod x n + n := Int.toNat_of_nonneg (by omega)
    have h4 : (Int.tmod x n + n).toNat < n := by omega
    have E3 := Lib.hid e3
    clear h e3
    go_enter Try.func27, Try.ntmps27
    go_wp2
    go_ret
    exact ⟨⟨(Int.tmod x n + n).toNat, h4, by rw [E3.out]; rfl⟩, rfl⟩
  · have e2 : decide (Int.tmod x n < 0) = false := by simpa using h
    have e3 : ((Int.tmod x n).toNat : Int) = Int.tmod x n := Int.toNat_of_nonneg (by omega)
    have h4 : (Int.tmod x n).toNat < n := by omega
    have E3 := Lib.hid e3
    clear h e3
    go_enter Try.func27, Try.ntmps27
    go_wp2
    go_ret
    exact ⟨⟨(Int.tmod x n).toNat, h4, by rw [E3.out]; rfl⟩, rfl⟩
end Go.Proofs.Ytflcmhmbmippfaa
