/- WordRegisters answers true at every input. -/
import Derived.Test.YtkfeejlpgcmilaaWdJ
namespace Go.Proofs.Ytkfeejlpgcmilaa
open Go.RowKit Go.Rt

theorem lawRegisters_any (s : ByteArray) (n : Nat) (hn : n < 18446744073709551616) (w : World) :
    Calls Try.prog 4 #[.string s, .int .u64 n] w fun e w' => e = .returned (.bool true) ∧ Below w.heap.size w w' := by
  by_cases hs : s.size ≤ 300
  · have hd : decide ((s.size : Int) > 300) = false := by simp; omega
    go_enter Try.func4, Try.ntmps4
    go_wp2_with fail
    refine (num_any s (by omega) w).mono ?_
    rintro e w1 ⟨rfl, H1⟩
    go_wp2_with fail
    refine (xnum_any s (by omega) w1).mono ?_
    rintro e w2 ⟨rfl, rfl⟩
    go_wp2_with fail
    refine (val_any n hn _).mono ?_
    rintro e w2 ⟨rfl, H2⟩
    go_wp2_with fail
    refine (xval_any n hn _).mono ?_
    rintro e w3 ⟨rfl, H3⟩
    go_wp2_with fail
    refine (awake_any (Sat.start _)).mono ?_
    rintro e w4 ⟨rfl, H4⟩
    go_wp2
    go_ret
    exact ⟨rfl, ((H1.trans (H2.mono H1.size)).trans (H3.mono (Nat.le_trans H1.size H2.size))).trans (H4.bel.mono (Nat.le_trans H1.size (Nat.le_trans H2.size H3.size)))⟩
  · have hd : decide ((s.size : Int) > 300) = true := by simp; omega
    go_enter Try.func4, Try.ntmps4
    go_wp2_with fail
    refine (awake_any (Sat.start _)).mono ?_
    rintro e w4 ⟨rfl, H4⟩
    go_wp2
    go_ret
    exact ⟨rfl, H4.bel⟩
end Go.Proofs.Ytkfeejlpgcmilaa
