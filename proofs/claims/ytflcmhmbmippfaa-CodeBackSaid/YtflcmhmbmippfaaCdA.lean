/- Package code's small functions: what each Op has, the greatest N, a letter's field. -/
import Derived.Test.YtflcmhmbmippfaaCpE
import Derived.Test.YtflcmhmbmippfaaRtF
import Derived.Test.YtflcmhmbmippfaaWdU
namespace Go.Proofs.Ytflcmhmbmippfaa
open Go.RowKit Go.Rt

set_option maxRecDepth 100000 in
set_option maxHeartbeats 1600000 in
theorem cHas_any {W w : World} {l : List SL} (op : Int) (H : Sat W w l) :
    Calls Try.prog 44 #[.int .i64 op] w fun e w' => e = .returned (.string ⟨(hasL op).toArray⟩) ∧ Sat W w' l := by
  by_cases h : 1 ≤ op ∧ op ≤ 15
  · rcases op_cases op h with rfl | rfl | rfl | rfl | rfl | rfl | rfl | rfl | rfl | rfl | rfl | rfl | rfl | rfl | rfl
    all_goals
      go_enter Try.func44, Try.ntmps44
      go_wp2
      go_ret
      exact ⟨rfl, H.alloc' _⟩
  · rw [hasL_out op (by omega)]
    by_cases h1 : op < 1
    · go_enter Try.func44, Try.ntmps44
      go_wp2
      go_ret
      exact ⟨rfl, H.alloc' _⟩
    · have h2 : 15 < op := by omega
      go_enter Try.func44, Try.ntmps44
      go_wp2
      go_ret
      exact ⟨rfl, H.alloc' _⟩

set_option maxRecDepth 100000 in
theorem cMost_any (op : Int) (w : World) : Calls Try.prog 46 #[.int .i64 op] w fun e w' => e = .returned (.int .i64 (mostN op)) ∧ w = w' := by
  by_cases h : op = 6
  · subst h
    go_enter Try.func46, Try.ntmps46
    go_wp2
    go_ret
    exact ⟨rfl, rfl⟩
  · have hm : mostN op = 60 := by unfold mostN; rw [if_neg h]
    have h6 : (op == 6) = false := by simpa using h
    rw [hm]
    go_enter Try.func46, Try.ntmps46
    go_wp2
    go_ret
    exact ⟨rfl, rfl⟩

/-- Where a letter's field lies. -/
def offL (c : UInt8) : Nat := if c = 97 then 1 else if c = 98 then 2 else if c = 99 then 3 else 4
set_option maxRecDepth 100000 in
theorem cField_any (p : Nat) (c : UInt8) (hc : NumL c) (w : World) : Calls Try.prog 47 #[.pointer (some ⟨p, 0, none⟩), .int .i32 (c.toNat : Int)] w fun e w' => e = .returned (.pointer (some ⟨p, offL c, none⟩)) ∧ w = w' := by
  rcases hc with rfl | rfl | rfl | rfl
  all_goals
    go_enter Try.func47, Try.ntmps47
    go_wp2
    go_ret
    exact ⟨rfl, rfl⟩
theorem cField_num (p : Nat) (n : Int) (o : Nat) (h : n = 97 ∧ o = 1 ∨ n = 98 ∧ o = 2 ∨ n = 99 ∧ o = 3 ∨ n = 110 ∧ o = 4) (w : World) : Calls Try.prog 47 #[.pointer (some ⟨p, 0, none⟩), .int .i32 n] w fun e w' => e = .returned (.pointer (some ⟨p, o, none⟩)) ∧ w = w' := by
  rcases h with ⟨rfl, rfl⟩ | ⟨rfl, rfl⟩ | ⟨rfl, rfl⟩ | ⟨rfl, rfl⟩
  · exact cField_any p 97 (by simp [NumL]) w
  · exact cField_any p 98 (by simp [NumL]) w
  · exact cField_any p 99 (by simp [NumL]) w
  · exact cField_any p 110 (by simp [NumL]) w
end Go.Proofs.Ytflcmhmbmippfaa
