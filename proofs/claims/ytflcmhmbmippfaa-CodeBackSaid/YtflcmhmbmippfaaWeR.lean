/- Plain laws: what is read at a place where a number, a text, an ID was written. No program in sight. -/
import Derived.Test.YtflcmhmbmippfaaWeQ
import Derived.Test.YtflcmhmbmippfaaWdQ
namespace Go.Proofs.Ytflcmhmbmippfaa

theorem numAt_here (pre rest : List UInt8) (n : Nat) (hn : n < 9223372036854775808) (low high above : Int) :
    numAt (pre ++ (sev n ++ rest)) pre.length low high above = if (n : Int) < low then .bad 5 pre.length else if high < (n : Int) then .bad above pre.length else .ok n (sev n).length := by
  unfold numAt
  rw [List.drop_left, dec_of_sev n hn rest]

theorem txtAt_here (pre rest L : List UInt8) (hL : L.length < 9223372036854775808) (most : Int) :
    txtAt (pre ++ (sev L.length ++ (L ++ rest))) pre.length most = if most < (L.length : Int) then .bad 3 pre.length else .ok L ((sev L.length).length + L.length) := by
  unfold txtAt
  rw [numAt_here pre (L ++ rest) L.length hL 0 most 3, if_neg (by omega)]
  by_cases h : most < (L.length : Int)
  · rw [if_pos h, if_pos h]
  · rw [if_neg h, if_neg h]
    dsimp only
    rw [if_pos (by simp only [List.length_append]; omega)]
    congr 1
    rw [← List.append_assoc, ← List.length_append, List.drop_left, List.take_left]

theorem toldInt_here (pre rest : List UInt8) (n : Nat) (hn : n < 9223372036854775808) (low high above : Int) (h1 : low ≤ n) (h2 : (n : Int) ≤ high) :
    toldInt (pre ++ (sev n ++ rest)) pre.length 0 0 low high above = ⟨n, pre.length + (sev n).length, 0, 0⟩ := by
  unfold toldInt
  rw [if_pos rfl, numAt_here pre rest n hn, if_neg (by omega), if_neg (by omega)]
theorem toldTxt_here (pre rest L : List UInt8) (hL : L.length < 9223372036854775808) (most : Int) (h : (L.length : Int) ≤ most) :
    toldTxt (pre ++ (sev L.length ++ (L ++ rest))) pre.length 0 0 most = ⟨L, pre.length + ((sev L.length).length + L.length), 0, 0⟩ := by
  unfold toldTxt
  rw [if_pos rfl, txtAt_here pre rest L hL, if_neg (by omega)]
theorem toldID_here (pre rest d : List UInt8) (hd : d.length = 32) : toldID (pre ++ (d ++ rest)) pre.length 0 0 = ⟨d, pre.length + 32, 0, 0⟩ := by
  unfold toldID
  rw [if_pos rfl, if_pos (by simp only [List.length_append]; omega), List.drop_left, ← hd, List.take_left]
end Go.Proofs.Ytflcmhmbmippfaa
