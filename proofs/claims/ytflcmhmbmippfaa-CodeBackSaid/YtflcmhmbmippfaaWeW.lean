/- Plain laws for WordBounds: what is told of a text and a number behind it; a reader with a fault tells nothing. No program in sight. -/
import Derived.Test.YtflcmhmbmippfaaWeV
namespace Go.Proofs.Ytflcmhmbmippfaa

theorem bounds_txt (L : List UInt8) (n : Nat) (hL : L.length ≤ 300) : toldTxt (sev L.length ++ L ++ sev n) 0 0 0 300 = ⟨L, (sev L.length ++ L).length, 0, 0⟩ := by
  have h := toldTxt_here [] (sev n) L (by omega) 300 (by omega)
  rw [List.nil_append, List.length_nil, Nat.zero_add] at h
  rw [List.append_assoc, h, List.length_append]
theorem bounds_int (L : List UInt8) (n : Nat) (hn : n < 9223372036854775808) (low high above : Int) : toldInt (sev L.length ++ L ++ sev n) (sev L.length ++ L).length 0 0 low high above =
    if (n : Int) < low then ⟨0, (sev L.length ++ L).length, 5, (sev L.length ++ L).length⟩ else if high < (n : Int) then ⟨0, (sev L.length ++ L).length, above, (sev L.length ++ L).length⟩ else ⟨n, (sev L.length ++ L ++ sev n).length, 0, 0⟩ := by
  have h := numAt_here (sev L.length ++ L) [] n hn low high above
  rw [List.append_nil] at h
  unfold toldInt
  rw [if_pos rfl, h]
  by_cases h1 : (n : Int) < low
  · rw [if_pos h1, if_pos h1]
  · rw [if_neg h1, if_neg h1]
    by_cases h2 : high < (n : Int)
    · rw [if_pos h2, if_pos h2]
    · rw [if_neg h2, if_neg h2]
      simp only [List.length_append]
theorem toldA_stuck (bs : List UInt8) (pl : Nat) (fe fa : Int) (q : Qn) (h : fe ≠ 0) : ∃ k, toldA bs pl fe fa q = ⟨⟨k, 0, ⟨#[]⟩, noID⟩, pl, fe, fa⟩ := by
  unfold toldA
  by_cases h0 : q.k = 0
  · exact ⟨0, by rw [if_pos h0]; simp [toldInt, if_neg h]⟩
  · rw [if_neg h0]
    by_cases h1 : q.k = 1
    · exact ⟨0, by rw [if_pos h1]; simp [toldInt, if_neg h]⟩
    · rw [if_neg h1]
      by_cases h2 : q.k = 2
      · exact ⟨1, by rw [if_pos h2]; simp [toldTxt, if_neg h]⟩
      · rw [if_neg h2]
        by_cases h3 : q.k = 3
        · exact ⟨2, by rw [if_pos h3]; simp [toldID, if_neg h]⟩
        · exact ⟨3, by rw [if_neg h3]⟩
end Go.Proofs.Ytflcmhmbmippfaa
