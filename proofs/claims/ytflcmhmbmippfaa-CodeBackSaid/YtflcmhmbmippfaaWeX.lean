/- Plain laws: a list of things as bytes, thing by thing. No program in sight. -/
import Derived.Test.YtflcmhmbmippfaaWeW
import Derived.Test.YtflcmhmbmippfaaWoB
namespace Go.Proofs.Ytflcmhmbmippfaa

def Th.bytes (x : Th) : List UInt8 :=
  if x.k = 0 then (if x.n < 0 then [] else sev x.n.toNat) else if x.k = 1 then sev x.s.size ++ x.s.data.toList else if x.k = 2 then x.d else []
theorem put_bytes (x : Th) (bs : List UInt8) : x.put bs = bs ++ x.bytes := by
  unfold Th.put Th.bytes wrInt
  by_cases h0 : x.k = 0
  · rw [if_pos h0, if_pos h0]
    by_cases h : x.n < 0
    · rw [if_pos h, if_pos h, List.append_nil]
    · rw [if_neg h, if_neg h]
  · rw [if_neg h0, if_neg h0]
    by_cases h1 : x.k = 1
    · rw [if_pos h1, if_pos h1, List.append_assoc]
    · rw [if_neg h1, if_neg h1]
      by_cases h2 : x.k = 2
      · rw [if_pos h2, if_pos h2]
      · rw [if_neg h2, if_neg h2, List.append_nil]
theorem put_fold (ts : List Th) : ∀ bs : List UInt8, ts.foldl (fun b (x : Th) => x.put b) bs = bs ++ ts.flatMap Th.bytes := by
  induction ts with
  | nil => intro bs; simp
  | cons x ts ih => intro bs; rw [List.foldl_cons, ih, put_bytes, List.append_assoc]; rfl
theorem putAll_bytes (ts : List Th) : putAll ts = ts.flatMap Th.bytes := by rw [putAll, put_fold, List.nil_append]
theorem putAll_append (ls ms : List Th) : putAll (ls ++ ms) = putAll ls ++ putAll ms := by simp [putAll_bytes]
theorem badAll_append (ls ms : List Th) : badAll (ls ++ ms) = (badAll ls || badAll ms) := by simp [badAll]
theorem putAll_at (ts : List Th) (j : Nat) (x : Th) (h : ts[j]? = some x) : ∃ rest, putAll ts = putAll (ts.take j) ++ (x.bytes ++ rest) ∧ putAll (ts.take (j + 1)) = putAll (ts.take j) ++ x.bytes := by
  obtain ⟨hj, hx⟩ := List.getElem?_eq_some_iff.1 h
  refine ⟨putAll (ts.drop (j + 1)), ?_, ?_⟩
  · have e : ts = ts.take j ++ ([x] ++ ts.drop (j + 1)) := by
      have h1 := (List.take_append_drop j ts).symm
      rw [List.drop_eq_getElem_cons hj, hx] at h1
      exact h1
    have h2 := congrArg putAll e
    rw [putAll_append, putAll_append] at h2
    rw [h2]
    congr 2
  · rw [List.take_add_one, h]
    simp [putAll_bytes]
theorem thC_append (ls ms : List Th) : thC (ls ++ ms) = thC ls ++ thC ms := by simp [thC]
theorem bad_of_all (ts : List Th) (h : badAll ts = false) (x : Th) (hx : x ∈ ts) : x.bad = false := by
  simp only [badAll, List.any_eq_false] at h
  simpa using h x hx
end Go.Proofs.Ytflcmhmbmippfaa
