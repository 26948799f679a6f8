/- The laws' own helpers over package word: bulky; the sizes of any number. -/
import Derived.Test.YtflcmhmbmippfaaWdI
namespace Go.Proofs.Ytflcmhmbmippfaa
open Go.RowKit Go.Rt

def bulk31 (ts : List Th) (j : Nat) : Nat := ((ts.take j).map (·.s.size)).sum
def bulkyB (ts : List Th) : Bool := decide (30 < ts.length) || decide (2000 < bulk31 ts 31)
theorem bulk31_step (ts : List Th) (j : Nat) (x : Th) (h : ts[j]? = some x) : bulk31 ts (j + 1) = bulk31 ts j + x.s.size := by
  unfold bulk31
  rw [List.take_add_one, h]
  simp
theorem bulk31_le (ts : List Th) (j : Nat) : bulk31 ts j ≤ (ts.map (·.s.size)).sum := by
  unfold bulk31
  have h : (ts.map (·.s.size)).sum = ((ts.take j).map (·.s.size)).sum + ((ts.drop j).map (·.s.size)).sum := by
    rw [← List.sum_append, ← List.map_append, List.take_append_drop]
  omega
theorem bulk31_reach (ts : List Th) (h : ∀ x ∈ ts, x.s.size ≤ 140737488355328) (j : Nat) : bulk31 ts j ≤ j * 140737488355328 := by
  induction j with
  | zero => simp [bulk31]
  | succ j ih =>
    cases hx : ts[j]? with
    | none =>
      have : bulk31 ts (j + 1) = bulk31 ts j := by unfold bulk31; rw [List.take_add_one, hx]; simp
      omega
    | some x =>
      rw [bulk31_step ts j x hx]
      have := h x (List.mem_of_getElem? hx)
      omega
theorem bulk31_all (ts : List Th) (j : Nat) (h : ts.length ≤ j) : bulk31 ts j = (ts.map (·.s.size)).sum := by unfold bulk31; rw [List.take_of_length_le h]
theorem wts_eq (ts : List Th) : wts ts = (ts.map (·.s.size)).sum + 41 * ts.length := by
  induction ts with
  | nil => rfl
  | cons x ts ih => simp only [wts, Th.wt, List.map_cons, List.sum_cons, List.length_cons] at ih ⊢; omega

/-- A thing's cells in a world in which they are read. -/
theorem th_at {w : World} {b o : Nat} {ts : List Th} (h : Rd w (some ⟨b, o, none⟩) (thC ts)) (hd : ∀ x ∈ ts, x.d.length = 32) (j : Nat) (x : Th) (hj : ts[j]? = some x) : Rd w (some ⟨b, o + j * 35, none⟩) x.cs := by
  have key : ((thC ts).drop (j * 35)).take 35 = x.cs := by
    clear h
    induction ts generalizing j with
    | nil => simp at hj
    | cons y ts ih =>
      have h1 : y.cs.length = 35 := by simp [Th.cs, hd y (by simp)]
      have e : thC (y :: ts) = y.cs ++ thC ts := rfl
      cases j with
      | zero =>
        simp at hj; subst hj
        rw [e, Nat.zero_mul, List.drop_zero, List.take_left' h1]
      | succ j =>
        rw [e, List.drop_append, List.drop_eq_nil_of_le (by omega), List.nil_append, h1]
        rw [show (j + 1) * 35 - 35 = j * 35 by omega]
        exact ih (fun z hz => hd z (by simp [hz])) j (by simpa using hj)
  rw [← key]; exact (h.drop (j * 35)).take 35
theorem th_open {w : World} {A : Option Addr} {ts : List Th} (h : Rd w A (thC ts)) (j : Nat) (x : Th) (hj : ts[j]? = some x) : ∃ b o, A = some ⟨b, o, none⟩ := by
  refine h.open fun e => ?_
  have h1 : x.cs = [] := by
    have := List.mem_of_getElem? hj
    simp only [thC, List.flatMap_eq_nil_iff] at e
    exact e x this
  simp [Th.cs] at h1

/-- A number's size, any number's. -/
def szN (n : Int) : Nat := if n < 0 then 0 else (sev n.toNat).length
theorem size_all (n : Int) (hn : n ≤ 9223372036854775807) (w : World) : Calls Try.prog 67 #[.int .i64 n] w fun e w' => e = .returned (.int .i64 (szN n)) ∧ w = w' := by
  unfold szN
  by_cases h : n < 0
  · rw [if_pos h]; exact size_neg n h w
  · rw [if_neg h]
    obtain ⟨m, rfl⟩ : ∃ m : Nat, n = m := ⟨n.toNat, by omega⟩
    exact size_any m (by omega) w
end Go.Proofs.Ytflcmhmbmippfaa
