/- The laws' own helpers over package word: all things are written. -/
import Derived.Test.YtflcmhmbmippfaaWdH
namespace Go.Proofs.Ytflcmhmbmippfaa
open Go.RowKit Go.Rt

/-- The cells of things in a row. -/
def thC (ts : List Th) : List Value := ts.flatMap Th.cs
/-- What a thing takes at most. -/
def Th.wt (x : Th) : Nat := x.s.size + 41
def wts (ts : List Th) : Nat := (ts.map Th.wt).sum
def putAll (ts : List Th) : List UInt8 := ts.foldl (fun b x => x.put b) []
def badAll (ts : List Th) : Bool := ts.any Th.bad

theorem Th.put_len (x : Th) (h : x.Ok) (bs : List UInt8) : (x.put bs).length ≤ bs.length + x.wt := by
  have h9 := sevF_len 9 x.n.toNat
  have h9' := sevF_len 9 x.s.size
  have hs := strC_len x.s
  have hd := h.d
  unfold Th.put wrInt Th.wt sev
  split
  · split
    · omega
    · simp only [List.length_append]; omega
  · split
    · simp only [List.length_append]; omega
    · split
      · simp only [List.length_append]; omega
      · omega
theorem putAll_snoc (ts : List Th) (x : Th) : putAll (ts ++ [x]) = x.put (putAll ts) := by simp [putAll]
theorem badAll_snoc (ts : List Th) (x : Th) : badAll (ts ++ [x]) = (badAll ts || x.bad) := by simp [badAll]
theorem wts_snoc (ts : List Th) (x : Th) : wts (ts ++ [x]) = wts ts + x.wt := by simp [wts]
theorem wts_append (ts us : List Th) : wts (ts ++ us) = wts ts + wts us := by simp [wts]
theorem put_fold_len (ts : List Th) (h : ∀ x ∈ ts, x.Ok) : ∀ bs : List UInt8, (ts.foldl (fun b (x : Th) => x.put b) bs).length ≤ bs.length + wts ts := by
  induction ts with
  | nil => intro bs; simp [wts]
  | cons x ts ih =>
    intro bs
    have h1 := Th.put_len x (h x (by simp)) bs
    have h2 := ih (fun y hy => h y (by simp [hy])) (x.put bs)
    simp only [List.foldl_cons, wts, List.map_cons, List.sum_cons] at h2 ⊢
    omega
theorem putAll_len (ts : List Th) (h : ∀ x ∈ ts, x.Ok) : (putAll ts).length ≤ wts ts := by
  have := put_fold_len ts h []
  simpa [putAll] using this
theorem Th.cs_len (x : Th) (h : x.Ok) : x.cs.length = 35 := by simp [Th.cs, h.d]
theorem thC_len (ts : List Th) (h : ∀ x ∈ ts, x.Ok) : (thC ts).length = ts.length * 35 := by
  induction ts with
  | nil => rfl
  | cons x ts ih =>
    have := ih fun y hy => h y (by simp [hy])
    have h1 := x.cs_len (h x (by simp))
    simp only [thC, List.flatMap_cons, List.length_append, List.length_cons] at this ⊢
    omega
theorem thC_at (ts : List Th) (h : ∀ x ∈ ts, x.Ok) (j : Nat) (x : Th) (hj : ts[j]? = some x) : ((thC ts).drop (j * 35)).take 35 = x.cs := by
  induction ts generalizing j with
  | nil => simp at hj
  | cons y ts ih =>
    have h1 := y.cs_len (h y (by simp))
    have e : thC (y :: ts) = y.cs ++ thC ts := rfl
    cases j with
    | zero =>
      simp at hj; subst hj
      rw [e, Nat.zero_mul, List.drop_zero, List.take_left' h1]
    | succ j =>
      rw [e, List.drop_append, List.drop_eq_nil_of_le (by omega), List.nil_append, h1]
      rw [show (j + 1) * 35 - 35 = j * 35 by omega]
      exact ih (fun z hz => h z (by simp [hz])) j (by simpa using hj)
theorem rd_thing {w : World} {A : Option Addr} {ts : List Th} (h : Rd w A (thC ts)) (hts : ∀ x ∈ ts, x.Ok) (j : Nat) (x : Th) (hj : ts[j]? = some x) :
    ∃ b o, A = some ⟨b, o, none⟩ ∧ Rd w (some ⟨b, o + j * 35, none⟩) x.cs := by
  have h1 := thC_at ts hts j x hj
  have hx : (thC ts) ≠ [] := by
    intro e
    rw [e] at h1
    simp [Th.cs] at h1
  obtain ⟨b, o, rfl⟩ := h.open hx
  exact ⟨b, o, rfl, by rw [← h1]; exact (h.drop (j * 35)).take 35⟩

/-- What is told of things that were written at once. -/
def AllPost (W : World) (l : List SL) (ts : List Th) (e : Ending) (w' : World) : Prop :=
  if badAll ts then e = .returned (.tuple #[.slice none 0 0, .bool false]) ∧ Sat W w' l
  else ∃ A' c', e = .returned (.tuple #[.slice A' (putAll ts).length c', .bool true]) ∧ Sat W w' (row 5 zB (.slice A' (putAll ts).length c') (putAll ts).length ((putAll ts).map B) :: l)

end Go.Proofs.Ytflcmhmbmippfaa
