/- A pack of texts: KgS -/
import Derived.Test.YtodbmeklbamcfaaGreatPkKnownW
import Derived.Test.YtodbmeklbamcfaaGreatPkKnownN
import Derived.Shelf.SlSortCmp.WholeK
/- The order of spans that span.Join sorts by; what is sorted so is joined as the document says. No program in sight. -/
namespace Go.Proofs.YtodbmeklbamcfaaGreat
open Go.Sort Go.Shelf

instance : Inhabited Sp := ⟨⟨[], []⟩⟩
def cmpS (a b : Str) : Int := if a < b then -1 else if b < a then 1 else 0
def cmpSp (a b : Sp) : Int := if cmpS a.lo b.lo ≠ 0 then cmpS a.lo b.lo else cmpS a.hi b.hi
theorem cmpS_lt {a b : Str} (h : a < b) : cmpS a b = -1 := if_pos h
theorem cmpS_gt {a b : Str} (h : b < a) : cmpS a b = 1 := by unfold cmpS; rw [if_neg fun h' => str_irrefl _ (str_trans h h'), if_pos h]
theorem cmpS_self (a : Str) : cmpS a a = 0 := by unfold cmpS; rw [if_neg (str_irrefl a), if_neg (str_irrefl a)]
theorem ltSp (a b : Sp) : ltOf cmpSp a b = decide (a.lo < b.lo ∨ (a.lo = b.lo ∧ a.hi < b.hi)) := by
  unfold ltOf cmpSp
  rcases str_total a.lo b.lo with h | h | h
  · rw [cmpS_lt h, if_pos (by decide), decide_eq_true (show (-1 : Int) < 0 by decide), decide_eq_true (.inl h)]
  · rw [h, cmpS_self, if_neg (by simp)]
    rcases str_total a.hi b.hi with h2 | h2 | h2
    · rw [cmpS_lt h2, decide_eq_true (show (-1 : Int) < 0 by decide), decide_eq_true (.inr ⟨rfl, h2⟩)]
    · rw [h2, cmpS_self, decide_eq_false (by decide), decide_eq_false]
      rintro (h3 | h3)
      · exact str_irrefl _ h3
      · exact str_irrefl _ h3.2
    · rw [cmpS_gt h2, decide_eq_false (by decide), decide_eq_false]
      rintro (h3 | h3)
      · exact str_irrefl _ h3
      · exact str_irrefl _ (str_trans h2 h3.2)
  · rw [cmpS_gt h, if_pos (by decide), decide_eq_false (by decide), decide_eq_false]
    rintro (h3 | h3)
    · exact str_irrefl _ (str_trans h h3)
    · rw [h3.1] at h; exact str_irrefl _ h
theorem swoSp : SWO (ltOf cmpSp) where
  irrefl x := by
    rw [ltSp, decide_eq_false]
    rintro (h | h)
    · exact str_irrefl _ h
    · exact str_irrefl _ h.2
  trans x y z h1 h2 := by
    rw [ltSp, decide_eq_true_iff] at *
    rcases h1 with h1 | ⟨e1, h1⟩ <;> rcases h2 with h2 | ⟨e2, h2⟩
    · exact .inl (str_trans h1 h2)
    · rw [← e2]; exact .inl h1
    · rw [e1]; exact .inl h2
    · exact .inr ⟨e1.trans e2, str_trans h1 h2⟩
  ntrans x y z h1 h2 := by
    rw [ltSp, decide_eq_false_iff_not] at *
    rintro (h | ⟨e, h⟩)
    · rcases str_total x.lo y.lo with a | a | a
      · exact h1 (.inl a)
      · rw [a] at h; exact h2 (.inl h)
      · exact h2 (.inl (str_trans a h))
    · rcases str_total x.lo y.lo with a | a | a
      · exact h1 (.inl a)
      · rcases str_total x.hi y.hi with b | b | b
        · exact h1 (.inr ⟨a, b⟩)
        · exact h2 (.inr ⟨a.symm.trans e, by rw [← b]; exact h⟩)
        · exact h2 (.inr ⟨a.symm.trans e, str_trans b h⟩)
      · rw [e] at a; exact h2 (.inl a)
theorem perm_of {d d' : Array Sp} (h : PermIn 0 d.size d d') : d'.toList.Perm d.toList := by
  obtain ⟨h1, _, h3⟩ := h
  rw [show d'.extract 0 d.size = d' by rw [← h1]; simp, show d.extract 0 d.size = d by simp] at h3
  exact h3
theorem sortedLo_of {d : Array Sp} (h : SortedIn (ltOf cmpSp) 0 d.size d) : SortedLo d.toList := by
  unfold SortedLo
  rw [List.pairwise_iff_getElem]
  intro i j hi hj hij h2
  have hi' : i < d.size := by simpa using hi
  have hj' : j < d.size := by simpa using hj
  have h3 := h i j (Nat.zero_le _) hij hj'
  rw [ltSp, decide_eq_false_iff_not, getElem!_pos d j hj', getElem!_pos d i hi'] at h3
  exact h3 (.inl h2)
/-- Spans that are not empty, sorted by the library, are joined as the document says. -/
theorem join_sorted {l : List Sp} {d : Array Sp} (hp : PermIn 0 (l.filter fun s => !emptyB s).toArray.size (l.filter fun s => !emptyB s).toArray d) (hs : SortedIn (ltOf cmpSp) 0 (l.filter fun s => !emptyB s).toArray.size d) : (d.toList.foldl stepR []).reverse = joinS l := by
  have h1 : d.size = (l.filter fun s => !emptyB s).toArray.size := hp.1
  exact join_of (perm_of hp) (sortedLo_of (by rw [h1]; exact hs))
end Go.Proofs.YtodbmeklbamcfaaGreat
