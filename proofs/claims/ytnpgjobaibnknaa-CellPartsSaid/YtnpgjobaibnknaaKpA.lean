/- Plain laws on lists of keys as sets: rising, sorted, with the same keys. No program in sight. -/
import Derived.Sort.KeysCollected
namespace Go.Proofs.Ytnpgjobaibnknaa

abbrev Str := List UInt8
theorem str_irrefl (x : Str) : ¬ x < x := List.lt_irrefl x
theorem str_trans {x y z : Str} (h : x < y) (h' : y < z) : x < z := List.lt_trans h h'
theorem str_total (x y : Str) : x < y ∨ x = y ∨ y < x := by
  by_cases h : x < y
  · exact .inl h
  · by_cases h' : y < x
    · exact .inr (.inr h')
    · exact .inr (.inl (List.le_antisymm (List.not_lt.1 h') (List.not_lt.1 h)))
def Rise (l : List Str) : Prop := l.Pairwise (· < ·)
theorem Rise.ext {a b : List Str} (ha : Rise a) (hb : Rise b) (h : ∀ x, x ∈ a ↔ x ∈ b) : a = b := by
  have na : a.Nodup := List.Pairwise.imp (fun {x y} (h : x < y) (e : x = y) => str_irrefl y (by rw [e] at h; exact h)) ha
  have nb : b.Nodup := List.Pairwise.imp (fun {x y} (h : x < y) (e : x = y) => str_irrefl y (by rw [e] at h; exact h)) hb
  exact List.Perm.eq_of_pairwise (le := fun x y => x < y) (fun x y _ _ h1 h2 => absurd (str_trans h1 h2) (str_irrefl x)) ha hb ((List.perm_ext_iff_of_nodup na nb).2 h)
def insS (x : Str) : List Str → List Str
  | [] => [x]
  | y :: l => if y < x then y :: insS x l else if y = x then y :: l else x :: y :: l
def sortS (l : List Str) : List Str := l.foldl (fun out x => insS x out) []
theorem mem_insS (x z : Str) (l : List Str) : z ∈ insS x l ↔ z = x ∨ z ∈ l := by
  induction l with
  | nil => simp [insS]
  | cons y l ih =>
    unfold insS
    by_cases h : y < x
    · rw [if_pos h, List.mem_cons, ih, List.mem_cons]
      constructor
      · rintro (h | h | h)
        · exact .inr (.inl h)
        · exact .inl h
        · exact .inr (.inr h)
      · rintro (h | h | h)
        · exact .inr (.inl h)
        · exact .inl h
        · exact .inr (.inr h)
    · rw [if_neg h]
      by_cases h2 : y = x
      · rw [if_pos h2]
        constructor
        · exact .inr
        · rintro (h | h)
          · rw [h, ← h2]; simp
          · exact h
      · rw [if_neg h2, List.mem_cons]
theorem rise_insS (x : Str) (l : List Str) (hl : Rise l) : Rise (insS x l) := by
  induction l with
  | nil => simp [insS, Rise]
  | cons y l ih =>
    have h0 := List.pairwise_cons.1 hl
    unfold insS
    by_cases h : y < x
    · rw [if_pos h]
      refine List.pairwise_cons.2 ⟨fun z hz => ?_, ih h0.2⟩
      rcases (mem_insS x z l).1 hz with rfl | hz
      · exact h
      · exact h0.1 z hz
    · rw [if_neg h]
      by_cases h2 : y = x
      · rw [if_pos h2]; exact hl
      · rw [if_neg h2]
        have hxy : x < y := by
          rcases str_total x y with h3 | h3 | h3
          · exact h3
          · exact absurd h3.symm h2
          · exact absurd h3 h
        refine List.pairwise_cons.2 ⟨fun z hz => ?_, hl⟩
        rcases List.mem_cons.1 hz with rfl | hz
        · exact hxy
        · exact str_trans hxy (h0.1 z hz)
theorem sortS_fold (l : List Str) : ∀ out : List Str, Rise out → Rise (l.foldl (fun out x => insS x out) out) ∧ ∀ z, z ∈ l.foldl (fun out x => insS x out) out ↔ z ∈ l ∨ z ∈ out := by
  induction l with
  | nil => intro out h; exact ⟨h, fun z => by simp⟩
  | cons x l ih =>
    intro out h
    obtain ⟨h1, h2⟩ := ih (insS x out) (rise_insS x out h)
    refine ⟨h1, fun z => ?_⟩
    rw [List.foldl_cons, h2 z, mem_insS, List.mem_cons]
    constructor
    · rintro (h | h | h)
      · exact .inl (.inr h)
      · exact .inl (.inl h)
      · exact .inr h
    · rintro ((h | h) | h)
      · exact .inr (.inl h)
      · exact .inl h
      · exact .inr (.inr h)
theorem rise_sortS (l : List Str) : Rise (sortS l) := (sortS_fold l [] List.Pairwise.nil).1
theorem mem_sortS (l : List Str) (z : Str) : z ∈ sortS l ↔ z ∈ l := by
  have := (sortS_fold l [] List.Pairwise.nil).2 z
  simpa [sortS] using this
theorem sortS_of {s l : List Str} (h : Rise s) (hm : ∀ x, x ∈ s ↔ x ∈ l) : s = sortS l := h.ext (rise_sortS l) fun x => by rw [hm, mem_sortS]
theorem sortS_self {l : List Str} (h : Rise l) : sortS l = l := (sortS_of h fun _ => Iff.rfl).symm
theorem rise_filter {l : List Str} (h : Rise l) (p : Str → Bool) : Rise (l.filter p) := h.sublist List.filter_sublist
theorem filter_sortS (l : List Str) (p : Str → Bool) : (sortS l).filter p = sortS (l.filter p) :=
  sortS_of (rise_filter (rise_sortS l) p) fun x => by rw [List.mem_filter, List.mem_filter, mem_sortS]
theorem insS_len (x : Str) (l : List Str) : (insS x l).length ≤ l.length + 1 := by
  induction l with
  | nil => simp [insS]
  | cons y l ih =>
    unfold insS
    split
    · simp only [List.length_cons]; omega
    · split <;> simp
theorem sortS_len (l : List Str) : (sortS l).length ≤ l.length := by
  have : ∀ (l out : List Str), (l.foldl (fun out x => insS x out) out).length ≤ l.length + out.length := fun l => by
    induction l with
    | nil => intro out; simp
    | cons x l ih =>
      intro out
      have h1 := ih (insS x out)
      have h2 := insS_len x out
      simp only [List.foldl_cons, List.length_cons] at h1 ⊢
      omega
  simpa [sortS] using this l []
/-- Neighbour by neighbour. -/
def checkK : List Str → Bool
  | x :: y :: l => decide (x < y) && checkK (y :: l)
  | _ => true
theorem checkK_iff : ∀ l : List Str, checkK l = true ↔ Rise l
  | [] => by simp [checkK, Rise]
  | [x] => by simp [checkK, Rise]
  | x :: y :: l => by
    rw [checkK, Bool.and_eq_true, decide_eq_true_eq, checkK_iff (y :: l)]
    constructor
    · rintro ⟨h1, h2⟩
      refine List.pairwise_cons.2 ⟨fun z hz => ?_, h2⟩
      rcases List.mem_cons.1 hz with rfl | hz
      · exact h1
      · exact str_trans h1 ((List.pairwise_cons.1 h2).1 z hz)
    · intro h
      obtain ⟨h1, h2⟩ := List.pairwise_cons.1 h
      exact ⟨h1 y (by simp), h2⟩
theorem checkK_adj : ∀ l : List Str, checkK l = true ↔ ∀ k x y, l[k]? = some x → l[k + 1]? = some y → x < y
  | [] => by simp [checkK]
  | [x] => by
    simp only [checkK, true_iff]
    intro k a b _ h
    simp at h
  | x :: y :: l => by
    rw [checkK, Bool.and_eq_true, decide_eq_true_eq, checkK_adj (y :: l)]
    constructor
    · rintro ⟨h1, h2⟩ k a b ha hb
      cases k with
      | zero => simp at ha hb; subst ha hb; exact h1
      | succ k => exact h2 k a b (by simpa using ha) (by simpa using hb)
    · intro h
      exact ⟨h 0 x y rfl rfl, fun k a b ha hb => h (k + 1) a b (by simpa using ha) (by simpa using hb)⟩
theorem checkK_no {l : List Str} {k : Nat} {x y : Str} (hx : l[k]? = some x) (hy : l[k + 1]? = some y) (h : ¬ x < y) : checkK l = false := by
  cases hc : checkK l with
  | false => rfl
  | true => exact absurd ((checkK_adj l).1 hc k x y hx hy) h
theorem checkK_sortS (l : List Str) : checkK (sortS l) = true := (checkK_iff _).2 (rise_sortS l)
/-- What was collected without a key twice, sorted, is the set. -/
theorem sorted_is {ss l : List Str} (hnd : ss.Nodup) (hm : ∀ x, x ∈ ss ↔ x ∈ l) : ss.mergeSort leB = sortS l := by
  have tr : ∀ a b c : List UInt8, leB a b = true → leB b c = true → leB a c = true := fun a b c h1 h2 => by simp only [leB, decide_eq_true_eq] at *; exact List.le_trans h1 h2
  have to : ∀ a b : List UInt8, (leB a b || leB b a) = true := fun a b => by simp only [leB, Bool.or_eq_true, decide_eq_true_eq]; exact List.le_total a b
  have hp := List.mergeSort_perm ss leB
  have hnd2 : (ss.mergeSort leB).Nodup := hp.nodup_iff.2 hnd
  refine sortS_of ?_ fun x => by rw [hp.mem_iff, hm]
  have h1 := List.pairwise_mergeSort tr to ss
  refine (h1.and hnd2).imp fun {a b} ⟨h2, h3⟩ => ?_
  simp only [leB, decide_eq_true_eq] at h2
  rcases str_total a b with h | h | h
  · exact h
  · exact absurd h h3
  · exact absurd h (List.not_lt.2 h2)
end Go.Proofs.Ytnpgjobaibnknaa
