/- A pack of texts: KpA, KpB, KpC, KcA, KcB -/
import Derived.Sort.KeysCollected
/- Plain laws on lists of keys as sets: rising, sorted, with the same keys. No program in sight. -/
namespace Go.Proofs.YtodbmeklbamcfaaGreat

abbrev Str := List UInt8
theorem str_irrefl (x : Str) : ¬ x < x := List.lt_irrefl x
theorem str_trans {x y z : Str} (h : x < y) (h' : y < z) : x < z := List.lt_trans h h'
theorem str_total (x y : Str) : x < y ∨ x = y ∨ y < x := by
  by_cases h : x < y
  · exact .inl h
  · by_cases h' : y < x
    · exact .inr (.inr h')
    · exact .inr (.inl (List.le_antisymm (List.not_lt.1 h') (List.not_lt.1 h)))
def Rise (l : List Str) : Prop := l.Pairwise (· < ·)
theorem Rise.ext {a b : List Str} (ha : Rise a) (hb : Rise b) (h : ∀ x, x ∈ a ↔ x ∈ b) : a = b := by
  have na : a.Nodup := List.Pairwise.imp (fun {x y} (h : x < y) (e : x = y) => str_irrefl y (by rw [e] at h; exact h)) ha
  have nb : b.Nodup := List.Pairwise.imp (fun {x y} (h : x < y) (e : x = y) => str_irrefl y (by rw [e] at h; exact h)) hb
  exact List.Perm.eq_of_pairwise (le := fun x y => x < y) (fun x y _ _ h1 h2 => absurd (str_trans h1 h2) (str_irrefl x)) ha hb ((List.perm_ext_iff_of_nodup na nb).2 h)
def insS (x : Str) : List Str → List Str
  | [] => [x]
  | y :: l => if y < x then y :: insS x l else if y = x then y :: l else x :: y :: l
def sortS (l : List Str) : List Str := l.foldl (fun out x => insS x out) []
theorem mem_insS (x z : Str) (l : List Str) : z ∈ insS x l ↔ z = x ∨ z ∈ l := by
  induction l with
  | nil => simp [insS]
  | cons y l ih =>
    unfold insS
    by_cases h : y < x
    · rw [if_pos h, List.mem_cons, ih, List.mem_cons]
      constructor
      · rintro (h | h | h)
        · exact .inr (.inl h)
        · exact .inl h
        · exact .inr (.inr h)
      · rintro (h | h | h)
        · exact .inr (.inl h)
        · exact .inl h
        · exact .inr (.inr h)
    · rw [if_neg h]
      by_cases h2 : y = x
      · rw [if_pos h2]
        constructor
        · exact .inr
        · rintro (h | h)
          · rw [h, ← h2]; simp
          · exact h
      · rw [if_neg h2, List.mem_cons]
theorem rise_insS (x : Str) (l : List Str) (hl : Rise l) : Rise (insS x l) := by
  induction l with
  | nil => simp [insS, Rise]
  | cons y l ih =>
    have h0 := List.pairwise_cons.1 hl
    unfold insS
    by_cases h : y < x
    · rw [if_pos h]
      refine List.pairwise_cons.2 ⟨fun z hz => ?_, ih h0.2⟩
      rcases (mem_insS x z l).1 hz with rfl | hz
      · exact h
      · exact h0.1 z hz
    · rw [if_neg h]
      by_cases h2 : y = x
      · rw [if_pos h2]; exact hl
      · rw [if_neg h2]
        have hxy : x < y := by
          rcases str_total x y with h3 | h3 | h3
          · exact h3
          · exact absurd h3.symm h2
          · exact absurd h3 h
        refine List.pairwise_cons.2 ⟨fun z hz => ?_, hl⟩
        rcases List.mem_cons.1 hz with rfl | hz
        · exact hxy
        · exact str_trans hxy (h0.1 z hz)
theorem sortS_fold (l : List Str) : ∀ out : List Str, Rise out → Rise (l.foldl (fun out x => insS x out) out) ∧ ∀ z, z ∈ l.foldl (fun out x => insS x out) out ↔ z ∈ l ∨ z ∈ out := by
  induction l with
  | nil => intro out h; exact ⟨h, fun z => by simp⟩
  | cons x l ih =>
    intro out h
    obtain ⟨h1, h2⟩ := ih (insS x out) (rise_insS x out h)
    refine ⟨h1, fun z => ?_⟩
    rw [List.foldl_cons, h2 z, mem_insS, List.mem_cons]
    constructor
    · rintro (h | h | h)
      · exact .inl (.inr h)
      · exact .inl (.inl h)
      · exact .inr h
    · rintro ((h | h) | h)
      · exact .inr (.inl h)
      · exact .inl h
      · exact .inr (.inr h)
theorem rise_sortS (l : List Str) : Rise (sortS l) := (sortS_fold l [] List.Pairwise.nil).1
theorem mem_sortS (l : List Str) (z : Str) : z ∈ sortS l ↔ z ∈ l := by
  have := (sortS_fold l [] List.Pairwise.nil).2 z
  simpa [sortS] using this
theorem sortS_of {s l : List Str} (h : Rise s) (hm : ∀ x, x ∈ s ↔ x ∈ l) : s = sortS l := h.ext (rise_sortS l) fun x => by rw [hm, mem_sortS]
theorem sortS_self {l : List Str} (h : Rise l) : sortS l = l := (sortS_of h fun _ => Iff.rfl).symm
theorem rise_filter {l : List Str} (h : Rise l) (p : Str → Bool) : Rise (l.filter p) := h.sublist List.filter_sublist
theorem filter_sortS (l : List Str) (p : Str → Bool) : (sortS l).filter p = sortS (l.filter p) :=
  sortS_of (rise_filter (rise_sortS l) p) fun x => by rw [List.mem_filter, List.mem_filter, mem_sortS]
theorem insS_len (x : Str) (l : List Str) : (insS x l).length ≤ l.length + 1 := by
  induction l with
  | nil => simp [insS]
  | cons y l ih =>
    unfold insS
    split
    · simp only [List.length_cons]; omega
    · split <;> simp
theorem sortS_len (l : List Str) : (sortS l).length ≤ l.length := by
  have : ∀ (l out : List Str), (l.foldl (fun out x => insS x out) out).length ≤ l.length + out.length := fun l => by
    induction l with
    | nil => intro out; simp
    | cons x l ih =>
      intro out
      have h1 := ih (insS x out)
      have h2 := insS_len x out
      simp only [List.foldl_cons, List.length_cons] at h1 ⊢
      omega
  simpa [sortS] using this l []
/-- Neighbour by neighbour. -/
def checkK : List Str → Bool
  | x :: y :: l => decide (x < y) && checkK (y :: l)
  | _ => true
theorem checkK_iff : ∀ l : List Str, checkK l = true ↔ Rise l
  | [] => by simp [checkK, Rise]
  | [x] => by simp [checkK, Rise]
  | x :: y :: l => by
    rw [checkK, Bool.and_eq_true, decide_eq_true_eq, checkK_iff (y :: l)]
    constructor
    · rintro ⟨h1, h2⟩
      refine List.pairwise_cons.2 ⟨fun z hz => ?_, h2⟩
      rcases List.mem_cons.1 hz with rfl | hz
      · exact h1
      · exact str_trans h1 ((List.pairwise_cons.1 h2).1 z hz)
    · intro h
      obtain ⟨h1, h2⟩ := List.pairwise_cons.1 h
      exact ⟨h1 y (by simp), h2⟩
theorem checkK_adj : ∀ l : List Str, checkK l = true ↔ ∀ k x y, l[k]? = some x → l[k + 1]? = some y → x < y
  | [] => by simp [checkK]
  | [x] => by
    simp only [checkK, true_iff]
    intro k a b _ h
    simp at h
  | x :: y :: l => by
    rw [checkK, Bool.and_eq_true, decide_eq_true_eq, checkK_adj (y :: l)]
    constructor
    · rintro ⟨h1, h2⟩ k a b ha hb
      cases k with
      | zero => simp at ha hb; subst ha hb; exact h1
      | succ k => exact h2 k a b (by simpa using ha) (by simpa using hb)
    · intro h
      exact ⟨h 0 x y rfl rfl, fun k a b ha hb => h (k + 1) a b (by simpa using ha) (by simpa using hb)⟩
theorem checkK_no {l : List Str} {k : Nat} {x y : Str} (hx : l[k]? = some x) (hy : l[k + 1]? = some y) (h : ¬ x < y) : checkK l = false := by
  cases hc : checkK l with
  | false => rfl
  | true => exact absurd ((checkK_adj l).1 hc k x y hx hy) h
theorem checkK_sortS (l : List Str) : checkK (sortS l) = true := (checkK_iff _).2 (rise_sortS l)
/-- What was collected without a key twice, sorted, is the set. -/
theorem sorted_is {ss l : List Str} (hnd : ss.Nodup) (hm : ∀ x, x ∈ ss ↔ x ∈ l) : ss.mergeSort leB = sortS l := by
  have tr : ∀ a b c : List UInt8, leB a b = true → leB b c = true → leB a c = true := fun a b c h1 h2 => by simp only [leB, decide_eq_true_eq] at *; exact List.le_trans h1 h2
  have tot : ∀ a b : List UInt8, (leB a b || leB b a) = true := fun a b => by simp only [leB, Bool.or_eq_true, decide_eq_true_eq]; exact List.le_total a b
  have hp := List.mergeSort_perm ss leB
  have hnd2 : (ss.mergeSort leB).Nodup := hp.nodup_iff.2 hnd
  refine sortS_of ?_ fun x => by rw [hp.mem_iff, hm]
  have h1 := List.pairwise_mergeSort tr tot ss
  refine (h1.and hnd2).imp fun {a b} ⟨h2, h3⟩ => ?_
  simp only [leB, decide_eq_true_eq] at h2
  rcases str_total a b with h | h | h
  · exact h
  · exact absurd h h3
  · exact absurd h (List.not_lt.2 h2)
end Go.Proofs.YtodbmeklbamcfaaGreat

/- Plain laws on lists of keys as sets: what two lists have in common, or not. No program in sight. -/
namespace Go.Proofs.YtodbmeklbamcfaaGreat

def hasK (l : List Str) (k : Str) : Bool := decide (k ∈ l)
def unionS (a b : List Str) : List Str := sortS (a ++ b)
def walkS (a b : List Str) (both : Bool) : List Str := (sortS a).filter fun k => hasK b k == both
def minusS (a b : List Str) : List Str := walkS a b false
def bothS (a b : List Str) : List Str := walkS a b true
theorem mem_unionS (a b : List Str) (k : Str) : k ∈ unionS a b ↔ k ∈ a ∨ k ∈ b := by rw [unionS, mem_sortS, List.mem_append]
theorem mem_minusS (a b : List Str) (k : Str) : k ∈ minusS a b ↔ k ∈ a ∧ k ∉ b := by
  rw [minusS, walkS, List.mem_filter, mem_sortS, hasK]
  by_cases h : k ∈ b <;> simp [h]
theorem mem_bothS (a b : List Str) (k : Str) : k ∈ bothS a b ↔ k ∈ a ∧ k ∈ b := by
  rw [bothS, walkS, List.mem_filter, mem_sortS, hasK]
  by_cases h : k ∈ b <;> simp [h]
theorem rise_unionS (a b : List Str) : Rise (unionS a b) := rise_sortS _
theorem rise_minusS (a b : List Str) : Rise (minusS a b) := rise_filter (rise_sortS _) _
theorem rise_bothS (a b : List Str) : Rise (bothS a b) := rise_filter (rise_sortS _) _
theorem Rise.check {l : List Str} (h : Rise l) : checkK l = true := (checkK_iff l).2 h
theorem hasK_union (a b : List Str) (k : Str) : hasK (unionS a b) k = (hasK a k || hasK b k) := by
  rw [Bool.eq_iff_iff, Bool.or_eq_true, hasK, hasK, hasK, decide_eq_true_eq, decide_eq_true_eq, decide_eq_true_eq, mem_unionS]
theorem hasK_minus (a b : List Str) (k : Str) : hasK (minusS a b) k = (hasK a k && !hasK b k) := by
  rw [Bool.eq_iff_iff, Bool.and_eq_true, hasK, hasK, hasK, decide_eq_true_eq, decide_eq_true_eq, mem_minusS]
  by_cases h : k ∈ b <;> simp [h]
theorem hasK_both (a b : List Str) (k : Str) : hasK (bothS a b) k = (hasK a k && hasK b k) := by
  rw [Bool.eq_iff_iff, Bool.and_eq_true, hasK, hasK, hasK, decide_eq_true_eq, decide_eq_true_eq, decide_eq_true_eq, mem_bothS]
theorem union_comm' (a b : List Str) : unionS a b = unionS b a := (rise_unionS a b).ext (rise_unionS b a) fun x => by rw [mem_unionS, mem_unionS]; exact Or.comm
theorem both_comm (a b : List Str) : bothS a b = bothS b a := (rise_bothS a b).ext (rise_bothS b a) fun x => by rw [mem_bothS, mem_bothS]; exact And.comm
theorem union_parts (a b : List Str) : unionS (unionS (minusS a b) (minusS b a)) (bothS a b) = unionS a b :=
  (rise_unionS _ _).ext (rise_unionS _ _) fun x => by
    rw [mem_unionS, mem_unionS, mem_minusS, mem_minusS, mem_bothS, mem_unionS]
    by_cases h1 : x ∈ a <;> by_cases h2 : x ∈ b <;> simp [h1, h2]
theorem filter_parts (u : List Str) (p q : Str → Bool) (h : ∀ x ∈ u, p x = true ∨ q x = true) : u.length = (u.filter fun x => p x && !q x).length + (u.filter fun x => q x && !p x).length + (u.filter fun x => p x && q x).length := by
  induction u with
  | nil => rfl
  | cons x u ih =>
    have h1 := ih fun y hy => h y (by simp [hy])
    have h2 := h x (by simp)
    simp only [List.filter_cons]
    cases hp : p x <;> cases hq : q x <;> simp [hp, hq] at h2 ⊢ <;> omega
theorem union_len (a b : List Str) : (unionS a b).length = (minusS a b).length + (minusS b a).length + (bothS a b).length := by
  rw [filter_parts (unionS a b) (hasK a) (hasK b) (fun x hx => by rw [hasK, hasK, decide_eq_true_eq, decide_eq_true_eq]; exact (mem_unionS a b x).1 hx)]
  congr 1
  · congr 1
    · congr 1
      refine (rise_filter (rise_unionS a b) _).ext (rise_minusS a b) fun x => ?_
      rw [List.mem_filter, mem_unionS, mem_minusS, hasK, hasK]
      by_cases h1 : x ∈ a <;> by_cases h2 : x ∈ b <;> simp [h1, h2]
    · congr 1
      refine (rise_filter (rise_unionS a b) _).ext (rise_minusS b a) fun x => ?_
      rw [List.mem_filter, mem_unionS, mem_minusS, hasK, hasK]
      by_cases h1 : x ∈ a <;> by_cases h2 : x ∈ b <;> simp [h1, h2]
  · congr 1
    refine (rise_filter (rise_unionS a b) _).ext (rise_bothS a b) fun x => ?_
    rw [List.mem_filter, mem_unionS, mem_bothS, hasK, hasK]
    by_cases h1 : x ∈ a <;> by_cases h2 : x ∈ b <;> simp [h1, h2]
theorem minus_len (a b : List Str) : (minusS a b).length ≤ a.length := Nat.le_trans (List.length_filter_le _ _) (sortS_len a)
theorem both_len (a b : List Str) : (bothS a b).length ≤ a.length := Nat.le_trans (List.length_filter_le _ _) (sortS_len a)
theorem union_le (a b : List Str) : (unionS a b).length ≤ a.length + b.length := by have := sortS_len (a ++ b); rwa [List.length_append] at this
theorem minus_sort (a b : List Str) : minusS a b = sortS (a.filter fun k => !hasK b k) := by
  rw [minusS, walkS, filter_sortS]
  congr 1
  refine List.filter_congr fun x _ => ?_
  cases hasK b x <;> rfl
theorem both_sort (a b : List Str) : bothS a b = sortS (a.filter fun k => hasK b k) := by
  rw [bothS, walkS, filter_sortS]
  congr 1
  refine List.filter_congr fun x _ => ?_
  cases hasK b x <;> rfl
theorem sortS_idem (l : List Str) : sortS (sortS l) = sortS l := sortS_self (rise_sortS l)
theorem check_same (l : List Str) : checkK l = decide (sortS l = l) := by
  rw [Bool.eq_iff_iff, checkK_iff, decide_eq_true_eq]
  exact ⟨sortS_self, fun h => h ▸ rise_sortS l⟩
theorem sortS_nil (l : List Str) : (sortS l = []) ↔ l = [] := by
  constructor
  · intro h
    cases l with
    | nil => rfl
    | cons x l => have := (mem_sortS (x :: l) x).2 (by simp); rw [h] at this; cases this
  · rintro rfl; rfl
end Go.Proofs.YtodbmeklbamcfaaGreat

/- Plain laws on two sorted lists gone through together. No program in sight. -/
namespace Go.Proofs.YtodbmeklbamcfaaGreat

structure WSt (xs ys px mx py my : List Str) : Prop where
  hx : xs = px ++ mx
  hy : ys = py ++ my
  lt : ∀ y ∈ py, ∀ x ∈ mx, y < x
theorem WSt.start (xs ys : List Str) : WSt xs ys [] xs [] ys := ⟨rfl, rfl, fun y h => by cases h⟩
theorem WSt.skip {xs ys px mx py my : List Str} {x y : Str} (hr : Rise xs) (h : WSt xs ys px (x :: mx) py (y :: my)) (hl : y < x) : WSt xs ys px (x :: mx) (py ++ [y]) my := by
  refine ⟨h.hx, by rw [h.hy]; simp, fun z hz x' hx' => ?_⟩
  rcases List.mem_append.1 hz with hz | hz
  · exact h.lt z hz x' hx'
  · simp at hz
    subst hz
    rcases List.mem_cons.1 hx' with rfl | hx'
    · exact hl
    · have h1 : Rise (x :: mx) := by have := hr; rw [h.hx] at this; exact (List.pairwise_append.1 this).2.1
      exact str_trans hl ((List.pairwise_cons.1 h1).1 x' hx')
theorem WSt.step {xs ys px mx py my : List Str} {x : Str} (h : WSt xs ys px (x :: mx) py my) : WSt xs ys (px ++ [x]) mx py my :=
  ⟨by rw [h.hx]; simp, h.hy, fun y hy x' hx' => h.lt y hy x' (by simp [hx'])⟩
theorem WSt.has_none {xs ys px mx py : List Str} {x : Str} (h : WSt xs ys px (x :: mx) py []) : hasK ys x = false := by
  refine decide_eq_false fun hm => ?_
  rw [h.hy, List.append_nil] at hm
  exact str_irrefl x (h.lt x hm x (by simp))
theorem WSt.has_some {xs ys px mx py my : List Str} {x y : Str} (hr : Rise ys) (h : WSt xs ys px (x :: mx) py (y :: my)) (hl : ¬ y < x) : hasK ys x = decide (y = x) := by
  unfold hasK
  rw [decide_eq_decide]
  constructor
  · intro hm
    rw [h.hy] at hm
    rcases List.mem_append.1 hm with hm | hm
    · exact absurd (h.lt x hm x (by simp)) (str_irrefl x)
    · rcases List.mem_cons.1 hm with hm | hm
      · exact hm.symm
      · have h1 : Rise (y :: my) := by have := hr; rw [h.hy] at this; exact (List.pairwise_append.1 this).2.1
        exact absurd ((List.pairwise_cons.1 h1).1 x hm) hl
  · rintro rfl
    rw [h.hy]; simp
theorem WSt.done {xs ys px py my : List Str} (h : WSt xs ys px [] py my) : px = xs := by rw [h.hx, List.append_nil]
theorem filter_snoc (px : List Str) (x : Str) (p : Str → Bool) : (px ++ [x]).filter p = if p x then px.filter p ++ [x] else px.filter p := by
  rw [List.filter_append]
  cases h : p x <;> simp [h]
theorem hasK_sort (b : List Str) (k : Str) : hasK (sortS b) k = hasK b k := by unfold hasK; rw [decide_eq_decide, mem_sortS]
theorem walkS_eq (a b : List Str) (both : Bool) : walkS a b both = (sortS a).filter fun k => hasK (sortS b) k == both := by
  unfold walkS
  refine List.filter_congr fun x _ => ?_
  rw [hasK_sort]
end Go.Proofs.YtodbmeklbamcfaaGreat

/- Plain laws on states: rising keys and their values; what writes do to them; what leads from one to another one. No program in sight. -/
namespace Go.Proofs.YtodbmeklbamcfaaGreat

structure Pr where
  k : Str
  v : Str
structure Wt where
  k : Str
  v : Str
  d : Bool
instance : DecidableEq Pr := fun a b => decidable_of_iff (a.k = b.k ∧ a.v = b.v) ⟨fun ⟨h1, h2⟩ => by cases a; cases b; simp_all, fun h => by subst h; exact ⟨rfl, rfl⟩⟩
instance : DecidableEq Wt := fun a b => decidable_of_iff (a.k = b.k ∧ a.v = b.v ∧ a.d = b.d) ⟨fun ⟨h1, h2, h3⟩ => by cases a; cases b; simp_all, fun h => by subst h; exact ⟨rfl, rfl, rfl⟩⟩
def keyB (k : Str) : Bool := decide (1 ≤ k.length) && decide (k.length ≤ 32)
def okP (p : Pr) : Bool := keyB p.k && decide (p.v.length ≤ 64)
def RiseP (l : List Pr) : Prop := Rise (l.map Pr.k)
def goodP (l : List Pr) : Bool := l.all okP && checkK (l.map Pr.k)
def checkS (l : List Pr) : Int := if 65536 < l.length then 3 else if goodP l then 0 else 2
theorem goodP_iff (l : List Pr) : goodP l = true ↔ (∀ p ∈ l, okP p = true) ∧ RiseP l := by
  unfold goodP RiseP
  rw [Bool.and_eq_true, List.all_eq_true, checkK_iff]
theorem checkS_ok (l : List Pr) : checkS l = 0 ↔ l.length ≤ 65536 ∧ goodP l = true := by
  unfold checkS
  split
  · constructor
    · intro h; omega
    · intro h; omega
  · split
    · rename_i h1 h2; exact ⟨fun _ => ⟨by omega, h2⟩, fun _ => rfl⟩
    · rename_i h1 h2; exact ⟨fun h => by omega, fun h => absurd h.2 h2⟩
theorem checkS_rise {l : List Pr} (h : checkS l = 0) : RiseP l := ((goodP_iff l).1 ((checkS_ok l).1 h).2).2
theorem RiseP.cons {p : Pr} {l : List Pr} (h : RiseP (p :: l)) : (∀ q ∈ l, p.k < q.k) ∧ RiseP l := by
  unfold RiseP Rise at h
  rw [List.map_cons, List.pairwise_cons] at h
  exact ⟨fun q hq => h.1 q.k (List.mem_map.2 ⟨q, hq, rfl⟩), h.2⟩
theorem RiseP.mk {p : Pr} {l : List Pr} (h : ∀ q ∈ l, p.k < q.k) (hl : RiseP l) : RiseP (p :: l) := by
  unfold RiseP Rise
  rw [List.map_cons, List.pairwise_cons]
  refine ⟨fun x hx => ?_, hl⟩
  obtain ⟨q, hq, rfl⟩ := List.mem_map.1 hx
  exact h q hq

/-- What a key has. -/
def lookP (l : List Pr) (k : Str) : Option Str := (l.find? fun p => decide (p.k = k)).map Pr.v
theorem look_nil (k : Str) : lookP [] k = none := rfl
theorem look_cons (p : Pr) (l : List Pr) (k : Str) : lookP (p :: l) k = if p.k = k then some p.v else lookP l k := by
  unfold lookP
  by_cases h : p.k = k <;> simp [h]
theorem look_none {l : List Pr} {k : Str} (h : ∀ p ∈ l, p.k ≠ k) : lookP l k = none := by
  induction l with
  | nil => rfl
  | cons p l ih => rw [look_cons, if_neg (h p (by simp)), ih fun q hq => h q (by simp [hq])]
theorem look_mem {l : List Pr} {k v : Str} (h : lookP l k = some v) : ⟨k, v⟩ ∈ l := by
  induction l with
  | nil => cases h
  | cons p l ih =>
    rw [look_cons] at h
    by_cases e : p.k = k
    · rw [if_pos e] at h
      have : p = ⟨k, v⟩ := by cases p; simp at h e; subst h e; rfl
      simp [this]
    · rw [if_neg e] at h
      exact List.mem_cons_of_mem _ (ih h)
theorem mem_look {l : List Pr} (hl : RiseP l) {p : Pr} (h : p ∈ l) : lookP l p.k = some p.v := by
  induction l with
  | nil => cases h
  | cons q l ih =>
    rw [look_cons]
    rcases List.mem_cons.1 h with rfl | h
    · rw [if_pos rfl]
    · rw [if_neg (fun e => str_irrefl p.k (by have := hl.cons.1 p h; rwa [e] at this)), ih hl.cons.2 h]
theorem RiseP.ext {a b : List Pr} (ha : RiseP a) (hb : RiseP b) (h : ∀ k, lookP a k = lookP b k) : a = b := by
  induction a generalizing b with
  | nil =>
    cases b with
    | nil => rfl
    | cons q b => have := h q.k; rw [look_nil, look_cons, if_pos rfl] at this; cases this
  | cons p a ih =>
    cases b with
    | nil => have := h p.k; rw [look_nil, look_cons, if_pos rfl] at this; cases this
    | cons q b =>
      have hp : q.k = p.k := by
        rcases str_total q.k p.k with e | e | e
        · have h1 := h q.k
          rw [look_cons q, if_pos rfl, look_none (l := p :: a)] at h1
          · cases h1
          · intro r hr er
            rcases List.mem_cons.1 hr with rfl | hr
            · exact str_irrefl _ (by rw [er] at e; exact e)
            · have := ha.cons.1 r hr; rw [er] at this; exact str_irrefl _ (str_trans e this)
        · exact e
        · have h1 := h p.k
          rw [look_cons p, if_pos rfl, look_none (l := q :: b)] at h1
          · cases h1
          · intro r hr er
            rcases List.mem_cons.1 hr with rfl | hr
            · exact str_irrefl _ (by rw [er] at e; exact e)
            · have := hb.cons.1 r hr; rw [er] at this; exact str_irrefl _ (str_trans e this)
      have hv : p.v = q.v := by
        have h1 := h p.k
        rw [look_cons, if_pos rfl, look_cons, if_pos hp] at h1
        exact Option.some.inj h1
      have hpq : p = q := by cases p; cases q; simp at hp hv; subst hp hv; rfl
      subst hpq
      congr 1
      refine ih ha.cons.2 hb.cons.2 fun k => ?_
      have h1 := h k
      rw [look_cons, look_cons] at h1
      by_cases e : p.k = k
      · rw [look_none fun r hr er => str_irrefl k (by have := ha.cons.1 r hr; rwa [e, er] at this), look_none fun r hr er => str_irrefl k (by have := hb.cons.1 r hr; rwa [e, er] at this)]
      · rwa [if_neg e, if_neg e] at h1

/-- A state behind a write. -/
def oneP (w : Wt) : List Pr → List Pr
  | [] => if w.d then [] else [⟨w.k, w.v⟩]
  | p :: l => if p.k < w.k then p :: oneP w l else if p.k = w.k then (if w.d then l else ⟨w.k, w.v⟩ :: l) else (if w.d then p :: l else ⟨w.k, w.v⟩ :: p :: l)
def applyP (l : List Pr) (ws : List Wt) : List Pr := ws.foldl (fun l w => oneP w l) l
theorem mem_oneP {w : Wt} {l : List Pr} {p : Pr} (h : p ∈ oneP w l) : p ∈ l ∨ (p = ⟨w.k, w.v⟩ ∧ w.d = false) := by
  induction l with
  | nil =>
    unfold oneP at h
    cases hd : w.d <;> simp [hd] at h
    exact .inr ⟨h, rfl⟩
  | cons q l ih =>
    unfold oneP at h
    by_cases h1 : q.k < w.k
    · rw [if_pos h1] at h
      rcases List.mem_cons.1 h with h | h
      · exact .inl (by simp [h])
      · rcases ih h with h | h
        · exact .inl (by simp [h])
        · exact .inr h
    · rw [if_neg h1] at h
      by_cases h2 : q.k = w.k
      · rw [if_pos h2] at h
        cases hd : w.d <;> simp [hd] at h
        · rcases h with h | h
          · exact .inr ⟨h, rfl⟩
          · exact .inl (by simp [h])
        · exact .inl (by simp [h])
      · rw [if_neg h2] at h
        cases hd : w.d <;> simp [hd] at h
        · rcases h with h | h | h
          · exact .inr ⟨h, rfl⟩
          · exact .inl (by simp [h])
          · exact .inl (by simp [h])
        · rcases h with h | h
          · exact .inl (by simp [h])
          · exact .inl (by simp [h])
theorem rise_oneP (w : Wt) {l : List Pr} (hl : RiseP l) : RiseP (oneP w l) := by
  induction l with
  | nil => unfold oneP; cases w.d <;> simp [RiseP, Rise]
  | cons p l ih =>
    unfold oneP
    by_cases h1 : p.k < w.k
    · rw [if_pos h1]
      refine RiseP.mk (fun q hq => ?_) (ih hl.cons.2)
      rcases mem_oneP hq with h | ⟨rfl, _⟩
      · exact hl.cons.1 q h
      · exact h1
    · rw [if_neg h1]
      by_cases h2 : p.k = w.k
      · rw [if_pos h2]
        cases w.d
        · exact RiseP.mk (fun q hq => by have := hl.cons.1 q hq; rwa [h2] at this) hl.cons.2
        · exact hl.cons.2
      · rw [if_neg h2]
        have h3 : w.k < p.k := by
          rcases str_total w.k p.k with h | h | h
          · exact h
          · exact absurd h.symm h2
          · exact absurd h h1
        cases w.d
        · refine RiseP.mk (fun q hq => ?_) hl
          rcases List.mem_cons.1 hq with rfl | hq
          · exact h3
          · exact str_trans h3 (hl.cons.1 q hq)
        · exact hl
theorem look_oneP (w : Wt) {l : List Pr} (hl : RiseP l) (k : Str) : lookP (oneP w l) k = if w.k = k then (if w.d then none else some w.v) else lookP l k := by
  induction l with
  | nil =>
    unfold oneP
    cases w.d
    · simp only [Bool.false_eq_true, if_false]
      rw [look_cons]
    · simp only [if_true]
      rw [look_nil]
      split <;> rfl
  | cons p l ih =>
    unfold oneP
    by_cases h1 : p.k < w.k
    · rw [if_pos h1, look_cons, ih hl.cons.2, look_cons]
      by_cases e : p.k = k
      · rw [if_pos e, if_pos e, if_neg fun e2 => str_irrefl k (by rwa [e, e2] at h1)]
      · rw [if_neg e, if_neg e]
    · rw [if_neg h1]
      by_cases h2 : p.k = w.k
      · rw [if_pos h2]
        cases w.d
        · simp only [Bool.false_eq_true, if_false]
          rw [look_cons, look_cons, h2]
          by_cases e : w.k = k
          · simp [e]
          · simp [e]
        · simp only [if_true]
          rw [look_cons, h2]
          by_cases e : w.k = k
          · rw [if_pos e]
            exact look_none fun q hq eq => str_irrefl k (by have := hl.cons.1 q hq; rwa [h2, e, eq] at this)
          · rw [if_neg e, if_neg e]
      · rw [if_neg h2]
        have h3 : w.k < p.k := by
          rcases str_total w.k p.k with h | h | h
          · exact h
          · exact absurd h.symm h2
          · exact absurd h h1
        cases w.d
        · simp only [Bool.false_eq_true, if_false]
          rw [look_cons]
        · simp only [if_true]
          by_cases e : w.k = k
          · rw [if_pos e]
            refine look_none fun q hq eq => ?_
            rcases List.mem_cons.1 hq with rfl | hq
            · exact str_irrefl k (by rwa [e, eq] at h3)
            · exact str_irrefl k (by have := str_trans h3 (hl.cons.1 q hq); rwa [e, eq] at this)
          · rw [if_neg e]
theorem rise_applyP {l : List Pr} (hl : RiseP l) (ws : List Wt) : RiseP (applyP l ws) := by
  induction ws generalizing l with
  | nil => exact hl
  | cons w ws ih => exact ih (rise_oneP w hl)
theorem applyP_snoc (l : List Pr) (ws : List Wt) (w : Wt) : applyP l (ws ++ [w]) = oneP w (applyP l ws) := by
  unfold applyP
  rw [List.foldl_append]
  rfl
theorem applyP_append (l : List Pr) (ws vs : List Wt) : applyP l (ws ++ vs) = applyP (applyP l ws) vs := by
  unfold applyP
  rw [List.foldl_append]
/-- May a write be? -/
def mayW (w : Wt) : Bool := keyB w.k && decide (w.v.length ≤ 64) && (!w.d || decide (w.v = []))
theorem ok_oneP {w : Wt} (hw : mayW w = true) {l : List Pr} (hl : ∀ p ∈ l, okP p = true) : ∀ p ∈ oneP w l, okP p = true := fun p hp => by
  rcases mem_oneP hp with h | ⟨rfl, _⟩
  · exact hl p h
  · unfold mayW at hw
    rw [Bool.and_eq_true] at hw
    exact hw.1
theorem ok_applyP {ws : List Wt} (hw : ∀ w ∈ ws, mayW w = true) {l : List Pr} (hl : ∀ p ∈ l, okP p = true) : ∀ p ∈ applyP l ws, okP p = true := by
  induction ws generalizing l with
  | nil => exact hl
  | cons w ws ih => exact ih (fun v hv => hw v (by simp [hv])) (ok_oneP (hw w (by simp)) hl)
theorem len_oneP (w : Wt) (l : List Pr) : (oneP w l).length ≤ l.length + 1 := by
  induction l with
  | nil => unfold oneP; cases w.d <;> simp
  | cons p l ih =>
    unfold oneP
    split
    · simp only [List.length_cons]; omega
    · split
      · cases w.d
        · simp
        · simp only [if_true, List.length_cons]; omega
      · cases w.d <;> simp
theorem len_applyP (l : List Pr) (ws : List Wt) : (applyP l ws).length ≤ l.length + ws.length := by
  induction ws generalizing l with
  | nil => simp [applyP]
  | cons w ws ih =>
    have h1 := ih (oneP w l)
    have h2 := len_oneP w l
    have h3 : applyP l (w :: ws) = applyP (oneP w l) ws := rfl
    rw [h3, List.length_cons]
    omega
/-- What stands behind writes, or just the error. -/
def applyE (l : List Pr) (ws : List Wt) : List Pr × Int :=
  if checkS l = 0 then (if ws.all mayW then (if 65536 < (applyP l ws).length then ([], 3) else (applyP l ws, 0)) else ([], 2)) else ([], checkS l)
theorem applyE_ok {l : List Pr} {ws : List Wt} (h : (applyE l ws).2 = 0) : checkS l = 0 ∧ (∀ w ∈ ws, mayW w = true) ∧ (applyE l ws).1 = applyP l ws ∧ checkS (applyP l ws) = 0 := by
  unfold applyE at h ⊢
  by_cases h1 : checkS l = 0
  · rw [if_pos h1] at h ⊢
    by_cases h2 : ws.all mayW = true
    · rw [if_pos h2] at h ⊢
      by_cases h3 : 65536 < (applyP l ws).length
      · rw [if_pos h3] at h; exact absurd h (by simp)
      · rw [if_neg h3]
        have h4 := (goodP_iff l).1 ((checkS_ok l).1 h1).2
        exact ⟨h1, List.all_eq_true.1 h2, rfl, (checkS_ok _).2 ⟨by omega, (goodP_iff _).2 ⟨ok_applyP (List.all_eq_true.1 h2) h4.1, rise_applyP h4.2 ws⟩⟩⟩
    · rw [if_neg h2] at h; exact absurd h (by simp)
  · rw [if_neg h1] at h; exact absurd h h1
theorem applyE_bad {l : List Pr} {ws : List Wt} (h : (applyE l ws).2 ≠ 0) : (applyE l ws).1 = [] := by
  unfold applyE at h ⊢
  split at h
  · split at h
    · split at h
      · rename_i h1 h2 h3; rw [if_pos h1, if_pos h2, if_pos h3]
      · exact absurd rfl h
    · rename_i h1 h2; rw [if_pos h1, if_neg h2]
  · rename_i h1; rw [if_neg h1]
/-- Where a key stands, or would. -/
def atP (l : List Pr) (k : Str) : Nat := (l.takeWhile fun p => decide (p.k < k)).length
theorem atP_le (l : List Pr) (k : Str) : atP l k ≤ l.length := (List.takeWhile_prefix _).length_le
theorem atP_cons (p : Pr) (l : List Pr) (k : Str) : atP (p :: l) k = if p.k < k then atP l k + 1 else 0 := by
  unfold atP
  by_cases h : p.k < k <;> simp [h]
theorem atP_lt {l : List Pr} {k : Str} {j : Nat} {p : Pr} (hj : j < atP l k) (hp : l[j]? = some p) : p.k < k := by
  induction l generalizing j with
  | nil => cases hp
  | cons q l ih =>
    rw [atP_cons] at hj
    split at hj
    · cases j with
      | zero => simp at hp; subst hp; assumption
      | succ j => exact ih (j := j) (by omega) (by simpa using hp)
    · omega
theorem atP_ge {l : List Pr} (hl : RiseP l) {k : Str} {j : Nat} {p : Pr} (hj : atP l k ≤ j) (hp : l[j]? = some p) : ¬ p.k < k := by
  induction l generalizing j with
  | nil => cases hp
  | cons q l ih =>
    rw [atP_cons] at hj
    split at hj
    · cases j with
      | zero => omega
      | succ j => exact ih hl.cons.2 (j := j) (by omega) (by simpa using hp)
    · rename_i hq
      cases j with
      | zero => simp at hp; subst hp; exact hq
      | succ j =>
        intro h
        have := hl.cons.1 p (List.mem_of_getElem? (by simpa using hp : l[j]? = some p))
        exact hq (str_trans this h)
theorem atP_eq {l : List Pr} {k : Str} {n : Nat} (hn : n ≤ l.length) (h1 : ∀ j p, j < n → l[j]? = some p → p.k < k) (h2 : ∀ p, l[n]? = some p → ¬ p.k < k) : atP l k = n := by
  induction l generalizing n with
  | nil => simp at hn; subst hn; rfl
  | cons q l ih =>
    rw [atP_cons]
    cases n with
    | zero => rw [if_neg (h2 q rfl)]
    | succ n =>
      rw [if_pos (h1 0 q (by omega) rfl)]
      rw [ih (n := n) (by simpa using hn) (fun j p hj hp => h1 (j + 1) p (by omega) (by simpa using hp)) (fun p hp => h2 p (by simpa using hp))]
theorem look_atP {l : List Pr} (hl : RiseP l) (k : Str) : lookP l k = (l[atP l k]?).bind fun p => if p.k = k then some p.v else none := by
  induction l with
  | nil => rfl
  | cons p l ih =>
    rw [look_cons, atP_cons]
    by_cases h : p.k < k
    · rw [if_pos h, if_neg (fun e => str_irrefl k (by rwa [e] at h)), ih hl.cons.2]
      simp
    · rw [if_neg h]
      by_cases e : p.k = k
      · simp [e]
      · rw [if_neg e]
        simp [e]
        refine look_none fun q hq eq => ?_
        have h1 := hl.cons.1 q hq
        rw [eq] at h1
        exact h h1
theorem oneP_atP (w : Wt) : ∀ (l : List Pr), oneP w l = l.take (atP l w.k) ++ (if w.d then [] else [⟨w.k, w.v⟩]) ++ l.drop (atP l w.k + if (l[atP l w.k]?).any (fun p => decide (p.k = w.k)) then 1 else 0)
  | [] => by unfold oneP; cases w.d <;> simp [atP]
  | p :: l => by
    unfold oneP
    rw [atP_cons]
    by_cases h : p.k < w.k
    · rw [if_pos h, if_pos h, oneP_atP w l]
      simp only [List.take_succ_cons, List.cons_append, List.getElem?_cons_succ, List.append_assoc, List.cons.injEq, true_and]
      congr 2
      rw [show atP l w.k + 1 + (if (l[atP l w.k]?).any (fun p => decide (p.k = w.k)) = true then 1 else 0) = (atP l w.k + (if (l[atP l w.k]?).any (fun p => decide (p.k = w.k)) = true then 1 else 0)) + 1 by omega, List.drop_succ_cons]
    · rw [if_neg h, if_neg h]
      by_cases e : p.k = w.k
      · rw [if_pos e]; cases w.d <;> simp [e]
      · rw [if_neg e]; cases w.d <;> simp [e]
end Go.Proofs.YtodbmeklbamcfaaGreat

/- Plain laws on states: what leads from one to another one; spans that are gone through. No program in sight. -/
namespace Go.Proofs.YtodbmeklbamcfaaGreat

def diffP : List Pr → List Pr → List Wt
  | [], [] => []
  | p :: a, [] => ⟨p.k, [], true⟩ :: diffP a []
  | [], q :: b => ⟨q.k, q.v, false⟩ :: diffP [] b
  | p :: a, q :: b =>
    if p.k < q.k then ⟨p.k, [], true⟩ :: diffP a (q :: b)
    else if q.k < p.k then ⟨q.k, q.v, false⟩ :: diffP (p :: a) b
    else (if p.v = q.v then [] else [⟨q.k, q.v, false⟩]) ++ diffP a b
termination_by a b => a.length + b.length
def diffE (a b : List Pr) : List Wt := if checkS a = 0 ∧ checkS b = 0 then diffP a b else []
def changedE (a b : List Pr) : List Str := (diffE a b).map Wt.k
/-- What a write says of a key. -/
def Wt.says (w : Wt) : Option Str := if w.d then none else some w.v
theorem diff_mem {a b : List Pr} {w : Wt} (h : w ∈ diffP a b) : (w.d = true ∧ w.v = [] ∧ ∃ p ∈ a, p.k = w.k) ∨ (w.d = false ∧ ⟨w.k, w.v⟩ ∈ b) := by
  fun_induction diffP a b with
  | case1 => cases h
  | case2 p a ih =>
    rcases List.mem_cons.1 h with rfl | h
    · exact .inl ⟨rfl, rfl, p, by simp, rfl⟩
    · rcases ih h with ⟨h1, h2, q, hq, h3⟩ | ⟨h1, h2⟩
      · exact .inl ⟨h1, h2, q, by simp [hq], h3⟩
      · cases h2
  | case3 q b ih =>
    rcases List.mem_cons.1 h with rfl | h
    · exact .inr ⟨rfl, by simp⟩
    · rcases ih h with ⟨_, _, q, hq, _⟩ | ⟨h1, h2⟩
      · cases hq
      · exact .inr ⟨h1, by simp [h2]⟩
  | case4 p a q b hlt ih =>
    rcases List.mem_cons.1 h with rfl | h
    · exact .inl ⟨rfl, rfl, p, by simp, rfl⟩
    · rcases ih h with ⟨h1, h2, q', hq, h3⟩ | ⟨h1, h2⟩
      · exact .inl ⟨h1, h2, q', by simp [hq], h3⟩
      · exact .inr ⟨h1, h2⟩
  | case5 p a q b h1' h2' ih =>
    rcases List.mem_cons.1 h with rfl | h
    · exact .inr ⟨rfl, by simp⟩
    · rcases ih h with ⟨h1, h2, q', hq, h3⟩ | ⟨h1, h2⟩
      · exact .inl ⟨h1, h2, q', hq, h3⟩
      · exact .inr ⟨h1, by simp [h2]⟩
  | case6 p a q b h1' h2' ih =>
    rcases List.mem_append.1 h with h | h
    · split at h
      · cases h
      · simp at h; subst h; exact .inr ⟨rfl, by simp⟩
    · rcases ih h with ⟨h1, h2, q', hq, h3⟩ | ⟨h1, h2⟩
      · exact .inl ⟨h1, h2, q', by simp [hq], h3⟩
      · exact .inr ⟨h1, by simp [h2]⟩
theorem diff_key {a b : List Pr} {w : Wt} (h : w ∈ diffP a b) : (∃ p ∈ a, p.k = w.k) ∨ ∃ p ∈ b, p.k = w.k := by
  rcases diff_mem h with ⟨_, _, h⟩ | ⟨_, h⟩
  · exact .inl h
  · exact .inr ⟨_, h, rfl⟩
theorem not_lt_both {x y : Str} (h1 : ¬ x < y) (h2 : ¬ y < x) : x = y := by
  rcases str_total x y with h | h | h
  · exact absurd h h1
  · exact h
  · exact absurd h h2
theorem diff_rise {a b : List Pr} (ha : RiseP a) (hb : RiseP b) : Rise ((diffP a b).map Wt.k) := by
  fun_induction diffP a b with
  | case1 => exact List.Pairwise.nil
  | case2 p a ih =>
    refine List.pairwise_cons.2 ⟨fun x hx => ?_, ih ha.cons.2 hb⟩
    obtain ⟨w, hw, rfl⟩ := List.mem_map.1 hx
    rcases diff_key hw with ⟨r, hr, e⟩ | ⟨r, hr, e⟩
    · rw [← e]; exact ha.cons.1 r hr
    · cases hr
  | case3 q b ih =>
    refine List.pairwise_cons.2 ⟨fun x hx => ?_, ih ha hb.cons.2⟩
    obtain ⟨w, hw, rfl⟩ := List.mem_map.1 hx
    rcases diff_key hw with ⟨r, hr, e⟩ | ⟨r, hr, e⟩
    · cases hr
    · rw [← e]; exact hb.cons.1 r hr
  | case4 p a q b hlt ih =>
    refine List.pairwise_cons.2 ⟨fun x hx => ?_, ih ha.cons.2 hb⟩
    obtain ⟨w, hw, rfl⟩ := List.mem_map.1 hx
    rcases diff_key hw with ⟨r, hr, e⟩ | ⟨r, hr, e⟩
    · rw [← e]; exact ha.cons.1 r hr
    · rw [← e]
      rcases List.mem_cons.1 hr with rfl | hr
      · exact hlt
      · exact str_trans hlt (hb.cons.1 r hr)
  | case5 p a q b h1 hlt ih =>
    refine List.pairwise_cons.2 ⟨fun x hx => ?_, ih ha hb.cons.2⟩
    obtain ⟨w, hw, rfl⟩ := List.mem_map.1 hx
    rcases diff_key hw with ⟨r, hr, e⟩ | ⟨r, hr, e⟩
    · rw [← e]
      rcases List.mem_cons.1 hr with rfl | hr
      · exact hlt
      · exact str_trans hlt (ha.cons.1 r hr)
    · rw [← e]; exact hb.cons.1 r hr
  | case6 p a q b h1 h2 ih =>
    have ih' := ih ha.cons.2 hb.cons.2
    have hk := not_lt_both h1 h2
    split
    · simpa using ih'
    · rw [List.cons_append, List.nil_append, List.map_cons]
      refine List.pairwise_cons.2 ⟨fun x hx => ?_, ih'⟩
      obtain ⟨w, hw, rfl⟩ := List.mem_map.1 hx
      rcases diff_key hw with ⟨r, hr, e⟩ | ⟨r, hr, e⟩
      · rw [← e]; show q.k < r.k; rw [← hk]; exact ha.cons.1 r hr
      · rw [← e]; exact hb.cons.1 r hr
/-- The writes of unlike keys, gone through: what a key has. -/
theorem look_apply_rise {l : List Pr} (hl : RiseP l) {ws : List Wt} (h : Rise (ws.map Wt.k)) (k : Str) : lookP (applyP l ws) k = match ws.find? (fun w => decide (w.k = k)) with | some w => w.says | none => lookP l k := by
  induction ws generalizing l with
  | nil => rfl
  | cons w ws ih =>
    have h0 := List.pairwise_cons.1 h
    have e1 : applyP l (w :: ws) = applyP (oneP w l) ws := rfl
    rw [e1, ih (rise_oneP w hl) h0.2, List.find?_cons]
    by_cases e : w.k = k
    · have : ws.find? (fun w => decide (w.k = k)) = none := by
        rw [List.find?_eq_none]
        intro x hx ex
        have e2 : x.k = k := of_decide_eq_true ex
        have := h0.1 x.k (List.mem_map.2 ⟨x, hx, rfl⟩)
        rw [e, e2] at this
        exact str_irrefl k this
      rw [this]
      simp only [e, decide_true, look_oneP w hl, if_true]
      rfl
    · simp only [e, decide_false, look_oneP w hl, if_false]
theorem diff_find {a b : List Pr} (ha : RiseP a) (hb : RiseP b) (k : Str) : (diffP a b).find? (fun w => decide (w.k = k)) = if lookP a k = lookP b k then none else some ⟨k, (lookP b k).getD [], (lookP b k).isNone⟩ := by
  fun_induction diffP a b with
  | case1 => simp [look_nil]
  | case2 p a ih =>
    have hn : ∀ q ∈ a, q.k ≠ p.k := fun q hq e => str_irrefl p.k (by have := ha.cons.1 q hq; rwa [e] at this)
    rw [List.find?_cons, ih ha.cons.2 hb, look_cons, look_nil]
    by_cases e : p.k = k
    · simp [e]
    · simp [e]
  | case3 q b ih =>
    rw [List.find?_cons, ih ha hb.cons.2, look_cons, look_nil]
    by_cases e : q.k = k
    · subst e; simp
    · simp [e]
  | case4 p a q b hlt ih =>
    rw [List.find?_cons, ih ha.cons.2 hb, look_cons p]
    by_cases e : p.k = k
    · have hn : lookP (q :: b) k = none := look_none fun r hr er => by
        rcases List.mem_cons.1 hr with rfl | hr
        · exact str_irrefl k (by rwa [e, er] at hlt)
        · exact str_irrefl k (by have := str_trans hlt (hb.cons.1 r hr); rwa [e, er] at this)
      simp [e, hn]
    · simp [e]
  | case5 p a q b h1 hlt ih =>
    rw [List.find?_cons, ih ha hb.cons.2, look_cons q]
    by_cases e : q.k = k
    · have hn : lookP (p :: a) k = none := look_none fun r hr er => by
        rcases List.mem_cons.1 hr with rfl | hr
        · exact str_irrefl k (by rwa [e, er] at hlt)
        · exact str_irrefl k (by have := str_trans hlt (ha.cons.1 r hr); rwa [e, er] at this)
      subst e
      simp [hn]
    · simp [e]
  | case6 p a q b h1 h2 ih =>
    have hk := not_lt_both h1 h2
    rw [List.find?_append, ih ha.cons.2 hb.cons.2, look_cons, look_cons]
    by_cases e : p.k = k
    · have e' : q.k = k := by rw [← hk, e]
      have hna : lookP a k = none := look_none fun r hr er => str_irrefl k (by have := ha.cons.1 r hr; rwa [e, er] at this)
      have hnb : lookP b k = none := look_none fun r hr er => str_irrefl k (by have := hb.cons.1 r hr; rwa [e', er] at this)
      by_cases ev : p.v = q.v
      · simp [e, e', hna, hnb, ev]
      · simp [e, e', ev]
    · have e' : ¬ q.k = k := by rw [← hk]; exact e
      by_cases ev : p.v = q.v
      · simp [e, e', ev]
      · simp [e, e', ev]
/-- What Diff tells leads from the one to the other one. -/
theorem diff_leads {a b : List Pr} (ha : RiseP a) (hb : RiseP b) : applyP a (diffP a b) = b := by
  refine (rise_applyP ha _).ext hb fun k => ?_
  rw [look_apply_rise ha (diff_rise ha hb), diff_find ha hb]
  by_cases e : lookP a k = lookP b k
  · simp [e]
  · rw [if_neg e]
    cases hb2 : lookP b k <;> simp [Wt.says]
theorem diff_has {a b : List Pr} (ha : RiseP a) (hb : RiseP b) (k : Str) : k ∈ (diffP a b).map Wt.k ↔ lookP a k ≠ lookP b k := by
  have h := diff_find ha hb k
  constructor
  · intro hk e
    rw [if_pos e, List.find?_eq_none] at h
    obtain ⟨w, hw, rfl⟩ := List.mem_map.1 hk
    exact h w hw (by simp)
  · intro e
    rw [if_neg e] at h
    have := List.find?_some h
    exact List.mem_map.2 ⟨_, List.mem_of_find?_eq_some h, rfl⟩
theorem diff_nil {a b : List Pr} (ha : RiseP a) (hb : RiseP b) : diffP a b = [] ↔ a = b := by
  constructor
  · intro h
    refine ha.ext hb fun k => ?_
    cases em : decide (lookP a k = lookP b k) with
    | true => exact of_decide_eq_true em
    | false =>
      have := (diff_has ha hb k).2 (of_decide_eq_false em)
      rw [h] at this
      cases this
  · rintro rfl
    cases h : diffP a a with
    | nil => rfl
    | cons w l =>
      have := (diff_has ha hb w.k).1 (by rw [h]; simp)
      exact absurd rfl this
theorem okP_key {p : Pr} (h : okP p = true) : keyB p.k = true ∧ p.v.length ≤ 64 := by
  unfold okP at h
  rw [Bool.and_eq_true, decide_eq_true_eq] at h
  exact h
theorem diff_may {a b : List Pr} (ha : ∀ p ∈ a, okP p = true) (hb : ∀ p ∈ b, okP p = true) : ∀ w ∈ diffP a b, mayW w = true := fun w hw => by
  unfold mayW
  rcases diff_mem hw with ⟨h1, h2, p, hp, h3⟩ | ⟨h1, h2⟩
  · have := okP_key (ha p hp)
    rw [h3] at this
    simp [this.1, h2]
  · have := okP_key (hb _ h2)
    simp [this.1, this.2, h1]
theorem diff_len (a b : List Pr) : (diffP a b).length ≤ a.length + b.length := by
  fun_induction diffP a b with
  | case1 => simp
  | case2 p a ih => simp only [List.length_cons, List.length_nil] at *; omega
  | case3 q b ih => simp only [List.length_cons, List.length_nil] at *; omega
  | case4 p a q b _ ih => simp only [List.length_cons] at *; omega
  | case5 p a q b _ _ ih => simp only [List.length_cons] at *; omega
  | case6 p a q b _ _ ih => split <;> simp only [List.length_cons, List.length_append, List.length_nil] at * <;> omega
/-- What a key has behind writes: what the last one of it says. -/
theorem look_snoc {l : List Pr} (hl : RiseP l) (ws : List Wt) (w : Wt) (k : Str) : lookP (applyP l (ws ++ [w])) k = if w.k = k then w.says else lookP (applyP l ws) k := by
  rw [applyP_snoc, look_oneP w (rise_applyP hl ws)]
  rfl
end Go.Proofs.YtodbmeklbamcfaaGreat
