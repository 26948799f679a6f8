/- Plain laws on lists of keys as sets: what two lists have in common, or not. No program in sight. -/
import Derived.Test.YtnpgjobaibnknaaKpA
namespace Go.Proofs.Ytnpgjobaibnknaa

def hasK (l : List Str) (k : Str) : Bool := decide (k ∈ l)
def unionS (a b : List Str) : List Str := sortS (a ++ b)
def walkS (a b : List Str) (both : Bool) : List Str := (sortS a).filter fun k => hasK b k == both
def minusS (a b : List Str) : List Str := walkS a b false
def bothS (a b : List Str) : List Str := walkS a b true
theorem mem_unionS (a b : List Str) (k : Str) : k ∈ unionS a b ↔ k ∈ a ∨ k ∈ b := by rw [unionS, mem_sortS, List.mem_append]
theorem mem_minusS (a b : List Str) (k : Str) : k ∈ minusS a b ↔ k ∈ a ∧ k ∉ b := by
  rw [minusS, walkS, List.mem_filter, mem_sortS, hasK]
  by_cases h : k ∈ b <;> simp [h]
theorem mem_bothS (a b : List Str) (k : Str) : k ∈ bothS a b ↔ k ∈ a ∧ k ∈ b := by
  rw [bothS, walkS, List.mem_filter, mem_sortS, hasK]
  by_cases h : k ∈ b <;> simp [h]
theorem rise_unionS (a b : List Str) : Rise (unionS a b) := rise_sortS _
theorem rise_minusS (a b : List Str) : Rise (minusS a b) := rise_filter (rise_sortS _) _
theorem rise_bothS (a b : List Str) : Rise (bothS a b) := rise_filter (rise_sortS _) _
theorem Rise.check {l : List Str} (h : Rise l) : checkK l = true := (checkK_iff l).2 h
theorem hasK_union (a b : List Str) (k : Str) : hasK (unionS a b) k = (hasK a k || hasK b k) := by
  rw [Bool.eq_iff_iff, Bool.or_eq_true, hasK, hasK, hasK, decide_eq_true_eq, decide_eq_true_eq, decide_eq_true_eq, mem_unionS]
theorem hasK_minus (a b : List Str) (k : Str) : hasK (minusS a b) k = (hasK a k && !hasK b k) := by
  rw [Bool.eq_iff_iff, Bool.and_eq_true, hasK, hasK, hasK, decide_eq_true_eq, decide_eq_true_eq, mem_minusS]
  by_cases h : k ∈ b <;> simp [h]
theorem hasK_both (a b : List Str) (k : Str) : hasK (bothS a b) k = (hasK a k && hasK b k) := by
  rw [Bool.eq_iff_iff, Bool.and_eq_true, hasK, hasK, hasK, decide_eq_true_eq, decide_eq_true_eq, decide_eq_true_eq, mem_bothS]
theorem union_comm' (a b : List Str) : unionS a b = unionS b a := (rise_unionS a b).ext (rise_unionS b a) fun x => by rw [mem_unionS, mem_unionS]; exact Or.comm
theorem both_comm (a b : List Str) : bothS a b = bothS b a := (rise_bothS a b).ext (rise_bothS b a) fun x => by rw [mem_bothS, mem_bothS]; exact And.comm
theorem union_parts (a b : List Str) : unionS (unionS (minusS a b) (minusS b a)) (bothS a b) = unionS a b :=
  (rise_unionS _ _).ext (rise_unionS _ _) fun x => by
    rw [mem_unionS, mem_unionS, mem_minusS, mem_minusS, mem_bothS, mem_unionS]
    by_cases h1 : x ∈ a <;> by_cases h2 : x ∈ b <;> simp [h1, h2]
theorem filter_parts (u : List Str) (p q : Str → Bool) (h : ∀ x ∈ u, p x = true ∨ q x = true) : u.length = (u.filter fun x => p x && !q x).length + (u.filter fun x => q x && !p x).length + (u.filter fun x => p x && q x).length := by
  induction u with
  | nil => rfl
  | cons x u ih =>
    have h1 := ih fun y hy => h y (by simp [hy])
    have h2 := h x (by simp)
    simp only [List.filter_cons]
    cases hp : p x <;> cases hq : q x <;> simp [hp, hq] at h2 ⊢ <;> omega
theorem union_len (a b : List Str) : (unionS a b).length = (minusS a b).length + (minusS b a).length + (bothS a b).length := by
  rw [filter_parts (unionS a b) (hasK a) (hasK b) (fun x hx => by rw [hasK, hasK, decide_eq_true_eq, decide_eq_true_eq]; exact (mem_unionS a b x).1 hx)]
  congr 1
  · congr 1
    · congr 1
      refine (rise_filter (rise_unionS a b) _).ext (rise_minusS a b) fun x => ?_
      rw [List.mem_filter, mem_unionS, mem_minusS, hasK, hasK]
      by_cases h1 : x ∈ a <;> by_cases h2 : x ∈ b <;> simp [h1, h2]
    · congr 1
      refine (rise_filter (rise_unionS a b) _).ext (rise_minusS b a) fun x => ?_
      rw [List.mem_filter, mem_unionS, mem_minusS, hasK, hasK]
      by_cases h1 : x ∈ a <;> by_cases h2 : x ∈ b <;> simp [h1, h2]
  · congr 1
    refine (rise_filter (rise_unionS a b) _).ext (rise_bothS a b) fun x => ?_
    rw [List.mem_filter, mem_unionS, mem_bothS, hasK, hasK]
    by_cases h1 : x ∈ a <;> by_cases h2 : x ∈ b <;> simp [h1, h2]
theorem minus_len (a b : List Str) : (minusS a b).length ≤ a.length := Nat.le_trans (List.length_filter_le _ _) (sortS_len a)
theorem both_len (a b : List Str) : (bothS a b).length ≤ a.length := Nat.le_trans (List.length_filter_le _ _) (sortS_len a)
theorem union_le (a b : List Str) : (unionS a b).length ≤ a.length + b.length := by have := sortS_len (a ++ b); rwa [List.length_append] at this
theorem minus_sort (a b : List Str) : minusS a b = sortS (a.filter fun k => !hasK b k) := by
  rw [minusS, walkS, filter_sortS]
  congr 1
  refine List.filter_congr fun x _ => ?_
  cases hasK b x <;> rfl
theorem both_sort (a b : List Str) : bothS a b = sortS (a.filter fun k => hasK b k) := by
  rw [bothS, walkS, filter_sortS]
  congr 1
  refine List.filter_congr fun x _ => ?_
  cases hasK b x <;> rfl
theorem sortS_idem (l : List Str) : sortS (sortS l) = sortS l := sortS_self (rise_sortS l)
theorem check_same (l : List Str) : checkK l = decide (sortS l = l) := by
  rw [Bool.eq_iff_iff, checkK_iff, decide_eq_true_eq]
  exact ⟨sortS_self, fun h => h ▸ rise_sortS l⟩
theorem sortS_nil (l : List Str) : (sortS l = []) ↔ l = [] := by
  constructor
  · intro h
    cases l with
    | nil => rfl
    | cons x l => have := (mem_sortS (x :: l) x).2 (by simp); rw [h] at this; cases this
  · rintro rfl; rfl
end Go.Proofs.Ytnpgjobaibnknaa
