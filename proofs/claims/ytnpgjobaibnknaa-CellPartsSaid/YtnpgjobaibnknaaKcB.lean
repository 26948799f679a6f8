import Derived.Test.YtnpgjobaibnknaaKcA
namespace Go.Proofs.Ytnpgjobaibnknaa

def diffP : List Pr → List Pr → List Wt
  | [], [] => []
  | p :: a, [] => ⟨p.k, [], true⟩ :: diffP a []
  | [], q :: b => ⟨q.k, q.v, false⟩ :: diffP [] b
  | p :: a, q :: b =>
    if p.k < q.k then ⟨p.k, [], true⟩ :: diffP a (q :: b)
    else if q.k < p.k then ⟨q.k, q.v, false⟩ :: diffP (p :: a) b
    else (if p.v = q.v then [] else [⟨q.k, q.v, false⟩]) ++ diffP a b
termination_by a b => a.length + b.length
def diffE (a b : List Pr) : List Wt := if checkS a = 0 ∧ checkS b = 0 then diffP a b else []
def changedE (a b : List Pr) : List Str := (diffE a b).map Wt.k
/-- What a write says of a key. -/
def Wt.says (w : Wt) : Option Str := if w.d then none else some w.v
theorem diff_mem {a b : List Pr} {w : Wt} (h : w ∈ diffP a b) : (w.d = true ∧ w.v = [] ∧ ∃ p ∈ a, p.k = w.k) ∨ (w.d = false ∧ ⟨w.k, w.v⟩ ∈ b) := by
  fun_induction diffP a b with
  | case1 => cases h
  | case2 p a ih =>
    rcases List.mem_cons.1 h with rfl | h
    · exact .inl ⟨rfl, rfl, p, by simp, rfl⟩
    · rcases ih h with ⟨h1, h2, q, hq, h3⟩ | ⟨h1, h2⟩
      · exact .inl ⟨h1, h2, q, by simp [hq], h3⟩
      · cases h2
  | case3 q b ih =>
    rcases List.mem_cons.1 h with rfl | h
    · exact .inr ⟨rfl, by simp⟩
    · rcases ih h with ⟨_, _, q, hq, _⟩ | ⟨h1, h2⟩
      · cases hq
      · exact .inr ⟨h1, by simp [h2]⟩
  | case4 p a q b hlt ih =>
    rcases List.mem_cons.1 h with rfl | h
    · exact .inl ⟨rfl, rfl, p, by simp, rfl⟩
    · rcases ih h with ⟨h1, h2, q', hq, h3⟩ | ⟨h1, h2⟩
      · exact .inl ⟨h1, h2, q', by simp [hq], h3⟩
      · exact .inr ⟨h1, h2⟩
  | case5 p a q b h1' h2' ih =>
    rcases List.mem_cons.1 h with rfl | h
    · exact .inr ⟨rfl, by simp⟩
    · rcases ih h with ⟨h1, h2, q', hq, h3⟩ | ⟨h1, h2⟩
      · exact .inl ⟨h1, h2, q', hq, h3⟩
      · exact .inr ⟨h1, by simp [h2]⟩
  | case6 p a q b h1' h2' ih =>
    rcases List.mem_append.1 h with h | h
    · split at h
      · cases h
      · simp at h; subst h; exact .inr ⟨rfl, by simp⟩
    · rcases ih h with ⟨h1, h2, q', hq, h3⟩ | ⟨h1, h2⟩
      · exact .inl ⟨h1, h2, q', by simp [hq], h3⟩
      · exact .inr ⟨h1, by simp [h2]⟩
theorem diff_key {a b : List Pr} {w : Wt} (h : w ∈ diffP a b) : (∃ p ∈ a, p.k = w.k) ∨ ∃ p ∈ b, p.k = w.k := by
  rcases diff_mem h with ⟨_, _, h⟩ | ⟨_, h⟩
  · exact .inl h
  · exact .inr ⟨_, h, rfl⟩
theorem not_lt_both {x y : Str} (h1 : ¬ x < y) (h2 : ¬ y < x) : x = y := by
  rcases str_total x y with h | h | h
  · exact absurd h h1
  · exact h
  · exact absurd h h2
theorem diff_rise {a b : List Pr} (ha : RiseP a) (hb : RiseP b) : Rise ((diffP a b).map Wt.k) := by
  fun_induction diffP a b with
  | case1 => exact List.Pairwise.nil
  | case2 p a ih =>
    refine List.pairwise_cons.2 ⟨fun x hx => ?_, ih ha.cons.2 hb⟩
    obtain ⟨w, hw, rfl⟩ := List.mem_map.1 hx
    rcases diff_key hw with ⟨r, hr, e⟩ | ⟨r, hr, e⟩
    · rw [← e]; exact ha.cons.1 r hr
    · cases hr
  | case3 q b ih =>
    refine List.pairwise_cons.2 ⟨fun x hx => ?_, ih ha hb.cons.2⟩
    obtain ⟨w, hw, rfl⟩ := List.mem_map.1 hx
    rcases diff_key hw with ⟨r, hr, e⟩ | ⟨r, hr, e⟩
    · cases hr
    · rw [← e]; exact hb.cons.1 r hr
  | case4 p a q b hlt ih =>
    refine List.pairwise_cons.2 ⟨fun x hx => ?_, ih ha.cons.2 hb⟩
    obtain ⟨w, hw, rfl⟩ := List.mem_map.1 hx
    rcases diff_key hw with ⟨r, hr, e⟩ | ⟨r, hr, e⟩
    · rw [← e]; exact ha.cons.1 r hr
    · rw [← e]
      rcases List.mem_cons.1 hr with rfl | hr
      · exact hlt
      · exact str_trans hlt (hb.cons.1 r hr)
  | case5 p a q b h1 hlt ih =>
    refine List.pairwise_cons.2 ⟨fun x hx => ?_, ih ha hb.cons.2⟩
    obtain ⟨w, hw, rfl⟩ := List.mem_map.1 hx
    rcases diff_key hw with ⟨r, hr, e⟩ | ⟨r, hr, e⟩
    · rw [← e]
      rcases List.mem_cons.1 hr with rfl | hr
      · exact hlt
      · exact str_trans hlt (ha.cons.1 r hr)
    · rw [← e]; exact hb.cons.1 r hr
  | case6 p a q b h1 h2 ih =>
    have ih' := ih ha.cons.2 hb.cons.2
    have hk := not_lt_both h1 h2
    split
    · simpa using ih'
    · rw [List.cons_append, List.nil_append, List.map_cons]
      refine List.pairwise_cons.2 ⟨fun x hx => ?_, ih'⟩
      obtain ⟨w, hw, rfl⟩ := List.mem_map.1 hx
      rcases diff_key hw with ⟨r, hr, e⟩ | ⟨r, hr, e⟩
      · rw [← e]; show q.k < r.k; rw [← hk]; exact ha.cons.1 r hr
      · rw [← e]; exact hb.cons.1 r hr
/-- The writes of unlike keys, gone through: what a key has. -/
theorem look_apply_rise {l : List Pr} (hl : RiseP l) {ws : List Wt} (h : Rise (ws.map Wt.k)) (k : Str) : lookP (applyP l ws) k = match ws.find? (fun w => decide (w.k = k)) with | some w => w.says | none => lookP l k := by
  induction ws generalizing l with
  | nil => rfl
  | cons w ws ih =>
    have h0 := List.pairwise_cons.1 h
    have e1 : applyP l (w :: ws) = applyP (oneP w l) ws := rfl
    rw [e1, ih (rise_oneP w hl) h0.2, List.find?_cons]
    by_cases e : w.k = k
    · have : ws.find? (fun w => decide (w.k = k)) = none := by
        rw [List.find?_eq_none]
        intro x hx ex
        have e2 : x.k = k := of_decide_eq_true ex
        have := h0.1 x.k (List.mem_map.2 ⟨x, hx, rfl⟩)
        rw [e, e2] at this
        exact str_irrefl k this
      rw [this]
      simp only [e, decide_true, look_oneP w hl, if_true]
      rfl
    · simp only [e, decide_false, look_oneP w hl, if_false]
theorem diff_find {a b : List Pr} (ha : RiseP a) (hb : RiseP b) (k : Str) : (diffP a b).find? (fun w => decide (w.k = k)) = if lookP a k = lookP b k then none else some ⟨k, (lookP b k).getD [], (lookP b k).isNone⟩ := by
  fun_induction diffP a b with
  | case1 => simp [look_nil]
  | case2 p a ih =>
    have hn : ∀ q ∈ a, q.k ≠ p.k := fun q hq e => str_irrefl p.k (by have := ha.cons.1 q hq; rwa [e] at this)
    rw [List.find?_cons, ih ha.cons.2 hb, look_cons, look_nil]
    by_cases e : p.k = k
    · simp [e]
    · simp [e]
  | case3 q b ih =>
    rw [List.find?_cons, ih ha hb.cons.2, look_cons, look_nil]
    by_cases e : q.k = k
    · subst e; simp
    · simp [e]
  | case4 p a q b hlt ih =>
    rw [List.find?_cons, ih ha.cons.2 hb, look_cons p]
    by_cases e : p.k = k
    · have hn : lookP (q :: b) k = none := look_none fun r hr er => by
        rcases List.mem_cons.1 hr with rfl | hr
        · exact str_irrefl k (by rwa [e, er] at hlt)
        · exact str_irrefl k (by have := str_trans hlt (hb.cons.1 r hr); rwa [e, er] at this)
      simp [e, hn]
    · simp [e]
  | case5 p a q b h1 hlt ih =>
    rw [List.find?_cons, ih ha hb.cons.2, look_cons q]
    by_cases e : q.k = k
    · have hn : lookP (p :: a) k = none := look_none fun r hr er => by
        rcases List.mem_cons.1 hr with rfl | hr
        · exact str_irrefl k (by rwa [e, er] at hlt)
        · exact str_irrefl k (by have := str_trans hlt (ha.cons.1 r hr); rwa [e, er] at this)
      subst e
      simp [hn]
    · simp [e]
  | case6 p a q b h1 h2 ih =>
    have hk := not_lt_both h1 h2
    rw [List.find?_append, ih ha.cons.2 hb.cons.2, look_cons, look_cons]
    by_cases e : p.k = k
    · have e' : q.k = k := by rw [← hk, e]
      have hna : lookP a k = none := look_none fun r hr er => str_irrefl k (by have := ha.cons.1 r hr; rwa [e, er] at this)
      have hnb : lookP b k = none := look_none fun r hr er => str_irrefl k (by have := hb.cons.1 r hr; rwa [e', er] at this)
      by_cases ev : p.v = q.v
      · simp [e, e', hna, hnb, ev]
      · simp [e, e', ev]
    · have e' : ¬ q.k = k := by rw [← hk]; exact e
      by_cases ev : p.v = q.v
      · simp [e, e', ev]
      · simp [e, e', ev]
/-- What Diff tells leads from the one to the other one. -/
theorem diff_leads {a b : List Pr} (ha : RiseP a) (hb : RiseP b) : applyP a (diffP a b) = b := by
  refine (rise_applyP ha _).ext hb fun k => ?_
  rw [look_apply_rise ha (diff_rise ha hb), diff_find ha hb]
  by_cases e : lookP a k = lookP b k
  · simp [e]
  · rw [if_neg e]
    cases hb2 : lookP b k <;> simp [Wt.says]
theorem diff_has {a b : List Pr} (ha : RiseP a) (hb : RiseP b) (k : Str) : k ∈ (diffP a b).map Wt.k ↔ lookP a k ≠ lookP b k := by
  have h := diff_find ha hb k
  constructor
  · intro hk e
    rw [if_pos e, List.find?_eq_none] at h
    obtain ⟨w, hw, rfl⟩ := List.mem_map.1 hk
    exact h w hw (by simp)
  · intro e
    rw [if_neg e] at h
    have := List.find?_some h
    exact List.mem_map.2 ⟨_, List.mem_of_find?_eq_some h, rfl⟩
theorem diff_nil {a b : List Pr} (ha : RiseP a) (hb : RiseP b) : diffP a b = [] ↔ a = b := by
  constructor
  · intro h
    refine ha.ext hb fun k => ?_
    cases em : decide (lookP a k = lookP b k) with
    | true => exact of_decide_eq_true em
    | false =>
      have := (diff_has ha hb k).2 (of_decide_eq_false em)
      rw [h] at this
      cases this
  · rintro rfl
    cases h : diffP a a with
    | nil => rfl
    | cons w l =>
      have := (diff_has ha hb w.k).1 (by rw [h]; simp)
      exact absurd rfl this
theorem okP_key {p : Pr} (h : okP p = true) : keyB p.k = true ∧ p.v.length ≤ 64 := by
  unfold okP at h
  rw [Bool.and_eq_true, decide_eq_true_eq] at h
  exact h
theorem diff_may {a b : List Pr} (ha : ∀ p ∈ a, okP p = true) (hb : ∀ p ∈ b, okP p = true) : ∀ w ∈ diffP a b, mayW w = true := fun w hw => by
  unfold mayW
  rcases diff_mem hw with ⟨h1, h2, p, hp, h3⟩ | ⟨h1, h2⟩
  · have := okP_key (ha p hp)
    rw [h3] at this
    simp [this.1, h2]
  · have := okP_key (hb _ h2)
    simp [this.1, this.2, h1]
theorem diff_len (a b : List Pr) : (diffP a b).length ≤ a.length + b.length := by
  fun_induction diffP a b with
  | case1 => simp
  | case2 p a ih => simp only [List.length_cons, List.length_nil] at *; omega
  | case3 q b ih => simp only [List.length_cons, List.length_nil] at *; omega
  | case4 p a q b _ ih => simp only [List.length_cons] at *; omega
  | case5 p a q b _ _ ih => simp only [List.length_cons] at *; omega
  | case6 p a q b _ _ ih => split <;> simp only [List.length_cons, List.length_append, List.length_nil] at * <;> omega
/-- What a key has behind writes: what the last one of it says. -/
theorem look_snoc {l : List Pr} (hl : RiseP l) (ws : List Wt) (w : Wt) (k : Str) : lookP (applyP l (ws ++ [w])) k = if w.k = k then w.says else lookP (applyP l ws) k := by
  rw [applyP_snoc, look_oneP w (rise_applyP hl ws)]
  rfl
end Go.Proofs.Ytnpgjobaibnknaa
