/- Plain laws on states: rising keys and their values; what writes do to them; what leads from one to another one. No program in sight. -/
import Derived.Test.YtnpgjobaibnknaaKpC
namespace Go.Proofs.Ytnpgjobaibnknaa

structure Pr where
  k : Str
  v : Str
structure Wt where
  k : Str
  v : Str
  d : Bool
instance : DecidableEq Pr := fun a b => decidable_of_iff (a.k = b.k ∧ a.v = b.v) ⟨fun ⟨h1, h2⟩ => by cases a; cases b; simp_all, fun h => by subst h; exact ⟨rfl, rfl⟩⟩
instance : DecidableEq Wt := fun a b => decidable_of_iff (a.k = b.k ∧ a.v = b.v ∧ a.d = b.d) ⟨fun ⟨h1, h2, h3⟩ => by cases a; cases b; simp_all, fun h => by subst h; exact ⟨rfl, rfl, rfl⟩⟩
def keyB (k : Str) : Bool := decide (1 ≤ k.length) && decide (k.length ≤ 32)
def okP (p : Pr) : Bool := keyB p.k && decide (p.v.length ≤ 64)
def RiseP (l : List Pr) : Prop := Rise (l.map Pr.k)
def goodP (l : List Pr) : Bool := l.all okP && checkK (l.map Pr.k)
def checkS (l : List Pr) : Int := if 65536 < l.length then 3 else if goodP l then 0 else 2
theorem goodP_iff (l : List Pr) : goodP l = true ↔ (∀ p ∈ l, okP p = true) ∧ RiseP l := by
  unfold goodP RiseP
  rw [Bool.and_eq_true, List.all_eq_true, checkK_iff]
theorem checkS_ok (l : List Pr) : checkS l = 0 ↔ l.length ≤ 65536 ∧ goodP l = true := by
  unfold checkS
  split
  · constructor
    · intro h; omega
    · intro h; omega
  · split
    · rename_i h1 h2; exact ⟨fun _ => ⟨by omega, h2⟩, fun _ => rfl⟩
    · rename_i h1 h2; exact ⟨fun h => by omega, fun h => absurd h.2 h2⟩
theorem checkS_rise {l : List Pr} (h : checkS l = 0) : RiseP l := ((goodP_iff l).1 ((checkS_ok l).1 h).2).2
theorem RiseP.cons {p : Pr} {l : List Pr} (h : RiseP (p :: l)) : (∀ q ∈ l, p.k < q.k) ∧ RiseP l := by
  unfold RiseP Rise at h
  rw [List.map_cons, List.pairwise_cons] at h
  exact ⟨fun q hq => h.1 q.k (List.mem_map.2 ⟨q, hq, rfl⟩), h.2⟩
theorem RiseP.mk {p : Pr} {l : List Pr} (h : ∀ q ∈ l, p.k < q.k) (hl : RiseP l) : RiseP (p :: l) := by
  unfold RiseP Rise
  rw [List.map_cons, List.pairwise_cons]
  refine ⟨fun x hx => ?_, hl⟩
  obtain ⟨q, hq, rfl⟩ := List.mem_map.1 hx
  exact h q hq

/-- What a key has. -/
def lookP (l : List Pr) (k : Str) : Option Str := (l.find? fun p => decide (p.k = k)).map Pr.v
theorem look_nil (k : Str) : lookP [] k = none := rfl
theorem look_cons (p : Pr) (l : List Pr) (k : Str) : lookP (p :: l) k = if p.k = k then some p.v else lookP l k := by
  unfold lookP
  by_cases h : p.k = k <;> simp [h]
theorem look_none {l : List Pr} {k : Str} (h : ∀ p ∈ l, p.k ≠ k) : lookP l k = none := by
  induction l with
  | nil => rfl
  | cons p l ih => rw [look_cons, if_neg (h p (by simp)), ih fun q hq => h q (by simp [hq])]
theorem look_mem {l : List Pr} {k v : Str} (h : lookP l k = some v) : ⟨k, v⟩ ∈ l := by
  induction l with
  | nil => cases h
  | cons p l ih =>
    rw [look_cons] at h
    by_cases e : p.k = k
    · rw [if_pos e] at h
      have : p = ⟨k, v⟩ := by cases p; simp at h e; subst h e; rfl
      simp [this]
    · rw [if_neg e] at h
      exact List.mem_cons_of_mem _ (ih h)
theorem mem_look {l : List Pr} (hl : RiseP l) {p : Pr} (h : p ∈ l) : lookP l p.k = some p.v := by
  induction l with
  | nil => cases h
  | cons q l ih =>
    rw [look_cons]
    rcases List.mem_cons.1 h with rfl | h
    · rw [if_pos rfl]
    · rw [if_neg (fun e => str_irrefl p.k (by have := hl.cons.1 p h; rwa [e] at this)), ih hl.cons.2 h]
theorem RiseP.ext {a b : List Pr} (ha : RiseP a) (hb : RiseP b) (h : ∀ k, lookP a k = lookP b k) : a = b := by
  induction a generalizing b with
  | nil =>
    cases b with
    | nil => rfl
    | cons q b => have := h q.k; rw [look_nil, look_cons, if_pos rfl] at this; cases this
  | cons p a ih =>
    cases b with
    | nil => have := h p.k; rw [look_nil, look_cons, if_pos rfl] at this; cases this
    | cons q b =>
      have hp : q.k = p.k := by
        rcases str_total q.k p.k with e | e | e
        · have h1 := h q.k
          rw [look_cons q, if_pos rfl, look_none (l := p :: a)] at h1
          · cases h1
          · intro r hr er
            rcases List.mem_cons.1 hr with rfl | hr
            · exact str_irrefl _ (by rw [er] at e; exact e)
            · have := ha.cons.1 r hr; rw [er] at this; exact str_irrefl _ (str_trans e this)
        · exact e
        · have h1 := h p.k
          rw [look_cons p, if_pos rfl, look_none (l := q :: b)] at h1
          · cases h1
          · intro r hr er
            rcases List.mem_cons.1 hr with rfl | hr
            · exact str_irrefl _ (by rw [er] at e; exact e)
            · have := hb.cons.1 r hr; rw [er] at this; exact str_irrefl _ (str_trans e this)
      have hv : p.v = q.v := by
        have h1 := h p.k
        rw [look_cons, if_pos rfl, look_cons, if_pos hp] at h1
        exact Option.some.inj h1
      have hpq : p = q := by cases p; cases q; simp at hp hv; subst hp hv; rfl
      subst hpq
      congr 1
      refine ih ha.cons.2 hb.cons.2 fun k => ?_
      have h1 := h k
      rw [look_cons, look_cons] at h1
      by_cases e : p.k = k
      · rw [look_none fun r hr er => str_irrefl k (by have := ha.cons.1 r hr; rwa [e, er] at this), look_none fun r hr er => str_irrefl k (by have := hb.cons.1 r hr; rwa [e, er] at this)]
      · rwa [if_neg e, if_neg e] at h1

/-- A state behind a write. -/
def oneP (w : Wt) : List Pr → List Pr
  | [] => if w.d then [] else [⟨w.k, w.v⟩]
  | p :: l => if p.k < w.k then p :: oneP w l else if p.k = w.k then (if w.d then l else ⟨w.k, w.v⟩ :: l) else (if w.d then p :: l else ⟨w.k, w.v⟩ :: p :: l)
def applyP (l : List Pr) (ws : List Wt) : List Pr := ws.foldl (fun l w => oneP w l) l
theorem mem_oneP {w : Wt} {l : List Pr} {p : Pr} (h : p ∈ oneP w l) : p ∈ l ∨ (p = ⟨w.k, w.v⟩ ∧ w.d = false) := by
  induction l with
  | nil =>
    unfold oneP at h
    cases hd : w.d <;> simp [hd] at h
    exact .inr ⟨h, rfl⟩
  | cons q l ih =>
    unfold oneP at h
    by_cases h1 : q.k < w.k
    · rw [if_pos h1] at h
      rcases List.mem_cons.1 h with h | h
      · exact .inl (by simp [h])
      · rcases ih h with h | h
        · exact .inl (by simp [h])
        · exact .inr h
    · rw [if_neg h1] at h
      by_cases h2 : q.k = w.k
      · rw [if_pos h2] at h
        cases hd : w.d <;> simp [hd] at h
        · rcases h with h | h
          · exact .inr ⟨h, rfl⟩
          · exact .inl (by simp [h])
        · exact .inl (by simp [h])
      · rw [if_neg h2] at h
        cases hd : w.d <;> simp [hd] at h
        · rcases h with h | h | h
          · exact .inr ⟨h, rfl⟩
          · exact .inl (by simp [h])
          · exact .inl (by simp [h])
        · rcases h with h | h
          · exact .inl (by simp [h])
          · exact .inl (by simp [h])
theorem rise_oneP (w : Wt) {l : List Pr} (hl : RiseP l) : RiseP (oneP w l) := by
  induction l with
  | nil => unfold oneP; cases w.d <;> simp [RiseP, Rise]
  | cons p l ih =>
    unfold oneP
    by_cases h1 : p.k < w.k
    · rw [if_pos h1]
      refine RiseP.mk (fun q hq => ?_) (ih hl.cons.2)
      rcases mem_oneP hq with h | ⟨rfl, _⟩
      · exact hl.cons.1 q h
      · exact h1
    · rw [if_neg h1]
      by_cases h2 : p.k = w.k
      · rw [if_pos h2]
        cases w.d
        · exact RiseP.mk (fun q hq => by have := hl.cons.1 q hq; rwa [h2] at this) hl.cons.2
        · exact hl.cons.2
      · rw [if_neg h2]
        have h3 : w.k < p.k := by
          rcases str_total w.k p.k with h | h | h
          · exact h
          · exact absurd h.symm h2
          · exact absurd h h1
        cases w.d
        · refine RiseP.mk (fun q hq => ?_) hl
          rcases List.mem_cons.1 hq with rfl | hq
          · exact h3
          · exact str_trans h3 (hl.cons.1 q hq)
        · exact hl
theorem look_oneP (w : Wt) {l : List Pr} (hl : RiseP l) (k : Str) : lookP (oneP w l) k = if w.k = k then (if w.d then none else some w.v) else lookP l k := by
  induction l with
  | nil =>
    unfold oneP
    cases w.d
    · simp only [Bool.false_eq_true, if_false]
      rw [look_cons]
    · simp only [if_true]
      rw [look_nil]
      split <;> rfl
  | cons p l ih =>
    unfold oneP
    by_cases h1 : p.k < w.k
    · rw [if_pos h1, look_cons, ih hl.cons.2, look_cons]
      by_cases e : p.k = k
      · rw [if_pos e, if_pos e, if_neg fun e2 => str_irrefl k (by rwa [e, e2] at h1)]
      · rw [if_neg e, if_neg e]
    · rw [if_neg h1]
      by_cases h2 : p.k = w.k
      · rw [if_pos h2]
        cases w.d
        · simp only [Bool.false_eq_true, if_false]
          rw [look_cons, look_cons, h2]
          by_cases e : w.k = k
          · simp [e]
          · simp [e]
        · simp only [if_true]
          rw [look_cons, h2]
          by_cases e : w.k = k
          · rw [if_pos e]
            exact look_none fun q hq eq => str_irrefl k (by have := hl.cons.1 q hq; rwa [h2, e, eq] at this)
          · rw [if_neg e, if_neg e]
      · rw [if_neg h2]
        have h3 : w.k < p.k := by
          rcases str_total w.k p.k with h | h | h
          · exact h
          · exact absurd h.symm h2
          · exact absurd h h1
        cases w.d
        · simp only [Bool.false_eq_true, if_false]
          rw [look_cons]
        · simp only [if_true]
          by_cases e : w.k = k
          · rw [if_pos e]
            refine look_none fun q hq eq => ?_
            rcases List.mem_cons.1 hq with rfl | hq
            · exact str_irrefl k (by rwa [e, eq] at h3)
            · exact str_irrefl k (by have := str_trans h3 (hl.cons.1 q hq); rwa [e, eq] at this)
          · rw [if_neg e]
theorem rise_applyP {l : List Pr} (hl : RiseP l) (ws : List Wt) : RiseP (applyP l ws) := by
  induction ws generalizing l with
  | nil => exact hl
  | cons w ws ih => exact ih (rise_oneP w hl)
theorem applyP_snoc (l : List Pr) (ws : List Wt) (w : Wt) : applyP l (ws ++ [w]) = oneP w (applyP l ws) := by
  unfold applyP
  rw [List.foldl_append]
  rfl
theorem applyP_append (l : List Pr) (ws vs : List Wt) : applyP l (ws ++ vs) = applyP (applyP l ws) vs := by
  unfold applyP
  rw [List.foldl_append]
/-- May a write be? -/
def mayW (w : Wt) : Bool := keyB w.k && decide (w.v.length ≤ 64) && (!w.d || decide (w.v = []))
theorem ok_oneP {w : Wt} (hw : mayW w = true) {l : List Pr} (hl : ∀ p ∈ l, okP p = true) : ∀ p ∈ oneP w l, okP p = true := fun p hp => by
  rcases mem_oneP hp with h | ⟨rfl, _⟩
  · exact hl p h
  · unfold mayW at hw
    rw [Bool.and_eq_true] at hw
    exact hw.1
theorem ok_applyP {ws : List Wt} (hw : ∀ w ∈ ws, mayW w = true) {l : List Pr} (hl : ∀ p ∈ l, okP p = true) : ∀ p ∈ applyP l ws, okP p = true := by
  induction ws generalizing l with
  | nil => exact hl
  | cons w ws ih => exact ih (fun v hv => hw v (by simp [hv])) (ok_oneP (hw w (by simp)) hl)
theorem len_oneP (w : Wt) (l : List Pr) : (oneP w l).length ≤ l.length + 1 := by
  induction l with
  | nil => unfold oneP; cases w.d <;> simp
  | cons p l ih =>
    unfold oneP
    split
    · simp only [List.length_cons]; omega
    · split
      · cases w.d
        · simp
        · simp only [if_true, List.length_cons]; omega
      · cases w.d <;> simp
theorem len_applyP (l : List Pr) (ws : List Wt) : (applyP l ws).length ≤ l.length + ws.length := by
  induction ws generalizing l with
  | nil => simp [applyP]
  | cons w ws ih =>
    have h1 := ih (oneP w l)
    have h2 := len_oneP w l
    have h3 : applyP l (w :: ws) = applyP (oneP w l) ws := rfl
    rw [h3, List.length_cons]
    omega
/-- What stands behind writes, or just the error. -/
def applyE (l : List Pr) (ws : List Wt) : List Pr × Int :=
  if checkS l = 0 then (if ws.all mayW then (if 65536 < (applyP l ws).length then ([], 3) else (applyP l ws, 0)) else ([], 2)) else ([], checkS l)
theorem applyE_ok {l : List Pr} {ws : List Wt} (h : (applyE l ws).2 = 0) : checkS l = 0 ∧ (∀ w ∈ ws, mayW w = true) ∧ (applyE l ws).1 = applyP l ws ∧ checkS (applyP l ws) = 0 := by
  unfold applyE at h ⊢
  by_cases h1 : checkS l = 0
  · rw [if_pos h1] at h ⊢
    by_cases h2 : ws.all mayW = true
    · rw [if_pos h2] at h ⊢
      by_cases h3 : 65536 < (applyP l ws).length
      · rw [if_pos h3] at h; exact absurd h (by simp)
      · rw [if_neg h3]
        have h4 := (goodP_iff l).1 ((checkS_ok l).1 h1).2
        exact ⟨h1, List.all_eq_true.1 h2, rfl, (checkS_ok _).2 ⟨by omega, (goodP_iff _).2 ⟨ok_applyP (List.all_eq_true.1 h2) h4.1, rise_applyP h4.2 ws⟩⟩⟩
    · rw [if_neg h2] at h; exact absurd h (by simp)
  · rw [if_neg h1] at h; exact absurd h h1
theorem applyE_bad {l : List Pr} {ws : List Wt} (h : (applyE l ws).2 ≠ 0) : (applyE l ws).1 = [] := by
  unfold applyE at h ⊢
  split at h
  · split at h
    · split at h
      · rename_i h1 h2 h3; rw [if_pos h1, if_pos h2, if_pos h3]
      · exact absurd rfl h
    · rename_i h1 h2; rw [if_pos h1, if_neg h2]
  · rename_i h1; rw [if_neg h1]
/-- Where a key stands, or would. -/
def atP (l : List Pr) (k : Str) : Nat := (l.takeWhile fun p => decide (p.k < k)).length
theorem atP_le (l : List Pr) (k : Str) : atP l k ≤ l.length := (List.takeWhile_prefix _).length_le
theorem atP_cons (p : Pr) (l : List Pr) (k : Str) : atP (p :: l) k = if p.k < k then atP l k + 1 else 0 := by
  unfold atP
  by_cases h : p.k < k <;> simp [h]
theorem atP_lt {l : List Pr} {k : Str} {j : Nat} {p : Pr} (hj : j < atP l k) (hp : l[j]? = some p) : p.k < k := by
  induction l generalizing j with
  | nil => cases hp
  | cons q l ih =>
    rw [atP_cons] at hj
    split at hj
    · cases j with
      | zero => simp at hp; subst hp; assumption
      | succ j => exact ih (j := j) (by omega) (by simpa using hp)
    · omega
theorem atP_ge {l : List Pr} (hl : RiseP l) {k : Str} {j : Nat} {p : Pr} (hj : atP l k ≤ j) (hp : l[j]? = some p) : ¬ p.k < k := by
  induction l generalizing j with
  | nil => cases hp
  | cons q l ih =>
    rw [atP_cons] at hj
    split at hj
    · cases j with
      | zero => omega
      | succ j => exact ih hl.cons.2 (j := j) (by omega) (by simpa using hp)
    · rename_i hq
      cases j with
      | zero => simp at hp; subst hp; exact hq
      | succ j =>
        intro h
        have := hl.cons.1 p (List.mem_of_getElem? (by simpa using hp : l[j]? = some p))
        exact hq (str_trans this h)
theorem atP_eq {l : List Pr} {k : Str} {n : Nat} (hn : n ≤ l.length) (h1 : ∀ j p, j < n → l[j]? = some p → p.k < k) (h2 : ∀ p, l[n]? = some p → ¬ p.k < k) : atP l k = n := by
  induction l generalizing n with
  | nil => simp at hn; subst hn; rfl
  | cons q l ih =>
    rw [atP_cons]
    cases n with
    | zero => rw [if_neg (h2 q rfl)]
    | succ n =>
      rw [if_pos (h1 0 q (by omega) rfl)]
      rw [ih (n := n) (by simpa using hn) (fun j p hj hp => h1 (j + 1) p (by omega) (by simpa using hp)) (fun p hp => h2 p (by simpa using hp))]
theorem look_atP {l : List Pr} (hl : RiseP l) (k : Str) : lookP l k = (l[atP l k]?).bind fun p => if p.k = k then some p.v else none := by
  induction l with
  | nil => rfl
  | cons p l ih =>
    rw [look_cons, atP_cons]
    by_cases h : p.k < k
    · rw [if_pos h, if_neg (fun e => str_irrefl k (by rwa [e] at h)), ih hl.cons.2]
      simp
    · rw [if_neg h]
      by_cases e : p.k = k
      · simp [e]
      · rw [if_neg e]
        simp [e]
        refine look_none fun q hq eq => ?_
        have h1 := hl.cons.1 q hq
        rw [eq] at h1
        exact h h1
theorem oneP_atP (w : Wt) : ∀ (l : List Pr), oneP w l = l.take (atP l w.k) ++ (if w.d then [] else [⟨w.k, w.v⟩]) ++ l.drop (atP l w.k + if (l[atP l w.k]?).any (fun p => decide (p.k = w.k)) then 1 else 0)
  | [] => by unfold oneP; cases w.d <;> simp [atP]
  | p :: l => by
    unfold oneP
    rw [atP_cons]
    by_cases h : p.k < w.k
    · rw [if_pos h, if_pos h, oneP_atP w l]
      simp only [List.take_succ_cons, List.cons_append, List.getElem?_cons_succ, List.append_assoc, List.cons.injEq, true_and]
      congr 2
      rw [show atP l w.k + 1 + (if (l[atP l w.k]?).any (fun p => decide (p.k = w.k)) = true then 1 else 0) = (atP l w.k + (if (l[atP l w.k]?).any (fun p => decide (p.k = w.k)) = true then 1 else 0)) + 1 by omega, List.drop_succ_cons]
    · rw [if_neg h, if_neg h]
      by_cases e : p.k = w.k
      · rw [if_pos e]; cases w.d <;> simp [e]
      · rw [if_neg e]; cases w.d <;> simp [e]
end Go.Proofs.Ytnpgjobaibnknaa
