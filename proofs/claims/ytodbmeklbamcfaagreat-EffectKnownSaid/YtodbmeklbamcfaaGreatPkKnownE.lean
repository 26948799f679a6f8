/- A pack of texts: Rt, RtB, RtC, RtD, RtE -/
import Derived.WalkKit
import Derived.Maps.AppendAt
import Derived.Lib.AppendStr
import Derived.Lib.ConvBytes
import Derived.Lib.Hide
import Derived.Deep.Draws
/- What a call owns, as a list of things that lie apart: a small separation logic over the model's worlds. No program in sight. -/
namespace Go.Rt
open Go.RowKit

/-- A part of the memory. -/
abbrev Hp := Nat → Option Obj
/-- What holds of a part of the memory. -/
abbrev SL := Hp → Prop
def Hp.apart (a b : Hp) : Prop := ∀ k, a k = none ∨ b k = none
def Hp.join (a b : Hp) : Hp := fun k => (a k).or (b k)

/-- The things of a list lie apart from each other in a part of the memory. -/
def Own : List SL → SL
  | [] => fun _ => True
  | A :: l => fun h => ∃ a b, Hp.apart a b ∧ h = Hp.join a b ∧ A a ∧ Own l b

/-- W: the world when the outermost call began; w: now: what was there is as it was, and the things of l lie apart from each other in what is new. -/
structure Sat (W w : World) (l : List SL) : Prop where
  bel : Below W.heap.size W w
  has : ∃ h : Hp, Own l h ∧ ∀ k o, h k = some o → W.heap.size ≤ k ∧ w.heap[k]? = some o

/-- A block of cells, none of them frozen. -/
def pt (b : Nat) (c : Array Value) (t : TypeId) : SL := fun h => h b = some (.cells c t (0, 0))
/-- A thing with a fact beside it. -/
def both (p : Prop) (A : SL) : SL := fun h => p ∧ A h
def ex {α : Type} (A : α → SL) : SL := fun h => ∃ x, A x h
def sep (A B : SL) : SL := fun h => ∃ a b, Hp.apart a b ∧ h = Hp.join a b ∧ A a ∧ B b

theorem join_left {a b : Hp} {k : Nat} {o : Obj} (h : a k = some o) : Hp.join a b k = some o := by simp [Hp.join, h]
theorem join_right {a b : Hp} (d : Hp.apart a b) {k : Nat} {o : Obj} (h : b k = some o) : Hp.join a b k = some o := by
  rcases d k with h1 | h1
  · simp [Hp.join, h1, h]
  · rw [h1] at h; cases h
theorem join_cases {a b : Hp} {k : Nat} {o : Obj} (h : Hp.join a b k = some o) : a k = some o ∨ b k = some o := by
  unfold Hp.join at h
  cases ha : a k with
  | none => rw [ha] at h; exact .inr (by simpa using h)
  | some x => rw [ha] at h; exact .inl (by simpa using h)

theorem Own.swap {A B : SL} {l : List SL} {h : Hp} (H : Own (A :: B :: l) h) : Own (B :: A :: l) h := by
  obtain ⟨a, r, d, rfl, ha, b, c, d2, rfl, hb, hc⟩ := H
  have dab : ∀ k, a k = none ∨ b k = none := fun k => by
    rcases d k with e | e
    · exact .inl e
    · right; cases hbk : b k with
      | none => rfl
      | some x => rw [join_left hbk] at e; cases e
  have dac : ∀ k, a k = none ∨ c k = none := fun k => by
    rcases d k with e | e
    · exact .inl e
    · right; cases hck : c k with
      | none => rfl
      | some x => rw [join_right d2 hck] at e; cases e
  refine ⟨b, Hp.join a c, fun k => ?_, ?_, hb, a, c, dac, rfl, ha, hc⟩
  · cases hbk : b k with
    | none => exact .inl rfl
    | some x =>
      right
      have h1 : a k = none := by rcases dab k with e | e; exact e; rw [hbk] at e; cases e
      have h2 : c k = none := by rcases d2 k with e | e; rw [hbk] at e; cases e; exact e
      simp [Hp.join, h1, h2]
  · funext k
    rcases dab k with e | e <;> simp [Hp.join, e]

theorem Own.cons_mono {A : SL} {l l' : List SL} (hl : ∀ h, Own l h → Own l' h) {h : Hp} (H : Own (A :: l) h) : Own (A :: l') h :=
  let ⟨a, b, d, e, ha, hb⟩ := H; ⟨a, b, d, e, ha, hl b hb⟩

theorem Own.head_mono {A B : SL} {l : List SL} (hl : ∀ h, A h → B h) {h : Hp} (H : Own (A :: l) h) : Own (B :: l) h :=
  let ⟨a, b, d, e, ha, hb⟩ := H; ⟨a, b, d, e, hl a ha, hb⟩

/-- The i-th thing of a list is brought to the head. -/
def pull : Nat → List SL → List SL
  | 0, l => l
  | _ + 1, [] => []
  | i + 1, A :: l => match pull i l with
    | [] => [A]
    | B :: r => B :: A :: r

theorem Own.pull : ∀ (i : Nat) (l : List SL) (h : Hp), Own l h → Own (Go.Rt.pull i l) h
  | 0, _, _, H => H
  | _ + 1, [], _, H => H
  | i + 1, A :: l, h, H => by
    have H1 : Own (A :: Go.Rt.pull i l) h := Own.cons_mono (Own.pull i l) H
    show Own (match Go.Rt.pull i l with | [] => [A] | B :: r => B :: A :: r) h
    cases hp : Go.Rt.pull i l with
    | nil => rw [hp] at H1; exact H1
    | cons B r => rw [hp] at H1; exact Own.swap H1

theorem Own.perm {l l' : List SL} (p : l.Perm l') : ∀ h, Own l h → Own l' h := by
  induction p with
  | nil => exact fun _ H => H
  | cons x _ ih => exact fun _ H => Own.cons_mono ih H
  | swap x y l => exact fun _ H => Own.swap H
  | trans _ _ i1 i2 => exact fun h H => i2 h (i1 h H)

theorem Own.sep {A B : SL} {l : List SL} {h : Hp} (H : Own (Go.Rt.sep A B :: l) h) : Own (A :: B :: l) h := by
  obtain ⟨r, c, d, rfl, ⟨a, b, d2, rfl, ha, hb⟩, hc⟩ := H
  refine ⟨a, Hp.join b c, fun k => ?_, ?_, ha, b, c, fun k => ?_, rfl, hb, hc⟩
  · cases hak : a k with
    | none => exact .inl rfl
    | some x =>
      right
      have h1 : b k = none := by rcases d2 k with e | e; rw [hak] at e; cases e; exact e
      have h2 : c k = none := by rcases d k with e | e; rw [join_left hak] at e; cases e; exact e
      simp [Hp.join, h1, h2]
  · funext k; simp only [Hp.join]; cases a k <;> rfl
  · cases hbk : b k with
    | none => exact .inl rfl
    | some x => right; rcases d k with e | e; rw [join_right d2 hbk] at e; cases e; exact e

theorem Own.unsep {A B : SL} {l : List SL} {h : Hp} (H : Own (A :: B :: l) h) : Own (Go.Rt.sep A B :: l) h := by
  obtain ⟨a, r, d, rfl, ha, b, c, d2, rfl, hb, hc⟩ := H
  have dac : ∀ k, a k = none ∨ c k = none := fun k => by
    rcases d k with e | e
    · exact .inl e
    · right; cases hck : c k with
      | none => rfl
      | some x => rw [join_right d2 hck] at e; cases e
  have dab : ∀ k, a k = none ∨ b k = none := fun k => by
    rcases d k with e | e
    · exact .inl e
    · right; cases hbk : b k with
      | none => rfl
      | some x => rw [join_left hbk] at e; cases e
  refine ⟨Hp.join a b, c, fun k => ?_, ?_, ⟨a, b, dab, rfl, ha, hb⟩, hc⟩
  · cases hck : c k with
    | none => exact .inr rfl
    | some x =>
      left
      have h1 : a k = none := by rcases dac k with e | e; exact e; rw [hck] at e; cases e
      have h2 : b k = none := by rcases d2 k with e | e; exact e; rw [hck] at e; cases e
      simp [Hp.join, h1, h2]
  · funext k; simp only [Hp.join]; cases a k <;> rfl

section
variable {W w : World} {l : List SL} {A B : SL}

theorem Sat.start (W : World) : Sat W W [] := ⟨Below.refl _ _, fun _ => none, trivial, fun _ _ h => by cases h⟩
theorem Sat.own {l' : List SL} (H : Sat W w l) (f : ∀ h, Own l h → Own l' h) : Sat W w l' := let ⟨h, ho, hh⟩ := H.has; ⟨H.bel, h, f h ho, hh⟩
theorem Sat.swap (H : Sat W w (A :: B :: l)) : Sat W w (B :: A :: l) := H.own fun _ => Own.swap
theorem Sat.pull (H : Sat W w l) (i : Nat) : Sat W w (Go.Rt.pull i l) := H.own (Own.pull i l)
theorem Sat.perm {l' : List SL} (H : Sat W w l) (p : l.Perm l') : Sat W w l' := H.own (Own.perm p)
/-- The head is put behind the things of X. -/
theorem Sat.sink (X : List SL) (H : Sat W w (A :: (X ++ l))) : Sat W w (X ++ A :: l) := H.perm (List.perm_middle (l₁ := X)).symm
theorem Sat.sep (H : Sat W w (Go.Rt.sep A B :: l)) : Sat W w (A :: B :: l) := H.own fun _ => Own.sep
theorem Sat.unsep (H : Sat W w (A :: B :: l)) : Sat W w (Go.Rt.sep A B :: l) := H.own fun _ => Own.unsep
theorem Sat.head (H : Sat W w (A :: l)) (f : ∀ h, A h → B h) : Sat W w (B :: l) := H.own fun _ => Own.head_mono f
theorem Sat.tail (H : Sat W w (A :: l)) : Sat W w l := by
  obtain ⟨hb, h, ⟨a, b, d, rfl, ha, hl⟩, hh⟩ := H
  exact ⟨hb, b, hl, fun k o e => hh k o (join_right d e)⟩
theorem Sat.cons_mono {l' : List SL} (H : Sat W w (A :: l)) (f : ∀ h, Own l h → Own l' h) : Sat W w (A :: l') := H.own fun _ => Own.cons_mono f
theorem Sat.ex {α : Type} {A : α → SL} (H : Sat W w (Go.Rt.ex A :: l)) : ∃ x, Sat W w (A x :: l) := by
  obtain ⟨hb, h, ⟨a, b, d, e, ⟨x, ha⟩, hl⟩, hh⟩ := H
  exact ⟨x, hb, h, ⟨a, b, d, e, ha, hl⟩, hh⟩
theorem Sat.unex {α : Type} {A : α → SL} (x : α) (H : Sat W w (A x :: l)) : Sat W w (Go.Rt.ex A :: l) := H.head fun _ h => ⟨x, h⟩
theorem Sat.both {p : Prop} (H : Sat W w (Go.Rt.both p A :: l)) : p ∧ Sat W w (A :: l) := by
  obtain ⟨hb, h, ⟨a, b, d, e, ⟨hp, ha⟩, hl⟩, hh⟩ := H
  exact ⟨hp, hb, h, ⟨a, b, d, e, ha, hl⟩, hh⟩
theorem Sat.unboth {p : Prop} (hp : p) (H : Sat W w (A :: l)) : Sat W w (Go.Rt.both p A :: l) := H.head fun _ h => ⟨hp, h⟩

/-- Whatever keeps the blocks that are owned, and what was there at the beginning, keeps all. -/
theorem Sat.kept {w' : World} (H : Sat W w l) (hb : Below W.heap.size W w') (hk : ∀ k o, w.heap[k]? = some o → W.heap.size ≤ k → w'.heap[k]? = some o) : Sat W w' l := by
  obtain ⟨_, h, ho, hh⟩ := H
  exact ⟨hb, h, ho, fun k o e => let ⟨h1, h2⟩ := hh k o e; ⟨h1, hk k o h2 h1⟩⟩
theorem Sat.drew (H : Sat W w l) : Sat W w.drew l := H.kept H.bel.drew fun _ _ h _ => h
theorem Sat.drewN (H : Sat W w l) (n : Nat) : Sat W (w.drewN n) l := H.kept ⟨H.bel.os, H.bel.tape, H.bel.output, H.bel.size, H.bel.block⟩ fun _ _ h _ => h
theorem Sat.below {w' : World} (H : Sat W w l) (hb : Below w.heap.size w w') : Sat W w' l :=
  H.kept (H.bel.trans (hb.mono H.bel.size)) fun k o h _ => by
    rw [hb.block k (Array.getElem?_eq_some_iff.1 h).1]; exact h

theorem Sat.alloc' (H : Sat W w l) (o : Obj) : Sat W (w.alloc o) l := H.below ((Below.refl _ _).alloc (Nat.le_refl _) o)

theorem heap_new (w : World) (o : Obj) : (w.alloc o).heap[w.heap.size]? = some o := by
  show (w.heap.push o)[w.heap.size]? = _
  simp

theorem Sat.add {A : SL} {a : Hp} (H : Sat W w l) (w' : World) (hb : Below w.heap.size w w') (ha : A a) (hn : ∀ k o, a k = some o → w.heap.size ≤ k ∧ w'.heap[k]? = some o) : Sat W w' (A :: l) := by
  obtain ⟨hb0, h, ho, hh⟩ := H
  refine ⟨hb0.trans (hb.mono hb0.size), Hp.join a h, ⟨a, h, fun k => ?_, rfl, ha, ho⟩, fun k o e => ?_⟩
  · cases hak : a k with
    | none => exact .inl rfl
    | some x =>
      right
      cases hhk : h k with
      | none => rfl
      | some y =>
        have h1 := (hn k x hak).1
        have h2 := (Array.getElem?_eq_some_iff.1 (hh k y hhk).2).1
        omega
  · rcases join_cases e with e | e
    · have := hn k o e
      exact ⟨Nat.le_trans hb0.size this.1, this.2⟩
    · have h2 := (hh k o e).2
      refine ⟨(hh k o e).1, ?_⟩
      rw [hb.block k (Array.getElem?_eq_some_iff.1 h2).1]; exact h2

theorem Sat.alloc (H : Sat W w l) (c : Array Value) (t : TypeId) : Sat W (w.alloc (.cells c t)) (pt w.heap.size c t :: l) := by
  refine H.add (a := fun k => if k = w.heap.size then some (.cells c t (0, 0)) else none) _ ((Below.refl _ _).alloc (Nat.le_refl _) _) (by simp [pt]) fun k o e => ?_
  by_cases hk : k = w.heap.size
  · subst hk
    simp at e
    subst e
    exact ⟨Nat.le_refl _, heap_new w _⟩
  · simp [hk] at e

theorem Sat.heap {b : Nat} {c : Array Value} {t : TypeId} (H : Sat W w (pt b c t :: l)) : w.heap[b]? = some (.cells c t (0, 0)) := by
  obtain ⟨_, h, ⟨a, r, d, rfl, ha, _⟩, hh⟩ := H
  exact (hh b _ (join_left ha)).2
theorem Sat.ge {b : Nat} {c : Array Value} {t : TypeId} (H : Sat W w (pt b c t :: l)) : W.heap.size ≤ b := by
  obtain ⟨_, h, ⟨a, r, d, rfl, ha, _⟩, hh⟩ := H
  exact (hh b _ (join_left ha)).1
theorem Sat.lt {b : Nat} {c : Array Value} {t : TypeId} (H : Sat W w (pt b c t :: l)) : b < w.heap.size := (Array.getElem?_eq_some_iff.1 H.heap).1
theorem Sat.cell {b : Nat} {c : Array Value} {t : TypeId} (H : Sat W w (pt b c t :: l)) (i : Nat) : w.cell? ⟨b, i, none⟩ = c[i]? := by simp [World.cell?, H.heap]
theorem Sat.frz {b : Nat} {c : Array Value} {t : TypeId} (H : Sat W w (pt b c t :: l)) (i : Nat) : w.frozen? ⟨b, i, none⟩ = false := by simp [World.frozen?, H.heap]
theorem Sat.ne {b b' : Nat} {c c' : Array Value} {t t' : TypeId} (H : Sat W w (pt b c t :: pt b' c' t' :: l)) : b ≠ b' := by
  obtain ⟨_, h, ⟨a, r, d, rfl, ha, a', r', d', rfl, ha', _⟩, hh⟩ := H
  rintro rfl
  rcases d b with e | e
  · have ha1 : a b = some (.cells c t (0, 0)) := ha
    rw [ha1] at e; cases e
  · have ha1 : a' b = some (.cells c' t' (0, 0)) := ha'
    rw [join_left ha1] at e; cases e

/-- A part of what is owned is written. -/
theorem Sat.put {A B : SL} {w' : World} (H : Sat W w (A :: l)) (hb : Below W.heap.size W w')
    (f : ∀ a, A a → (∀ k o, a k = some o → w.heap[k]? = some o ∧ W.heap.size ≤ k) →
      ∃ b, B b ∧ (∀ k, b k ≠ none → a k ≠ none ∨ w.heap.size ≤ k) ∧ (∀ k o, b k = some o → W.heap.size ≤ k ∧ w'.heap[k]? = some o) ∧ ∀ k, a k = none → k < w.heap.size → w'.heap[k]? = w.heap[k]?) : Sat W w' (B :: l) := by
  obtain ⟨hb0, h, ⟨a, r, d, rfl, ha, hl⟩, hh⟩ := H
  obtain ⟨b, hB, hs, hn, hk⟩ := f a ha fun k o e => let ⟨h1, h2⟩ := hh k o (join_left e); ⟨h2, h1⟩
  refine ⟨hb, Hp.join b r, ⟨b, r, fun k => ?_, rfl, hB, hl⟩, fun k o e => ?_⟩
  · cases hbk : b k with
    | none => exact .inl rfl
    | some x =>
      right
      rcases hs k (by simp [hbk]) with e | e
      · rcases d k with e' | e'
        · exact absurd e' e
        · exact e'
      · cases hrk : r k with
        | none => rfl
        | some y =>
          have := (Array.getElem?_eq_some_iff.1 (hh k y (join_right d hrk)).2).1
          omega
  · rcases join_cases e with e | e
    · exact hn k o e
    · have h2 := hh k o (join_right d e)
      have hak : a k = none := by
        rcases d k with e' | e'
        · exact e'
        · rw [e] at e'; cases e'
      exact ⟨h2.1, by rw [hk k hak (Array.getElem?_eq_some_iff.1 h2.2).1]; exact h2.2⟩

theorem Sat.setCell {b : Nat} {c : Array Value} {t : TypeId} (H : Sat W w (pt b c t :: l)) (i : Nat) (v : Value) : Sat W (w.setCell ⟨b, i, none⟩ v) (pt b (c.setIfInBounds i v) t :: l) := by
  refine H.put (H.bel.setCell H.ge v) fun a ha hh => ⟨fun k => if k = b then some (.cells (c.setIfInBounds i v) t (0, 0)) else none, by simp [pt], fun k hk => ?_, fun k o e => ?_, fun k hk _ => ?_⟩
  · by_cases e : k = b
    · subst e; left; have : a k = _ := ha; rw [this]; simp
    · simp [e] at hk
  · by_cases e1 : k = b
    · subst e1
      simp at e
      subst e
      have h1 := hh k _ ha
      refine ⟨h1.2, ?_⟩
      simp [World.setCell, Array.getElem?_modify, h1.1]
    · simp [e1] at e
  · have : k ≠ b := by rintro rfl; have : a k = _ := ha; rw [this] at hk; cases hk
    exact Below.heap_setCell w _ v k this

end

/-- Two cells of one kind. -/
def like : Value → Value → Bool
  | .int k _, .int k' _ => k == k'
  | .string _, .string _ => true
  | .bool _, .bool _ => true
  | .slice .., .slice .. => true
  | .pointer _, .pointer _ => true
  | .map _, .map _ => true
  | _, _ => false

/-- Cells of a row whose element has the zero cells zc: each of its kind. -/
def Typed (zc : List Value) (cs : List Value) : Prop := ∀ j u, cs[j]? = some u → like u (zc.getD (j % zc.length) undef) = true

/-- Zero cells that can be told apart from others. -/
def LikeZ (zc : List Value) : Prop := ∀ (j : Nat) (u : Value), zc[j]? = some u → like u u = true

theorem Typed.nil (zc : List Value) : Typed zc [] := fun j u h => by simp at h
theorem Typed.append {zc a b : List Value} (ha : Typed zc a) (hb : Typed zc b) (hl : a.length % zc.length = 0) : Typed zc (a ++ b) := fun j u h => by
  rw [List.getElem?_append] at h
  split at h
  · exact ha j u h
  · rename_i hj
    have h1 := hb _ u h
    have e : (j - a.length) % zc.length = j % zc.length := by
      have := Nat.add_mod (j - a.length) a.length zc.length
      rw [Nat.sub_add_cancel (by omega), hl, Nat.add_zero, Nat.mod_mod] at this
      exact this.symm
    rwa [e] at h1
theorem Typed.take {zc a : List Value} (ha : Typed zc a) (k : Nat) : Typed zc (a.take k) := fun j u h => by
  rw [List.getElem?_take] at h
  split at h
  · exact ha j u h
  · cases h
theorem Typed.drop {zc a : List Value} (ha : Typed zc a) (k : Nat) (hk : k % zc.length = 0) : Typed zc (a.drop k) := fun j u h => by
  rw [List.getElem?_drop] at h
  have h1 := ha _ u h
  have e : (k + j) % zc.length = j % zc.length := by rw [Nat.add_mod, hk, Nat.zero_add, Nat.mod_mod]
  rwa [e] at h1
theorem Typed.set {zc a : List Value} (ha : Typed zc a) (k : Nat) (v : Value) (hv : like v (zc.getD (k % zc.length) undef) = true) : Typed zc (a.set k v) := fun j u h => by
  rw [List.getElem?_set] at h
  split at h
  · rename_i e; subst e
    split at h
    · cases h; exact hv
    · cases h
  · exact ha j u h
theorem Typed.zeros {zc : List Value} (hz : LikeZ zc) (n : Nat) : Typed zc (Builtin.zeroCells zc.toArray n).toList := fun j u h => by
  unfold Builtin.zeroCells at h
  simp only [Array.toList_map, Array.toList_range, List.getElem?_map, List.size_toArray] at h
  cases hr : (List.range (n * zc.length))[j]? with
  | none => rw [hr] at h; cases h
  | some i =>
    rw [hr] at h
    have hi : i = j := by
      have := List.getElem?_eq_some_iff.1 hr
      obtain ⟨h1, h2⟩ := this
      simpa using h2.symm
    subst hi
    simp only [Option.map_some, Option.some.injEq] at h
    have hlt : i < n * zc.length := by
      obtain ⟨h1, _⟩ := List.getElem?_eq_some_iff.1 hr
      simpa using h1
    have hpos : 0 < zc.length := by
      rcases Nat.eq_zero_or_pos zc.length with h0 | h0
      · rw [h0] at hlt; omega
      · exact h0
    have hm : i % zc.length < zc.length := Nat.mod_lt _ hpos
    have e1 : zc.toArray[i % zc.length]! = zc[i % zc.length] := by simp [hm]
    rw [e1] at h
    have e2 : zc.getD (i % zc.length) undef = zc[i % zc.length] := by simp [List.getD, hm]
    rw [e2, ← h]
    exact hz (i % zc.length) _ (List.getElem?_eq_getElem hm)

/-- A row that the call owns alone: its slice value, what it holds (cells), whatever spare room; zc: the zero cells of its element's type. -/
def row (e : TypeId) (zc : List Value) (v : Value) (n : Nat) (xs : List Value) : SL := fun h =>
  xs.length = n * zc.length ∧
  ((v = .slice none 0 0 ∧ n = 0) ∨
   ∃ g cap cur, v = .slice (some ⟨g, 0, none⟩) n cap ∧ h g = some (.cells cur e (0, 0)) ∧ n ≤ cap ∧ cap ≤ maxLen ∧ cur.size = cap * zc.length ∧ cur.toList.take (n * zc.length) = xs ∧ Typed zc cur.toList)

section
variable {W w : World} {l : List SL}
theorem row_nil (e : TypeId) (zc : List Value) (h : Hp) : row e zc (.slice none 0 0) 0 [] h := ⟨by simp, .inl ⟨rfl, rfl⟩⟩
theorem Sat.nil (H : Sat W w l) (e : TypeId) (zc : List Value) : Sat W w (row e zc (.slice none 0 0) 0 [] :: l) :=
  H.add (a := fun _ => none) w (Below.refl _ _) (row_nil e zc _) fun _ _ h => by cases h

variable {e : TypeId} {zc : List Value} {n : Nat} {v : Value} {xs : List Value}
theorem Sat.owns (H : Sat W w (row e zc v n xs :: l)) : w.ownsRow W.heap.size e zc.length v n xs := by
  obtain ⟨_, h, ⟨a, r, d, rfl, ⟨hx, ha⟩, _⟩, hh⟩ := H
  refine ⟨hx, ?_⟩
  rcases ha with ha | ⟨g, cap, cur, hv, hg, h1, h2, h3, h4, _⟩
  · exact .inl ha
  · have := hh g _ (join_left hg)
    exact .inr ⟨g, cap, cur, hv, this.1, this.2, h1, h2, h3, h4⟩

/-- A row that is made whole: the world has one block more. -/
theorem Sat.made (H : Sat W w l) (cur : Array Value) (e : TypeId) (zc : List Value) (n cap : Nat) (h1 : n ≤ cap) (h2 : cap ≤ maxLen) (h3 : cur.size = cap * zc.length) (ht : Typed zc cur.toList) :
    Sat W (w.alloc (.cells cur e)) (row e zc (.slice (some ⟨w.heap.size, 0, none⟩) n cap) n (cur.toList.take (n * zc.length)) :: l) := by
  refine (H.alloc cur e).head fun h hh => ⟨?_, .inr ⟨w.heap.size, cap, cur, rfl, hh, h1, h2, h3, rfl, ht⟩⟩
  have hcl : cur.toList.length = cap * zc.length := by simpa using h3
  rw [List.length_take, hcl]
  exact Nat.min_eq_left (Nat.mul_le_mul_right _ h1)

/-- The row's block is written whole. -/
theorem Sat.setRow {g c : Nat} (H : Sat W w (row e zc (.slice (some ⟨g, 0, none⟩) n c) n xs :: l)) (cur : Array Value) (n' : Nat) (hn : n' ≤ c) (hs : cur.size = c * zc.length) (ht : Typed zc cur.toList) :
    Sat W (w.setRow g cur) (row e zc (.slice (some ⟨g, 0, none⟩) n' c) n' (cur.toList.take (n' * zc.length)) :: l) := by
  have hge : W.heap.size ≤ g := (H.owns.lt g rfl).1
  have hb : Below W.heap.size W (w.setRow g cur) := H.bel.trans ⟨rfl, rfl, rfl, by simp, fun k hk => setRow_other w g k _ (by omega)⟩
  refine H.put hb fun a ⟨hx, ha⟩ hh => ?_
  rcases ha with ⟨hv, _⟩ | ⟨g', cap, cur0, hv, hg, h1, h2, h3, h4, h5⟩
  · cases hv
  · cases hv
    have hw := (hh g _ hg).1
    refine ⟨fun k => if k = g then some (.cells cur e (0, 0)) else none, ⟨?_, .inr ⟨g, c, cur, rfl, by simp, hn, h2, hs, rfl, ht⟩⟩, fun k hk => ?_, fun k o ek => ?_, fun k hk _ => ?_⟩
    · have hcl : cur.toList.length = c * zc.length := by simpa using hs
      rw [List.length_take, hcl]
      exact Nat.min_eq_left (Nat.mul_le_mul_right _ hn)
    · by_cases e1 : k = g
      · subst e1; left; rw [hg]; simp
      · simp [e1] at hk
    · by_cases e1 : k = g
      · subst e1
        simp at ek
        subst ek
        exact ⟨hge, setRow_heap w k _ cur e _ hw⟩
      · simp [e1] at ek
    · exact setRow_other w g k cur (by rintro rfl; rw [hg] at hk; cases hk)

/-- The slice value of a row, written out. -/
theorem Sat.slice (H : Sat W w (row e zc v n xs :: l)) :
    xs.length = n * zc.length ∧ ∃ A c, v = .slice A n c ∧ n ≤ c ∧ c ≤ maxLen ∧ (A = none → c = 0 ∧ n = 0) ∧ ∀ a, A = some a → a.off = 0 ∧ a.spot = none ∧ W.heap.size ≤ a.block ∧ a.block < w.heap.size := by
  obtain ⟨hx, h⟩ := H.owns
  rcases h with ⟨rfl, rfl⟩ | ⟨g, cap, cur, rfl, hge, hg, h1, h2, h3, h4⟩
  · exact ⟨hx, none, 0, rfl, Nat.le_refl _, by simp [maxLen], fun _ => ⟨rfl, rfl⟩, nofun⟩
  · exact ⟨hx, _, cap, rfl, h1, h2, nofun, fun a h => by cases h; exact ⟨rfl, rfl, hge, (Array.getElem?_eq_some_iff.1 hg).1⟩⟩

variable {c : Nat} {A : Option Addr}
theorem Sat.row_some (H : Sat W w (row e zc (.slice A n c) n xs :: l)) (hn : 0 < n) : ∃ g, A = some ⟨g, 0, none⟩ := by
  obtain ⟨_, h⟩ := H.owns
  rcases h with ⟨hv, h0⟩ | ⟨g, cap, cur, hv, _⟩
  · omega
  · cases hv; exact ⟨g, rfl⟩
theorem Sat.row_blk {g : Nat} (H : Sat W w (row e zc (.slice (some ⟨g, 0, none⟩) n c) n xs :: l)) :
    ∃ cur, w.heap[g]? = some (.cells cur e (0, 0)) ∧ n ≤ c ∧ c ≤ maxLen ∧ cur.size = c * zc.length ∧ cur.toList.take (n * zc.length) = xs ∧ Typed zc cur.toList := by
  obtain ⟨_, h, ⟨a, r, d, rfl, ⟨hx, ha⟩, _⟩, hh⟩ := H
  rcases ha with ⟨hv, h0⟩ | ⟨g', cap, cur, hv, h1, h2, h3, h4, h5, h6⟩
  · cases hv
  · cases hv; exact ⟨cur, (hh g _ (join_left h1)).2, h2, h3, h4, h5, h6⟩
theorem Sat.row_lt {g : Nat} (H : Sat W w (row e zc (.slice (some ⟨g, 0, none⟩) n c) n xs :: l)) : g < w.heap.size := by
  obtain ⟨cur, h, _⟩ := H.row_blk; exact (Array.getElem?_eq_some_iff.1 h).1
theorem Sat.row_ge {g : Nat} (H : Sat W w (row e zc (.slice (some ⟨g, 0, none⟩) n c) n xs :: l)) : W.heap.size ≤ g := (H.owns.lt g rfl).1
theorem Sat.row_frz {g : Nat} (H : Sat W w (row e zc (.slice (some ⟨g, 0, none⟩) n c) n xs :: l)) (j : Nat) : w.frozen? ⟨g, j, none⟩ = false := by
  obtain ⟨cur, h, _⟩ := H.row_blk
  simp [World.frozen?, h]
theorem Sat.row_at {g : Nat} (H : Sat W w (row e zc (.slice (some ⟨g, 0, none⟩) n c) n xs :: l)) (j : Nat) (hj : j < c * zc.length) : ∃ u, w.cell? ⟨g, j, none⟩ = some u ∧ like u (zc.getD (j % zc.length) undef) = true := by
  obtain ⟨cur, h, h1, h2, h3, h4, h5⟩ := H.row_blk
  have hj' : j < cur.size := by omega
  refine ⟨cur[j], by simp [World.cell?, h, hj'], h5 j _ (by simp [hj'])⟩
theorem Sat.row_set {g : Nat} (H : Sat W w (row e zc (.slice (some ⟨g, 0, none⟩) n c) n xs :: l)) (j : Nat) (u : Value) (hu : like u (zc.getD (j % zc.length) undef) = true) :
    Sat W (w.setCell ⟨g, j, none⟩ u) (row e zc (.slice (some ⟨g, 0, none⟩) n c) n (xs.set j u) :: l) := by
  refine H.put (H.bel.setCell H.row_ge u) fun a ⟨hx, ha⟩ hh => ?_
  rcases ha with ⟨hv, _⟩ | ⟨g', cap, cur, hv, hg, h1, h2, h3, h4, h5⟩
  · cases hv
  · cases hv
    refine ⟨fun k => if k = g then some (.cells (cur.setIfInBounds j u) e (0, 0)) else none, ⟨by rw [List.length_set]; exact hx, .inr ⟨g, c, cur.setIfInBounds j u, rfl, by simp, h1, h2, by simpa using h3, ?_, ?_⟩⟩, fun k hk => ?_, fun k o ek => ?_, fun k hk _ => ?_⟩
    · rw [Array.toList_setIfInBounds, ← h4, List.take_set]
    · rw [Array.toList_setIfInBounds]; exact h5.set j u hu
    · by_cases e1 : k = g
      · subst e1; left; rw [hg]; simp
      · simp [e1] at hk
    · by_cases e1 : k = g
      · subst e1
        simp at ek
        subst ek
        have h5 := hh k _ hg
        exact ⟨h5.2, by simp [World.setCell, Array.getElem?_modify, h5.1]⟩
      · simp [e1] at ek
    · have : k ≠ g := by rintro rfl; rw [hg] at hk; cases hk
      exact Below.heap_setCell w _ u k this
end

/-- A slice as a reader sees it: the cells of its elements. -/
def Rd (w : World) (A : Option Addr) (xs : List Value) : Prop := ∀ j u, xs[j]? = some u → ∃ b o, A = some ⟨b, o, none⟩ ∧ w.cell? ⟨b, o + j, none⟩ = some u

theorem Rd.nil (w : World) (A : Option Addr) : Rd w A [] := fun j u h => by simp at h
theorem Rd.drewN {w : World} {A : Option Addr} {xs : List Value} (h : Rd w A xs) (n : Nat) : Rd (w.drewN n) A xs := h
theorem Rd.below {w w' : World} {A : Option Addr} {xs : List Value} (h : Rd w A xs) (hb : Below w.heap.size w w') : Rd w' A xs := fun j u hu => by
  obtain ⟨b, o, hA, hc⟩ := h j u hu
  exact ⟨b, o, hA, by rw [hb.cell (World.block_lt_of_cell? w _ hc)]; exact hc⟩
theorem Rd.old {W w : World} {A : Option Addr} {xs : List Value} (h : Rd W A xs) {l : List SL} (H : Sat W w l) : Rd w A xs := h.below H.bel
/-- A new block, read whole. -/
theorem Rd.new (w : World) (c : Array Value) (t : TypeId) : Rd (w.alloc (.cells c t)) (some ⟨w.heap.size, 0, none⟩) c.toList := fun j u hu =>
  ⟨_, _, rfl, by rw [World.cell?_alloc_new, Nat.zero_add, ← Array.getElem?_toList]; exact hu⟩
/-- One cell of it. -/
theorem Rd.at {w : World} {b o : Nat} {xs : List Value} (h : Rd w (some ⟨b, o, none⟩) xs) (j : Nat) {u : Value} (hu : xs[j]? = some u) : w.cell? ⟨b, o + j, none⟩ = some u := by
  obtain ⟨b', o', e, hc⟩ := h j u hu
  cases e; exact hc
theorem Rd.open {w : World} {A : Option Addr} {xs : List Value} (h : Rd w A xs) (hx : xs ≠ []) : ∃ b o, A = some ⟨b, o, none⟩ := by
  cases xs with
  | nil => exact absurd rfl hx
  | cons x l => obtain ⟨b, o, e, _⟩ := h 0 x rfl; exact ⟨b, o, e⟩
theorem Rd.drop {w : World} {b o : Nat} {xs : List Value} (h : Rd w (some ⟨b, o, none⟩) xs) (k : Nat) : Rd w (some ⟨b, o + k, none⟩) (xs.drop k) := fun j u hu => by
  rw [List.getElem?_drop] at hu
  exact ⟨b, o + k, rfl, by rw [Nat.add_assoc]; exact h.at (k + j) hu⟩
theorem Rd.take {w : World} {A : Option Addr} {xs : List Value} (h : Rd w A xs) (k : Nat) : Rd w A (xs.take k) := fun j u hu => by
  rw [List.getElem?_take] at hu
  split at hu
  · exact h j u hu
  · cases hu

theorem Sat.rd {W w : World} {l : List SL} {e : TypeId} {zc : List Value} {n c : Nat} {A : Option Addr} {m : Nat} {xs : List Value} (H : Sat W w (row e zc (.slice A m c) n xs :: l)) : Rd w A xs := by
  intro j u hu
  obtain ⟨hx, h⟩ := H.owns
  rcases h with ⟨hv, hn⟩ | ⟨g, cap, cur, hv, hge, hg, h1, h2, h3, h4⟩
  · subst hn
    have : xs = [] := List.eq_nil_of_length_eq_zero (by simpa using hx)
    subst this; simp at hu
  · injection hv with hA hm hc
    refine ⟨g, 0, hA, ?_⟩
    rw [Nat.zero_add]
    have := H.owns.cells (g := g) (by simp [Value.ownBlock, hA]) j u hu
    unfold Addr.add at this
    split at this
    · rename_i hj; subst hj; exact this
    · simpa using this
theorem Sat.row_cell {W w : World} {l : List SL} {e : TypeId} {zc : List Value} {n c : Nat} {xs : List Value} {g : Nat} (H : Sat W w (row e zc (.slice (some ⟨g, 0, none⟩) n c) n xs :: l)) (j : Nat) {u : Value} (hu : xs[j]? = some u) : w.cell? ⟨g, j, none⟩ = some u := by
  have := (Sat.rd H).at j hu
  rwa [Nat.zero_add] at this

section
variable {P : Program} {W w : World} {l : List SL}

/-- A new row behind append's growing arm. -/
theorem Sat.grew {e : TypeId} {zc : List Value} (H : Sat W w l) (xs : List Value) (need old : Nat) (hx : xs.length = need * zc.length) (ht : Typed zc xs) (hzz : LikeZ zc) (h63 : need ≤ maxLen) (cur : Array Value)
    (hc : cur = xs.toArray ++ Builtin.zeroCells zc.toArray (grownCap w need old e - need)) :
    Sat W (w.drew.alloc (.cells cur e)) (row e zc (.slice (some ⟨w.heap.size, 0, none⟩) need (grownCap w need old e)) need xs :: l) := by
  have hge := grownCap_ge w need old e
  have hcm : grownCap w need old e ≤ maxLen := grownCap_le_maxLen w need old e h63
  have hs : cur.size = grownCap w need old e * zc.length := by
    rw [hc]
    simp only [Array.size_append, List.size_toArray, size_zeroCells, hx, ← Nat.add_mul]
    congr 1
    omega
  have h := H.drew.made cur e zc need (grownCap w need old e) hge hcm hs (by
    rw [hc, Array.toList_append]
    exact ht.append (Typed.zeros hzz _) (by simp [hx]))
  have e1 : cur.toList.take (need * zc.length) = xs := by
    rw [hc, Array.toList_append, ← hx]
    exact List.take_left
  rw [e1] at h
  exact h

theorem run_append_typed (t ty e : TypeId) (i : TypeInfo) (z : Value) (zc : List Value) (ht : P.underlying t = some (.slice e)) (hi : P.info? e = some i) (hz : i.zero = some z) (hzc : z.cells = zc.toArray)
    (hsize : i.size = zc.length) (hpos : 0 < zc.length) (hzz : LikeZ zc)
    (v : Value) (n : Nat) (xs : List Value) (H : Sat W w (row e zc v n xs :: l))
    (A : Option Addr) (m c : Nat) (news : List Value) (hl : news.length = m * zc.length) (hr : Rd w A news) (h1 : ∀ u ∈ news, u.oneCell' = true) (hty : Typed zc news)
    (h63 : n + m ≤ maxLen) (hbytes : (n + m) * i.bytes ≤ 140737488355328) :
    ∃ A' c' w', (Builtin.append_ #[t, t] ty #[v, .slice A m c]).run P w = .ok (.slice A' (n + m) c') w' ∧ Sat W w' (row e zc (.slice A' (n + m) c') (n + m) (xs ++ news) :: l) := by
  obtain ⟨hxl, A', c', rfl, hnc, hcm, hA0, hA1⟩ := H.slice
  rcases Nat.eq_zero_or_pos m with hm | hm
  · subst hm
    have hn0 : news = [] := List.eq_nil_of_length_eq_zero (by simpa using hl)
    subst hn0
    have hf : (Builtin.firstCells i.size 0 (.slice A 0 c)).run P w = .ok #[] w := by
      cases A with
      | none => exact run_firstCells_none w _ _ _ _
      | some ad => exact run_firstCells_some w i.size 0 ad 0 c [] (by simp) (by intro j u h; simp at h)
    refine ⟨A', c', w, ?_, by simpa using H⟩
    cases A' with
    | none => simp [Builtin.append_, run_underlying ht, sizeOf, typeInfo, hi, Builtin.lenOf, hnc, hf]
    | some ad => simp [Builtin.append_, run_underlying ht, sizeOf, typeInfo, hi, Builtin.lenOf, hnc, hf, storeCells]
  · have hx0 : news ≠ [] := by
      intro h0
      subst h0
      have : m * zc.length ≥ 1 := Nat.mul_pos hm hpos
      simp at hl; omega
    obtain ⟨b, off, rfl⟩ := hr.open hx0
    have hnews : ∀ j u, news[j]? = some u → w.cell? ((⟨b, off, none⟩ : Addr).add j) = some u := fun j u hu => by
      have h0 := hr.at j hu
      unfold Addr.add
      split
      · rename_i hj; subst hj; simpa using h0
      · exact h0
    have hl' : news.length = m * i.size := by rw [hsize]; exact hl
    have hlen : (xs ++ news).length = (n + m) * zc.length := by rw [List.length_append, hxl, hl, Nat.add_mul]
    cases A' with
    | none =>
      obtain ⟨rfl, rfl⟩ := hA0 rfl
      have hx : xs = [] := List.eq_nil_of_length_eq_zero (by simpa using hxl)
      subst hx
      have hrun := run_append_nil (P := P) w t ty e i z ht hi hz ⟨b, off, none⟩ m c news hl' hnews (by omega) (by simp only [maxLen] at h63; omega) (by have hb := hbytes; simp only [Nat.zero_add] at hb; omega)
      refine ⟨_, _, _, by simpa using hrun, ?_⟩
      have hs := H.tail.grew (e := e) (zc := zc) news m 0 hl hty hzz (by omega) _ (by rw [← hzc])
      simpa using hs
    | some ad =>
      obtain ⟨h0, hsp, hge, hlt⟩ := hA1 ad rfl
      obtain ⟨g, off', sp⟩ := ad
      dsimp only at h0 hsp hge hlt
      subst h0 hsp
      obtain ⟨cur, hg, _, _, hcs, htake, htc⟩ := H.row_blk
      have htx : Typed zc xs := by rw [← htake]; exact htc.take _
      by_cases hroom : n + m ≤ c'
      · have hfit : n * i.size + news.length ≤ cur.size := by rw [hl', hcs, hsize, ← Nat.add_mul]; exact Nat.mul_le_mul_right _ hroom
        have hrun := run_append_room (P := P) w t ty e i ht hi g n c' cur hg ⟨b, off, none⟩ m c news hl' hnews h1 hroom hfit
        refine ⟨_, _, _, hrun, ?_⟩
        have hs := H.setRow (cur.toList.take (n * i.size) ++ news ++ cur.toList.drop (n * i.size + news.length)).toArray (n + m) hroom ?_ ?_
        · have e1 : (cur.toList.take (n * i.size) ++ news ++ cur.toList.drop (n * i.size + news.length)).toArray.toList.take ((n + m) * zc.length) = xs ++ news := by
            simp only [hsize]
            rw [htake, ← hlen]
            exact List.take_left
          rw [e1] at hs
          exact hs
        · simp only [List.size_toArray, List.length_append, List.length_take, List.length_drop, Array.length_toList]
          rw [← hcs]; omega
        · show Typed zc (cur.toList.take (n * i.size) ++ news ++ cur.toList.drop (n * i.size + news.length))
          rw [hsize, htake]
          refine (htx.append hty (by rw [hxl]; simp)).append (htc.drop _ ?_) (by rw [hlen]; simp)
          rw [hl, ← Nat.add_mul]; simp
      · have holds : ∀ j u, xs[j]? = some u → w.cell? ((⟨g, 0, none⟩ : Addr).add j) = some u := H.owns.cells (g := g) rfl
        have hrun := run_append_grow (P := P) w t ty e i z ht hi hz ⟨g, 0, none⟩ n c' xs (by rw [hsize]; exact hxl) holds ⟨b, off, none⟩ m c news hl' hnews (by omega) (by simp only [maxLen] at h63; omega) (growslice_fits (by omega) hbytes)
        refine ⟨_, _, _, hrun, ?_⟩
        exact H.tail.grew (e := e) (zc := zc) (xs ++ news) (n + m) c' hlen (htx.append hty (by rw [hxl]; simp)) hzz h63 _ (by rw [← hzc]; simp)

/-- APPEND, whatever the source is: a slice that is read. -/
theorem wp_append_sl {o : Oper} {a : Act} {K : Act → World → Prop} {Q : Exit → Act → World → Prop} (s x : Operand) (t : TypeId)
    (ho : o.op = .call { callee := .builtin .append, args := #[s, x], argTypes := #[t, t] })
    (e : TypeId) (i : TypeInfo) (z : Value) (zc : List Value) (bytes : Nat) (ht : P.underlying t = some (.slice e)) (hi : P.info? e = some i) (hz : i.zero = some z) (hzc : z.cells = zc.toArray)
    (hsize : i.size = zc.length) (hby : i.bytes = bytes) (hpos : 0 < zc.length) (hzz : LikeZ zc)
    (v : Value) (n : Nat) (xs : List Value) (hs : a.eval s = v) (H : Sat W w (row e zc v n xs :: l))
    (A : Option Addr) (m c : Nat) (news : List Value) (hx : a.eval x = .slice A m c) (hl : news.length = m * zc.length) (hr : Rd w A news) (h1 : ∀ u ∈ news, u.oneCell' = true) (hty : Typed zc news)
    (h63 : n + m ≤ maxLen) (hbytes : (n + m) * bytes ≤ 140737488355328)
    (h : ∀ A' c' w', Sat W w' (row e zc (.slice A' (n + m) c') (n + m) (xs ++ news) :: l) → K (a.put o.dst (.slice A' (n + m) c')) w') : o.wp P a w K Q := by
  subst hby
  obtain ⟨A', c', w', hrun, H'⟩ := run_append_typed (P := P) t o.type e i z zc ht hi hz hzc hsize hpos hzz v n xs H A m c news hl hr h1 hty h63 hbytes
  unfold Oper.wp execOp
  simp only [ho, resolve, invoke, builtin, Sem.run_bind, Sem.run_pure, Result.andThen_ok, List.map_toArray, List.map_cons, List.map_nil, hs, hx, hrun]
  exact h A' c' w' H'

set_option maxRecDepth 100000 in
theorem wpList_append_sl {ops : Array Oper} {rest : List Oper} {o : Oper} {a : Act} {Q : Exit → Act → World → Prop} (hgd : o.guard = none) (s x : Operand) (t : TypeId)
    (ho : o.op = .call { callee := .builtin .append, args := #[s, x], argTypes := #[t, t] })
    (e : TypeId) (i : TypeInfo) (z : Value) (zc : List Value) (bytes : Nat) (ht : P.underlying t = some (.slice e)) (hi : P.info? e = some i) (hz : i.zero = some z) (hzc : z.cells = zc.toArray)
    (hsize : i.size = zc.length) (hby : i.bytes = bytes) (hpos : 0 < zc.length) (hzz : LikeZ zc)
    (v : Value) (n : Nat) (xs : List Value) (hs : a.eval s = v) (H : Sat W w (row e zc v n xs :: l))
    (A : Option Addr) (m c : Nat) (news : List Value) (hx : a.eval x = .slice A m c) (hl : news.length = m * zc.length) (hr : Rd w A news) (h1 : ∀ u ∈ news, u.oneCell' = true) (hty : Typed zc news)
    (h63 : n + m ≤ maxLen) (hbytes : (n + m) * bytes ≤ 140737488355328)
    (h : ∀ A' c' w', Sat W w' (row e zc (.slice A' (n + m) c') (n + m) (xs ++ news) :: l) → wpList P ops Q rest (a.put o.dst (.slice A' (n + m) c')) w') : wpList P ops Q (o :: rest) a w :=
  wpList_plain hgd fun _ hK => wp_append_sl s x t ho e i z zc bytes ht hi hz hzc hsize hby hpos hzz v n xs hs H A m c news hx hl hr h1 hty h63 hbytes fun A' c' w' H' => hK _ _ (h A' c' w' H')

theorem step_append_sl {ops : Array Oper} {o : Oper} {a : Act} {K : Act → World → Prop} {Q : Exit → Act → World → Prop} {E : Prop} (hgd : o.guard = none) (s x : Operand) (t : TypeId)
    (ho : o.op = .call { callee := .builtin .append, args := #[s, x], argTypes := #[t, t] })
    (e : TypeId) (i : TypeInfo) (z : Value) (zc : List Value) (bytes : Nat) (ht : P.underlying t = some (.slice e)) (hi : P.info? e = some i) (hz : i.zero = some z) (hzc : z.cells = zc.toArray)
    (hsize : i.size = zc.length) (hby : i.bytes = bytes) (hpos : 0 < zc.length) (hzz : LikeZ zc)
    (v : Value) (n : Nat) (xs : List Value) (hs : a.eval s = v) (H : Sat W w (row e zc v n xs :: l))
    (A : Option Addr) (m c : Nat) (news : List Value) (hx : a.eval x = .slice A m c) (hl : news.length = m * zc.length) (hr : Rd w A news) (h1 : ∀ u ∈ news, u.oneCell' = true) (hty : Typed zc news)
    (h63 : n + m ≤ maxLen) (hbytes : (n + m) * bytes ≤ 140737488355328)
    (h : ∀ A' c' w', Sat W w' (row e zc (.slice A' (n + m) c') (n + m) (xs ++ news) :: l) → K (a.put o.dst (.slice A' (n + m) c')) w') :
    if Region.wanted o (yielded ops a.tmps) = true then Oper.wp P o a w K Q else E := by
  have hw : Region.wanted o (yielded ops a.tmps) = true := by simp [Region.wanted, hgd]
  rw [if_pos hw]
  exact wp_append_sl s x t ho e i z zc bytes ht hi hz hzc hsize hby hpos hzz v n xs hs H A m c news hx hl hr h1 hty h63 hbytes h

/-- The bytes of a string as cells. -/
abbrev strC (s : ByteArray) : List Value := s.data.toList.map fun b => Value.int .u8 (b.toNat : Int)
/-- The zero cell of a byte. -/
abbrev zB : List Value := [.int .u8 0]
theorem zB_like : LikeZ zB := by
  intro j u h
  cases j with
  | zero => simp at h; subst h; rfl
  | succ j => simp at h
theorem Typed.bytes (bs : List UInt8) : Typed zB (bs.map fun b => Value.int .u8 (b.toNat : Int)) := fun j u h => by
  rw [List.getElem?_map] at h
  cases hb : bs[j]? with
  | none => rw [hb] at h; cases h
  | some b => rw [hb] at h; cases h; simp [like, Nat.mod_one]

theorem Typed.one (n : Int) : Typed zB [.int .u8 n] := fun j u h => by
  cases j with
  | zero => simp at h; subst h; simp [like]
  | succ j => simp at h
theorem zB_at (j : Nat) (n : Int) : like (.int .u8 n) (zB.getD (j % zB.length) undef) = true := by simp [like, Nat.mod_one]

theorem run_append_str (t u ty e : TypeId) (i : TypeInfo) (ht : P.underlying t = some (.slice e)) (hu : P.underlying u = some .string) (hi : P.info? e = some i) (hz : i.zero = some (.int .u8 0)) (hsize : i.size = 1) (hby : i.bytes = 1)
    (v : Value) (n : Nat) (xs : List Value) (H : Sat W w (row e zB v n xs :: l)) (s : ByteArray) (h63 : n + s.size ≤ maxLen) (hbytes : n + s.size ≤ 140737488355328) :
    ∃ A' c' w', (Builtin.append_ #[t, u] ty #[v, .string s]).run P w = .ok (.slice A' (n + s.size) c') w' ∧ Sat W w' (row e zB (.slice A' (n + s.size) c') (n + s.size) (xs ++ strC s) :: l) := by
  obtain ⟨hxl, A', c', rfl, hnc, hcm, hA0, hA1⟩ := H.slice
  have hxl' : xs.length = n := by simpa using hxl
  have hsl : (strC s).length = s.size := by rw [List.length_map, Array.length_toList]; rfl
  have hlen : (xs ++ strC s).length = (n + s.size) * zB.length := by rw [List.length_append, hxl', hsl, List.length_singleton, Nat.mul_one]
  cases A' with
  | none =>
    obtain ⟨rfl, rfl⟩ := hA0 rfl
    have hx : xs = [] := List.eq_nil_of_length_eq_zero hxl'
    subst hx
    by_cases hm : s.size = 0
    · have hn : strC s = [] := List.eq_nil_of_length_eq_zero (by rw [hsl]; exact hm)
      have hf := Lib.run_firstCells_string (P := P) w 1 s
      rw [hm] at hf
      refine ⟨none, 0, w, ?_, by rw [hn, hm]; simpa using H⟩
      simp [Builtin.append_, run_underlying ht, run_underlying hu, sizeOf, typeInfo, hi, hsize, Builtin.lenOf, hm, hf]
    · have hrun := run_append_nil_string (P := P) w t u ty e i (.int .u8 0) ht hu hi hz s (by omega) (by simp only [maxLen] at h63; omega) (by rw [hby]; omega)
      refine ⟨_, _, _, by simpa using hrun, ?_⟩
      have hs := H.tail.grew (e := e) (zc := zB) (strC s) s.size 0 (by rw [hsl]; simp) (Typed.bytes _) zB_like (by omega) (s.data.map (fun b => Value.int .u8 (b.toNat : Int)) ++ Builtin.zeroCells (Value.int .u8 0).cells (grownCap w s.size 0 e - s.size)) (by
        congr 1
        apply Array.ext'
        simp)
      simpa using hs
  | some ad =>
    obtain ⟨h0, hsp, hge, hlt⟩ := hA1 ad rfl
    obtain ⟨g, off', sp⟩ := ad
    dsimp only at h0 hsp hge hlt
    subst h0 hsp
    obtain ⟨cur, hg, _, _, hcs, htake, htc⟩ := H.row_blk
    have hcs' : cur.size = c' := by simpa using hcs
    have htk : cur.toList.take n = xs := by simpa using htake
    have htx : Typed zB xs := by rw [← htake]; exact htc.take _
    by_cases hroom : n + s.size ≤ c'
    · have hrun := Lib.run_append_room_string (P := P) w t u ty e i ht hu hi hsize g n c' cur hg s hroom (by omega)
      refine ⟨_, _, _, hrun, ?_⟩
      have hs := H.setRow (cur.toList.take n ++ Lib.strCells s ++ cur.toList.drop (n + s.size)).toArray (n + s.size) hroom ?_ ?_
      · have e1 : (cur.toList.take n ++ Lib.strCells s ++ cur.toList.drop (n + s.size)).toArray.toList.take ((n + s.size) * zB.length) = xs ++ strC s := by
          rw [htk, ← hlen]
          exact List.take_left
        rw [e1] at hs
        exact hs
      · simp only [List.size_toArray, List.length_append, List.length_take, List.length_drop, Array.length_toList, Lib.strCells_length, List.length_singleton]
        omega
      · show Typed zB (cur.toList.take n ++ Lib.strCells s ++ cur.toList.drop (n + s.size))
        rw [htk]
        exact (htx.append (Typed.bytes _) (by simp [Nat.mod_one])).append (htc.drop _ (by simp [Nat.mod_one])) (by simp [Nat.mod_one])
    · have holds : ∀ j u, xs[j]? = some u → w.cell? ((⟨g, 0, none⟩ : Addr).add j) = some u := H.owns.cells (g := g) rfl
      have hrun := Lib.run_append_grow_string (P := P) w t u ty e i (.int .u8 0) ht hu hi hz ⟨g, 0, none⟩ n c' xs (by rw [hsize]; simpa using hxl') holds s (by omega) (by simp only [maxLen] at h63; omega) (by rw [hby]; exact growslice_fits (by omega) (by omega))
      refine ⟨_, _, _, hrun, ?_⟩
      exact H.tail.grew (e := e) (zc := zB) (xs ++ strC s) (n + s.size) c' hlen (htx.append (Typed.bytes _) (by simp [Nat.mod_one])) zB_like h63 _ (by
        congr 1
        apply Array.ext'
        simp [Lib.strCells])

/-- APPEND of a string's bytes. -/
theorem wp_append_str {o : Oper} {a : Act} {K : Act → World → Prop} {Q : Exit → Act → World → Prop} (sl x : Operand) (t u : TypeId)
    (ho : o.op = .call { callee := .builtin .append, args := #[sl, x], argTypes := #[t, u] })
    (e : TypeId) (i : TypeInfo) (ht : P.underlying t = some (.slice e)) (hu : P.underlying u = some .string) (hi : P.info? e = some i) (hz : i.zero = some (.int .u8 0)) (hsize : i.size = 1) (hby : i.bytes = 1)
    (v : Value) (n : Nat) (xs : List Value) (hs : a.eval sl = v) (H : Sat W w (row e zB v n xs :: l)) (s : ByteArray) (hx : a.eval x = .string s)
    (h63 : n + s.size ≤ maxLen) (hbytes : n + s.size ≤ 140737488355328)
    (h : ∀ A' c' w', Sat W w' (row e zB (.slice A' (n + s.size) c') (n + s.size) (xs ++ strC s) :: l) → K (a.put o.dst (.slice A' (n + s.size) c')) w') : o.wp P a w K Q := by
  obtain ⟨A', c', w', hrun, H'⟩ := run_append_str (P := P) t u o.type e i ht hu hi hz hsize hby v n xs H s h63 hbytes
  unfold Oper.wp execOp
  simp only [ho, resolve, invoke, builtin, Sem.run_bind, Sem.run_pure, Result.andThen_ok, List.map_toArray, List.map_cons, List.map_nil, hs, hx, hrun]
  exact h A' c' w' H'

set_option maxRecDepth 100000 in
theorem wpList_append_str {ops : Array Oper} {rest : List Oper} {o : Oper} {a : Act} {Q : Exit → Act → World → Prop} (hgd : o.guard = none) (sl x : Operand) (t u : TypeId)
    (ho : o.op = .call { callee := .builtin .append, args := #[sl, x], argTypes := #[t, u] })
    (e : TypeId) (i : TypeInfo) (ht : P.underlying t = some (.slice e)) (hu : P.underlying u = some .string) (hi : P.info? e = some i) (hz : i.zero = some (.int .u8 0)) (hsize : i.size = 1) (hby : i.bytes = 1)
    (v : Value) (n : Nat) (xs : List Value) (hs : a.eval sl = v) (H : Sat W w (row e zB v n xs :: l)) (s : ByteArray) (hx : a.eval x = .string s)
    (h63 : n + s.size ≤ maxLen) (hbytes : n + s.size ≤ 140737488355328)
    (h : ∀ A' c' w', Sat W w' (row e zB (.slice A' (n + s.size) c') (n + s.size) (xs ++ strC s) :: l) → wpList P ops Q rest (a.put o.dst (.slice A' (n + s.size) c')) w') : wpList P ops Q (o :: rest) a w :=
  wpList_plain hgd fun _ hK => wp_append_str sl x t u ho e i ht hu hi hz hsize hby v n xs hs H s hx h63 hbytes fun A' c' w' H' => hK _ _ (h A' c' w' H')

theorem step_append_str {ops : Array Oper} {o : Oper} {a : Act} {K : Act → World → Prop} {Q : Exit → Act → World → Prop} {E : Prop} (hgd : o.guard = none) (sl x : Operand) (t u : TypeId)
    (ho : o.op = .call { callee := .builtin .append, args := #[sl, x], argTypes := #[t, u] })
    (e : TypeId) (i : TypeInfo) (ht : P.underlying t = some (.slice e)) (hu : P.underlying u = some .string) (hi : P.info? e = some i) (hz : i.zero = some (.int .u8 0)) (hsize : i.size = 1) (hby : i.bytes = 1)
    (v : Value) (n : Nat) (xs : List Value) (hs : a.eval sl = v) (H : Sat W w (row e zB v n xs :: l)) (s : ByteArray) (hx : a.eval x = .string s)
    (h63 : n + s.size ≤ maxLen) (hbytes : n + s.size ≤ 140737488355328)
    (h : ∀ A' c' w', Sat W w' (row e zB (.slice A' (n + s.size) c') (n + s.size) (xs ++ strC s) :: l) → K (a.put o.dst (.slice A' (n + s.size) c')) w') :
    if Region.wanted o (yielded ops a.tmps) = true then Oper.wp P o a w K Q else E := by
  have hw : Region.wanted o (yielded ops a.tmps) = true := by simp [Region.wanted, hgd]
  rw [if_pos hw]
  exact wp_append_str sl x t u ho e i ht hu hi hz hsize hby v n xs hs H s hx h63 hbytes h
end
end Go.Rt

/- More laws on what a call owns: make, copy. No program in sight. -/
namespace Go.Rt
open Go.RowKit

/-- What is read as long as the things of l are owned: memory that was there at the beginning, or a row of l. -/
def RdL (W : World) (l : List SL) (A : Option Addr) (xs : List Value) : Prop := ∀ w, Sat W w l → Rd w A xs
theorem RdL.old {W : World} {l : List SL} {A : Option Addr} {xs : List Value} (h : Rd W A xs) : RdL W l A xs := fun _ H => h.old H
theorem RdL.tail {W : World} {l : List SL} {B : SL} {A : Option Addr} {xs : List Value} (h : RdL W l A xs) : RdL W (B :: l) A xs := fun w H => h w H.tail
theorem RdL.row {W : World} {l : List SL} {e : TypeId} {zc : List Value} {A : Option Addr} {m n c : Nat} {xs : List Value} : RdL W (Go.Rt.row e zc (.slice A m c) n xs :: l) A xs := fun _ H => H.rd
theorem RdL.pull {W : World} {l : List SL} {A : Option Addr} {xs : List Value} (i : Nat) (h : RdL W (Go.Rt.pull i l) A xs) : RdL W l A xs := fun w H => h w (H.pull i)

theorem madeCells_eq (zc : List Value) (n : Nat) : madeCells zc.toArray (n * zc.length) = Builtin.zeroCells zc.toArray n := by
  simp [madeCells, Builtin.zeroCells]

section
variable {P : Program} {W w : World} {l : List SL}

set_option maxRecDepth 100000 in
/-- 'make([]T, n)' -/
theorem wpList_make_sl {ops : Array Oper} {rest : List Oper} {o : Oper} {a : Act} {Q : Exit → Act → World → Prop} (hg : o.guard = none) (lo co : Operand) (t : TypeId) (hop : o.op = Op.makeSlice t lo co)
    (e : TypeId) (i : TypeInfo) (z : Value) (zc : List Value) (h1 : P.underlying t = some (.slice e)) (h2 : P.info? e = some i) (h3 : i.zero = some z) (hzc : z.cells = zc.toArray) (h4 : i.size = zc.length) (hzz : LikeZ zc)
    (kl kc : IntKind) (L C : Int) (n c : Nat) (hl : a.eval lo = .int kl L) (hc : a.eval co = .int kc C) (hL : L = (n : Int)) (hC : C = (c : Int)) (hnc : n ≤ c) (b2 : i.bytes * c ≤ 281474976710656) (b3 : c ≤ maxLen)
    (H : Sat W w l)
    (hK : ∀ w', Sat W w' (row e zc (.slice (some ⟨w.heap.size, 0, none⟩) n c) n (Builtin.zeroCells zc.toArray n).toList :: l) → wpList P ops Q rest (a.put o.dst (.slice (some ⟨w.heap.size, 0, none⟩) n c)) w') :
    wpList P ops Q (o :: rest) a w := by
  refine wpList_plain hg fun K hK' => ?_
  subst hL hC
  have hb : (i.bytes : Int) * (c : Int) ≤ 281474976710656 := by
    have h : ((i.bytes * c : Nat) : Int) ≤ 281474976710656 := by omega
    rwa [Int.natCast_mul] at h
  have hrun := run_make (P := P) w t e i z h1 h2 h3 kl kc n c (by omega) (by omega) hb (by simp only [maxLen] at b3; omega)
  simp only [Int.toNat_natCast, hzc, h4, madeCells_eq] at hrun
  unfold Oper.wp
  simp [execOp, hop, hl, hc, hrun, Result.andThen]
  refine hK' _ _ (hK _ ?_)
  have hs := H.made (Builtin.zeroCells zc.toArray c) e zc n c hnc b3 (by simp [Builtin.zeroCells]) (Typed.zeros hzz c)
  have e1 : (Builtin.zeroCells zc.toArray c).toList.take (n * zc.length) = (Builtin.zeroCells zc.toArray n).toList := by
    simp only [Builtin.zeroCells, Array.toList_map, Array.toList_range, List.size_toArray, ← List.map_take]
    rw [List.take_range, Nat.min_eq_left (Nat.mul_le_mul_right _ hnc)]
  rw [e1] at hs
  exact hs

theorem run_copy_typed (dT sT ty e : TypeId) (i : TypeInfo) (zc : List Value) (hu : P.underlying dT = some (.slice e)) (hi : P.info? e = some i) (hsize : i.size = zc.length) 
    (g n c : Nat) (xs : List Value) (H : Sat W w (row e zc (.slice (some ⟨g, 0, none⟩) n c) n xs :: l))
    (A : Option Addr) (m c' : Nat) (news : List Value) (hl : news.length = m * zc.length) (hr : Rd w A news) (h1 : ∀ u ∈ news, u.oneCell' = true) (hty : Typed zc news) (hmn : m ≤ n) :
    ∃ w', (Builtin.copy_ #[dT, sT] ty #[.slice (some ⟨g, 0, none⟩) n c, .slice A m c']).run P w = .ok (goInt m) w' ∧ Sat W w' (row e zc (.slice (some ⟨g, 0, none⟩) n c) n (news ++ xs.drop (m * zc.length)) :: l) := by
  obtain ⟨cur, hg, hnc, _, hcs, htake, htc⟩ := H.row_blk
  have hmin : Nat.min m n = m := Nat.min_eq_left hmn
  have hf : (Builtin.firstCells i.size m (.slice A m c')).run P w = .ok news.toArray w := by
    cases A with
    | none =>
      have : news = [] := by
        cases news with
        | nil => rfl
        | cons x r => obtain ⟨_, _, h⟩ := hr.open (by simp); cases h
      subst this
      exact run_firstCells_none w _ _ _ _
    | some ad =>
      refine run_firstCells_some w i.size m ad m c' news (by rw [hsize]; exact hl) fun j u hu => ?_
      obtain ⟨b, o, h, hc⟩ := hr j u hu
      cases h
      unfold Addr.add
      split
      · rename_i hj; subst hj; simpa using hc
      · exact hc
  have hst := run_storeCells_at P g 0 e news 0 cur w hg (by rw [hl, hcs]; simpa using Nat.mul_le_mul_right _ (Nat.le_trans hmn hnc)) h1
  simp only [Nat.add_zero, Nat.zero_add, List.take_zero, List.nil_append] at hst
  refine ⟨_, by simp [Builtin.copy_, run_underlying hu, Builtin.lenOf, sizeOf, typeInfo, hi, hmin, hf, hst]; rfl, ?_⟩
  have hs := H.setRow (news ++ cur.toList.drop news.length).toArray n hnc ?_ ?_
  · have e1 : (news ++ cur.toList.drop news.length).toArray.toList.take (n * zc.length) = news ++ xs.drop (m * zc.length) := by
      show (news ++ cur.toList.drop news.length).take (n * zc.length) = _
      rw [List.take_append, List.take_of_length_le (by rw [hl]; exact Nat.mul_le_mul_right _ hmn), ← htake, List.drop_take, hl]
    rw [e1] at hs
    exact hs
  · simp only [List.size_toArray, List.length_append, List.length_drop]
    have : cur.toList.length = c * zc.length := by simpa using hcs
    rw [this, hl, Nat.add_sub_cancel' (Nat.mul_le_mul_right _ (Nat.le_trans hmn hnc))]
  · exact hty.append (htc.drop _ (by rw [hl]; simp)) (by rw [hl]; simp)

set_option maxRecDepth 100000 in
theorem wpList_copy_sl {ops : Array Oper} {rest : List Oper} {o : Oper} {a : Act} {Q : Exit → Act → World → Prop} (hgd : o.guard = none) (d s : Operand) (dT sT : TypeId)
    (ho : o.op = .call { callee := .builtin .copy, args := #[d, s], argTypes := #[dT, sT] })
    (e : TypeId) (i : TypeInfo) (zc : List Value) (hu : P.underlying dT = some (.slice e)) (hi : P.info? e = some i) (hsize : i.size = zc.length) 
    (g n c : Nat) (xs : List Value) (hd : a.eval d = .slice (some ⟨g, 0, none⟩) n c) (H : Sat W w (row e zc (.slice (some ⟨g, 0, none⟩) n c) n xs :: l))
    (A : Option Addr) (m c' : Nat) (news : List Value) (hx : a.eval s = .slice A m c') (hl : news.length = m * zc.length) (hr : Rd w A news) (h1 : ∀ u ∈ news, u.oneCell' = true) (hty : Typed zc news) (hmn : m ≤ n)
    (h : ∀ w', Sat W w' (row e zc (.slice (some ⟨g, 0, none⟩) n c) n (news ++ xs.drop (m * zc.length)) :: l) → wpList P ops Q rest (a.put o.dst (goInt m)) w') : wpList P ops Q (o :: rest) a w := by
  refine wpList_plain hgd fun K hK => ?_
  obtain ⟨w', hrun, H'⟩ := run_copy_typed (P := P) dT sT o.type e i zc hu hi hsize g n c xs H A m c' news hl hr h1 hty hmn
  unfold Oper.wp execOp
  simp only [ho, resolve, invoke, builtin, Sem.run_bind, Sem.run_pure, Result.andThen_ok, List.map_toArray, List.map_cons, List.map_nil, hd, hx, hrun]
  exact hK _ _ (h w' H')
end
end Go.Rt

/- A law on reading a variable of several cells at once. No program in sight. -/
namespace Go.Rt
open Go.RowKit
theorem RdL.pt {W : World} {l : List SL} {b : Nat} {xs : List Value} {t : TypeId} : RdL W (Go.Rt.pt b xs.toArray t :: l) (some ⟨b, 0, none⟩) xs := fun w H j u hu => ⟨b, 0, rfl, by rw [Nat.zero_add, H.cell j]; simpa using hu⟩

section
variable {P : Program} {w : World}

theorem run_loadVar_rd (t : TypeId) (b off : Nat) (vs : List Value) (hagg : (match P.underlying t with | some (.struct _) | some (.array _ _) => true | _ => false) = true) (hsz : (P.info? t).map (·.size) = some vs.length)
    (hr : Rd w (some ⟨b, off, none⟩) vs) : (loadVar t ⟨b, off, none⟩).run P w = .ok (.agg vs.toArray) w := by
  have h1 : ∀ w, (isAgg t).run P w = .ok true w := fun w => by
    cases hu : P.underlying t with
    | none => simp [hu] at hagg
    | some u => rw [hu] at hagg; cases u <;> simp_all [isAgg, underlying, Result.andThen]
  have h2 : ∀ w, (sizeOf t).run P w = .ok vs.length w := fun w => by
    cases hi : P.info? t with
    | none => simp [hi] at hsz
    | some i => simp [hi] at hsz; simp [sizeOf, typeInfo, hi, Result.andThen, hsz]
  have h3 := run_loadCells_list (P := P) w ⟨b, off, none⟩ vs (fun k v h => by rw [Addr.add_lit]; exact hr.at k h)
  simp [loadVar, h1, h2, h3, Result.andThen]

set_option maxRecDepth 100000 in
theorem wpList_load_rd {ops : Array Oper} {rest : List Oper} {o : Oper} {a : Act} {Q : Exit → Act → World → Prop} (hg : o.guard = none) (x : Operand) (t : TypeId) (hop : o.op = Op.load t x)
    (b off : Nat) (vs : List Value) (hagg : (match P.underlying t with | some (.struct _) | some (.array _ _) => true | _ => false) = true) (hsz : (P.info? t).map (·.size) = some vs.length) (ha : a.eval x = .pointer (some ⟨b, off, none⟩))
    (hr : Rd w (some ⟨b, off, none⟩) vs) (hK : wpList P ops Q rest (a.put o.dst (.agg vs.toArray)) w) : wpList P ops Q (o :: rest) a w := by
  refine wpList_plain hg fun K hK' => ?_
  have h1 := run_loadVar_rd (P := P) t b off vs hagg hsz hr
  unfold Oper.wp
  simp [execOp, hop, ha, Instr.loadAt, Instr.sureAddr, h1, Result.andThen]
  exact hK' _ _ hK
end
end Go.Rt

/- A law on copying into an array of bytes that the call owns. No program in sight. -/
namespace Go.Rt
open Go.RowKit
section
variable {P : Program} {W w : World} {l : List SL}

theorem Sat.setPt {b : Nat} {c : Array Value} {t : TypeId} (H : Sat W w (pt b c t :: l)) (cur : Array Value) : Sat W (w.setRow b cur) (pt b cur t :: l) := by
  have hge := H.ge
  have hb : Below W.heap.size W (w.setRow b cur) := H.bel.trans ⟨rfl, rfl, rfl, by simp, fun k hk => setRow_other w b k _ (by omega)⟩
  refine H.put hb fun a ha hh => ⟨fun k => if k = b then some (.cells cur t (0, 0)) else none, by simp [pt], fun k hk => ?_, fun k o e => ?_, fun k hk _ => ?_⟩
  · by_cases e : k = b
    · subst e; left; have : a k = _ := ha; rw [this]; simp
    · simp [e] at hk
  · by_cases e1 : k = b
    · subst e1
      simp at e
      subst e
      have h1 := hh k _ ha
      exact ⟨h1.2, setRow_heap w k _ cur t _ h1.1⟩
    · simp [e1] at e
  · exact setRow_other w b k cur (by rintro rfl; have : a k = _ := ha; rw [this] at hk; cases hk)

/-- 'copy(a[:], s)' into an array of bytes. -/
theorem wp_copy_pt {o : Oper} {a : Act} {K : Act → World → Prop} {Q : Exit → Act → World → Prop} (d s : Operand) (dT sT : TypeId)
    (ho : o.op = .call { callee := .builtin .copy, args := #[d, s], argTypes := #[dT, sT] })
    (e : TypeId) (i : TypeInfo) (hu : P.underlying dT = some (.slice e)) (hi : P.info? e = some i) (hsize : i.size = 1)
    (g n : Nat) (cur : Array Value) (tag : TypeId) (hd : a.eval d = .slice (some ⟨g, 0, none⟩) n n) (hn : cur.size = n) (H : Sat W w (pt g cur tag :: l))
    (A : Option Addr) (m c' : Nat) (news : List Value) (hx : a.eval s = .slice A m c') (hl : news.length = m) (hr : Rd w A news) (h1 : ∀ u ∈ news, u.oneCell' = true) (hmn : m ≤ n)
    (h : ∀ w', Sat W w' (pt g (news ++ cur.toList.drop m).toArray tag :: l) → K (a.put o.dst (goInt m)) w') : o.wp P a w K Q := by
  have hg := H.heap
  have hmin : Nat.min m n = m := Nat.min_eq_left hmn
  have hf : (Builtin.firstCells i.size m (.slice A m c')).run P w = .ok news.toArray w := by
    cases A with
    | none =>
      have : news = [] := by
        cases news with
        | nil => rfl
        | cons x r => obtain ⟨_, _, h⟩ := hr.open (by simp); cases h
      subst this
      exact run_firstCells_none w _ _ _ _
    | some ad =>
      refine run_firstCells_some w i.size m ad m c' news (by rw [hsize]; omega) fun j u hu => ?_
      obtain ⟨b, o, h, hc⟩ := hr j u hu
      cases h
      unfold Addr.add
      split
      · rename_i hj; subst hj; simpa using hc
      · exact hc
  have hst := run_storeCells_at P g 0 tag news 0 cur w hg (by omega) h1
  simp only [Nat.add_zero, Nat.zero_add, List.take_zero, List.nil_append] at hst
  have hrun : (Builtin.copy_ #[dT, sT] o.type #[.slice (some ⟨g, 0, none⟩) n n, .slice A m c']).run P w = .ok (goInt m) (w.setRow g (news ++ cur.toList.drop m).toArray) := by
    subst hl
    simp [Builtin.copy_, run_underlying hu, Builtin.lenOf, sizeOf, typeInfo, hi, hmin, hf, hst]
  unfold Oper.wp execOp
  simp only [ho, resolve, invoke, builtin, Sem.run_bind, Sem.run_pure, Result.andThen_ok, List.map_toArray, List.map_cons, List.map_nil, hd, hx, hrun]
  exact h _ (H.setPt _)

theorem step_copy_pt {ops : Array Oper} {o : Oper} {a : Act} {K : Act → World → Prop} {Q : Exit → Act → World → Prop} {E : Prop} (hgd : o.guard = none) (d s : Operand) (dT sT : TypeId)
    (ho : o.op = .call { callee := .builtin .copy, args := #[d, s], argTypes := #[dT, sT] })
    (e : TypeId) (i : TypeInfo) (hu : P.underlying dT = some (.slice e)) (hi : P.info? e = some i) (hsize : i.size = 1)
    (g n : Nat) (cur : Array Value) (tag : TypeId) (hd : a.eval d = .slice (some ⟨g, 0, none⟩) n n) (hn : cur.size = n) (H : Sat W w (pt g cur tag :: l))
    (A : Option Addr) (m c' : Nat) (news : List Value) (hx : a.eval s = .slice A m c') (hl : news.length = m) (hr : Rd w A news) (h1 : ∀ u ∈ news, u.oneCell' = true) (hmn : m ≤ n)
    (h : ∀ w', Sat W w' (pt g (news ++ cur.toList.drop m).toArray tag :: l) → K (a.put o.dst (goInt m)) w') :
    if Region.wanted o (yielded ops a.tmps) = true then Oper.wp P o a w K Q else E := by
  have hw : Region.wanted o (yielded ops a.tmps) = true := by simp [Region.wanted, hgd]
  rw [if_pos hw]
  exact wp_copy_pt d s dT sT ho e i hu hi hsize g n cur tag hd hn H A m c' news hx hl hr h1 hmn h

set_option maxRecDepth 100000 in
/-- A variable of several cells is written at once. -/
theorem wpList_store_pt {ops : Array Oper} {rest : List Oper} {o : Oper} {a : Act} {Q : Exit → Act → World → Prop} (hg : o.guard = none) (hdst : o.dst = none) (x y : Operand) (t : TypeId) (hop : o.op = Op.store t x y)
    (g : Nat) (cur : Array Value) (tag : TypeId) (cs : List Value) (hsz : (P.info? t).map (·.size) = some cs.length) (hx : a.eval x = .pointer (some ⟨g, 0, none⟩)) (hy : a.eval y = .agg cs.toArray)
    (hn : cur.size = cs.length) (h1 : ∀ u ∈ cs, u.oneCell' = true) (H : Sat W w (pt g cur tag :: l)) (hK : ∀ w', Sat W w' (pt g cs.toArray tag :: l) → wpList P ops Q rest a w') : wpList P ops Q (o :: rest) a w := by
  refine wpList_plain hg fun K hK' => ?_
  have hgg := H.heap
  have hst := run_storeCells_at P g 0 tag cs 0 cur w hgg (by omega) h1
  simp only [Nat.add_zero, Nat.zero_add, List.take_zero, List.nil_append] at hst
  have hdr : cur.toList.drop cs.length = [] := List.drop_eq_nil_of_le (by simp [hn])
  rw [hdr, List.append_nil] at hst
  have hso : ∀ w, (sizeOf t).run P w = .ok cs.length w := fun w => by
    cases hi : P.info? t with
    | none => simp [hi] at hsz
    | some i => simp [hi] at hsz; simp [sizeOf, typeInfo, hi, Result.andThen, hsz]
  have hrun : (storeVar t ⟨g, 0, none⟩ (.agg cs.toArray)).run P w = .ok () (w.setRow g cs.toArray) := by
    simp [storeVar, Value.cells, hso, hst, Result.andThen]
  unfold Oper.wp
  simp [execOp, hop, hx, hy, Instr.storeAt, Instr.sureAddr, hrun, Result.andThen]
  refine hK' _ _ ?_
  rw [hdst]
  exact hK _ (H.setPt _)
end
end Go.Rt

/- Laws on a slice's literal of one element of several cells, and on a variable of several cells at its birth. No program in sight. -/
namespace Go.Rt
open Go.RowKit

/-- A slice of bytes as it came in: nothing lies where there is no array. -/
structure Bsl (A : Option Addr) (n c : Nat) : Prop where
  le : n ≤ c
  none : A = none → c = 0
  max : c ≤ maxLen

theorem foldl_set (l : List Value) (off k : Nat) : ∀ (acc : Array Value) (pre old post : List Value), acc.toList = pre ++ old ++ post → old.length = l.length → pre.length = off + k →
    ((l.zipIdx k).foldl (fun (cs : Array Value) (p : Value × Nat) => cs.setIfInBounds (off + p.2) p.1) acc).toList = pre ++ l ++ post := by
  induction l generalizing k with
  | nil =>
    intro acc pre old post h1 h2 _
    have : old = [] := List.eq_nil_of_length_eq_zero h2
    subst this
    simpa using h1
  | cons x l ih =>
    intro acc pre old post h1 h2 h3
    match old, h2 with
    | y :: old, h2 =>
      simp only [List.zipIdx_cons, List.foldl_cons]
      have h4 : (acc.setIfInBounds (off + k) x).toList = (pre ++ [x]) ++ old ++ post := by
        rw [Array.toList_setIfInBounds, h1, ← h3]
        simp
      have := ih (k + 1) _ (pre ++ [x]) old post h4 (by simpa using h2) (by simp; omega)
      simpa using this

/-- A row is a row of fewer elements, too. -/
theorem Sat.shrink {W w : World} {l : List SL} {e : TypeId} {zc : List Value} {A : Option Addr} {m c : Nat} {xs : List Value} (H : Sat W w (row e zc (.slice A m c) m xs :: l)) (n : Nat) (hn : n ≤ m) (hz : A = none → n = 0) : Sat W w (row e zc (.slice A n c) n (xs.take (n * zc.length)) :: l) := by
  refine H.head fun h ⟨hx, hh⟩ => ⟨?_, ?_⟩
  · rw [List.length_take, hx]; exact Nat.min_eq_left (Nat.mul_le_mul_right _ hn)
  · rcases hh with ⟨hv, hm⟩ | ⟨g, cap, cur, hv, hg, h1, h2, h3, h4, h5⟩
    · cases hv
      exact .inl ⟨by rw [hz rfl], hz rfl⟩
    · cases hv
      refine .inr ⟨g, c, cur, rfl, hg, Nat.le_trans hn h1, h2, h3, ?_, h5⟩
      rw [← h4, List.take_take, Nat.min_eq_left (Nat.mul_le_mul_right _ hn)]

theorem Sat.drops {W w : World} : ∀ (a : List SL) {b : List SL}, Sat W w (a ++ b) → Sat W w b
  | [], _, H => H
  | _ :: a, _, H => Sat.drops a (Sat.tail H)
/-- The first n things alone. -/
theorem Sat.takes {W w : World} {l : List SL} (n : Nat) (H : Sat W w l) : Sat W w (l.take n) := by
  have h1 : l.Perm (l.drop n ++ l.take n) := by
    have := List.perm_append_comm (l₁ := l.take n) (l₂ := l.drop n)
    rwa [List.take_append_drop] at this
  exact Sat.drops _ (H.perm h1)

section
variable {P : Program} {W w : World} {l : List SL}

/-- '[]T{x}' where x has several cells. -/
theorem run_buildSlice_one (t e : TypeId) (i : TypeInfo) (z : Value) (cs : List Value) (v : Value) (hv : v.cells = cs.toArray) (ht : P.underlying t = some (.slice e)) (hi : P.info? e = some i) (hz : i.zero = some z) (hzs : z.cells.size = cs.length) (hsize : i.size = cs.length)
    (hpos : 0 < cs.length) (hsm : cs.length ≤ 1000000) :
    (Instr.buildSlice t 1 #[(0, v)]).run P w = .ok (.slice (some ⟨w.heap.size, 0, none⟩) 1 1) (w.alloc (.cells cs.toArray e)) := by
  have h0 : (sizeOf e).run P w = .ok cs.length w := by simp [sizeOf, typeInfo, hi, Result.andThen, hsize]
  have hzv : (zeroValue e).run P w = .ok z w := by simp [zeroValue, typeInfo, hi, hz, Result.andThen]
  have hfill : Instr.fill (fun i => some (i * cs.length, cs.length)) ((Array.range (1 * cs.length)).map fun x => z.cells[x % z.cells.size]!) [(0, v)] = some cs.toArray := by
    simp only [Instr.fill, hv, List.size_toArray, Nat.zero_mul, Nat.zero_add]
    rw [if_neg (by simp)]
    congr 1
    apply Array.toList_inj.1
    have hf := foldl_set cs 0 0 ((Array.range (1 * cs.length)).map fun x => z.cells[x % z.cells.size]!) [] ((Array.range (1 * cs.length)).map fun x => z.cells[x % z.cells.size]!).toList [] (by simp) (by simp) rfl
    simp only [Nat.zero_add, List.append_nil, List.nil_append] at hf
    simpa using hf
  have hcs : ¬ cs = [] := by rintro rfl; simp at hpos
  have hbig : ¬ 16777216 < cs.length := by omega
  simp only [Nat.one_mul] at hfill
  simp [Instr.buildSlice, run_underlying ht, h0, hzv, hcs, hbig, newRow, Result.andThen]
  rw [hfill]
  simp [Result.andThen]

set_option maxRecDepth 100000 in
theorem wpList_buildSlice_one {ops : Array Oper} {rest : List Oper} {o : Oper} {a : Act} {Q : Exit → Act → World → Prop} (hg : o.guard = none) (x : Operand) (t : TypeId) (hop : o.op = Op.buildSlice t 1 #[(0, x)])
    (e : TypeId) (i : TypeInfo) (z : Value) (cs : List Value) (hx : a.eval x = .agg cs.toArray) (ht : P.underlying t = some (.slice e)) (hi : P.info? e = some i) (hz : i.zero = some z) (hzs : z.cells.size = cs.length) (hsize : i.size = cs.length)
    (hpos : 0 < cs.length) (hsm : cs.length ≤ 1000000)
    (hK : wpList P ops Q rest (a.put o.dst (.slice (some ⟨w.heap.size, 0, none⟩) 1 1)) (w.alloc (.cells cs.toArray e))) : wpList P ops Q (o :: rest) a w := by
  refine wpList_plain hg fun K hK' => ?_
  have hrun := run_buildSlice_one (P := P) (w := w) t e i z cs (a.eval x) (by rw [hx]; rfl) ht hi hz hzs hsize hpos hsm
  unfold Oper.wp
  simp [execOp, hop, hrun, Result.andThen]
  exact hK' _ _ hK
end
end Go.Rt
