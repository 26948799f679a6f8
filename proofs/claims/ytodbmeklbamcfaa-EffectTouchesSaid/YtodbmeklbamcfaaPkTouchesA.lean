/- A pack of texts: Rt, RtB, RtC, RtD, RtE, RtG, RtH, RtI, KpA, KdA, KpB, KdB, ShI, KdC, RtJ, RtM -/
import Derived.WalkKit
import Derived.Maps.AppendAt
import Derived.Lib.AppendStr
import Derived.Lib.ConvBytes
import Derived.Lib.Hide
import Derived.Deep.Draws
import Derived.BigFrame
import Derived.Laws.Slices
import Derived.ArgAppend
import Derived.Sort.KeysCollected
import Derived.Test.YtodbmeklbamcfaaProg
import Derived.BigQuiet
import Derived.Sort.Walk0
import Derived.Laws.Cover1
import Derived.Shelf.SlIter.Nil
import Derived.Shelf.SortM.Plain
import Derived.Shelf.SortM.SortNone
import Derived.Maps.Own
import Derived.Maps.OwnSet
import Derived.Deep.DeepCutAuto
import Derived.RangeFuncFrom
import Derived.OwnWalkIn
import Derived.Sort.OwnSorted
/- What a call owns, as a list of things that lie apart: a small separation logic over the model's worlds. No program in sight. -/
namespace Go.Rt
open Go.RowKit

/-- A part of the memory. -/
abbrev Hp := Nat → Option Obj
/-- What holds of a part of the memory. -/
abbrev SL := Hp → Prop
def Hp.apart (a b : Hp) : Prop := ∀ k, a k = none ∨ b k = none
def Hp.join (a b : Hp) : Hp := fun k => (a k).or (b k)

/-- The things of a list lie apart from each other in a part of the memory. -/
def Own : List SL → SL
  | [] => fun _ => True
  | A :: l => fun h => ∃ a b, Hp.apart a b ∧ h = Hp.join a b ∧ A a ∧ Own l b

/-- W: the world when the outermost call began; w: now: what was there is as it was, and the things of l lie apart from each other in what is new. -/
structure Sat (W w : World) (l : List SL) : Prop where
  bel : Below W.heap.size W w
  has : ∃ h : Hp, Own l h ∧ ∀ k o, h k = some o → W.heap.size ≤ k ∧ w.heap[k]? = some o

/-- A block of cells, none of them frozen. -/
def pt (b : Nat) (c : Array Value) (t : TypeId) : SL := fun h => h b = some (.cells c t (0, 0))
/-- A thing with a fact beside it. -/
def both (p : Prop) (A : SL) : SL := fun h => p ∧ A h
def ex {α : Type} (A : α → SL) : SL := fun h => ∃ x, A x h
def sep (A B : SL) : SL := fun h => ∃ a b, Hp.apart a b ∧ h = Hp.join a b ∧ A a ∧ B b

theorem join_left {a b : Hp} {k : Nat} {o : Obj} (h : a k = some o) : Hp.join a b k = some o := by simp [Hp.join, h]
theorem join_right {a b : Hp} (d : Hp.apart a b) {k : Nat} {o : Obj} (h : b k = some o) : Hp.join a b k = some o := by
  rcases d k with h1 | h1
  · simp [Hp.join, h1, h]
  · rw [h1] at h; cases h
theorem join_cases {a b : Hp} {k : Nat} {o : Obj} (h : Hp.join a b k = some o) : a k = some o ∨ b k = some o := by
  unfold Hp.join at h
  cases ha : a k with
  | none => rw [ha] at h; exact .inr (by simpa using h)
  | some x => rw [ha] at h; exact .inl (by simpa using h)

theorem Own.swap {A B : SL} {l : List SL} {h : Hp} (H : Own (A :: B :: l) h) : Own (B :: A :: l) h := by
  obtain ⟨a, r, d, rfl, ha, b, c, d2, rfl, hb, hc⟩ := H
  have dab : ∀ k, a k = none ∨ b k = none := fun k => by
    rcases d k with e | e
    · exact .inl e
    · right; cases hbk : b k with
      | none => rfl
      | some x => rw [join_left hbk] at e; cases e
  have dac : ∀ k, a k = none ∨ c k = none := fun k => by
    rcases d k with e | e
    · exact .inl e
    · right; cases hck : c k with
      | none => rfl
      | some x => rw [join_right d2 hck] at e; cases e
  refine ⟨b, Hp.join a c, fun k => ?_, ?_, hb, a, c, dac, rfl, ha, hc⟩
  · cases hbk : b k with
    | none => exact .inl rfl
    | some x =>
      right
      have h1 : a k = none := by rcases dab k with e | e; exact e; rw [hbk] at e; cases e
      have h2 : c k = none := by rcases d2 k with e | e; rw [hbk] at e; cases e; exact e
      simp [Hp.join, h1, h2]
  · funext k
    rcases dab k with e | e <;> simp [Hp.join, e]

theorem Own.cons_mono {A : SL} {l l' : List SL} (hl : ∀ h, Own l h → Own l' h) {h : Hp} (H : Own (A :: l) h) : Own (A :: l') h :=
  let ⟨a, b, d, e, ha, hb⟩ := H; ⟨a, b, d, e, ha, hl b hb⟩

theorem Own.head_mono {A B : SL} {l : List SL} (hl : ∀ h, A h → B h) {h : Hp} (H : Own (A :: l) h) : Own (B :: l) h :=
  let ⟨a, b, d, e, ha, hb⟩ := H; ⟨a, b, d, e, hl a ha, hb⟩

/-- The i-th thing of a list is brought to the head. -/
def pull : Nat → List SL → List SL
  | 0, l => l
  | _ + 1, [] => []
  | i + 1, A :: l => match pull i l with
    | [] => [A]
    | B :: r => B :: A :: r

theorem Own.pull : ∀ (i : Nat) (l : List SL) (h : Hp), Own l h → Own (Go.Rt.pull i l) h
  | 0, _, _, H => H
  | _ + 1, [], _, H => H
  | i + 1, A :: l, h, H => by
    have H1 : Own (A :: Go.Rt.pull i l) h := Own.cons_mono (Own.pull i l) H
    show Own (match Go.Rt.pull i l with | [] => [A] | B :: r => B :: A :: r) h
    cases hp : Go.Rt.pull i l with
    | nil => rw [hp] at H1; exact H1
    | cons B r => rw [hp] at H1; exact Own.swap H1

theorem Own.perm {l l' : List SL} (p : l.Perm l') : ∀ h, Own l h → Own l' h := by
  induction p with
  | nil => exact fun _ H => H
  | cons x _ ih => exact fun _ H => Own.cons_mono ih H
  | swap x y l => exact fun _ H => Own.swap H
  | trans _ _ i1 i2 => exact fun h H => i2 h (i1 h H)

theorem Own.sep {A B : SL} {l : List SL} {h : Hp} (H : Own (Go.Rt.sep A B :: l) h) : Own (A :: B :: l) h := by
  obtain ⟨r, c, d, rfl, ⟨a, b, d2, rfl, ha, hb⟩, hc⟩ := H
  refine ⟨a, Hp.join b c, fun k => ?_, ?_, ha, b, c, fun k => ?_, rfl, hb, hc⟩
  · cases hak : a k with
    | none => exact .inl rfl
    | some x =>
      right
      have h1 : b k = none := by rcases d2 k with e | e; rw [hak] at e; cases e; exact e
      have h2 : c k = none := by rcases d k with e | e; rw [join_left hak] at e; cases e; exact e
      simp [Hp.join, h1, h2]
  · funext k; simp only [Hp.join]; cases a k <;> rfl
  · cases hbk : b k with
    | none => exact .inl rfl
    | some x => right; rcases d k with e | e; rw [join_right d2 hbk] at e; cases e; exact e

theorem Own.unsep {A B : SL} {l : List SL} {h : Hp} (H : Own (A :: B :: l) h) : Own (Go.Rt.sep A B :: l) h := by
  obtain ⟨a, r, d, rfl, ha, b, c, d2, rfl, hb, hc⟩ := H
  have dac : ∀ k, a k = none ∨ c k = none := fun k => by
    rcases d k with e | e
    · exact .inl e
    · right; cases hck : c k with
      | none => rfl
      | some x => rw [join_right d2 hck] at e; cases e
  have dab : ∀ k, a k = none ∨ b k = none := fun k => by
    rcases d k with e | e
    · exact .inl e
    · right; cases hbk : b k with
      | none => rfl
      | some x => rw [join_left hbk] at e; cases e
  refine ⟨Hp.join a b, c, fun k => ?_, ?_, ⟨a, b, dab, rfl, ha, hb⟩, hc⟩
  · cases hck : c k with
    | none => exact .inr rfl
    | some x =>
      left
      have h1 : a k = none := by rcases dac k with e | e; exact e; rw [hck] at e; cases e
      have h2 : b k = none := by rcases d2 k with e | e; exact e; rw [hck] at e; cases e
      simp [Hp.join, h1, h2]
  · funext k; simp only [Hp.join]; cases a k <;> rfl

section
variable {W w : World} {l : List SL} {A B : SL}

theorem Sat.start (W : World) : Sat W W [] := ⟨Below.refl _ _, fun _ => none, trivial, fun _ _ h => by cases h⟩
theorem Sat.own {l' : List SL} (H : Sat W w l) (f : ∀ h, Own l h → Own l' h) : Sat W w l' := let ⟨h, ho, hh⟩ := H.has; ⟨H.bel, h, f h ho, hh⟩
theorem Sat.swap (H : Sat W w (A :: B :: l)) : Sat W w (B :: A :: l) := H.own fun _ => Own.swap
theorem Sat.pull (H : Sat W w l) (i : Nat) : Sat W w (Go.Rt.pull i l) := H.own (Own.pull i l)
theorem Sat.perm {l' : List SL} (H : Sat W w l) (p : l.Perm l') : Sat W w l' := H.own (Own.perm p)
/-- The head is put behind the things of X. -/
theorem Sat.sink (X : List SL) (H : Sat W w (A :: (X ++ l))) : Sat W w (X ++ A :: l) := H.perm (List.perm_middle (l₁ := X)).symm
theorem Sat.sep (H : Sat W w (Go.Rt.sep A B :: l)) : Sat W w (A :: B :: l) := H.own fun _ => Own.sep
theorem Sat.unsep (H : Sat W w (A :: B :: l)) : Sat W w (Go.Rt.sep A B :: l) := H.own fun _ => Own.unsep
theorem Sat.head (H : Sat W w (A :: l)) (f : ∀ h, A h → B h) : Sat W w (B :: l) := H.own fun _ => Own.head_mono f
theorem Sat.tail (H : Sat W w (A :: l)) : Sat W w l := by
  obtain ⟨hb, h, ⟨a, b, d, rfl, ha, hl⟩, hh⟩ := H
  exact ⟨hb, b, hl, fun k o e => hh k o (join_right d e)⟩
theorem Sat.cons_mono {l' : List SL} (H : Sat W w (A :: l)) (f : ∀ h, Own l h → Own l' h) : Sat W w (A :: l') := H.own fun _ => Own.cons_mono f
theorem Sat.ex {α : Type} {A : α → SL} (H : Sat W w (Go.Rt.ex A :: l)) : ∃ x, Sat W w (A x :: l) := by
  obtain ⟨hb, h, ⟨a, b, d, e, ⟨x, ha⟩, hl⟩, hh⟩ := H
  exact ⟨x, hb, h, ⟨a, b, d, e, ha, hl⟩, hh⟩
theorem Sat.unex {α : Type} {A : α → SL} (x : α) (H : Sat W w (A x :: l)) : Sat W w (Go.Rt.ex A :: l) := H.head fun _ h => ⟨x, h⟩
theorem Sat.both {p : Prop} (H : Sat W w (Go.Rt.both p A :: l)) : p ∧ Sat W w (A :: l) := by
  obtain ⟨hb, h, ⟨a, b, d, e, ⟨hp, ha⟩, hl⟩, hh⟩ := H
  exact ⟨hp, hb, h, ⟨a, b, d, e, ha, hl⟩, hh⟩
theorem Sat.unboth {p : Prop} (hp : p) (H : Sat W w (A :: l)) : Sat W w (Go.Rt.both p A :: l) := H.head fun _ h => ⟨hp, h⟩

/-- Whatever keeps the blocks that are owned, and what was there at the beginning, keeps all. -/
theorem Sat.kept {w' : World} (H : Sat W w l) (hb : Below W.heap.size W w') (hk : ∀ k o, w.heap[k]? = some o → W.heap.size ≤ k → w'.heap[k]? = some o) : Sat W w' l := by
  obtain ⟨_, h, ho, hh⟩ := H
  exact ⟨hb, h, ho, fun k o e => let ⟨h1, h2⟩ := hh k o e; ⟨h1, hk k o h2 h1⟩⟩
theorem Sat.drew (H : Sat W w l) : Sat W w.drew l := H.kept H.bel.drew fun _ _ h _ => h
theorem Sat.drewN (H : Sat W w l) (n : Nat) : Sat W (w.drewN n) l := H.kept ⟨H.bel.os, H.bel.tape, H.bel.output, H.bel.size, H.bel.block⟩ fun _ _ h _ => h
theorem Sat.below {w' : World} (H : Sat W w l) (hb : Below w.heap.size w w') : Sat W w' l :=
  H.kept (H.bel.trans (hb.mono H.bel.size)) fun k o h _ => by
    rw [hb.block k (Array.getElem?_eq_some_iff.1 h).1]; exact h

theorem Sat.alloc' (H : Sat W w l) (o : Obj) : Sat W (w.alloc o) l := H.below ((Below.refl _ _).alloc (Nat.le_refl _) o)

theorem heap_new (w : World) (o : Obj) : (w.alloc o).heap[w.heap.size]? = some o := by
  show (w.heap.push o)[w.heap.size]? = _
  simp

theorem Sat.add {A : SL} {a : Hp} (H : Sat W w l) (w' : World) (hb : Below w.heap.size w w') (ha : A a) (hn : ∀ k o, a k = some o → w.heap.size ≤ k ∧ w'.heap[k]? = some o) : Sat W w' (A :: l) := by
  obtain ⟨hb0, h, ho, hh⟩ := H
  refine ⟨hb0.trans (hb.mono hb0.size), Hp.join a h, ⟨a, h, fun k => ?_, rfl, ha, ho⟩, fun k o e => ?_⟩
  · cases hak : a k with
    | none => exact .inl rfl
    | some x =>
      right
      cases hhk : h k with
      | none => rfl
      | some y =>
        have h1 := (hn k x hak).1
        have h2 := (Array.getElem?_eq_some_iff.1 (hh k y hhk).2).1
        omega
  · rcases join_cases e with e | e
    · have := hn k o e
      exact ⟨Nat.le_trans hb0.size this.1, this.2⟩
    · have h2 := (hh k o e).2
      refine ⟨(hh k o e).1, ?_⟩
      rw [hb.block k (Array.getElem?_eq_some_iff.1 h2).1]; exact h2

theorem Sat.alloc (H : Sat W w l) (c : Array Value) (t : TypeId) : Sat W (w.alloc (.cells c t)) (pt w.heap.size c t :: l) := by
  refine H.add (a := fun k => if k = w.heap.size then some (.cells c t (0, 0)) else none) _ ((Below.refl _ _).alloc (Nat.le_refl _) _) (by simp [pt]) fun k o e => ?_
  by_cases hk : k = w.heap.size
  · subst hk
    simp at e
    subst e
    exact ⟨Nat.le_refl _, heap_new w _⟩
  · simp [hk] at e

theorem Sat.heap {b : Nat} {c : Array Value} {t : TypeId} (H : Sat W w (pt b c t :: l)) : w.heap[b]? = some (.cells c t (0, 0)) := by
  obtain ⟨_, h, ⟨a, r, d, rfl, ha, _⟩, hh⟩ := H
  exact (hh b _ (join_left ha)).2
theorem Sat.ge {b : Nat} {c : Array Value} {t : TypeId} (H : Sat W w (pt b c t :: l)) : W.heap.size ≤ b := by
  obtain ⟨_, h, ⟨a, r, d, rfl, ha, _⟩, hh⟩ := H
  exact (hh b _ (join_left ha)).1
theorem Sat.lt {b : Nat} {c : Array Value} {t : TypeId} (H : Sat W w (pt b c t :: l)) : b < w.heap.size := (Array.getElem?_eq_some_iff.1 H.heap).1
theorem Sat.cell {b : Nat} {c : Array Value} {t : TypeId} (H : Sat W w (pt b c t :: l)) (i : Nat) : w.cell? ⟨b, i, none⟩ = c[i]? := by simp [World.cell?, H.heap]
theorem Sat.frz {b : Nat} {c : Array Value} {t : TypeId} (H : Sat W w (pt b c t :: l)) (i : Nat) : w.frozen? ⟨b, i, none⟩ = false := by simp [World.frozen?, H.heap]
theorem Sat.ne {b b' : Nat} {c c' : Array Value} {t t' : TypeId} (H : Sat W w (pt b c t :: pt b' c' t' :: l)) : b ≠ b' := by
  obtain ⟨_, h, ⟨a, r, d, rfl, ha, a', r', d', rfl, ha', _⟩, hh⟩ := H
  rintro rfl
  rcases d b with e | e
  · have ha1 : a b = some (.cells c t (0, 0)) := ha
    rw [ha1] at e; cases e
  · have ha1 : a' b = some (.cells c' t' (0, 0)) := ha'
    rw [join_left ha1] at e; cases e

/-- A part of what is owned is written. -/
theorem Sat.put {A B : SL} {w' : World} (H : Sat W w (A :: l)) (hb : Below W.heap.size W w')
    (f : ∀ a, A a → (∀ k o, a k = some o → w.heap[k]? = some o ∧ W.heap.size ≤ k) →
      ∃ b, B b ∧ (∀ k, b k ≠ none → a k ≠ none ∨ w.heap.size ≤ k) ∧ (∀ k o, b k = some o → W.heap.size ≤ k ∧ w'.heap[k]? = some o) ∧ ∀ k, a k = none → k < w.heap.size → w'.heap[k]? = w.heap[k]?) : Sat W w' (B :: l) := by
  obtain ⟨hb0, h, ⟨a, r, d, rfl, ha, hl⟩, hh⟩ := H
  obtain ⟨b, hB, hs, hn, hk⟩ := f a ha fun k o e => let ⟨h1, h2⟩ := hh k o (join_left e); ⟨h2, h1⟩
  refine ⟨hb, Hp.join b r, ⟨b, r, fun k => ?_, rfl, hB, hl⟩, fun k o e => ?_⟩
  · cases hbk : b k with
    | none => exact .inl rfl
    | some x =>
      right
      rcases hs k (by simp [hbk]) with e | e
      · rcases d k with e' | e'
        · exact absurd e' e
        · exact e'
      · cases hrk : r k with
        | none => rfl
        | some y =>
          have := (Array.getElem?_eq_some_iff.1 (hh k y (join_right d hrk)).2).1
          omega
  · rcases join_cases e with e | e
    · exact hn k o e
    · have h2 := hh k o (join_right d e)
      have hak : a k = none := by
        rcases d k with e' | e'
        · exact e'
        · rw [e] at e'; cases e'
      exact ⟨h2.1, by rw [hk k hak (Array.getElem?_eq_some_iff.1 h2.2).1]; exact h2.2⟩

theorem Sat.setCell {b : Nat} {c : Array Value} {t : TypeId} (H : Sat W w (pt b c t :: l)) (i : Nat) (v : Value) : Sat W (w.setCell ⟨b, i, none⟩ v) (pt b (c.setIfInBounds i v) t :: l) := by
  refine H.put (H.bel.setCell H.ge v) fun a ha hh => ⟨fun k => if k = b then some (.cells (c.setIfInBounds i v) t (0, 0)) else none, by simp [pt], fun k hk => ?_, fun k o e => ?_, fun k hk _ => ?_⟩
  · by_cases e : k = b
    · subst e; left; have : a k = _ := ha; rw [this]; simp
    · simp [e] at hk
  · by_cases e1 : k = b
    · subst e1
      simp at e
      subst e
      have h1 := hh k _ ha
      refine ⟨h1.2, ?_⟩
      simp [World.setCell, Array.getElem?_modify, h1.1]
    · simp [e1] at e
  · have : k ≠ b := by rintro rfl; have : a k = _ := ha; rw [this] at hk; cases hk
    exact Below.heap_setCell w _ v k this

end

/-- Two cells of one kind. -/
def like : Value → Value → Bool
  | .int k _, .int k' _ => k == k'
  | .string _, .string _ => true
  | .bool _, .bool _ => true
  | .slice .., .slice .. => true
  | .pointer _, .pointer _ => true
  | .map _, .map _ => true
  | _, _ => false

/-- Cells of a row whose element has the zero cells zc: each of its kind. -/
def Typed (zc : List Value) (cs : List Value) : Prop := ∀ j u, cs[j]? = some u → like u (zc.getD (j % zc.length) undef) = true

/-- Zero cells that can be told apart from others. -/
def LikeZ (zc : List Value) : Prop := ∀ (j : Nat) (u : Value), zc[j]? = some u → like u u = true

theorem Typed.nil (zc : List Value) : Typed zc [] := fun j u h => by simp at h
theorem Typed.append {zc a b : List Value} (ha : Typed zc a) (hb : Typed zc b) (hl : a.length % zc.length = 0) : Typed zc (a ++ b) := fun j u h => by
  rw [List.getElem?_append] at h
  split at h
  · exact ha j u h
  · rename_i hj
    have h1 := hb _ u h
    have e : (j - a.length) % zc.length = j % zc.length := by
      have := Nat.add_mod (j - a.length) a.length zc.length
      rw [Nat.sub_add_cancel (by omega), hl, Nat.add_zero, Nat.mod_mod] at this
      exact this.symm
    rwa [e] at h1
theorem Typed.take {zc a : List Value} (ha : Typed zc a) (k : Nat) : Typed zc (a.take k) := fun j u h => by
  rw [List.getElem?_take] at h
  split at h
  · exact ha j u h
  · cases h
theorem Typed.drop {zc a : List Value} (ha : Typed zc a) (k : Nat) (hk : k % zc.length = 0) : Typed zc (a.drop k) := fun j u h => by
  rw [List.getElem?_drop] at h
  have h1 := ha _ u h
  have e : (k + j) % zc.length = j % zc.length := by rw [Nat.add_mod, hk, Nat.zero_add, Nat.mod_mod]
  rwa [e] at h1
theorem Typed.set {zc a : List Value} (ha : Typed zc a) (k : Nat) (v : Value) (hv : like v (zc.getD (k % zc.length) undef) = true) : Typed zc (a.set k v) := fun j u h => by
  rw [List.getElem?_set] at h
  split at h
  · rename_i e; subst e
    split at h
    · cases h; exact hv
    · cases h
  · exact ha j u h
theorem Typed.zeros {zc : List Value} (hz : LikeZ zc) (n : Nat) : Typed zc (Builtin.zeroCells zc.toArray n).toList := fun j u h => by
  unfold Builtin.zeroCells at h
  simp only [Array.toList_map, Array.toList_range, List.getElem?_map, List.size_toArray] at h
  cases hr : (List.range (n * zc.length))[j]? with
  | none => rw [hr] at h; cases h
  | some i =>
    rw [hr] at h
    have hi : i = j := by
      have := List.getElem?_eq_some_iff.1 hr
      obtain ⟨h1, h2⟩ := this
      simpa using h2.symm
    subst hi
    simp only [Option.map_some, Option.some.injEq] at h
    have hlt : i < n * zc.length := by
      obtain ⟨h1, _⟩ := List.getElem?_eq_some_iff.1 hr
      simpa using h1
    have hpos : 0 < zc.length := by
      rcases Nat.eq_zero_or_pos zc.length with h0 | h0
      · rw [h0] at hlt; omega
      · exact h0
    have hm : i % zc.length < zc.length := Nat.mod_lt _ hpos
    have e1 : zc.toArray[i % zc.length]! = zc[i % zc.length] := by simp [hm]
    rw [e1] at h
    have e2 : zc.getD (i % zc.length) undef = zc[i % zc.length] := by simp [List.getD, hm]
    rw [e2, ← h]
    exact hz (i % zc.length) _ (List.getElem?_eq_getElem hm)

/-- A row that the call owns alone: its slice value, what it holds (cells), whatever spare room; zc: the zero cells of its element's type. -/
def row (e : TypeId) (zc : List Value) (v : Value) (n : Nat) (xs : List Value) : SL := fun h =>
  xs.length = n * zc.length ∧
  ((v = .slice none 0 0 ∧ n = 0) ∨
   ∃ g cap cur, v = .slice (some ⟨g, 0, none⟩) n cap ∧ h g = some (.cells cur e (0, 0)) ∧ n ≤ cap ∧ cap ≤ maxLen ∧ cur.size = cap * zc.length ∧ cur.toList.take (n * zc.length) = xs ∧ Typed zc cur.toList)

section
variable {W w : World} {l : List SL}
theorem row_nil (e : TypeId) (zc : List Value) (h : Hp) : row e zc (.slice none 0 0) 0 [] h := ⟨by simp, .inl ⟨rfl, rfl⟩⟩
theorem Sat.nil (H : Sat W w l) (e : TypeId) (zc : List Value) : Sat W w (row e zc (.slice none 0 0) 0 [] :: l) :=
  H.add (a := fun _ => none) w (Below.refl _ _) (row_nil e zc _) fun _ _ h => by cases h

variable {e : TypeId} {zc : List Value} {n : Nat} {v : Value} {xs : List Value}
theorem Sat.owns (H : Sat W w (row e zc v n xs :: l)) : w.ownsRow W.heap.size e zc.length v n xs := by
  obtain ⟨_, h, ⟨a, r, d, rfl, ⟨hx, ha⟩, _⟩, hh⟩ := H
  refine ⟨hx, ?_⟩
  rcases ha with ha | ⟨g, cap, cur, hv, hg, h1, h2, h3, h4, _⟩
  · exact .inl ha
  · have := hh g _ (join_left hg)
    exact .inr ⟨g, cap, cur, hv, this.1, this.2, h1, h2, h3, h4⟩

/-- A row that is made whole: the world has one block more. -/
theorem Sat.made (H : Sat W w l) (cur : Array Value) (e : TypeId) (zc : List Value) (n cap : Nat) (h1 : n ≤ cap) (h2 : cap ≤ maxLen) (h3 : cur.size = cap * zc.length) (ht : Typed zc cur.toList) :
    Sat W (w.alloc (.cells cur e)) (row e zc (.slice (some ⟨w.heap.size, 0, none⟩) n cap) n (cur.toList.take (n * zc.length)) :: l) := by
  refine (H.alloc cur e).head fun h hh => ⟨?_, .inr ⟨w.heap.size, cap, cur, rfl, hh, h1, h2, h3, rfl, ht⟩⟩
  have hcl : cur.toList.length = cap * zc.length := by simpa using h3
  rw [List.length_take, hcl]
  exact Nat.min_eq_left (Nat.mul_le_mul_right _ h1)

/-- The row's block is written whole. -/
theorem Sat.setRow {g c : Nat} (H : Sat W w (row e zc (.slice (some ⟨g, 0, none⟩) n c) n xs :: l)) (cur : Array Value) (n' : Nat) (hn : n' ≤ c) (hs : cur.size = c * zc.length) (ht : Typed zc cur.toList) :
    Sat W (w.setRow g cur) (row e zc (.slice (some ⟨g, 0, none⟩) n' c) n' (cur.toList.take (n' * zc.length)) :: l) := by
  have hge : W.heap.size ≤ g := (H.owns.lt g rfl).1
  have hb : Below W.heap.size W (w.setRow g cur) := H.bel.trans ⟨rfl, rfl, rfl, by simp, fun k hk => setRow_other w g k _ (by omega)⟩
  refine H.put hb fun a ⟨hx, ha⟩ hh => ?_
  rcases ha with ⟨hv, _⟩ | ⟨g', cap, cur0, hv, hg, h1, h2, h3, h4, h5⟩
  · cases hv
  · cases hv
    have hw := (hh g _ hg).1
    refine ⟨fun k => if k = g then some (.cells cur e (0, 0)) else none, ⟨?_, .inr ⟨g, c, cur, rfl, by simp, hn, h2, hs, rfl, ht⟩⟩, fun k hk => ?_, fun k o ek => ?_, fun k hk _ => ?_⟩
    · have hcl : cur.toList.length = c * zc.length := by simpa using hs
      rw [List.length_take, hcl]
      exact Nat.min_eq_left (Nat.mul_le_mul_right _ hn)
    · by_cases e1 : k = g
      · subst e1; left; rw [hg]; simp
      · simp [e1] at hk
    · by_cases e1 : k = g
      · subst e1
        simp at ek
        subst ek
        exact ⟨hge, setRow_heap w k _ cur e _ hw⟩
      · simp [e1] at ek
    · exact setRow_other w g k cur (by rintro rfl; rw [hg] at hk; cases hk)

/-- The slice value of a row, written out. -/
theorem Sat.slice (H : Sat W w (row e zc v n xs :: l)) :
    xs.length = n * zc.length ∧ ∃ A c, v = .slice A n c ∧ n ≤ c ∧ c ≤ maxLen ∧ (A = none → c = 0 ∧ n = 0) ∧ ∀ a, A = some a → a.off = 0 ∧ a.spot = none ∧ W.heap.size ≤ a.block ∧ a.block < w.heap.size := by
  obtain ⟨hx, h⟩ := H.owns
  rcases h with ⟨rfl, rfl⟩ | ⟨g, cap, cur, rfl, hge, hg, h1, h2, h3, h4⟩
  · exact ⟨hx, none, 0, rfl, Nat.le_refl _, by simp [maxLen], fun _ => ⟨rfl, rfl⟩, nofun⟩
  · exact ⟨hx, _, cap, rfl, h1, h2, nofun, fun a h => by cases h; exact ⟨rfl, rfl, hge, (Array.getElem?_eq_some_iff.1 hg).1⟩⟩

variable {c : Nat} {A : Option Addr}
theorem Sat.row_some (H : Sat W w (row e zc (.slice A n c) n xs :: l)) (hn : 0 < n) : ∃ g, A = some ⟨g, 0, none⟩ := by
  obtain ⟨_, h⟩ := H.owns
  rcases h with ⟨hv, h0⟩ | ⟨g, cap, cur, hv, _⟩
  · omega
  · cases hv; exact ⟨g, rfl⟩
theorem Sat.row_blk {g : Nat} (H : Sat W w (row e zc (.slice (some ⟨g, 0, none⟩) n c) n xs :: l)) :
    ∃ cur, w.heap[g]? = some (.cells cur e (0, 0)) ∧ n ≤ c ∧ c ≤ maxLen ∧ cur.size = c * zc.length ∧ cur.toList.take (n * zc.length) = xs ∧ Typed zc cur.toList := by
  obtain ⟨_, h, ⟨a, r, d, rfl, ⟨hx, ha⟩, _⟩, hh⟩ := H
  rcases ha with ⟨hv, h0⟩ | ⟨g', cap, cur, hv, h1, h2, h3, h4, h5, h6⟩
  · cases hv
  · cases hv; exact ⟨cur, (hh g _ (join_left h1)).2, h2, h3, h4, h5, h6⟩
theorem Sat.row_lt {g : Nat} (H : Sat W w (row e zc (.slice (some ⟨g, 0, none⟩) n c) n xs :: l)) : g < w.heap.size := by
  obtain ⟨cur, h, _⟩ := H.row_blk; exact (Array.getElem?_eq_some_iff.1 h).1
theorem Sat.row_ge {g : Nat} (H : Sat W w (row e zc (.slice (some ⟨g, 0, none⟩) n c) n xs :: l)) : W.heap.size ≤ g := (H.owns.lt g rfl).1
theorem Sat.row_frz {g : Nat} (H : Sat W w (row e zc (.slice (some ⟨g, 0, none⟩) n c) n xs :: l)) (j : Nat) : w.frozen? ⟨g, j, none⟩ = false := by
  obtain ⟨cur, h, _⟩ := H.row_blk
  simp [World.frozen?, h]
theorem Sat.row_at {g : Nat} (H : Sat W w (row e zc (.slice (some ⟨g, 0, none⟩) n c) n xs :: l)) (j : Nat) (hj : j < c * zc.length) : ∃ u, w.cell? ⟨g, j, none⟩ = some u ∧ like u (zc.getD (j % zc.length) undef) = true := by
  obtain ⟨cur, h, h1, h2, h3, h4, h5⟩ := H.row_blk
  have hj' : j < cur.size := by omega
  refine ⟨cur[j], by simp [World.cell?, h, hj'], h5 j _ (by simp [hj'])⟩
theorem Sat.row_set {g : Nat} (H : Sat W w (row e zc (.slice (some ⟨g, 0, none⟩) n c) n xs :: l)) (j : Nat) (u : Value) (hu : like u (zc.getD (j % zc.length) undef) = true) :
    Sat W (w.setCell ⟨g, j, none⟩ u) (row e zc (.slice (some ⟨g, 0, none⟩) n c) n (xs.set j u) :: l) := by
  refine H.put (H.bel.setCell H.row_ge u) fun a ⟨hx, ha⟩ hh => ?_
  rcases ha with ⟨hv, _⟩ | ⟨g', cap, cur, hv, hg, h1, h2, h3, h4, h5⟩
  · cases hv
  · cases hv
    refine ⟨fun k => if k = g then some (.cells (cur.setIfInBounds j u) e (0, 0)) else none, ⟨by rw [List.length_set]; exact hx, .inr ⟨g, c, cur.setIfInBounds j u, rfl, by simp, h1, h2, by simpa using h3, ?_, ?_⟩⟩, fun k hk => ?_, fun k o ek => ?_, fun k hk _ => ?_⟩
    · rw [Array.toList_setIfInBounds, ← h4, List.take_set]
    · rw [Array.toList_setIfInBounds]; exact h5.set j u hu
    · by_cases e1 : k = g
      · subst e1; left; rw [hg]; simp
      · simp [e1] at hk
    · by_cases e1 : k = g
      · subst e1
        simp at ek
        subst ek
        have h5 := hh k _ hg
        exact ⟨h5.2, by simp [World.setCell, Array.getElem?_modify, h5.1]⟩
      · simp [e1] at ek
    · have : k ≠ g := by rintro rfl; rw [hg] at hk; cases hk
      exact Below.heap_setCell w _ u k this
end

/-- A slice as a reader sees it: the cells of its elements. -/
def Rd (w : World) (A : Option Addr) (xs : List Value) : Prop := ∀ j u, xs[j]? = some u → ∃ b o, A = some ⟨b, o, none⟩ ∧ w.cell? ⟨b, o + j, none⟩ = some u

theorem Rd.nil (w : World) (A : Option Addr) : Rd w A [] := fun j u h => by simp at h
theorem Rd.drewN {w : World} {A : Option Addr} {xs : List Value} (h : Rd w A xs) (n : Nat) : Rd (w.drewN n) A xs := h
theorem Rd.below {w w' : World} {A : Option Addr} {xs : List Value} (h : Rd w A xs) (hb : Below w.heap.size w w') : Rd w' A xs := fun j u hu => by
  obtain ⟨b, o, hA, hc⟩ := h j u hu
  exact ⟨b, o, hA, by rw [hb.cell (World.block_lt_of_cell? w _ hc)]; exact hc⟩
theorem Rd.old {W w : World} {A : Option Addr} {xs : List Value} (h : Rd W A xs) {l : List SL} (H : Sat W w l) : Rd w A xs := h.below H.bel
/-- A new block, read whole. -/
theorem Rd.new (w : World) (c : Array Value) (t : TypeId) : Rd (w.alloc (.cells c t)) (some ⟨w.heap.size, 0, none⟩) c.toList := fun j u hu =>
  ⟨_, _, rfl, by rw [World.cell?_alloc_new, Nat.zero_add, ← Array.getElem?_toList]; exact hu⟩
/-- One cell of it. -/
theorem Rd.at {w : World} {b o : Nat} {xs : List Value} (h : Rd w (some ⟨b, o, none⟩) xs) (j : Nat) {u : Value} (hu : xs[j]? = some u) : w.cell? ⟨b, o + j, none⟩ = some u := by
  obtain ⟨b', o', e, hc⟩ := h j u hu
  cases e; exact hc
theorem Rd.open {w : World} {A : Option Addr} {xs : List Value} (h : Rd w A xs) (hx : xs ≠ []) : ∃ b o, A = some ⟨b, o, none⟩ := by
  cases xs with
  | nil => exact absurd rfl hx
  | cons x l => obtain ⟨b, o, e, _⟩ := h 0 x rfl; exact ⟨b, o, e⟩
theorem Rd.drop {w : World} {b o : Nat} {xs : List Value} (h : Rd w (some ⟨b, o, none⟩) xs) (k : Nat) : Rd w (some ⟨b, o + k, none⟩) (xs.drop k) := fun j u hu => by
  rw [List.getElem?_drop] at hu
  exact ⟨b, o + k, rfl, by rw [Nat.add_assoc]; exact h.at (k + j) hu⟩
theorem Rd.take {w : World} {A : Option Addr} {xs : List Value} (h : Rd w A xs) (k : Nat) : Rd w A (xs.take k) := fun j u hu => by
  rw [List.getElem?_take] at hu
  split at hu
  · exact h j u hu
  · cases hu

theorem Sat.rd {W w : World} {l : List SL} {e : TypeId} {zc : List Value} {n c : Nat} {A : Option Addr} {m : Nat} {xs : List Value} (H : Sat W w (row e zc (.slice A m c) n xs :: l)) : Rd w A xs := by
  intro j u hu
  obtain ⟨hx, h⟩ := H.owns
  rcases h with ⟨hv, hn⟩ | ⟨g, cap, cur, hv, hge, hg, h1, h2, h3, h4⟩
  · subst hn
    have : xs = [] := List.eq_nil_of_length_eq_zero (by simpa using hx)
    subst this; simp at hu
  · injection hv with hA hm hc
    refine ⟨g, 0, hA, ?_⟩
    rw [Nat.zero_add]
    have := H.owns.cells (g := g) (by simp [Value.ownBlock, hA]) j u hu
    unfold Addr.add at this
    split at this
    · rename_i hj; subst hj; exact this
    · simpa using this
theorem Sat.row_cell {W w : World} {l : List SL} {e : TypeId} {zc : List Value} {n c : Nat} {xs : List Value} {g : Nat} (H : Sat W w (row e zc (.slice (some ⟨g, 0, none⟩) n c) n xs :: l)) (j : Nat) {u : Value} (hu : xs[j]? = some u) : w.cell? ⟨g, j, none⟩ = some u := by
  have := (Sat.rd H).at j hu
  rwa [Nat.zero_add] at this

section
variable {P : Program} {W w : World} {l : List SL}

/-- A new row behind append's growing arm. -/
theorem Sat.grew {e : TypeId} {zc : List Value} (H : Sat W w l) (xs : List Value) (need old : Nat) (hx : xs.length = need * zc.length) (ht : Typed zc xs) (hzz : LikeZ zc) (h63 : need ≤ maxLen) (cur : Array Value)
    (hc : cur = xs.toArray ++ Builtin.zeroCells zc.toArray (grownCap w need old e - need)) :
    Sat W (w.drew.alloc (.cells cur e)) (row e zc (.slice (some ⟨w.heap.size, 0, none⟩) need (grownCap w need old e)) need xs :: l) := by
  have hge := grownCap_ge w need old e
  have hcm : grownCap w need old e ≤ maxLen := grownCap_le_maxLen w need old e h63
  have hs : cur.size = grownCap w need old e * zc.length := by
    rw [hc]
    simp only [Array.size_append, List.size_toArray, size_zeroCells, hx, ← Nat.add_mul]
    congr 1
    omega
  have h := H.drew.made cur e zc need (grownCap w need old e) hge hcm hs (by
    rw [hc, Array.toList_append]
    exact ht.append (Typed.zeros hzz _) (by simp [hx]))
  have e1 : cur.toList.take (need * zc.length) = xs := by
    rw [hc, Array.toList_append, ← hx]
    exact List.take_left
  rw [e1] at h
  exact h

theorem run_append_typed (t ty e : TypeId) (i : TypeInfo) (z : Value) (zc : List Value) (ht : P.underlying t = some (.slice e)) (hi : P.info? e = some i) (hz : i.zero = some z) (hzc : z.cells = zc.toArray)
    (hsize : i.size = zc.length) (hpos : 0 < zc.length) (hzz : LikeZ zc)
    (v : Value) (n : Nat) (xs : List Value) (H : Sat W w (row e zc v n xs :: l))
    (A : Option Addr) (m c : Nat) (news : List Value) (hl : news.length = m * zc.length) (hr : Rd w A news) (h1 : ∀ u ∈ news, u.oneCell' = true) (hty : Typed zc news)
    (h63 : n + m ≤ maxLen) (hbytes : (n + m) * i.bytes ≤ 140737488355328) :
    ∃ A' c' w', (Builtin.append_ #[t, t] ty #[v, .slice A m c]).run P w = .ok (.slice A' (n + m) c') w' ∧ Sat W w' (row e zc (.slice A' (n + m) c') (n + m) (xs ++ news) :: l) := by
  obtain ⟨hxl, A', c', rfl, hnc, hcm, hA0, hA1⟩ := H.slice
  rcases Nat.eq_zero_or_pos m with hm | hm
  · subst hm
    have hn0 : news = [] := List.eq_nil_of_length_eq_zero (by simpa using hl)
    subst hn0
    have hf : (Builtin.firstCells i.size 0 (.slice A 0 c)).run P w = .ok #[] w := by
      cases A with
      | none => exact run_firstCells_none w _ _ _ _
      | some ad => exact run_firstCells_some w i.size 0 ad 0 c [] (by simp) (by intro j u h; simp at h)
    refine ⟨A', c', w, ?_, by simpa using H⟩
    cases A' with
    | none => simp [Builtin.append_, run_underlying ht, sizeOf, typeInfo, hi, Builtin.lenOf, hnc, hf]
    | some ad => simp [Builtin.append_, run_underlying ht, sizeOf, typeInfo, hi, Builtin.lenOf, hnc, hf, storeCells]
  · have hx0 : news ≠ [] := by
      intro h0
      subst h0
      have : m * zc.length ≥ 1 := Nat.mul_pos hm hpos
      simp at hl; omega
    obtain ⟨b, off, rfl⟩ := hr.open hx0
    have hnews : ∀ j u, news[j]? = some u → w.cell? ((⟨b, off, none⟩ : Addr).add j) = some u := fun j u hu => by
      have h0 := hr.at j hu
      unfold Addr.add
      split
      · rename_i hj; subst hj; simpa using h0
      · exact h0
    have hl' : news.length = m * i.size := by rw [hsize]; exact hl
    have hlen : (xs ++ news).length = (n + m) * zc.length := by rw [List.length_append, hxl, hl, Nat.add_mul]
    cases A' with
    | none =>
      obtain ⟨rfl, rfl⟩ := hA0 rfl
      have hx : xs = [] := List.eq_nil_of_length_eq_zero (by simpa using hxl)
      subst hx
      have hrun := run_append_nil (P := P) w t ty e i z ht hi hz ⟨b, off, none⟩ m c news hl' hnews (by omega) (by simp only [maxLen] at h63; omega) (by have hb := hbytes; simp only [Nat.zero_add] at hb; omega)
      refine ⟨_, _, _, by simpa using hrun, ?_⟩
      have hs := H.tail.grew (e := e) (zc := zc) news m 0 hl hty hzz (by omega) _ (by rw [← hzc])
      simpa using hs
    | some ad =>
      obtain ⟨h0, hsp, hge, hlt⟩ := hA1 ad rfl
      obtain ⟨g, off', sp⟩ := ad
      dsimp only at h0 hsp hge hlt
      subst h0 hsp
      obtain ⟨cur, hg, _, _, hcs, htake, htc⟩ := H.row_blk
      have htx : Typed zc xs := by rw [← htake]; exact htc.take _
      by_cases hroom : n + m ≤ c'
      · have hfit : n * i.size + news.length ≤ cur.size := by rw [hl', hcs, hsize, ← Nat.add_mul]; exact Nat.mul_le_mul_right _ hroom
        have hrun := run_append_room (P := P) w t ty e i ht hi g n c' cur hg ⟨b, off, none⟩ m c news hl' hnews h1 hroom hfit
        refine ⟨_, _, _, hrun, ?_⟩
        have hs := H.setRow (cur.toList.take (n * i.size) ++ news ++ cur.toList.drop (n * i.size + news.length)).toArray (n + m) hroom ?_ ?_
        · have e1 : (cur.toList.take (n * i.size) ++ news ++ cur.toList.drop (n * i.size + news.length)).toArray.toList.take ((n + m) * zc.length) = xs ++ news := by
            simp only [hsize]
            rw [htake, ← hlen]
            exact List.take_left
          rw [e1] at hs
          exact hs
        · simp only [List.size_toArray, List.length_append, List.length_take, List.length_drop, Array.length_toList]
          rw [← hcs]; omega
        · show Typed zc (cur.toList.take (n * i.size) ++ news ++ cur.toList.drop (n * i.size + news.length))
          rw [hsize, htake]
          refine (htx.append hty (by rw [hxl]; simp)).append (htc.drop _ ?_) (by rw [hlen]; simp)
          rw [hl, ← Nat.add_mul]; simp
      · have holds : ∀ j u, xs[j]? = some u → w.cell? ((⟨g, 0, none⟩ : Addr).add j) = some u := H.owns.cells (g := g) rfl
        have hrun := run_append_grow (P := P) w t ty e i z ht hi hz ⟨g, 0, none⟩ n c' xs (by rw [hsize]; exact hxl) holds ⟨b, off, none⟩ m c news hl' hnews (by omega) (by simp only [maxLen] at h63; omega) (growslice_fits (by omega) hbytes)
        refine ⟨_, _, _, hrun, ?_⟩
        exact H.tail.grew (e := e) (zc := zc) (xs ++ news) (n + m) c' hlen (htx.append hty (by rw [hxl]; simp)) hzz h63 _ (by rw [← hzc]; simp)

/-- APPEND, whatever the source is: a slice that is read. -/
theorem wp_append_sl {o : Oper} {a : Act} {K : Act → World → Prop} {Q : Exit → Act → World → Prop} (s x : Operand) (t : TypeId)
    (ho : o.op = .call { callee := .builtin .append, args := #[s, x], argTypes := #[t, t] })
    (e : TypeId) (i : TypeInfo) (z : Value) (zc : List Value) (bytes : Nat) (ht : P.underlying t = some (.slice e)) (hi : P.info? e = some i) (hz : i.zero = some z) (hzc : z.cells = zc.toArray)
    (hsize : i.size = zc.length) (hby : i.bytes = bytes) (hpos : 0 < zc.length) (hzz : LikeZ zc)
    (v : Value) (n : Nat) (xs : List Value) (hs : a.eval s = v) (H : Sat W w (row e zc v n xs :: l))
    (A : Option Addr) (m c : Nat) (news : List Value) (hx : a.eval x = .slice A m c) (hl : news.length = m * zc.length) (hr : Rd w A news) (h1 : ∀ u ∈ news, u.oneCell' = true) (hty : Typed zc news)
    (h63 : n + m ≤ maxLen) (hbytes : (n + m) * bytes ≤ 140737488355328)
    (h : ∀ A' c' w', Sat W w' (row e zc (.slice A' (n + m) c') (n + m) (xs ++ news) :: l) → K (a.put o.dst (.slice A' (n + m) c')) w') : o.wp P a w K Q := by
  subst hby
  obtain ⟨A', c', w', hrun, H'⟩ := run_append_typed (P := P) t o.type e i z zc ht hi hz hzc hsize hpos hzz v n xs H A m c news hl hr h1 hty h63 hbytes
  unfold Oper.wp execOp
  simp only [ho, resolve, invoke, builtin, Sem.run_bind, Sem.run_pure, Result.andThen_ok, List.map_toArray, List.map_cons, List.map_nil, hs, hx, hrun]
  exact h A' c' w' H'

set_option maxRecDepth 100000 in
theorem wpList_append_sl {ops : Array Oper} {rest : List Oper} {o : Oper} {a : Act} {Q : Exit → Act → World → Prop} (hgd : o.guard = none) (s x : Operand) (t : TypeId)
    (ho : o.op = .call { callee := .builtin .append, args := #[s, x], argTypes := #[t, t] })
    (e : TypeId) (i : TypeInfo) (z : Value) (zc : List Value) (bytes : Nat) (ht : P.underlying t = some (.slice e)) (hi : P.info? e = some i) (hz : i.zero = some z) (hzc : z.cells = zc.toArray)
    (hsize : i.size = zc.length) (hby : i.bytes = bytes) (hpos : 0 < zc.length) (hzz : LikeZ zc)
    (v : Value) (n : Nat) (xs : List Value) (hs : a.eval s = v) (H : Sat W w (row e zc v n xs :: l))
    (A : Option Addr) (m c : Nat) (news : List Value) (hx : a.eval x = .slice A m c) (hl : news.length = m * zc.length) (hr : Rd w A news) (h1 : ∀ u ∈ news, u.oneCell' = true) (hty : Typed zc news)
    (h63 : n + m ≤ maxLen) (hbytes : (n + m) * bytes ≤ 140737488355328)
    (h : ∀ A' c' w', Sat W w' (row e zc (.slice A' (n + m) c') (n + m) (xs ++ news) :: l) → wpList P ops Q rest (a.put o.dst (.slice A' (n + m) c')) w') : wpList P ops Q (o :: rest) a w :=
  wpList_plain hgd fun _ hK => wp_append_sl s x t ho e i z zc bytes ht hi hz hzc hsize hby hpos hzz v n xs hs H A m c news hx hl hr h1 hty h63 hbytes fun A' c' w' H' => hK _ _ (h A' c' w' H')

theorem step_append_sl {ops : Array Oper} {o : Oper} {a : Act} {K : Act → World → Prop} {Q : Exit → Act → World → Prop} {E : Prop} (hgd : o.guard = none) (s x : Operand) (t : TypeId)
    (ho : o.op = .call { callee := .builtin .append, args := #[s, x], argTypes := #[t, t] })
    (e : TypeId) (i : TypeInfo) (z : Value) (zc : List Value) (bytes : Nat) (ht : P.underlying t = some (.slice e)) (hi : P.info? e = some i) (hz : i.zero = some z) (hzc : z.cells = zc.toArray)
    (hsize : i.size = zc.length) (hby : i.bytes = bytes) (hpos : 0 < zc.length) (hzz : LikeZ zc)
    (v : Value) (n : Nat) (xs : List Value) (hs : a.eval s = v) (H : Sat W w (row e zc v n xs :: l))
    (A : Option Addr) (m c : Nat) (news : List Value) (hx : a.eval x = .slice A m c) (hl : news.length = m * zc.length) (hr : Rd w A news) (h1 : ∀ u ∈ news, u.oneCell' = true) (hty : Typed zc news)
    (h63 : n + m ≤ maxLen) (hbytes : (n + m) * bytes ≤ 140737488355328)
    (h : ∀ A' c' w', Sat W w' (row e zc (.slice A' (n + m) c') (n + m) (xs ++ news) :: l) → K (a.put o.dst (.slice A' (n + m) c')) w') :
    if Region.wanted o (yielded ops a.tmps) = true then Oper.wp P o a w K Q else E := by
  have hw : Region.wanted o (yielded ops a.tmps) = true := by simp [Region.wanted, hgd]
  rw [if_pos hw]
  exact wp_append_sl s x t ho e i z zc bytes ht hi hz hzc hsize hby hpos hzz v n xs hs H A m c news hx hl hr h1 hty h63 hbytes h

/-- The bytes of a string as cells. -/
abbrev strC (s : ByteArray) : List Value := s.data.toList.map fun b => Value.int .u8 (b.toNat : Int)
/-- The zero cell of a byte. -/
abbrev zB : List Value := [.int .u8 0]
theorem zB_like : LikeZ zB := by
  intro j u h
  cases j with
  | zero => simp at h; subst h; rfl
  | succ j => simp at h
theorem Typed.bytes (bs : List UInt8) : Typed zB (bs.map fun b => Value.int .u8 (b.toNat : Int)) := fun j u h => by
  rw [List.getElem?_map] at h
  cases hb : bs[j]? with
  | none => rw [hb] at h; cases h
  | some b => rw [hb] at h; cases h; simp [like, Nat.mod_one]

theorem Typed.one (n : Int) : Typed zB [.int .u8 n] := fun j u h => by
  cases j with
  | zero => simp at h; subst h; simp [like]
  | succ j => simp at h
theorem zB_at (j : Nat) (n : Int) : like (.int .u8 n) (zB.getD (j % zB.length) undef) = true := by simp [like, Nat.mod_one]

theorem run_append_str (t u ty e : TypeId) (i : TypeInfo) (ht : P.underlying t = some (.slice e)) (hu : P.underlying u = some .string) (hi : P.info? e = some i) (hz : i.zero = some (.int .u8 0)) (hsize : i.size = 1) (hby : i.bytes = 1)
    (v : Value) (n : Nat) (xs : List Value) (H : Sat W w (row e zB v n xs :: l)) (s : ByteArray) (h63 : n + s.size ≤ maxLen) (hbytes : n + s.size ≤ 140737488355328) :
    ∃ A' c' w', (Builtin.append_ #[t, u] ty #[v, .string s]).run P w = .ok (.slice A' (n + s.size) c') w' ∧ Sat W w' (row e zB (.slice A' (n + s.size) c') (n + s.size) (xs ++ strC s) :: l) := by
  obtain ⟨hxl, A', c', rfl, hnc, hcm, hA0, hA1⟩ := H.slice
  have hxl' : xs.length = n := by simpa using hxl
  have hsl : (strC s).length = s.size := by rw [List.length_map, Array.length_toList]; rfl
  have hlen : (xs ++ strC s).length = (n + s.size) * zB.length := by rw [List.length_append, hxl', hsl, List.length_singleton, Nat.mul_one]
  cases A' with
  | none =>
    obtain ⟨rfl, rfl⟩ := hA0 rfl
    have hx : xs = [] := List.eq_nil_of_length_eq_zero hxl'
    subst hx
    by_cases hm : s.size = 0
    · have hn : strC s = [] := List.eq_nil_of_length_eq_zero (by rw [hsl]; exact hm)
      have hf := Lib.run_firstCells_string (P := P) w 1 s
      rw [hm] at hf
      refine ⟨none, 0, w, ?_, by rw [hn, hm]; simpa using H⟩
      simp [Builtin.append_, run_underlying ht, run_underlying hu, sizeOf, typeInfo, hi, hsize, Builtin.lenOf, hm, hf]
    · have hrun := run_append_nil_string (P := P) w t u ty e i (.int .u8 0) ht hu hi hz s (by omega) (by simp only [maxLen] at h63; omega) (by rw [hby]; omega)
      refine ⟨_, _, _, by simpa using hrun, ?_⟩
      have hs := H.tail.grew (e := e) (zc := zB) (strC s) s.size 0 (by rw [hsl]; simp) (Typed.bytes _) zB_like (by omega) (s.data.map (fun b => Value.int .u8 (b.toNat : Int)) ++ Builtin.zeroCells (Value.int .u8 0).cells (grownCap w s.size 0 e - s.size)) (by
        congr 1
        apply Array.ext'
        simp)
      simpa using hs
  | some ad =>
    obtain ⟨h0, hsp, hge, hlt⟩ := hA1 ad rfl
    obtain ⟨g, off', sp⟩ := ad
    dsimp only at h0 hsp hge hlt
    subst h0 hsp
    obtain ⟨cur, hg, _, _, hcs, htake, htc⟩ := H.row_blk
    have hcs' : cur.size = c' := by simpa using hcs
    have htk : cur.toList.take n = xs := by simpa using htake
    have htx : Typed zB xs := by rw [← htake]; exact htc.take _
    by_cases hroom : n + s.size ≤ c'
    · have hrun := Lib.run_append_room_string (P := P) w t u ty e i ht hu hi hsize g n c' cur hg s hroom (by omega)
      refine ⟨_, _, _, hrun, ?_⟩
      have hs := H.setRow (cur.toList.take n ++ Lib.strCells s ++ cur.toList.drop (n + s.size)).toArray (n + s.size) hroom ?_ ?_
      · have e1 : (cur.toList.take n ++ Lib.strCells s ++ cur.toList.drop (n + s.size)).toArray.toList.take ((n + s.size) * zB.length) = xs ++ strC s := by
          rw [htk, ← hlen]
          exact List.take_left
        rw [e1] at hs
        exact hs
      · simp only [List.size_toArray, List.length_append, List.length_take, List.length_drop, Array.length_toList, Lib.strCells_length, List.length_singleton]
        omega
      · show Typed zB (cur.toList.take n ++ Lib.strCells s ++ cur.toList.drop (n + s.size))
        rw [htk]
        exact (htx.append (Typed.bytes _) (by simp [Nat.mod_one])).append (htc.drop _ (by simp [Nat.mod_one])) (by simp [Nat.mod_one])
    · have holds : ∀ j u, xs[j]? = some u → w.cell? ((⟨g, 0, none⟩ : Addr).add j) = some u := H.owns.cells (g := g) rfl
      have hrun := Lib.run_append_grow_string (P := P) w t u ty e i (.int .u8 0) ht hu hi hz ⟨g, 0, none⟩ n c' xs (by rw [hsize]; simpa using hxl') holds s (by omega) (by simp only [maxLen] at h63; omega) (by rw [hby]; exact growslice_fits (by omega) (by omega))
      refine ⟨_, _, _, hrun, ?_⟩
      exact H.tail.grew (e := e) (zc := zB) (xs ++ strC s) (n + s.size) c' hlen (htx.append (Typed.bytes _) (by simp [Nat.mod_one])) zB_like h63 _ (by
        congr 1
        apply Array.ext'
        simp [Lib.strCells])

/-- APPEND of a string's bytes. -/
theorem wp_append_str {o : Oper} {a : Act} {K : Act → World → Prop} {Q : Exit → Act → World → Prop} (sl x : Operand) (t u : TypeId)
    (ho : o.op = .call { callee := .builtin .append, args := #[sl, x], argTypes := #[t, u] })
    (e : TypeId) (i : TypeInfo) (ht : P.underlying t = some (.slice e)) (hu : P.underlying u = some .string) (hi : P.info? e = some i) (hz : i.zero = some (.int .u8 0)) (hsize : i.size = 1) (hby : i.bytes = 1)
    (v : Value) (n : Nat) (xs : List Value) (hs : a.eval sl = v) (H : Sat W w (row e zB v n xs :: l)) (s : ByteArray) (hx : a.eval x = .string s)
    (h63 : n + s.size ≤ maxLen) (hbytes : n + s.size ≤ 140737488355328)
    (h : ∀ A' c' w', Sat W w' (row e zB (.slice A' (n + s.size) c') (n + s.size) (xs ++ strC s) :: l) → K (a.put o.dst (.slice A' (n + s.size) c')) w') : o.wp P a w K Q := by
  obtain ⟨A', c', w', hrun, H'⟩ := run_append_str (P := P) t u o.type e i ht hu hi hz hsize hby v n xs H s h63 hbytes
  unfold Oper.wp execOp
  simp only [ho, resolve, invoke, builtin, Sem.run_bind, Sem.run_pure, Result.andThen_ok, List.map_toArray, List.map_cons, List.map_nil, hs, hx, hrun]
  exact h A' c' w' H'

set_option maxRecDepth 100000 in
theorem wpList_append_str {ops : Array Oper} {rest : List Oper} {o : Oper} {a : Act} {Q : Exit → Act → World → Prop} (hgd : o.guard = none) (sl x : Operand) (t u : TypeId)
    (ho : o.op = .call { callee := .builtin .append, args := #[sl, x], argTypes := #[t, u] })
    (e : TypeId) (i : TypeInfo) (ht : P.underlying t = some (.slice e)) (hu : P.underlying u = some .string) (hi : P.info? e = some i) (hz : i.zero = some (.int .u8 0)) (hsize : i.size = 1) (hby : i.bytes = 1)
    (v : Value) (n : Nat) (xs : List Value) (hs : a.eval sl = v) (H : Sat W w (row e zB v n xs :: l)) (s : ByteArray) (hx : a.eval x = .string s)
    (h63 : n + s.size ≤ maxLen) (hbytes : n + s.size ≤ 140737488355328)
    (h : ∀ A' c' w', Sat W w' (row e zB (.slice A' (n + s.size) c') (n + s.size) (xs ++ strC s) :: l) → wpList P ops Q rest (a.put o.dst (.slice A' (n + s.size) c')) w') : wpList P ops Q (o :: rest) a w :=
  wpList_plain hgd fun _ hK => wp_append_str sl x t u ho e i ht hu hi hz hsize hby v n xs hs H s hx h63 hbytes fun A' c' w' H' => hK _ _ (h A' c' w' H')

theorem step_append_str {ops : Array Oper} {o : Oper} {a : Act} {K : Act → World → Prop} {Q : Exit → Act → World → Prop} {E : Prop} (hgd : o.guard = none) (sl x : Operand) (t u : TypeId)
    (ho : o.op = .call { callee := .builtin .append, args := #[sl, x], argTypes := #[t, u] })
    (e : TypeId) (i : TypeInfo) (ht : P.underlying t = some (.slice e)) (hu : P.underlying u = some .string) (hi : P.info? e = some i) (hz : i.zero = some (.int .u8 0)) (hsize : i.size = 1) (hby : i.bytes = 1)
    (v : Value) (n : Nat) (xs : List Value) (hs : a.eval sl = v) (H : Sat W w (row e zB v n xs :: l)) (s : ByteArray) (hx : a.eval x = .string s)
    (h63 : n + s.size ≤ maxLen) (hbytes : n + s.size ≤ 140737488355328)
    (h : ∀ A' c' w', Sat W w' (row e zB (.slice A' (n + s.size) c') (n + s.size) (xs ++ strC s) :: l) → K (a.put o.dst (.slice A' (n + s.size) c')) w') :
    if Region.wanted o (yielded ops a.tmps) = true then Oper.wp P o a w K Q else E := by
  have hw : Region.wanted o (yielded ops a.tmps) = true := by simp [Region.wanted, hgd]
  rw [if_pos hw]
  exact wp_append_str sl x t u ho e i ht hu hi hz hsize hby v n xs hs H s hx h63 hbytes h
end
end Go.Rt

/- More laws on what a call owns: make, copy. No program in sight. -/
namespace Go.Rt
open Go.RowKit

/-- What is read as long as the things of l are owned: memory that was there at the beginning, or a row of l. -/
def RdL (W : World) (l : List SL) (A : Option Addr) (xs : List Value) : Prop := ∀ w, Sat W w l → Rd w A xs
theorem RdL.old {W : World} {l : List SL} {A : Option Addr} {xs : List Value} (h : Rd W A xs) : RdL W l A xs := fun _ H => h.old H
theorem RdL.tail {W : World} {l : List SL} {B : SL} {A : Option Addr} {xs : List Value} (h : RdL W l A xs) : RdL W (B :: l) A xs := fun w H => h w H.tail
theorem RdL.row {W : World} {l : List SL} {e : TypeId} {zc : List Value} {A : Option Addr} {m n c : Nat} {xs : List Value} : RdL W (Go.Rt.row e zc (.slice A m c) n xs :: l) A xs := fun _ H => H.rd
theorem RdL.pull {W : World} {l : List SL} {A : Option Addr} {xs : List Value} (i : Nat) (h : RdL W (Go.Rt.pull i l) A xs) : RdL W l A xs := fun w H => h w (H.pull i)

theorem madeCells_eq (zc : List Value) (n : Nat) : madeCells zc.toArray (n * zc.length) = Builtin.zeroCells zc.toArray n := by
  simp [madeCells, Builtin.zeroCells]

section
variable {P : Program} {W w : World} {l : List SL}

set_option maxRecDepth 100000 in
/-- 'make([]T, n)' -/
theorem wpList_make_sl {ops : Array Oper} {rest : List Oper} {o : Oper} {a : Act} {Q : Exit → Act → World → Prop} (hg : o.guard = none) (lo co : Operand) (t : TypeId) (hop : o.op = Op.makeSlice t lo co)
    (e : TypeId) (i : TypeInfo) (z : Value) (zc : List Value) (h1 : P.underlying t = some (.slice e)) (h2 : P.info? e = some i) (h3 : i.zero = some z) (hzc : z.cells = zc.toArray) (h4 : i.size = zc.length) (hzz : LikeZ zc)
    (kl kc : IntKind) (L C : Int) (n c : Nat) (hl : a.eval lo = .int kl L) (hc : a.eval co = .int kc C) (hL : L = (n : Int)) (hC : C = (c : Int)) (hnc : n ≤ c) (b2 : i.bytes * c ≤ 281474976710656) (b3 : c ≤ maxLen)
    (H : Sat W w l)
    (hK : ∀ w', Sat W w' (row e zc (.slice (some ⟨w.heap.size, 0, none⟩) n c) n (Builtin.zeroCells zc.toArray n).toList :: l) → wpList P ops Q rest (a.put o.dst (.slice (some ⟨w.heap.size, 0, none⟩) n c)) w') :
    wpList P ops Q (o :: rest) a w := by
  refine wpList_plain hg fun K hK' => ?_
  subst hL hC
  have hb : (i.bytes : Int) * (c : Int) ≤ 281474976710656 := by
    have h : ((i.bytes * c : Nat) : Int) ≤ 281474976710656 := by omega
    rwa [Int.natCast_mul] at h
  have hrun := run_make (P := P) w t e i z h1 h2 h3 kl kc n c (by omega) (by omega) hb (by simp only [maxLen] at b3; omega)
  simp only [Int.toNat_natCast, hzc, h4, madeCells_eq] at hrun
  unfold Oper.wp
  simp [execOp, hop, hl, hc, hrun, Result.andThen]
  refine hK' _ _ (hK _ ?_)
  have hs := H.made (Builtin.zeroCells zc.toArray c) e zc n c hnc b3 (by simp [Builtin.zeroCells]) (Typed.zeros hzz c)
  have e1 : (Builtin.zeroCells zc.toArray c).toList.take (n * zc.length) = (Builtin.zeroCells zc.toArray n).toList := by
    simp only [Builtin.zeroCells, Array.toList_map, Array.toList_range, List.size_toArray, ← List.map_take]
    rw [List.take_range, Nat.min_eq_left (Nat.mul_le_mul_right _ hnc)]
  rw [e1] at hs
  exact hs

theorem run_copy_typed (dT sT ty e : TypeId) (i : TypeInfo) (zc : List Value) (hu : P.underlying dT = some (.slice e)) (hi : P.info? e = some i) (hsize : i.size = zc.length) 
    (g n c : Nat) (xs : List Value) (H : Sat W w (row e zc (.slice (some ⟨g, 0, none⟩) n c) n xs :: l))
    (A : Option Addr) (m c' : Nat) (news : List Value) (hl : news.length = m * zc.length) (hr : Rd w A news) (h1 : ∀ u ∈ news, u.oneCell' = true) (hty : Typed zc news) (hmn : m ≤ n) :
    ∃ w', (Builtin.copy_ #[dT, sT] ty #[.slice (some ⟨g, 0, none⟩) n c, .slice A m c']).run P w = .ok (goInt m) w' ∧ Sat W w' (row e zc (.slice (some ⟨g, 0, none⟩) n c) n (news ++ xs.drop (m * zc.length)) :: l) := by
  obtain ⟨cur, hg, hnc, _, hcs, htake, htc⟩ := H.row_blk
  have hmin : Nat.min m n = m := Nat.min_eq_left hmn
  have hf : (Builtin.firstCells i.size m (.slice A m c')).run P w = .ok news.toArray w := by
    cases A with
    | none =>
      have : news = [] := by
        cases news with
        | nil => rfl
        | cons x r => obtain ⟨_, _, h⟩ := hr.open (by simp); cases h
      subst this
      exact run_firstCells_none w _ _ _ _
    | some ad =>
      refine run_firstCells_some w i.size m ad m c' news (by rw [hsize]; exact hl) fun j u hu => ?_
      obtain ⟨b, o, h, hc⟩ := hr j u hu
      cases h
      unfold Addr.add
      split
      · rename_i hj; subst hj; simpa using hc
      · exact hc
  have hst := run_storeCells_at P g 0 e news 0 cur w hg (by rw [hl, hcs]; simpa using Nat.mul_le_mul_right _ (Nat.le_trans hmn hnc)) h1
  simp only [Nat.add_zero, Nat.zero_add, List.take_zero, List.nil_append] at hst
  refine ⟨_, by simp [Builtin.copy_, run_underlying hu, Builtin.lenOf, sizeOf, typeInfo, hi, hmin, hf, hst]; rfl, ?_⟩
  have hs := H.setRow (news ++ cur.toList.drop news.length).toArray n hnc ?_ ?_
  · have e1 : (news ++ cur.toList.drop news.length).toArray.toList.take (n * zc.length) = news ++ xs.drop (m * zc.length) := by
      show (news ++ cur.toList.drop news.length).take (n * zc.length) = _
      rw [List.take_append, List.take_of_length_le (by rw [hl]; exact Nat.mul_le_mul_right _ hmn), ← htake, List.drop_take, hl]
    rw [e1] at hs
    exact hs
  · simp only [List.size_toArray, List.length_append, List.length_drop]
    have : cur.toList.length = c * zc.length := by simpa using hcs
    rw [this, hl, Nat.add_sub_cancel' (Nat.mul_le_mul_right _ (Nat.le_trans hmn hnc))]
  · exact hty.append (htc.drop _ (by rw [hl]; simp)) (by rw [hl]; simp)

set_option maxRecDepth 100000 in
theorem wpList_copy_sl {ops : Array Oper} {rest : List Oper} {o : Oper} {a : Act} {Q : Exit → Act → World → Prop} (hgd : o.guard = none) (d s : Operand) (dT sT : TypeId)
    (ho : o.op = .call { callee := .builtin .copy, args := #[d, s], argTypes := #[dT, sT] })
    (e : TypeId) (i : TypeInfo) (zc : List Value) (hu : P.underlying dT = some (.slice e)) (hi : P.info? e = some i) (hsize : i.size = zc.length) 
    (g n c : Nat) (xs : List Value) (hd : a.eval d = .slice (some ⟨g, 0, none⟩) n c) (H : Sat W w (row e zc (.slice (some ⟨g, 0, none⟩) n c) n xs :: l))
    (A : Option Addr) (m c' : Nat) (news : List Value) (hx : a.eval s = .slice A m c') (hl : news.length = m * zc.length) (hr : Rd w A news) (h1 : ∀ u ∈ news, u.oneCell' = true) (hty : Typed zc news) (hmn : m ≤ n)
    (h : ∀ w', Sat W w' (row e zc (.slice (some ⟨g, 0, none⟩) n c) n (news ++ xs.drop (m * zc.length)) :: l) → wpList P ops Q rest (a.put o.dst (goInt m)) w') : wpList P ops Q (o :: rest) a w := by
  refine wpList_plain hgd fun K hK => ?_
  obtain ⟨w', hrun, H'⟩ := run_copy_typed (P := P) dT sT o.type e i zc hu hi hsize g n c xs H A m c' news hl hr h1 hty hmn
  unfold Oper.wp execOp
  simp only [ho, resolve, invoke, builtin, Sem.run_bind, Sem.run_pure, Result.andThen_ok, List.map_toArray, List.map_cons, List.map_nil, hd, hx, hrun]
  exact hK _ _ (h w' H')
end
end Go.Rt

/- A law on reading a variable of several cells at once. No program in sight. -/
namespace Go.Rt
open Go.RowKit
theorem RdL.pt {W : World} {l : List SL} {b : Nat} {xs : List Value} {t : TypeId} : RdL W (Go.Rt.pt b xs.toArray t :: l) (some ⟨b, 0, none⟩) xs := fun w H j u hu => ⟨b, 0, rfl, by rw [Nat.zero_add, H.cell j]; simpa using hu⟩

section
variable {P : Program} {w : World}

theorem run_loadVar_rd (t : TypeId) (b off : Nat) (vs : List Value) (hagg : (match P.underlying t with | some (.struct _) | some (.array _ _) => true | _ => false) = true) (hsz : (P.info? t).map (·.size) = some vs.length)
    (hr : Rd w (some ⟨b, off, none⟩) vs) : (loadVar t ⟨b, off, none⟩).run P w = .ok (.agg vs.toArray) w := by
  have h1 : ∀ w, (isAgg t).run P w = .ok true w := fun w => by
    cases hu : P.underlying t with
    | none => simp [hu] at hagg
    | some u => rw [hu] at hagg; cases u <;> simp_all [isAgg, underlying, Result.andThen]
  have h2 : ∀ w, (sizeOf t).run P w = .ok vs.length w := fun w => by
    cases hi : P.info? t with
    | none => simp [hi] at hsz
    | some i => simp [hi] at hsz; simp [sizeOf, typeInfo, hi, Result.andThen, hsz]
  have h3 := run_loadCells_list (P := P) w ⟨b, off, none⟩ vs (fun k v h => by rw [Addr.add_lit]; exact hr.at k h)
  simp [loadVar, h1, h2, h3, Result.andThen]

set_option maxRecDepth 100000 in
theorem wpList_load_rd {ops : Array Oper} {rest : List Oper} {o : Oper} {a : Act} {Q : Exit → Act → World → Prop} (hg : o.guard = none) (x : Operand) (t : TypeId) (hop : o.op = Op.load t x)
    (b off : Nat) (vs : List Value) (hagg : (match P.underlying t with | some (.struct _) | some (.array _ _) => true | _ => false) = true) (hsz : (P.info? t).map (·.size) = some vs.length) (ha : a.eval x = .pointer (some ⟨b, off, none⟩))
    (hr : Rd w (some ⟨b, off, none⟩) vs) (hK : wpList P ops Q rest (a.put o.dst (.agg vs.toArray)) w) : wpList P ops Q (o :: rest) a w := by
  refine wpList_plain hg fun K hK' => ?_
  have h1 := run_loadVar_rd (P := P) t b off vs hagg hsz hr
  unfold Oper.wp
  simp [execOp, hop, ha, Instr.loadAt, Instr.sureAddr, h1, Result.andThen]
  exact hK' _ _ hK
end
end Go.Rt

/- A law on copying into an array of bytes that the call owns. No program in sight. -/
namespace Go.Rt
open Go.RowKit
section
variable {P : Program} {W w : World} {l : List SL}

theorem Sat.setPt {b : Nat} {c : Array Value} {t : TypeId} (H : Sat W w (pt b c t :: l)) (cur : Array Value) : Sat W (w.setRow b cur) (pt b cur t :: l) := by
  have hge := H.ge
  have hb : Below W.heap.size W (w.setRow b cur) := H.bel.trans ⟨rfl, rfl, rfl, by simp, fun k hk => setRow_other w b k _ (by omega)⟩
  refine H.put hb fun a ha hh => ⟨fun k => if k = b then some (.cells cur t (0, 0)) else none, by simp [pt], fun k hk => ?_, fun k o e => ?_, fun k hk _ => ?_⟩
  · by_cases e : k = b
    · subst e; left; have : a k = _ := ha; rw [this]; simp
    · simp [e] at hk
  · by_cases e1 : k = b
    · subst e1
      simp at e
      subst e
      have h1 := hh k _ ha
      exact ⟨h1.2, setRow_heap w k _ cur t _ h1.1⟩
    · simp [e1] at e
  · exact setRow_other w b k cur (by rintro rfl; have : a k = _ := ha; rw [this] at hk; cases hk)

/-- 'copy(a[:], s)' into an array of bytes. -/
theorem wp_copy_pt {o : Oper} {a : Act} {K : Act → World → Prop} {Q : Exit → Act → World → Prop} (d s : Operand) (dT sT : TypeId)
    (ho : o.op = .call { callee := .builtin .copy, args := #[d, s], argTypes := #[dT, sT] })
    (e : TypeId) (i : TypeInfo) (hu : P.underlying dT = some (.slice e)) (hi : P.info? e = some i) (hsize : i.size = 1)
    (g n : Nat) (cur : Array Value) (tag : TypeId) (hd : a.eval d = .slice (some ⟨g, 0, none⟩) n n) (hn : cur.size = n) (H : Sat W w (pt g cur tag :: l))
    (A : Option Addr) (m c' : Nat) (news : List Value) (hx : a.eval s = .slice A m c') (hl : news.length = m) (hr : Rd w A news) (h1 : ∀ u ∈ news, u.oneCell' = true) (hmn : m ≤ n)
    (h : ∀ w', Sat W w' (pt g (news ++ cur.toList.drop m).toArray tag :: l) → K (a.put o.dst (goInt m)) w') : o.wp P a w K Q := by
  have hg := H.heap
  have hmin : Nat.min m n = m := Nat.min_eq_left hmn
  have hf : (Builtin.firstCells i.size m (.slice A m c')).run P w = .ok news.toArray w := by
    cases A with
    | none =>
      have : news = [] := by
        cases news with
        | nil => rfl
        | cons x r => obtain ⟨_, _, h⟩ := hr.open (by simp); cases h
      subst this
      exact run_firstCells_none w _ _ _ _
    | some ad =>
      refine run_firstCells_some w i.size m ad m c' news (by rw [hsize]; omega) fun j u hu => ?_
      obtain ⟨b, o, h, hc⟩ := hr j u hu
      cases h
      unfold Addr.add
      split
      · rename_i hj; subst hj; simpa using hc
      · exact hc
  have hst := run_storeCells_at P g 0 tag news 0 cur w hg (by omega) h1
  simp only [Nat.add_zero, Nat.zero_add, List.take_zero, List.nil_append] at hst
  have hrun : (Builtin.copy_ #[dT, sT] o.type #[.slice (some ⟨g, 0, none⟩) n n, .slice A m c']).run P w = .ok (goInt m) (w.setRow g (news ++ cur.toList.drop m).toArray) := by
    subst hl
    simp [Builtin.copy_, run_underlying hu, Builtin.lenOf, sizeOf, typeInfo, hi, hmin, hf, hst]
  unfold Oper.wp execOp
  simp only [ho, resolve, invoke, builtin, Sem.run_bind, Sem.run_pure, Result.andThen_ok, List.map_toArray, List.map_cons, List.map_nil, hd, hx, hrun]
  exact h _ (H.setPt _)

theorem step_copy_pt {ops : Array Oper} {o : Oper} {a : Act} {K : Act → World → Prop} {Q : Exit → Act → World → Prop} {E : Prop} (hgd : o.guard = none) (d s : Operand) (dT sT : TypeId)
    (ho : o.op = .call { callee := .builtin .copy, args := #[d, s], argTypes := #[dT, sT] })
    (e : TypeId) (i : TypeInfo) (hu : P.underlying dT = some (.slice e)) (hi : P.info? e = some i) (hsize : i.size = 1)
    (g n : Nat) (cur : Array Value) (tag : TypeId) (hd : a.eval d = .slice (some ⟨g, 0, none⟩) n n) (hn : cur.size = n) (H : Sat W w (pt g cur tag :: l))
    (A : Option Addr) (m c' : Nat) (news : List Value) (hx : a.eval s = .slice A m c') (hl : news.length = m) (hr : Rd w A news) (h1 : ∀ u ∈ news, u.oneCell' = true) (hmn : m ≤ n)
    (h : ∀ w', Sat W w' (pt g (news ++ cur.toList.drop m).toArray tag :: l) → K (a.put o.dst (goInt m)) w') :
    if Region.wanted o (yielded ops a.tmps) = true then Oper.wp P o a w K Q else E := by
  have hw : Region.wanted o (yielded ops a.tmps) = true := by simp [Region.wanted, hgd]
  rw [if_pos hw]
  exact wp_copy_pt d s dT sT ho e i hu hi hsize g n cur tag hd hn H A m c' news hx hl hr h1 hmn h

set_option maxRecDepth 100000 in
/-- A variable of several cells is written at once. -/
theorem wpList_store_pt {ops : Array Oper} {rest : List Oper} {o : Oper} {a : Act} {Q : Exit → Act → World → Prop} (hg : o.guard = none) (hdst : o.dst = none) (x y : Operand) (t : TypeId) (hop : o.op = Op.store t x y)
    (g : Nat) (cur : Array Value) (tag : TypeId) (cs : List Value) (hsz : (P.info? t).map (·.size) = some cs.length) (hx : a.eval x = .pointer (some ⟨g, 0, none⟩)) (hy : a.eval y = .agg cs.toArray)
    (hn : cur.size = cs.length) (h1 : ∀ u ∈ cs, u.oneCell' = true) (H : Sat W w (pt g cur tag :: l)) (hK : ∀ w', Sat W w' (pt g cs.toArray tag :: l) → wpList P ops Q rest a w') : wpList P ops Q (o :: rest) a w := by
  refine wpList_plain hg fun K hK' => ?_
  have hgg := H.heap
  have hst := run_storeCells_at P g 0 tag cs 0 cur w hgg (by omega) h1
  simp only [Nat.add_zero, Nat.zero_add, List.take_zero, List.nil_append] at hst
  have hdr : cur.toList.drop cs.length = [] := List.drop_eq_nil_of_le (by simp [hn])
  rw [hdr, List.append_nil] at hst
  have hso : ∀ w, (sizeOf t).run P w = .ok cs.length w := fun w => by
    cases hi : P.info? t with
    | none => simp [hi] at hsz
    | some i => simp [hi] at hsz; simp [sizeOf, typeInfo, hi, Result.andThen, hsz]
  have hrun : (storeVar t ⟨g, 0, none⟩ (.agg cs.toArray)).run P w = .ok () (w.setRow g cs.toArray) := by
    simp [storeVar, Value.cells, hso, hst, Result.andThen]
  unfold Oper.wp
  simp [execOp, hop, hx, hy, Instr.storeAt, Instr.sureAddr, hrun, Result.andThen]
  refine hK' _ _ ?_
  rw [hdst]
  exact hK _ (H.setPt _)
end
end Go.Rt

/- Laws on a slice's literal of one element of several cells, and on a variable of several cells at its birth. No program in sight. -/
namespace Go.Rt
open Go.RowKit

/-- A slice of bytes as it came in: nothing lies where there is no array. -/
structure Bsl (A : Option Addr) (n c : Nat) : Prop where
  le : n ≤ c
  none : A = none → c = 0
  max : c ≤ maxLen

theorem foldl_set (l : List Value) (off k : Nat) : ∀ (acc : Array Value) (pre old post : List Value), acc.toList = pre ++ old ++ post → old.length = l.length → pre.length = off + k →
    ((l.zipIdx k).foldl (fun (cs : Array Value) (p : Value × Nat) => cs.setIfInBounds (off + p.2) p.1) acc).toList = pre ++ l ++ post := by
  induction l generalizing k with
  | nil =>
    intro acc pre old post h1 h2 _
    have : old = [] := List.eq_nil_of_length_eq_zero h2
    subst this
    simpa using h1
  | cons x l ih =>
    intro acc pre old post h1 h2 h3
    match old, h2 with
    | y :: old, h2 =>
      simp only [List.zipIdx_cons, List.foldl_cons]
      have h4 : (acc.setIfInBounds (off + k) x).toList = (pre ++ [x]) ++ old ++ post := by
        rw [Array.toList_setIfInBounds, h1, ← h3]
        simp
      have := ih (k + 1) _ (pre ++ [x]) old post h4 (by simpa using h2) (by simp; omega)
      simpa using this

/-- A row is a row of fewer elements, too. -/
theorem Sat.shrink {W w : World} {l : List SL} {e : TypeId} {zc : List Value} {A : Option Addr} {m c : Nat} {xs : List Value} (H : Sat W w (row e zc (.slice A m c) m xs :: l)) (n : Nat) (hn : n ≤ m) (hz : A = none → n = 0) : Sat W w (row e zc (.slice A n c) n (xs.take (n * zc.length)) :: l) := by
  refine H.head fun h ⟨hx, hh⟩ => ⟨?_, ?_⟩
  · rw [List.length_take, hx]; exact Nat.min_eq_left (Nat.mul_le_mul_right _ hn)
  · rcases hh with ⟨hv, hm⟩ | ⟨g, cap, cur, hv, hg, h1, h2, h3, h4, h5⟩
    · cases hv
      exact .inl ⟨by rw [hz rfl], hz rfl⟩
    · cases hv
      refine .inr ⟨g, c, cur, rfl, hg, Nat.le_trans hn h1, h2, h3, ?_, h5⟩
      rw [← h4, List.take_take, Nat.min_eq_left (Nat.mul_le_mul_right _ hn)]

theorem Sat.drops {W w : World} : ∀ (a : List SL) {b : List SL}, Sat W w (a ++ b) → Sat W w b
  | [], _, H => H
  | _ :: a, _, H => Sat.drops a (Sat.tail H)
/-- The first n things alone. -/
theorem Sat.takes {W w : World} {l : List SL} (n : Nat) (H : Sat W w l) : Sat W w (l.take n) := by
  have h1 : l.Perm (l.drop n ++ l.take n) := by
    have := List.perm_append_comm (l₁ := l.take n) (l₂ := l.drop n)
    rwa [List.take_append_drop] at this
  exact Sat.drops _ (H.perm h1)

section
variable {P : Program} {W w : World} {l : List SL}

/-- '[]T{x}' where x has several cells. -/
theorem run_buildSlice_one (t e : TypeId) (i : TypeInfo) (z : Value) (cs : List Value) (v : Value) (hv : v.cells = cs.toArray) (ht : P.underlying t = some (.slice e)) (hi : P.info? e = some i) (hz : i.zero = some z) (hzs : z.cells.size = cs.length) (hsize : i.size = cs.length)
    (hpos : 0 < cs.length) (hsm : cs.length ≤ 1000000) :
    (Instr.buildSlice t 1 #[(0, v)]).run P w = .ok (.slice (some ⟨w.heap.size, 0, none⟩) 1 1) (w.alloc (.cells cs.toArray e)) := by
  have h0 : (sizeOf e).run P w = .ok cs.length w := by simp [sizeOf, typeInfo, hi, Result.andThen, hsize]
  have hzv : (zeroValue e).run P w = .ok z w := by simp [zeroValue, typeInfo, hi, hz, Result.andThen]
  have hfill : Instr.fill (fun i => some (i * cs.length, cs.length)) ((Array.range (1 * cs.length)).map fun x => z.cells[x % z.cells.size]!) [(0, v)] = some cs.toArray := by
    simp only [Instr.fill, hv, List.size_toArray, Nat.zero_mul, Nat.zero_add]
    rw [if_neg (by simp)]
    congr 1
    apply Array.toList_inj.1
    have hf := foldl_set cs 0 0 ((Array.range (1 * cs.length)).map fun x => z.cells[x % z.cells.size]!) [] ((Array.range (1 * cs.length)).map fun x => z.cells[x % z.cells.size]!).toList [] (by simp) (by simp) rfl
    simp only [Nat.zero_add, List.append_nil, List.nil_append] at hf
    simpa using hf
  have hcs : ¬ cs = [] := by rintro rfl; simp at hpos
  have hbig : ¬ 16777216 < cs.length := by omega
  simp only [Nat.one_mul] at hfill
  simp [Instr.buildSlice, run_underlying ht, h0, hzv, hcs, hbig, newRow, Result.andThen]
  rw [hfill]
  simp [Result.andThen]

set_option maxRecDepth 100000 in
theorem wpList_buildSlice_one {ops : Array Oper} {rest : List Oper} {o : Oper} {a : Act} {Q : Exit → Act → World → Prop} (hg : o.guard = none) (x : Operand) (t : TypeId) (hop : o.op = Op.buildSlice t 1 #[(0, x)])
    (e : TypeId) (i : TypeInfo) (z : Value) (cs : List Value) (hx : a.eval x = .agg cs.toArray) (ht : P.underlying t = some (.slice e)) (hi : P.info? e = some i) (hz : i.zero = some z) (hzs : z.cells.size = cs.length) (hsize : i.size = cs.length)
    (hpos : 0 < cs.length) (hsm : cs.length ≤ 1000000)
    (hK : wpList P ops Q rest (a.put o.dst (.slice (some ⟨w.heap.size, 0, none⟩) 1 1)) (w.alloc (.cells cs.toArray e))) : wpList P ops Q (o :: rest) a w := by
  refine wpList_plain hg fun K hK' => ?_
  have hrun := run_buildSlice_one (P := P) (w := w) t e i z cs (a.eval x) (by rw [hx]; rfl) ht hi hz hzs hsize hpos hsm
  unfold Oper.wp
  simp [execOp, hop, hrun, Result.andThen]
  exact hK' _ _ hK
end
end Go.Rt

/- Laws on a part of a slice of one-cell elements. No program in sight. -/
namespace Go.Rt
open Go.RowKit

/-- Where a part of a slice begins. -/
def subA (A : Option Addr) (c l : Nat) : Option Addr := if c = l then A else A.map (·.add l)
theorem subA_rd {w : World} {A : Option Addr} {n c : Nat} {xs : List Value} (h : Rd w A xs) (hn : xs.length = n) (hc : n ≤ c) (l m : Nat) (hl : l + m ≤ n) : Rd w (subA A c l) ((xs.drop l).take m) := by
  unfold subA
  by_cases hcl : c = l
  · obtain rfl : m = 0 := by omega
    rw [if_pos hcl, List.take_zero]
    exact Rd.nil _ _
  · rw [if_neg hcl]
    by_cases hx : xs = []
    · subst hx; simp only [List.drop_nil, List.take_nil]; exact Rd.nil _ _
    · obtain ⟨b, o, rfl⟩ := h.open hx
      have e : (some (⟨b, o, none⟩ : Addr)).map (·.add l) = some ⟨b, o + l, none⟩ := by
        simp only [Option.map_some, Option.some.injEq]
        unfold Addr.add
        split
        · rename_i h0; subst h0; rfl
        · rfl
      rw [e]
      exact (h.drop l).take m
theorem subA_bsl {A : Option Addr} {n c : Nat} (h : Bsl A n c) (l m : Nat) (hl : l + m ≤ n) : Bsl (subA A c l) m (c - l) := by
  have h1 := h.le
  have h2 := h.max
  refine ⟨by omega, (fun e => ?_), by omega⟩
  unfold subA at e
  by_cases hcl : c = l
  · omega
  · rw [if_neg hcl] at e
    have := h.none (by simpa using e)
    omega

section
variable {P : Program} {w : World}
theorem run_slice_part (t e : TypeId) (i : TypeInfo) (hu : P.underlying t = some (.slice e)) (hi : P.info? e = some i) (hs : i.size = 1) (A : Option Addr) (n c l h : Nat) (hl : l ≤ h) (hh : h ≤ c) :
    (Instr.slice t (.slice A n c) (some (.int .i64 l)) (some (.int .i64 h)) none).run P w = .ok (.slice (subA A c l) (h - l) (c - l)) w := by
  have h1 := run_sliceBound (P := P) (w := w) .i64 (h : Int) c .sliceAcap (by omega) (by omega)
  have h2 := run_sliceBound (P := P) (w := w) .i64 (l : Int) h .sliceB (by omega) (by omega)
  simp only [Int.toNat_natCast] at h1 h2
  simp [Instr.slice, run_underlying hu, Instr.sliceBounds, h1, h2, sizeOf, typeInfo, hi, hs, Result.andThen, subA]
theorem run_slice_from (t e : TypeId) (i : TypeInfo) (hu : P.underlying t = some (.slice e)) (hi : P.info? e = some i) (hs : i.size = 1) (A : Option Addr) (n c l : Nat) (hl : l ≤ n) :
    (Instr.slice t (.slice A n c) (some (.int .i64 l)) none none).run P w = .ok (.slice (subA A c l) (n - l) (c - l)) w := by
  have h2 := run_sliceBound (P := P) (w := w) .i64 (l : Int) n .sliceB (by omega) (by omega)
  simp only [Int.toNat_natCast] at h2
  simp [Instr.slice, run_underlying hu, Instr.sliceBounds, h2, sizeOf, typeInfo, hi, hs, Result.andThen, subA]
theorem run_slice_to (t e : TypeId) (i : TypeInfo) (hu : P.underlying t = some (.slice e)) (hi : P.info? e = some i) (A : Option Addr) (n c h : Nat) (hh : h ≤ c) :
    (Instr.slice t (.slice A n c) none (some (.int .i64 h)) none).run P w = .ok (.slice (subA A c 0) h c) w := by
  have h1 := run_sliceBound (P := P) (w := w) .i64 (h : Int) c .sliceAcap (by omega) (by omega)
  simp only [Int.toNat_natCast] at h1
  simp [Instr.slice, run_underlying hu, Instr.sliceBounds, h1, sizeOf, typeInfo, hi, Result.andThen, subA]

theorem wpList_slice_from {ops : Array Oper} {rest : List Oper} {o : Oper} {a : Act} {Q : Exit → Act → World → Prop} (hw : Region.wanted o (yielded ops a.tmps) = true) (x lo : Operand) (t : TypeId) (hop : o.op = Op.slice t x (some lo) none none)
    (e : TypeId) (i : TypeInfo) (hu : P.underlying t = some (.slice e)) (hi : P.info? e = some i) (hs : i.size = 1) (A : Option Addr) (n c l : Nat) (hx : a.eval x = .slice A n c) (hlo : a.eval lo = .int .i64 l) (hl : l ≤ n)
    (hK : wpList P ops Q rest (a.put o.dst (.slice (subA A c l) (n - l) (c - l))) w) : wpList P ops Q (o :: rest) a w := by
  refine BigFrame.wpList_want hw fun K hK' => ?_
  have hrun := run_slice_from (P := P) (w := w) t e i hu hi hs A n c l hl
  unfold Oper.wp
  simp [execOp, hop, hx, hlo, Instr.sliceAt, run_underlying hu, hrun, Result.andThen]
  exact hK' _ _ hK
theorem wpList_slice_part {ops : Array Oper} {rest : List Oper} {o : Oper} {a : Act} {Q : Exit → Act → World → Prop} (hw : Region.wanted o (yielded ops a.tmps) = true) (x lo hi' : Operand) (t : TypeId) (hop : o.op = Op.slice t x (some lo) (some hi') none)
    (e : TypeId) (i : TypeInfo) (hu : P.underlying t = some (.slice e)) (hi : P.info? e = some i) (hs : i.size = 1) (A : Option Addr) (n c l h : Nat) (hx : a.eval x = .slice A n c) (hlo : a.eval lo = .int .i64 l) (hhi : a.eval hi' = .int .i64 h) (hl : l ≤ h) (hh : h ≤ c)
    (hK : wpList P ops Q rest (a.put o.dst (.slice (subA A c l) (h - l) (c - l))) w) : wpList P ops Q (o :: rest) a w := by
  refine BigFrame.wpList_want hw fun K hK' => ?_
  have hrun := run_slice_part (P := P) (w := w) t e i hu hi hs A n c l h hl hh
  unfold Oper.wp
  simp [execOp, hop, hx, hlo, hhi, Instr.sliceAt, run_underlying hu, hrun, Result.andThen]
  exact hK' _ _ hK
theorem wpList_slice_to {ops : Array Oper} {rest : List Oper} {o : Oper} {a : Act} {Q : Exit → Act → World → Prop} (hw : Region.wanted o (yielded ops a.tmps) = true) (x hi' : Operand) (t : TypeId) (hop : o.op = Op.slice t x none (some hi') none)
    (e : TypeId) (i : TypeInfo) (hu : P.underlying t = some (.slice e)) (hi : P.info? e = some i) (A : Option Addr) (n c h : Nat) (hx : a.eval x = .slice A n c) (hhi : a.eval hi' = .int .i64 h) (hh : h ≤ c)
    (hK : wpList P ops Q rest (a.put o.dst (.slice (subA A c 0) h c)) w) : wpList P ops Q (o :: rest) a w := by
  refine BigFrame.wpList_want hw fun K hK' => ?_
  have hrun := run_slice_to (P := P) (w := w) t e i hu hi A n c h hh
  unfold Oper.wp
  simp [execOp, hop, hx, hhi, Instr.sliceAt, run_underlying hu, hrun, Result.andThen]
  exact hK' _ _ hK
end
end Go.Rt

/- Laws: an element of several cells is stored in a slice; a number is appended where there is room; a slice's literal of several elements of several cells. No program in sight. -/
namespace Go.Rt
open Go.RowKit
theorem flat_at {α : Type} (cs : α → List Value) (sz : Nat) (ts : List α) (h : ∀ x ∈ ts, (cs x).length = sz) (j : Nat) (x : α) (hj : ts[j]? = some x) : ((ts.flatMap cs).drop (j * sz)).take sz = cs x := by
  induction ts generalizing j with
  | nil => simp at hj
  | cons y ts ih =>
    have h1 := h y (by simp)
    have e : (y :: ts).flatMap cs = cs y ++ ts.flatMap cs := rfl
    cases j with
    | zero =>
      simp at hj; subst hj
      rw [e, Nat.zero_mul, List.drop_zero, List.take_left' h1]
    | succ j =>
      rw [e, List.drop_append, List.drop_eq_nil_of_le (by rw [h1, Nat.succ_mul]; omega), List.nil_append, h1]
      rw [show (j + 1) * sz - sz = j * sz by rw [Nat.succ_mul]; omega]
      exact ih (fun z hz => h z (by simp [hz])) j (by simpa using hj)
theorem flat_len {α : Type} (cs : α → List Value) (sz : Nat) (ts : List α) (h : ∀ x ∈ ts, (cs x).length = sz) : (ts.flatMap cs).length = ts.length * sz := by
  induction ts with
  | nil => simp
  | cons x ts ih =>
    have h1 := h x (by simp)
    rw [List.flatMap_cons, List.length_append, h1, ih fun z hz => h z (by simp [hz]), List.length_cons, Nat.succ_mul]
    omega
theorem rd_elem {α : Type} {w : World} {A : Option Addr} (cs : α → List Value) (sz : Nat) (h0 : 0 < sz) {ts : List α} (h : Rd w A (ts.flatMap cs)) (hts : ∀ x ∈ ts, (cs x).length = sz) (j : Nat) (x : α) (hj : ts[j]? = some x) :
    ∃ b o, A = some ⟨b, o, none⟩ ∧ Rd w (some ⟨b, o + j * sz, none⟩) (cs x) := by
  have h1 := flat_at cs sz ts hts j x hj
  have hx : ts.flatMap cs ≠ [] := by
    intro e
    rw [e] at h1
    have := hts x (List.mem_of_getElem? hj)
    rw [← h1] at this
    simp at this
    omega
  obtain ⟨b, o, rfl⟩ := h.open hx
  exact ⟨b, o, rfl, by rw [← h1]; exact (h.drop (j * sz)).take sz⟩

section
variable {P : Program} {W w : World} {l : List SL} {e : TypeId} {zc xs : List Value} {n c g : Nat}

theorem Sat.setEl (H : Sat W w (row e zc (.slice (some ⟨g, 0, none⟩) n c) n xs :: l)) (j : Nat) (hj : j < n) (cs : List Value) (hcs : cs.length = zc.length) (hty : Typed zc cs) :
    ∃ cur, w.heap[g]? = some (.cells cur e (0, 0)) ∧ cur.size = c * zc.length ∧ n ≤ c ∧ Sat W (w.setRow g (cur.toList.take (j * zc.length) ++ cs ++ cur.toList.drop (j * zc.length + zc.length)).toArray) (row e zc (.slice (some ⟨g, 0, none⟩) n c) n ((cur.toList.take (j * zc.length) ++ cs ++ cur.toList.drop (j * zc.length + zc.length)).take (n * zc.length)) :: l) := by
  obtain ⟨cur, hg, h1, h2, h3, h4, h5⟩ := H.row_blk
  have hm : (j + 1) * zc.length ≤ c * zc.length := Nat.mul_le_mul_right _ (by omega)
  rw [Nat.succ_mul] at hm
  have hcl : cur.toList.length = c * zc.length := by simpa using h3
  have hlt : (cur.toList.take (j * zc.length)).length = j * zc.length := by rw [List.length_take, hcl]; omega
  refine ⟨cur, hg, h3, h1, ?_⟩
  have hT : Typed zc (cur.toList.take (j * zc.length) ++ cs ++ cur.toList.drop (j * zc.length + zc.length)) := by
    refine Typed.append (Typed.append (Typed.take h5 _) hty (by rw [hlt]; exact Nat.mul_mod_left _ _)) (Typed.drop h5 _ ?_) ?_
    · rw [← Nat.succ_mul]; exact Nat.mul_mod_left _ _
    · rw [List.length_append, hlt, hcs, ← Nat.succ_mul]; exact Nat.mul_mod_left _ _
  have := H.setRow (cur.toList.take (j * zc.length) ++ cs ++ cur.toList.drop (j * zc.length + zc.length)).toArray n h1 (by simp only [List.size_toArray, List.length_append, hlt, hcs, List.length_drop, hcl]; omega) (by simpa using hT)
  simpa using this

set_option maxRecDepth 100000 in
/-- An element of several cells is written in a row: what it holds then, is told by its length alone. -/
theorem wpList_store_el {ops : Array Oper} {rest : List Oper} {o : Oper} {a : Act} {Q : Exit → Act → World → Prop} (hg : o.guard = none) (hdst : o.dst = none) (x y : Operand) (t : TypeId) (hop : o.op = Op.store t x y)
    (j : Nat) (hj : j < n) (cs : List Value) (hsz : (P.info? t).map (·.size) = some zc.length) (hcs : cs.length = zc.length) (hx : a.eval x = .pointer (some ⟨g, j * zc.length, none⟩)) (hy : a.eval y = .agg cs.toArray)
    (h1 : ∀ u ∈ cs, u.oneCell' = true) (hty : Typed zc cs) (H : Sat W w (row e zc (.slice (some ⟨g, 0, none⟩) n c) n xs :: l)) (hK : ∀ w' ys, Sat W w' (row e zc (.slice (some ⟨g, 0, none⟩) n c) n ys :: l) → wpList P ops Q rest a w') : wpList P ops Q (o :: rest) a w := by
  refine wpList_plain hg fun K hK' => ?_
  obtain ⟨cur, hgg, hcur, hnc, H'⟩ := H.setEl j hj cs hcs hty
  have hm : (j + 1) * zc.length ≤ c * zc.length := Nat.mul_le_mul_right _ (by omega)
  rw [Nat.succ_mul] at hm
  have hst := run_storeCells_at P g (j * zc.length) e cs 0 cur w hgg (by omega) h1
  simp only [Nat.add_zero, hcs] at hst
  have hso : ∀ w, (sizeOf t).run P w = .ok zc.length w := fun w => by
    cases hi : P.info? t with
    | none => simp [hi] at hsz
    | some i => simp [hi] at hsz; simp [sizeOf, typeInfo, hi, Result.andThen, hsz]
  have hrun : (storeVar t ⟨g, j * zc.length, none⟩ (.agg cs.toArray)).run P w = .ok () (w.setRow g (cur.toList.take (j * zc.length) ++ cs ++ cur.toList.drop (j * zc.length + zc.length)).toArray) := by
    simp [storeVar, Value.cells, hso, hst, Result.andThen, hcs]
  unfold Oper.wp
  simp [execOp, hop, hx, hy, Instr.storeAt, Instr.sureAddr, hrun, Result.andThen]
  refine hK' _ _ ?_
  rw [hdst]
  exact hK _ _ (by simpa using H')

set_option maxRecDepth 100000 in
/-- A number is appended to a slice of a variable's cells, in which there is room. -/
theorem wpList_append_room {ops : Array Oper} {rest : List Oper} {o : Oper} {a : Act} {Q : Exit → Act → World → Prop} (hg : o.guard = none) (s x : Operand) (t : TypeId) (hop : o.op = Op.call { callee := Callee.builtin Builtin.append, args := #[s, x], argTypes := #[t, t] })
    (el : TypeId) (i : TypeInfo) (ht : P.underlying t = some (.slice el)) (hi : P.info? el = some i) (hsize : i.size = 1) (cur : Array Value) (tag : TypeId) (hs : a.eval s = .slice (some ⟨g, 0, none⟩) n c) (hn : n < c) (hc : c ≤ cur.size)
    (A : Option Addr) (c' : Nat) (v : Value) (hx : a.eval x = .slice A 1 c') (hr : Rd w A [v]) (h1 : v.oneCell' = true) (H : Sat W w (pt g cur tag :: l))
    (hK : ∀ w', Sat W w' (pt g (cur.setIfInBounds n v) tag :: l) → wpList P ops Q rest (a.put o.dst (.slice (some ⟨g, 0, none⟩) (n + 1) c)) w') : wpList P ops Q (o :: rest) a w := by
  refine wpList_plain hg fun K hK' => ?_
  obtain ⟨b, off, rfl⟩ := hr.open (by simp)
  have hcell : (w.cell? ⟨g, n, none⟩).isSome = true := by rw [H.cell]; simp; omega
  have hfro := H.frz n
  have hrun := run_append_room_cells (P := P) w t o.type el i ht hi g 0 n c ⟨b, off, none⟩ 1 c' [v] (by simp [hsize]) (fun j u hj => by rw [Addr.add_lit]; exact hr.at j hj) (by simpa using h1) (by omega)
    (fun j hj => by simp at hj; subst hj; simpa [hsize] using hcell) (fun j hj => by simp at hj; subst hj; simpa [hsize] using hfro)
  have hw : w.setCells g (0 + n * i.size) [v] = w.setCell ⟨g, n, none⟩ v := by rw [hsize, Nat.zero_add, Nat.mul_one]; rfl
  rw [hw] at hrun
  unfold Oper.wp
  simp [execOp, hop, resolve, invoke, builtin, hs, hx, hrun, Result.andThen]
  exact hK' _ _ (hK _ (H.setCell n v))
end
end Go.Rt

/- A slice's literal of several elements of several cells each. No program in sight. -/
namespace Go.Rt
open Go.RowKit

theorem fill_many (sz : Nat) : ∀ (css : List (List Value)) (k : Nat) (acc : Array Value) (pre old post : List Value), (∀ c ∈ css, c.length = sz) → acc.toList = pre ++ old ++ post → old.length = css.length * sz → pre.length = k * sz →
    ∃ r : Array Value, Instr.fill (fun i => some (i * sz, sz)) acc ((css.zipIdx k).map fun p => (p.2, Value.agg p.1.toArray)) = some r ∧ r.toList = pre ++ css.flatten ++ post
  | [], k, acc, pre, old, post, _, h2, h3, _ => by
    have : old = [] := List.eq_nil_of_length_eq_zero (by simpa using h3)
    subst this
    exact ⟨acc, rfl, by simpa using h2⟩
  | c :: css, k, acc, pre, old, post, h1, h2, h3, h4 => by
    have hc := h1 c (by simp)
    have h3' : old.length = css.length * sz + sz := by rw [h3, List.length_cons, Nat.succ_mul]
    have hsz : acc.size = k * sz + (css.length * sz + sz) + post.length := by
      have := congrArg List.length h2
      simp only [List.length_append, h3', h4, Array.length_toList] at this
      exact this
    have hf := foldl_set c (k * sz) 0 acc pre (old.take sz) (old.drop sz ++ post) (by rw [h2, List.append_assoc, List.append_assoc, ← List.append_assoc (old.take sz), List.take_append_drop]) (by rw [List.length_take, h3', hc]; omega) (by rw [h4]; omega)
    obtain ⟨r, hr1, hr2⟩ := fill_many sz css (k + 1) ((c.zipIdx 0).foldl (fun (cs : Array Value) (p : Value × Nat) => cs.setIfInBounds (k * sz + p.2) p.1) acc) (pre ++ c) (old.drop sz) post (fun x hx => h1 x (by simp [hx])) (by rw [hf]; simp) (by rw [List.length_drop, h3']; omega) (by rw [List.length_append, h4, hc, Nat.succ_mul])
    refine ⟨r, ?_, by rw [hr2]; simp⟩
    rw [← hr1]
    simp only [List.zipIdx_cons, List.map_cons, Instr.fill, Value.cells, List.size_toArray, hc]
    rw [if_neg (by simp; omega)]
    congr 1
    simp

section
variable {P : Program} {W w : World} {l : List SL}
theorem run_buildSlice_many (t e : TypeId) (i : TypeInfo) (z : Value) (sz : Nat) (css : List (List Value)) (hc : ∀ c ∈ css, c.length = sz) (ht : P.underlying t = some (.slice e)) (hi : P.info? e = some i) (hz : i.zero = some z) (hsize : i.size = sz)
    (hpos : 0 < sz) (hn : 0 < css.length) (hsm : css.length * sz ≤ 1000000) (parts : Array (Nat × Value)) (hp : parts.toList = css.zipIdx.map fun p => (p.2, Value.agg p.1.toArray)) :
    (Instr.buildSlice t css.length parts).run P w = .ok (.slice (some ⟨w.heap.size, 0, none⟩) css.length css.length) (w.alloc (.cells css.flatten.toArray e)) := by
  have h0 : (sizeOf e).run P w = .ok sz w := by simp [sizeOf, typeInfo, hi, Result.andThen, hsize]
  have hzv : (zeroValue e).run P w = .ok z w := by simp [zeroValue, typeInfo, hi, hz, Result.andThen]
  obtain ⟨r, hr1, hr2⟩ := fill_many sz css 0 ((Array.range (css.length * sz)).map fun x => z.cells[x % z.cells.size]!) [] ((Array.range (css.length * sz)).map fun x => z.cells[x % z.cells.size]!).toList [] hc (by simp) (by simp) (by simp)
  have hr3 : r = css.flatten.toArray := by apply Array.toList_inj.1; rw [hr2]; simp
  subst hr3
  have hpz : ¬ css.length * sz = 0 := by have := Nat.mul_pos hn hpos; omega
  have hbig : ¬ 16777216 < css.length * sz := by omega
  rw [← hp] at hr1
  simp [Instr.buildSlice, run_underlying ht, h0, hbig, newRow, Result.andThen]
  rw [if_neg hpz]
  simp [hzv, hr1, Result.andThen]

set_option maxRecDepth 100000 in
theorem wpList_buildSlice_many {ops : Array Oper} {rest : List Oper} {o : Oper} {a : Act} {Q : Exit → Act → World → Prop} (hw : Region.wanted o (yielded ops a.tmps) = true) (xs : Array (Nat × Operand)) (t : TypeId) (n : Nat) (hop : o.op = Op.buildSlice t n xs)
    (e : TypeId) (i : TypeInfo) (z : Value) (sz : Nat) (css : List (List Value)) (hn' : css.length = n) (hc : ∀ c ∈ css, c.length = sz) (hx : (xs.map fun p => (p.1, a.eval p.2)).toList = css.zipIdx.map fun p => (p.2, Value.agg p.1.toArray))
    (ht : P.underlying t = some (.slice e)) (hi : P.info? e = some i) (hz : i.zero = some z) (hsize : i.size = sz) (hpos : 0 < sz) (hn : 0 < n) (hsm : n * sz ≤ 1000000)
    (hK : wpList P ops Q rest (a.put o.dst (.slice (some ⟨w.heap.size, 0, none⟩) n n)) (w.alloc (.cells css.flatten.toArray e))) : wpList P ops Q (o :: rest) a w := by
  subst hn'
  refine BigFrame.wpList_want hw fun K hK' => ?_
  have hrun := run_buildSlice_many (P := P) (w := w) t e i z sz css hc ht hi hz hsize hpos hn hsm (xs.map fun p => (p.1, a.eval p.2)) hx
  unfold Oper.wp
  simp [execOp, hop, hrun, Result.andThen]
  exact hK' _ _ hK
end
end Go.Rt

/- Plain laws on lists of keys as sets: rising, sorted, with the same keys. No program in sight. -/
namespace Go.Proofs.Ytodbmeklbamcfaa

abbrev Str := List UInt8
theorem str_irrefl (x : Str) : ¬ x < x := List.lt_irrefl x
theorem str_trans {x y z : Str} (h : x < y) (h' : y < z) : x < z := List.lt_trans h h'
theorem str_total (x y : Str) : x < y ∨ x = y ∨ y < x := by
  by_cases h : x < y
  · exact .inl h
  · by_cases h' : y < x
    · exact .inr (.inr h')
    · exact .inr (.inl (List.le_antisymm (List.not_lt.1 h') (List.not_lt.1 h)))
def Rise (l : List Str) : Prop := l.Pairwise (· < ·)
theorem Rise.ext {a b : List Str} (ha : Rise a) (hb : Rise b) (h : ∀ x, x ∈ a ↔ x ∈ b) : a = b := by
  have na : a.Nodup := List.Pairwise.imp (fun {x y} (h : x < y) (e : x = y) => str_irrefl y (by rw [e] at h; exact h)) ha
  have nb : b.Nodup := List.Pairwise.imp (fun {x y} (h : x < y) (e : x = y) => str_irrefl y (by rw [e] at h; exact h)) hb
  exact List.Perm.eq_of_pairwise (le := fun x y => x < y) (fun x y _ _ h1 h2 => absurd (str_trans h1 h2) (str_irrefl x)) ha hb ((List.perm_ext_iff_of_nodup na nb).2 h)
def insS (x : Str) : List Str → List Str
  | [] => [x]
  | y :: l => if y < x then y :: insS x l else if y = x then y :: l else x :: y :: l
def sortS (l : List Str) : List Str := l.foldl (fun out x => insS x out) []
theorem mem_insS (x z : Str) (l : List Str) : z ∈ insS x l ↔ z = x ∨ z ∈ l := by
  induction l with
  | nil => simp [insS]
  | cons y l ih =>
    unfold insS
    by_cases h : y < x
    · rw [if_pos h, List.mem_cons, ih, List.mem_cons]
      constructor
      · rintro (h | h | h)
        · exact .inr (.inl h)
        · exact .inl h
        · exact .inr (.inr h)
      · rintro (h | h | h)
        · exact .inr (.inl h)
        · exact .inl h
        · exact .inr (.inr h)
    · rw [if_neg h]
      by_cases h2 : y = x
      · rw [if_pos h2]
        constructor
        · exact .inr
        · rintro (h | h)
          · rw [h, ← h2]; simp
          · exact h
      · rw [if_neg h2, List.mem_cons]
theorem rise_insS (x : Str) (l : List Str) (hl : Rise l) : Rise (insS x l) := by
  induction l with
  | nil => simp [insS, Rise]
  | cons y l ih =>
    have h0 := List.pairwise_cons.1 hl
    unfold insS
    by_cases h : y < x
    · rw [if_pos h]
      refine List.pairwise_cons.2 ⟨fun z hz => ?_, ih h0.2⟩
      rcases (mem_insS x z l).1 hz with rfl | hz
      · exact h
      · exact h0.1 z hz
    · rw [if_neg h]
      by_cases h2 : y = x
      · rw [if_pos h2]; exact hl
      · rw [if_neg h2]
        have hxy : x < y := by
          rcases str_total x y with h3 | h3 | h3
          · exact h3
          · exact absurd h3.symm h2
          · exact absurd h3 h
        refine List.pairwise_cons.2 ⟨fun z hz => ?_, hl⟩
        rcases List.mem_cons.1 hz with rfl | hz
        · exact hxy
        · exact str_trans hxy (h0.1 z hz)
theorem sortS_fold (l : List Str) : ∀ out : List Str, Rise out → Rise (l.foldl (fun out x => insS x out) out) ∧ ∀ z, z ∈ l.foldl (fun out x => insS x out) out ↔ z ∈ l ∨ z ∈ out := by
  induction l with
  | nil => intro out h; exact ⟨h, fun z => by simp⟩
  | cons x l ih =>
    intro out h
    obtain ⟨h1, h2⟩ := ih (insS x out) (rise_insS x out h)
    refine ⟨h1, fun z => ?_⟩
    rw [List.foldl_cons, h2 z, mem_insS, List.mem_cons]
    constructor
    · rintro (h | h | h)
      · exact .inl (.inr h)
      · exact .inl (.inl h)
      · exact .inr h
    · rintro ((h | h) | h)
      · exact .inr (.inl h)
      · exact .inl h
      · exact .inr (.inr h)
theorem rise_sortS (l : List Str) : Rise (sortS l) := (sortS_fold l [] List.Pairwise.nil).1
theorem mem_sortS (l : List Str) (z : Str) : z ∈ sortS l ↔ z ∈ l := by
  have := (sortS_fold l [] List.Pairwise.nil).2 z
  simpa [sortS] using this
theorem sortS_of {s l : List Str} (h : Rise s) (hm : ∀ x, x ∈ s ↔ x ∈ l) : s = sortS l := h.ext (rise_sortS l) fun x => by rw [hm, mem_sortS]
theorem sortS_self {l : List Str} (h : Rise l) : sortS l = l := (sortS_of h fun _ => Iff.rfl).symm
theorem rise_filter {l : List Str} (h : Rise l) (p : Str → Bool) : Rise (l.filter p) := h.sublist List.filter_sublist
theorem filter_sortS (l : List Str) (p : Str → Bool) : (sortS l).filter p = sortS (l.filter p) :=
  sortS_of (rise_filter (rise_sortS l) p) fun x => by rw [List.mem_filter, List.mem_filter, mem_sortS]
theorem insS_len (x : Str) (l : List Str) : (insS x l).length ≤ l.length + 1 := by
  induction l with
  | nil => simp [insS]
  | cons y l ih =>
    unfold insS
    split
    · simp only [List.length_cons]; omega
    · split <;> simp
theorem sortS_len (l : List Str) : (sortS l).length ≤ l.length := by
  have : ∀ (l out : List Str), (l.foldl (fun out x => insS x out) out).length ≤ l.length + out.length := fun l => by
    induction l with
    | nil => intro out; simp
    | cons x l ih =>
      intro out
      have h1 := ih (insS x out)
      have h2 := insS_len x out
      simp only [List.foldl_cons, List.length_cons] at h1 ⊢
      omega
  simpa [sortS] using this l []
/-- Neighbour by neighbour. -/
def checkK : List Str → Bool
  | x :: y :: l => decide (x < y) && checkK (y :: l)
  | _ => true
theorem checkK_iff : ∀ l : List Str, checkK l = true ↔ Rise l
  | [] => by simp [checkK, Rise]
  | [x] => by simp [checkK, Rise]
  | x :: y :: l => by
    rw [checkK, Bool.and_eq_true, decide_eq_true_eq, checkK_iff (y :: l)]
    constructor
    · rintro ⟨h1, h2⟩
      refine List.pairwise_cons.2 ⟨fun z hz => ?_, h2⟩
      rcases List.mem_cons.1 hz with rfl | hz
      · exact h1
      · exact str_trans h1 ((List.pairwise_cons.1 h2).1 z hz)
    · intro h
      obtain ⟨h1, h2⟩ := List.pairwise_cons.1 h
      exact ⟨h1 y (by simp), h2⟩
theorem checkK_adj : ∀ l : List Str, checkK l = true ↔ ∀ k x y, l[k]? = some x → l[k + 1]? = some y → x < y
  | [] => by simp [checkK]
  | [x] => by
    simp only [checkK, true_iff]
    intro k a b _ h
    simp at h
  | x :: y :: l => by
    rw [checkK, Bool.and_eq_true, decide_eq_true_eq, checkK_adj (y :: l)]
    constructor
    · rintro ⟨h1, h2⟩ k a b ha hb
      cases k with
      | zero => simp at ha hb; subst ha hb; exact h1
      | succ k => exact h2 k a b (by simpa using ha) (by simpa using hb)
    · intro h
      exact ⟨h 0 x y rfl rfl, fun k a b ha hb => h (k + 1) a b (by simpa using ha) (by simpa using hb)⟩
theorem checkK_no {l : List Str} {k : Nat} {x y : Str} (hx : l[k]? = some x) (hy : l[k + 1]? = some y) (h : ¬ x < y) : checkK l = false := by
  cases hc : checkK l with
  | false => rfl
  | true => exact absurd ((checkK_adj l).1 hc k x y hx hy) h
theorem checkK_sortS (l : List Str) : checkK (sortS l) = true := (checkK_iff _).2 (rise_sortS l)
/-- What was collected without a key twice, sorted, is the set. -/
theorem sorted_is {ss l : List Str} (hnd : ss.Nodup) (hm : ∀ x, x ∈ ss ↔ x ∈ l) : ss.mergeSort leB = sortS l := by
  have tr : ∀ a b c : List UInt8, leB a b = true → leB b c = true → leB a c = true := fun a b c h1 h2 => by simp only [leB, decide_eq_true_eq] at *; exact List.le_trans h1 h2
  have tot : ∀ a b : List UInt8, (leB a b || leB b a) = true := fun a b => by simp only [leB, Bool.or_eq_true, decide_eq_true_eq]; exact List.le_total a b
  have hp := List.mergeSort_perm ss leB
  have hnd2 : (ss.mergeSort leB).Nodup := hp.nodup_iff.2 hnd
  refine sortS_of ?_ fun x => by rw [hp.mem_iff, hm]
  have h1 := List.pairwise_mergeSort tr tot ss
  refine (h1.and hnd2).imp fun {a b} ⟨h2, h3⟩ => ?_
  simp only [leB, decide_eq_true_eq] at h2
  rcases str_total a b with h | h | h
  · exact h
  · exact absurd h h3
  · exact absurd h (List.not_lt.2 h2)
end Go.Proofs.Ytodbmeklbamcfaa

/- Lists of texts: their cells; copied, held against each other; too long. -/
namespace Go.Proofs.Ytodbmeklbamcfaa
open Go.RowKit Go.Rt

def tsC (l : List Str) : List Value := l.map encStr
abbrev zS : List Value := [.string ⟨#[]⟩]
theorem zS_like : LikeZ zS := by
  intro j u h
  match j, h with
  | 0, h => simp at h; subst h; rfl
  | j + 1, h => simp at h
theorem tsC_len (l : List Str) : (tsC l).length = l.length := by simp [tsC]
theorem tsC_append (l m : List Str) : tsC (l ++ m) = tsC l ++ tsC m := by simp [tsC]
theorem tsC_one (l : List Str) : ∀ u ∈ tsC l, u.oneCell' = true := by
  intro u hu
  obtain ⟨x, _, rfl⟩ := List.mem_map.1 hu
  rfl
theorem tsC_typed (l : List Str) : Typed zS (tsC l) := fun j u h => by
  unfold tsC at h
  rw [List.getElem?_map] at h
  cases hl : l[j]? with
  | none => rw [hl] at h; cases h
  | some x => rw [hl] at h; simp at h; subst h; simp [like, Nat.mod_one, encStr]
theorem ts_at {w : World} {A : Option Addr} {l : List Str} (h : Rd w A (tsC l)) (j : Nat) (x : Str) (hx : l[j]? = some x) : ∃ b o, A = some ⟨b, o, none⟩ ∧ w.cell? ⟨b, o + j, none⟩ = some (.string ⟨x.toArray⟩) := by
  have h1 : (tsC l)[j]? = some (encStr x) := by unfold tsC; rw [List.getElem?_map, hx]; rfl
  obtain ⟨b, o, hA, hc⟩ := h j _ h1
  exact ⟨b, o, hA, hc⟩
theorem below_drew' {n : Nat} {w w' : World} (h : Below n w w') (k : Nat) : Below n w (w'.drewN k) := h.trans ⟨rfl, rfl, rfl, Nat.le_refl _, fun _ _ => rfl⟩
theorem infoStr : (Try.prog.info? 9).map (fun i => (i.zero, i.size, i.bytes)) = some (some (.string ⟨#[]⟩), 1, 16) := by kernel_rfl
theorem str_beq (x y : Str) : ((⟨x.toArray⟩ : ByteArray).toList == (⟨y.toArray⟩ : ByteArray).toList) = decide (x = y) := by
  have h : ∀ s : List UInt8, (⟨s.toArray⟩ : ByteArray).toList = s := fun s => by simp
  rw [h, h]
  by_cases e : x = y <;> simp [e]
theorem str_lt (x y : Str) : Op.bytesLess (⟨x.toArray⟩ : ByteArray).toList (⟨y.toArray⟩ : ByteArray).toList = decide (x < y) := by
  have h : ∀ s : List UInt8, (⟨s.toArray⟩ : ByteArray).toList = s := fun s => by simp
  rw [h, h, bytesLess_eq]

set_option maxRecDepth 100000 in
theorem CopyTexts_any {W w : World} {L : List SL} (A : Option Addr) (c : Nat) (l : List Str) (hl : l.length ≤ 1000000000) (hr : Rd w A (tsC l)) (H : Sat W w L) :
    Calls Try.prog 50 #[.slice A l.length c] w fun e w' => ∃ A' c', e = .returned (.slice A' l.length c') ∧ Sat W w' (row 9 zS (.slice A' l.length c') l.length (tsC l) :: L) := by
  obtain ⟨i0, hi, hz0, hz1, hz2⟩ := info_parts infoStr
  go_enter Try.func50, Try.ntmps50
  go_wp2_with (first
    | (at_builtin
       refine wpList_append_sl rfl (.tmp 3) (.tmp 4) 39 rfl 9 i0 _ zS 16 Try.underlying39 hi hz0 rfl hz1 hz2 (by simp) zS_like _ 0 [] rfl (H.made #[] 9 zS 0 0 (by omega) (by unfold maxLen; omega) rfl (Typed.nil _)) A l.length c (tsC l) rfl (by simp [tsC]) (hr.below ((Below.refl _ _).alloc (Nat.le_refl _) _)) (tsC_one l) (tsC_typed l) (by unfold maxLen; omega) (by omega) ?_
       intro A2 c2 w2 H2))
  go_ret
  refine ⟨A2, c2, by simp, ?_⟩
  simpa using H2

theorem ts_ext {l m : List Str} (hl : l.length = m.length) (h : ∀ k, k < l.length → l[k]? = m[k]?) : l = m := by
  refine List.ext_getElem hl fun k h1 h2 => ?_
  have := h k h1
  simpa [h1, h2] using this

end Go.Proofs.Ytodbmeklbamcfaa

/- Plain laws on lists of keys as sets: what two lists have in common, or not. No program in sight. -/
namespace Go.Proofs.Ytodbmeklbamcfaa

def hasK (l : List Str) (k : Str) : Bool := decide (k ∈ l)
def unionS (a b : List Str) : List Str := sortS (a ++ b)
def walkS (a b : List Str) (both : Bool) : List Str := (sortS a).filter fun k => hasK b k == both
def minusS (a b : List Str) : List Str := walkS a b false
def bothS (a b : List Str) : List Str := walkS a b true
theorem mem_unionS (a b : List Str) (k : Str) : k ∈ unionS a b ↔ k ∈ a ∨ k ∈ b := by rw [unionS, mem_sortS, List.mem_append]
theorem mem_minusS (a b : List Str) (k : Str) : k ∈ minusS a b ↔ k ∈ a ∧ k ∉ b := by
  rw [minusS, walkS, List.mem_filter, mem_sortS, hasK]
  by_cases h : k ∈ b <;> simp [h]
theorem mem_bothS (a b : List Str) (k : Str) : k ∈ bothS a b ↔ k ∈ a ∧ k ∈ b := by
  rw [bothS, walkS, List.mem_filter, mem_sortS, hasK]
  by_cases h : k ∈ b <;> simp [h]
theorem rise_unionS (a b : List Str) : Rise (unionS a b) := rise_sortS _
theorem rise_minusS (a b : List Str) : Rise (minusS a b) := rise_filter (rise_sortS _) _
theorem rise_bothS (a b : List Str) : Rise (bothS a b) := rise_filter (rise_sortS _) _
theorem Rise.check {l : List Str} (h : Rise l) : checkK l = true := (checkK_iff l).2 h
theorem hasK_union (a b : List Str) (k : Str) : hasK (unionS a b) k = (hasK a k || hasK b k) := by
  rw [Bool.eq_iff_iff, Bool.or_eq_true, hasK, hasK, hasK, decide_eq_true_eq, decide_eq_true_eq, decide_eq_true_eq, mem_unionS]
theorem hasK_minus (a b : List Str) (k : Str) : hasK (minusS a b) k = (hasK a k && !hasK b k) := by
  rw [Bool.eq_iff_iff, Bool.and_eq_true, hasK, hasK, hasK, decide_eq_true_eq, decide_eq_true_eq, mem_minusS]
  by_cases h : k ∈ b <;> simp [h]
theorem hasK_both (a b : List Str) (k : Str) : hasK (bothS a b) k = (hasK a k && hasK b k) := by
  rw [Bool.eq_iff_iff, Bool.and_eq_true, hasK, hasK, hasK, decide_eq_true_eq, decide_eq_true_eq, decide_eq_true_eq, mem_bothS]
theorem union_comm' (a b : List Str) : unionS a b = unionS b a := (rise_unionS a b).ext (rise_unionS b a) fun x => by rw [mem_unionS, mem_unionS]; exact Or.comm
theorem both_comm (a b : List Str) : bothS a b = bothS b a := (rise_bothS a b).ext (rise_bothS b a) fun x => by rw [mem_bothS, mem_bothS]; exact And.comm
theorem union_parts (a b : List Str) : unionS (unionS (minusS a b) (minusS b a)) (bothS a b) = unionS a b :=
  (rise_unionS _ _).ext (rise_unionS _ _) fun x => by
    rw [mem_unionS, mem_unionS, mem_minusS, mem_minusS, mem_bothS, mem_unionS]
    by_cases h1 : x ∈ a <;> by_cases h2 : x ∈ b <;> simp [h1, h2]
theorem filter_parts (u : List Str) (p q : Str → Bool) (h : ∀ x ∈ u, p x = true ∨ q x = true) : u.length = (u.filter fun x => p x && !q x).length + (u.filter fun x => q x && !p x).length + (u.filter fun x => p x && q x).length := by
  induction u with
  | nil => rfl
  | cons x u ih =>
    have h1 := ih fun y hy => h y (by simp [hy])
    have h2 := h x (by simp)
    simp only [List.filter_cons]
    cases hp : p x <;> cases hq : q x <;> simp [hp, hq] at h2 ⊢ <;> omega
theorem union_len (a b : List Str) : (unionS a b).length = (minusS a b).length + (minusS b a).length + (bothS a b).length := by
  rw [filter_parts (unionS a b) (hasK a) (hasK b) (fun x hx => by rw [hasK, hasK, decide_eq_true_eq, decide_eq_true_eq]; exact (mem_unionS a b x).1 hx)]
  congr 1
  · congr 1
    · congr 1
      refine (rise_filter (rise_unionS a b) _).ext (rise_minusS a b) fun x => ?_
      rw [List.mem_filter, mem_unionS, mem_minusS, hasK, hasK]
      by_cases h1 : x ∈ a <;> by_cases h2 : x ∈ b <;> simp [h1, h2]
    · congr 1
      refine (rise_filter (rise_unionS a b) _).ext (rise_minusS b a) fun x => ?_
      rw [List.mem_filter, mem_unionS, mem_minusS, hasK, hasK]
      by_cases h1 : x ∈ a <;> by_cases h2 : x ∈ b <;> simp [h1, h2]
  · congr 1
    refine (rise_filter (rise_unionS a b) _).ext (rise_bothS a b) fun x => ?_
    rw [List.mem_filter, mem_unionS, mem_bothS, hasK, hasK]
    by_cases h1 : x ∈ a <;> by_cases h2 : x ∈ b <;> simp [h1, h2]
theorem minus_len (a b : List Str) : (minusS a b).length ≤ a.length := Nat.le_trans (List.length_filter_le _ _) (sortS_len a)
theorem both_len (a b : List Str) : (bothS a b).length ≤ a.length := Nat.le_trans (List.length_filter_le _ _) (sortS_len a)
theorem union_le (a b : List Str) : (unionS a b).length ≤ a.length + b.length := by have := sortS_len (a ++ b); rwa [List.length_append] at this
theorem minus_sort (a b : List Str) : minusS a b = sortS (a.filter fun k => !hasK b k) := by
  rw [minusS, walkS, filter_sortS]
  congr 1
  refine List.filter_congr fun x _ => ?_
  cases hasK b x <;> rfl
theorem both_sort (a b : List Str) : bothS a b = sortS (a.filter fun k => hasK b k) := by
  rw [bothS, walkS, filter_sortS]
  congr 1
  refine List.filter_congr fun x _ => ?_
  cases hasK b x <;> rfl
theorem sortS_idem (l : List Str) : sortS (sortS l) = sortS l := sortS_self (rise_sortS l)
theorem check_same (l : List Str) : checkK l = decide (sortS l = l) := by
  rw [Bool.eq_iff_iff, checkK_iff, decide_eq_true_eq]
  exact ⟨sortS_self, fun h => h ▸ rise_sortS l⟩
theorem sortS_nil (l : List Str) : (sortS l = []) ↔ l = [] := by
  constructor
  · intro h
    cases l with
    | nil => rfl
    | cons x l => have := (mem_sortS (x :: l) x).2 (by simp); rw [h] at this; cases this
  · rintro rfl; rfl
end Go.Proofs.Ytodbmeklbamcfaa

/- Lists of keys: do they rise, is one too long, is a key among them. -/
namespace Go.Proofs.Ytodbmeklbamcfaa
open Go.RowKit Go.Rt

theorem less_no {x y : Str} (h : ¬ x < y) : Op.bytesLess x y = false := by rw [bytesLess_eq]; simpa using h
theorem less_yes {x y : Str} (h : x < y) : Op.bytesLess x y = true := by rw [bytesLess_eq]; simpa using h
theorem beq_no {x y : Str} (h : x ≠ y) : (x == y) = false := by simpa using h
theorem beq_yes {x y : Str} (h : x = y) : (x == y) = true := by simpa using h

set_option maxRecDepth 100000 in
set_option maxHeartbeats 4000000 in
theorem eCheck_any {w : World} (A : Option Addr) (c : Nat) (l : List Str) (hl : l.length ≤ maxLen) (hr : Rd w A (tsC l)) :
    Calls Try.prog 93 #[.slice A l.length c] w fun e w' => e = .returned (.bool (checkK l)) ∧ Below w.heap.size w w' := by
  have hl' := hl
  unfold maxLen at hl'
  go_enter Try.func93, Try.ntmps93
  go_wp2
  go_loopw [3] (fun i wc => ∃ j : Nat, (j ≤ l.length ∨ j = 1) ∧ 1 ≤ j ∧ i = .int .i64 j ∧ Hid (∀ k x y, k + 1 < j → l[k]? = some x → l[k + 1]? = some y → x < y) ∧ Below w.heap.size w wc) (fun i _ => l.length - (intOf i).toNat)
  case atStart => exact ⟨1, by omega, by omega, rfl, (fun k x y hk => by omega), Below.refl _ _⟩
  case round =>
    obtain ⟨j, hj, hj1, rfl, hN, hB⟩ := hrel
    by_cases hlt : j < l.length
    · obtain ⟨k, hk0⟩ : ∃ k, Hid (j = k + 1) := ⟨j - 1, by show _ = _; omega⟩
      have hkl : k < l.length := by have := hk0.out; omega
      obtain ⟨x, hx⟩ : ∃ x, l[k]? = some x := ⟨_, List.getElem?_eq_getElem hkl⟩
      obtain ⟨y, hy⟩ : ∃ y, l[j]? = some y := ⟨_, List.getElem?_eq_getElem hlt⟩
      obtain ⟨b, o, rfl, hc⟩ := ts_at (hr.below hB) k x hx
      obtain ⟨b', o', hbo, hc'⟩ := ts_at (hr.below hB) j y hy
      cases hbo
      have hs : IntKind.i64.wrap ((j : Int) - 1) = (k : Int) := by have := hk0.out; rw [IntWalk.i64_in _ (by omega)]; omega
      clear hr
      by_cases hq : x < y
      · have h1 : Op.bytesLess y x = false := less_no fun h => str_irrefl x (str_trans hq h)
        have h2 : (y == x) = false := beq_no fun h => str_irrefl x (by rw [h] at hq; exact hq)
        have HQ := Lib.hid hq
        have HX := Lib.hid hx
        have HY := Lib.hid hy
        clear hq hx hy
        go_wp2
        go_quiet (fail)
        go_wp2
        refine ⟨⟨j + 1, by omega, by omega, by go_num, ?_, below_drew' hB _⟩, by simp [intOf]; omega⟩
        intro k2 a b hk ha hb
        have hk1 := hk0.out
        rcases Nat.lt_or_ge (k2 + 1) j with h | h
        · exact hN.out k2 a b h ha hb
        · obtain rfl : k2 = k := by omega
          rw [HX.out] at ha; cases ha
          rw [← hk1, HY.out] at hb; cases hb
          exact HQ.out
      · have hf := checkK_no hx (by rw [← hk0.out]; exact hy) hq
        have HF := Lib.hid hf
        clear hf
        rcases str_total y x with h | h | h
        · have h1 : Op.bytesLess y x = true := less_yes h
          clear hq hx hy
          go_wp2
          go_quiet (fail)
          go_wp2
          go_ret
          exact ⟨by rw [HF.out]; rfl, below_drew' hB _⟩
        · have h1 : Op.bytesLess y x = false := less_no fun h' => str_irrefl x (by rw [h] at h'; exact h')
          have h2 : (y == x) = true := beq_yes h
          clear hq hx hy h
          go_wp2
          go_quiet (fail)
          go_wp2
          go_ret
          exact ⟨by rw [HF.out]; rfl, below_drew' hB _⟩
        · exact absurd h hq
    · have hf : checkK l = true := (checkK_adj l).2 fun k x y ha hb => by
        have := (List.getElem?_eq_some_iff.1 hb).1
        exact hN.out k x y (by omega) ha hb
      go_wp2
      go_ret
      exact ⟨by first | rfl | (rw [hf]; rfl), hB⟩

/-- Is one of the first ones too long, or are there too many? -/
def longK (l : List Str) (n : Nat) : Bool := decide (n < l.length) || (l.take (n + 1)).any fun x => decide (100 < x.length)
theorem longK_no {l : List Str} {n : Nat} (h : longK l n = false) : l.length ≤ n ∧ ∀ x ∈ l, x.length ≤ 100 := by
  unfold longK at h
  rw [Bool.or_eq_false_iff, decide_eq_false_iff_not] at h
  refine ⟨by omega, fun x hx => ?_⟩
  have h2 := h.2
  rw [List.any_eq_false, List.take_of_length_le (by omega)] at h2
  have := h2 x hx
  simp at this
  exact this

set_option maxRecDepth 100000 in
theorem LongKeys_any {w : World} (A : Option Addr) (c : Nat) (l : List Str) (n : Nat) (hn : n ≤ 1000000) (hl : l.length ≤ maxLen) (hr : Rd w A (tsC l)) :
    Calls Try.prog 21 #[.slice A l.length c, .int .i64 n] w fun e w' => e = .returned (.bool (longK l n)) ∧ w = w' := by
  have hl' := hl
  unfold maxLen at hl'
  go_enter Try.func21, Try.ntmps21
  go_wp2
  go_loop [5] (fun i => ∃ j : Nat, j ≤ l.length ∧ j ≤ n + 1 ∧ i = .int .i64 j ∧ Hid (∀ k x, k < j → l[k]? = some x → x.length ≤ 100)) (fun i => n + 1 - (intOf i).toNat)
  case atStart => exact ⟨0, by omega, by omega, rfl, fun k x hk => by omega⟩
  case round =>
    obtain ⟨j, hj, hjn, rfl, hN⟩ := hrel
    by_cases hlt : j < l.length
    · by_cases hj2 : j ≤ n
      · obtain ⟨x, hx⟩ : ∃ x, l[j]? = some x := ⟨_, List.getElem?_eq_getElem hlt⟩
        obtain ⟨b, o, rfl, hc⟩ := ts_at hr j x hx
        by_cases hq : 100 < x.length
        · have hf : longK l n = true := by
            unfold longK
            rw [Bool.or_eq_true, List.any_eq_true]
            right
            exact ⟨x, List.mem_of_getElem? (by rw [List.getElem?_take, if_pos (show j < n + 1 by omega)]; exact hx), by simpa using hq⟩
          have HF := Lib.hid hf
          clear hf
          have hq2 : (100 : Int) < (x.length : Int) := by omega
          clear hx
          go_wp2
          go_ret
          exact ⟨by rw [HF.out]; rfl, rfl⟩
        · have hx2 : x.length ≤ 100 := by omega
          have HX := Lib.hid hx
          clear hx hq
          go_wp2
          refine ⟨⟨j + 1, by omega, by omega, by go_num, fun k y hk hy => ?_⟩, by simp [intOf]; omega⟩
          rcases Nat.lt_or_ge k j with h | h
          · exact hN.out k y h hy
          · obtain rfl : k = j := by omega
            rw [HX.out] at hy; cases hy; exact hx2
      · have hf : longK l n = true := by unfold longK; rw [Bool.or_eq_true]; left; simp; omega
        have HF := Lib.hid hf
        clear hf
        have hq3 : (n : Int) < (l.length : Int) := by omega
        go_wp2
        go_ret
        exact ⟨by rw [HF.out]; rfl, rfl⟩
    · obtain rfl : j = l.length := by omega
      have hf : longK l n = decide (n < l.length) := by
        unfold longK
        have : (l.take (n + 1)).any (fun x => decide (100 < x.length)) = false := by
          rw [List.any_eq_false]
          intro x hx
          obtain ⟨k, hk⟩ := List.getElem?_of_mem (List.mem_of_mem_take hx)
          have := hN.out k x (List.getElem?_eq_some_iff.1 hk).1 hk
          simp; omega
        rw [this, Bool.or_false]
      have HF := Lib.hid hf
      clear hf
      by_cases h9 : n < l.length
      · go_wp2
        go_ret
        exact ⟨by rw [HF.out]; simp [h9], rfl⟩
      · go_wp2
        go_ret
        exact ⟨by rw [HF.out]; simp [h9], rfl⟩

end Go.Proofs.Ytodbmeklbamcfaa

/- The shelf's contracts on sorted keys of maps at this seat, in plain words (lay-iter.mjs, lay-plain.mjs; THIS SEAT's NUMBERS). -/
namespace Go.Proofs
open Go.Shelf
def Try.keys120_ren : Go.Shelf.Ren := ⟨fun | 7 => 120 | 10 => 133 | n => n, fun | 23 => 165 | 26 => 9 | 3 => 166 | 28 => 169 | 0 => 0 | 27 => 168 | 33 => 143 | 4 => 4 | n => n, fun | n => n⟩
theorem Try.keys120 : Go.Proofs.SlLaysZ.n7 Try.prog Try.keys120_ren := {
  mixed := by kernel_rfl
  f7 := ⟨Try.f120.name, by decide, Try.func120.trans (congrArg some (by kernel_rfl))⟩
  f10 := ⟨Try.f133.name, by decide, Try.func133.trans (congrArg some (by kernel_rfl))⟩
  t0 := Try.underlying0
  a0 := Try.isAgg0
  z0 := Try.sizeOf0
  v0 := Try.zeroValue0
  t4 := Try.underlying4
  a4 := Try.isAgg4
  z4 := Try.sizeOf4
  v4 := Try.zeroValue4
  t23 := Try.underlying165
  a23 := Try.isAgg165
  z23 := Try.sizeOf165
  v23 := Try.zeroValue165
  t26 := Try.underlying9
  a26 := Try.isAgg9
  z26 := Try.sizeOf9
  v26 := Try.zeroValue9
  t27 := Try.underlying168
  a27 := Try.isAgg168
  z27 := Try.sizeOf168
  v27 := Try.zeroValue168
  t28 := Try.underlying169
  a28 := Try.isAgg169
  z28 := Try.sizeOf169
  v28 := Try.zeroValue169
  t33 := Try.underlying143
  a33 := Try.isAgg143
  z33 := Try.sizeOf143
  v33 := Try.zeroValue143 }
def Try.sorted119_ren : Go.Shelf.Ren := ⟨fun | 6 => 119 | 8 => 131 | 9 => 132 | 11 => 143 | 13 => 145 | 12 => 144 | 23 => 157 | 24 => 158 | 14 => 148 | 15 => 149 | 16 => 150 | 17 => 151 | 18 => 152 | 19 => 153 | 20 => 154 | 21 => 155 | 22 => 156 | 25 => 167 | 26 => 168 | 27 => 169 | 28 => 170 | 29 => 171 | 30 => 147 | 31 => 175 | n => n, fun | 26 => 9 | 28 => 169 | 24 => 39 | 0 => 0 | 3 => 3 | 37 => 82 | 48 => 98 | 50 => 136 | 4 => 4 | 40 => 195 | 39 => 194 | 45 => 200 | 5 => 5 | 9 => 9 | 51 => 209 | 55 => 79 | 57 => 216 | 58 => 217 | 33 => 143 | n => n, fun | n => n⟩
theorem Try.sorted119 : Go.Proofs.SlLaysZ.n6 Try.prog Try.sorted119_ren := {
  mixed := by kernel_rfl
  f6 := ⟨Try.f119.name, by decide, Try.func119.trans (congrArg some (by kernel_rfl))⟩
  f8 := ⟨Try.f131.name, by decide, Try.func131.trans (congrArg some (by kernel_rfl))⟩
  f11 := ⟨Try.f143.name, by decide, Try.func143.trans (congrArg some (by kernel_rfl))⟩
  t0 := Try.underlying0
  a0 := Try.isAgg0
  z0 := Try.sizeOf0
  v0 := Try.zeroValue0
  t24 := Try.underlying39
  a24 := Try.isAgg39
  z24 := Try.sizeOf39
  v24 := Try.zeroValue39
  t26 := Try.underlying9
  a26 := Try.isAgg9
  z26 := Try.sizeOf9
  v26 := Try.zeroValue9
  t28 := Try.underlying169
  a28 := Try.isAgg169
  z28 := Try.sizeOf169
  v28 := Try.zeroValue169
  i26 := by kernel_rfl }
def Try.sort132_ren : Go.Shelf.Ren := ⟨fun | 6 => 132 | 8 => 145 | 9 => 144 | 19 => 157 | 20 => 158 | 21 => 148 | 22 => 149 | 23 => 150 | 24 => 151 | 25 => 152 | 26 => 153 | 27 => 154 | 28 => 155 | 29 => 156 | 36 => 167 | 31 => 168 | 32 => 169 | 37 => 170 | 38 => 171 | 39 => 147 | 41 => 175 | n => n, fun | 27 => 39 | 29 => 9 | 3 => 3 | 32 => 82 | 26 => 39 | 0 => 0 | 44 => 98 | 46 => 136 | 4 => 4 | 36 => 195 | 35 => 194 | 41 => 200 | 5 => 5 | 9 => 9 | 53 => 209 | 57 => 79 | 63 => 216 | 64 => 217 | n => n, fun | n => n⟩
theorem Try.sort132 : Go.Proofs.SlLaysM.n6 Try.prog Try.sort132_ren := {
  mixed := by kernel_rfl
  f6 := ⟨Try.f132.name, by decide, Try.func132.trans (congrArg some (by kernel_rfl))⟩
  f8 := Try.func145.trans (congrArg some (by kernel_rfl))
  f9 := ⟨Try.f144.name, by decide, Try.func144.trans (congrArg some (by kernel_rfl))⟩
  f19 := Try.func157.trans (congrArg some (by kernel_rfl))
  f20 := Try.func158.trans (congrArg some (by kernel_rfl))
  f21 := ⟨Try.f148.name, by decide, Try.func148.trans (congrArg some (by kernel_rfl))⟩
  f22 := ⟨Try.f149.name, by decide, Try.func149.trans (congrArg some (by kernel_rfl))⟩
  f23 := ⟨Try.f150.name, by decide, Try.func150.trans (congrArg some (by kernel_rfl))⟩
  f24 := ⟨Try.f151.name, by decide, Try.func151.trans (congrArg some (by kernel_rfl))⟩
  f25 := ⟨Try.f152.name, by decide, Try.func152.trans (congrArg some (by kernel_rfl))⟩
  f26 := ⟨Try.f153.name, by decide, Try.func153.trans (congrArg some (by kernel_rfl))⟩
  f27 := ⟨Try.f154.name, by decide, Try.func154.trans (congrArg some (by kernel_rfl))⟩
  f28 := ⟨Try.f155.name, by decide, Try.func155.trans (congrArg some (by kernel_rfl))⟩
  f29 := ⟨Try.f156.name, by decide, Try.func156.trans (congrArg some (by kernel_rfl))⟩
  f31 := Try.func168.trans (congrArg some (by kernel_rfl))
  f32 := Try.func169.trans (congrArg some (by kernel_rfl))
  f36 := ⟨Try.f167.name, by decide, Try.func167.trans (congrArg some (by kernel_rfl))⟩
  f37 := ⟨Try.f170.name, by decide, Try.func170.trans (congrArg some (by kernel_rfl))⟩
  f38 := ⟨Try.f171.name, by decide, Try.func171.trans (congrArg some (by kernel_rfl))⟩
  f39 := ⟨Try.f147.name, by decide, Try.func147.trans (congrArg some (by kernel_rfl))⟩
  f41 := ⟨Try.f175.name, by decide, Try.func175.trans (congrArg some (by kernel_rfl))⟩
  t0 := Try.underlying0
  a0 := Try.isAgg0
  z0 := Try.sizeOf0
  v0 := Try.zeroValue0
  t3 := Try.underlying3
  a3 := Try.isAgg3
  z3 := Try.sizeOf3
  v3 := Try.zeroValue3
  t4 := Try.underlying4
  a4 := Try.isAgg4
  z4 := Try.sizeOf4
  v4 := Try.zeroValue4
  t5 := Try.underlying5
  a5 := Try.isAgg5
  z5 := Try.sizeOf5
  v5 := Try.zeroValue5
  t9 := Try.underlying9
  a9 := Try.isAgg9
  z9 := Try.sizeOf9
  v9 := Try.zeroValue9
  t26 := Try.underlying39
  a26 := Try.isAgg39
  z26 := Try.sizeOf39
  v26 := Try.zeroValue39
  t27 := Try.underlying39
  a27 := Try.isAgg39
  z27 := Try.sizeOf39
  v27 := Try.zeroValue39
  t29 := Try.underlying9
  a29 := Try.isAgg9
  z29 := Try.sizeOf9
  v29 := Try.zeroValue9
  t32 := Try.underlying82
  a32 := Try.isAgg82
  z32 := Try.sizeOf82
  v32 := Try.zeroValue82
  t35 := Try.underlying194
  a35 := Try.isAgg194
  z35 := Try.sizeOf194
  v35 := Try.zeroValue194
  t36 := Try.underlying195
  a36 := Try.isAgg195
  z36 := Try.sizeOf195
  v36 := Try.zeroValue195
  t41 := Try.underlying200
  a41 := Try.isAgg200
  z41 := Try.sizeOf200
  v41 := Try.zeroValue200
  t44 := Try.underlying98
  a44 := Try.isAgg98
  z44 := Try.sizeOf98
  v44 := Try.zeroValue98
  t46 := Try.underlying136
  a46 := Try.isAgg136
  z46 := Try.sizeOf136
  v46 := Try.zeroValue136
  t53 := Try.underlying209
  a53 := Try.isAgg209
  z53 := Try.sizeOf209
  v53 := Try.zeroValue209
  t57 := Try.underlying79
  a57 := Try.isAgg79
  z57 := Try.sizeOf79
  v57 := Try.zeroValue79
  t63 := Try.underlying216
  a63 := Try.isAgg216
  z63 := Try.sizeOf216
  v63 := Try.zeroValue216
  t64 := Try.underlying217
  a64 := Try.isAgg217
  z64 := Try.sizeOf217
  v64 := Try.zeroValue217 }
open Go.RowKit Go.Maps Go.Sort
abbrev Try.ren120 := Try.keys120_ren
theorem Try.keysA120 (mb : Option Nat) (W : World) : CallsIn Fence.wide 5 Try.prog 120 #[.map mb] W fun e w' => e = .returned (.func (.func 133) #[] #[.pointer (some ⟨W.heap.size, 0, none⟩)]) ∧ w' = W.alloc (.cells #[.map mb] 165) :=
  AnyZ.keys_in Try.keys120 Fence.wide 5 trivial rfl mb W
end Go.Proofs

/- The set of a list of keys: the program's own answer. -/
namespace Go.Proofs.Ytodbmeklbamcfaa
open Go.RowKit Go.Rt Go.Maps

/-- What a list of keys becomes as a map. -/
def setD (l : List Str) : DataW Unit := Maps.setOf .nil (l.map Lit.string)
theorem setD_snoc (l : List Str) (x : Str) : setD (l ++ [x]) = (setD l).put (.string x) .nil := by
  unfold setD
  rw [List.map_append]
  exact Maps.setOf_snoc _ _ _
theorem has_setD (l : List Str) (x : Str) : Maps.has (setD l) (.string x) = true ↔ x ∈ l := by
  unfold setD
  rw [Maps.has_setOf _ _ _ (fun y hy => by obtain ⟨z, _, rfl⟩ := List.mem_map.1 hy; trivial), List.any_eq_true]
  constructor
  · rintro ⟨y, hy, h⟩
    obtain ⟨z, hz, rfl⟩ := List.mem_map.1 hy
    have : z = x := by simpa [Lit.sameKey] using h
    exact this ▸ hz
  · intro h
    exact ⟨.string x, List.mem_map.2 ⟨x, h, rfl⟩, by simp [Lit.sameKey]⟩
theorem tidy_setD (l : List Str) : Maps.Tidy (setD l) := Maps.tidy_setOf _ _ fun y hy => by obtain ⟨z, _, rfl⟩ := List.mem_map.1 hy; trivial
theorem setD_perm {R : Value → Option (DataW Unit × List MemPlace)} {w : World} {b n : Nat} {l : List Str} (hown : w.ownsMap Try.prog 9 R b n (setD l)) {ss : List Str} (h : ss.Perm (strKeys (setD l))) : ss.mergeSort leB = sortS l := by
  obtain ⟨es, hD, hpw⟩ := tidy_setD l
  obtain ⟨es', hD', hko⟩ := hown.keysOf
  obtain rfl : es = es' := by rw [hD] at hD'; simpa using hD'
  have hp : (sortS l).Perm (strKeys (setD l)) := by
    rw [hD]
    refine perm_strKeys hpw (fun p hp => by obtain ⟨v, hv⟩ := hko p hp; obtain ⟨x, _, hx, _⟩ := Maps.keyOf_str Try.underlying9 hv; exact ⟨x, hx⟩) (List.Pairwise.imp (fun {x y} (h : x < y) (e : x = y) => str_irrefl y (by rw [e] at h; exact h)) (rise_sortS l)) fun x => ?_
    rw [← hD, mem_sortS, has_setD]
  have hq := h.trans hp.symm
  refine sorted_is (hq.nodup_iff.2 (List.Pairwise.imp (fun {x y} (h : x < y) (e : x = y) => str_irrefl y (by rw [e] at h; exact h)) (rise_sortS l))) fun x => ?_
  rw [hq.mem_iff, mem_sortS]
theorem key_str (x : Str) (h : x.length ≤ maxLen) : keyOf Try.prog 9 (.string ⟨x.toArray⟩) = some (.string x) := by
  unfold keyOf
  rw [Try.underlying9]
  simp [mapKey, ByteArray.size, h]

end Go.Proofs.Ytodbmeklbamcfaa

/- A new slice whose spare room holds zero cells: made by append alone. No program in sight. -/
namespace Go.Rt
open Go.RowKit

/-- Zero cells, element by element. -/
def Zeros (zc cs : List Value) : Prop := ∀ j u, cs[j]? = some u → u = zc.getD (j % zc.length) undef
theorem Zeros.nil (zc : List Value) : Zeros zc [] := fun j u h => by simp at h
theorem Zeros.append {zc a b : List Value} (ha : Zeros zc a) (hb : Zeros zc b) (hl : a.length % zc.length = 0) : Zeros zc (a ++ b) := fun j u h => by
  rw [List.getElem?_append] at h
  split at h
  · exact ha j u h
  · rename_i hj
    have h1 := hb _ u h
    have e : (j - a.length) % zc.length = j % zc.length := by
      have := Nat.add_mod (j - a.length) a.length zc.length
      rw [Nat.sub_add_cancel (by omega), hl, Nat.add_zero, Nat.mod_mod] at this
      exact this.symm
    rwa [e] at h1
theorem Zeros.drop {zc a : List Value} (ha : Zeros zc a) (k : Nat) (hk : k % zc.length = 0) : Zeros zc (a.drop k) := fun j u h => by
  rw [List.getElem?_drop] at h
  have h1 := ha _ u h
  have e : (k + j) % zc.length = j % zc.length := by rw [Nat.add_mod, hk, Nat.zero_add, Nat.mod_mod]
  rwa [e] at h1
theorem Zeros.zeros (zc : List Value) (n : Nat) : Zeros zc (Builtin.zeroCells zc.toArray n).toList := fun j u h => by
  unfold Builtin.zeroCells at h
  simp only [Array.toList_map, Array.toList_range, List.getElem?_map, List.size_toArray] at h
  cases hr : (List.range (n * zc.length))[j]? with
  | none => rw [hr] at h; cases h
  | some i =>
    rw [hr] at h
    obtain ⟨hlt, hi⟩ := List.getElem?_eq_some_iff.1 hr
    have hi' : i = j := by simpa using hi.symm
    subst hi'
    simp only [Option.map_some, Option.some.injEq] at h
    have hlt' : i < n * zc.length := by simpa using hlt
    have hpos : 0 < zc.length := by
      rcases Nat.eq_zero_or_pos zc.length with h0 | h0
      · rw [h0] at hlt'; omega
      · exact h0
    have hm : i % zc.length < zc.length := Nat.mod_lt _ hpos
    rw [← h]
    simp [List.getD, hm]
theorem Zeros.typed {zc cs : List Value} (h : Zeros zc cs) (hz : LikeZ zc) (hp : 0 < zc.length) : Typed zc cs := fun j u hu => by
  rw [h j u hu]
  have hm : j % zc.length < zc.length := Nat.mod_lt _ hp
  have e2 : zc.getD (j % zc.length) undef = zc[j % zc.length] := by simp [List.getD, hm]
  rw [e2]
  exact hz _ _ (List.getElem?_eq_getElem hm)

/-- A slice in a block of the call's own: what it holds up to its length; whatever lies behind is zero. -/
def newS (e : TypeId) (zc : List Value) (v : Value) (n : Nat) (xs : List Value) : SL := fun h =>
  xs.length = n * zc.length ∧
  ((v = .slice none 0 0 ∧ n = 0) ∨
   ∃ g cap cur, v = .slice (some ⟨g, 0, none⟩) n cap ∧ h g = some (.cells cur e (0, 0)) ∧ n ≤ cap ∧ cap ≤ maxLen ∧ cur.size = cap * zc.length ∧ cur.toList.take (n * zc.length) = xs ∧ Zeros zc (cur.toList.drop (n * zc.length)))
/-- The same of texts. -/
abbrev seenS (e : TypeId) (v : Value) (n : Nat) (xs : List Value) : SL := newS e [.string ⟨#[]⟩] v n xs

section
variable {P : Program} {W w w' : World} {l : List SL} {e : TypeId} {zc : List Value} {v : Value} {n c : Nat} {xs : List Value} {A : Option Addr}
theorem Sat.new_nil (H : Sat W w l) (e : TypeId) (zc : List Value) : Sat W w (newS e zc (.slice none 0 0) 0 [] :: l) :=
  H.add (a := fun _ => none) w (Below.refl _ _) ⟨by simp, .inl ⟨rfl, rfl⟩⟩ fun _ _ h => by cases h
theorem Sat.new_owns (H : Sat W w (newS e zc v n xs :: l)) : w.ownsRow W.heap.size e zc.length v n xs := by
  obtain ⟨_, h, ⟨a, r, d, rfl, ⟨hx, ha⟩, _⟩, hh⟩ := H
  refine ⟨hx, ?_⟩
  rcases ha with ha | ⟨g, cap, cur, hv, hg, h1, h2, h3, h4, _⟩
  · exact .inl ha
  · have := hh g _ (join_left hg)
    exact .inr ⟨g, cap, cur, hv, this.1, this.2, h1, h2, h3, h4⟩
theorem Sat.new_slice (H : Sat W w (newS e zc v n xs :: l)) :
    xs.length = n * zc.length ∧ ∃ A c, v = .slice A n c ∧ n ≤ c ∧ c ≤ maxLen ∧ (A = none → c = 0 ∧ n = 0) ∧ ∀ a, A = some a → a.off = 0 ∧ a.spot = none ∧ W.heap.size ≤ a.block ∧ a.block < w.heap.size := by
  obtain ⟨hx, h⟩ := H.new_owns
  rcases h with ⟨rfl, rfl⟩ | ⟨g, cap, cur, rfl, hge, hg, h1, h2, h3, h4⟩
  · exact ⟨hx, none, 0, rfl, Nat.le_refl _, by simp [maxLen], fun _ => ⟨rfl, rfl⟩, nofun⟩
  · exact ⟨hx, _, cap, rfl, h1, h2, nofun, fun a h => by cases h; exact ⟨rfl, rfl, hge, (Array.getElem?_eq_some_iff.1 hg).1⟩⟩
theorem Sat.new_some (H : Sat W w (newS e zc (.slice A n c) n xs :: l)) (hn : 0 < n) : ∃ g, A = some ⟨g, 0, none⟩ := by
  obtain ⟨_, h⟩ := H.new_owns
  rcases h with ⟨_, h0⟩ | ⟨g, cap, cur, hv, _⟩
  · omega
  · cases hv; exact ⟨g, rfl⟩
theorem Sat.new_blk {g : Nat} (H : Sat W w (newS e zc (.slice (some ⟨g, 0, none⟩) n c) n xs :: l)) :
    ∃ cur, w.heap[g]? = some (.cells cur e (0, 0)) ∧ n ≤ c ∧ c ≤ maxLen ∧ cur.size = c * zc.length ∧ cur.toList.take (n * zc.length) = xs ∧ Zeros zc (cur.toList.drop (n * zc.length)) := by
  obtain ⟨_, h, ⟨a, r, d, rfl, ⟨hx, ha⟩, _⟩, hh⟩ := H
  rcases ha with ⟨hv, h0⟩ | ⟨g', cap, cur, hv, h1, h2, h3, h4, h5, h6⟩
  · cases hv
  · cases hv; exact ⟨cur, (hh g _ (join_left h1)).2, h2, h3, h4, h5, h6⟩
theorem Sat.new_rd (H : Sat W w (newS e zc (.slice A n c) n xs :: l)) : Rd w A xs := by
  obtain ⟨hx, h⟩ := H.new_owns
  rcases h with ⟨hv, h0⟩ | ⟨g, cap, cur, hv, hge, hg, h1, h2, h3, h4⟩
  · subst h0
    have : xs = [] := List.eq_nil_of_length_eq_zero (by simpa using hx)
    subst this
    exact Rd.nil _ _
  · cases hv
    refine fun j u hu => ⟨g, 0, rfl, ?_⟩
    have hj : j < xs.length := (List.getElem?_eq_some_iff.1 hu).1
    rw [← h4, List.getElem?_take, if_pos (by omega)] at hu
    simp [World.cell?, hg]
    simpa using hu
theorem Sat.new_setRow {g : Nat} (H : Sat W w (newS e zc (.slice (some ⟨g, 0, none⟩) n c) n xs :: l)) (cur : Array Value) (n' : Nat) (hn : n' ≤ c) (hs : cur.size = c * zc.length) (ht : Zeros zc (cur.toList.drop (n' * zc.length))) :
    Sat W (w.setRow g cur) (newS e zc (.slice (some ⟨g, 0, none⟩) n' c) n' (cur.toList.take (n' * zc.length)) :: l) := by
  have hge : W.heap.size ≤ g := (H.new_owns.lt g rfl).1
  have hb : Below W.heap.size W (w.setRow g cur) := H.bel.trans ⟨rfl, rfl, rfl, by simp, fun k hk => setRow_other w g k _ (by omega)⟩
  refine H.put hb fun a ⟨hx, ha⟩ hh => ?_
  rcases ha with ⟨hv, _⟩ | ⟨g', cap, cur0, hv, hg, h1, h2, h3, h4, h5⟩
  · cases hv
  · cases hv
    have hw := (hh g _ hg).1
    refine ⟨fun k => if k = g then some (.cells cur e (0, 0)) else none, ⟨?_, .inr ⟨g, c, cur, rfl, by simp, hn, h2, hs, rfl, ht⟩⟩, fun k hk => ?_, fun k o ek => ?_, fun k hk _ => ?_⟩
    · have hcl : cur.toList.length = c * zc.length := by simpa using hs
      rw [List.length_take, hcl]
      exact Nat.min_eq_left (Nat.mul_le_mul_right _ hn)
    · by_cases e1 : k = g
      · subst e1; left; rw [hg]; simp
      · simp [e1] at hk
    · by_cases e1 : k = g
      · subst e1
        simp at ek
        subst ek
        exact ⟨hge, setRow_heap w k _ cur e _ hw⟩
      · simp [e1] at ek
    · exact setRow_other w g k cur (by rintro rfl; rw [hg] at hk; cases hk)
theorem Sat.new_grew (H : Sat W w l) (xs : List Value) (need old : Nat) (hx : xs.length = need * zc.length) (h63 : need ≤ maxLen) (cur : Array Value)
    (hc : cur = xs.toArray ++ Builtin.zeroCells zc.toArray (grownCap w need old e - need)) :
    Sat W (w.drew.alloc (.cells cur e)) (newS e zc (.slice (some ⟨w.heap.size, 0, none⟩) need (grownCap w need old e)) need xs :: l) := by
  have hge := grownCap_ge w need old e
  have hcm : grownCap w need old e ≤ maxLen := grownCap_le_maxLen w need old e h63
  have hs : cur.size = grownCap w need old e * zc.length := by
    rw [hc]
    simp only [Array.size_append, List.size_toArray, size_zeroCells, hx, ← Nat.add_mul]
    congr 1
    omega
  refine (H.drew.alloc cur e).head fun h hh => ⟨hx, .inr ⟨w.heap.size, _, cur, rfl, hh, hge, hcm, hs, ?_, ?_⟩⟩
  · rw [hc, Array.toList_append, ← hx]
    exact List.take_left
  · rw [hc, Array.toList_append, ← hx]
    show Zeros zc ((xs ++ _).drop xs.length)
    rw [List.drop_left]
    exact Zeros.zeros zc _
/-- It is a row, if what it holds is. -/
theorem Sat.new_row (H : Sat W w (newS e zc v n xs :: l)) (hx : Typed zc xs) (hz : LikeZ zc) (hp : 0 < zc.length) : Sat W w (row e zc v n xs :: l) := by
  refine H.head fun h ⟨h1, ha⟩ => ⟨h1, ?_⟩
  rcases ha with ha | ⟨g, cap, cur, hv, hg, h2, h3, h4, h5, h6⟩
  · exact .inl ha
  · refine .inr ⟨g, cap, cur, hv, hg, h2, h3, h4, h5, ?_⟩
    have := Typed.append hx (h6.typed hz hp) (by rw [h1]; simp)
    rwa [← h5, List.take_append_drop] at this

theorem run_append_new (t ty e : TypeId) (i : TypeInfo) (z : Value) (zc : List Value) (ht : P.underlying t = some (.slice e)) (hi : P.info? e = some i) (hz : i.zero = some z) (hzc : z.cells = zc.toArray)
    (hsize : i.size = zc.length) (hpos : 0 < zc.length)
    (v : Value) (n : Nat) (xs : List Value) (H : Sat W w (newS e zc v n xs :: l))
    (A : Option Addr) (m c : Nat) (news : List Value) (hl : news.length = m * zc.length) (hr : Rd w A news) (h1 : ∀ u ∈ news, u.oneCell' = true)
    (h63 : n + m ≤ maxLen) (hbytes : (n + m) * i.bytes ≤ 140737488355328) :
    ∃ A' c' w', (Builtin.append_ #[t, t] ty #[v, .slice A m c]).run P w = .ok (.slice A' (n + m) c') w' ∧ Sat W w' (newS e zc (.slice A' (n + m) c') (n + m) (xs ++ news) :: l) := by
  obtain ⟨hxl, A', c', rfl, hnc, hcm, hA0, hA1⟩ := H.new_slice
  rcases Nat.eq_zero_or_pos m with hm | hm
  · subst hm
    have hn0 : news = [] := List.eq_nil_of_length_eq_zero (by simpa using hl)
    subst hn0
    have hf : (Builtin.firstCells i.size 0 (.slice A 0 c)).run P w = .ok #[] w := by
      cases A with
      | none => exact run_firstCells_none w _ _ _ _
      | some ad => exact run_firstCells_some w i.size 0 ad 0 c [] (by simp) (by intro j u h; simp at h)
    refine ⟨A', c', w, ?_, by simpa using H⟩
    cases A' with
    | none => simp [Builtin.append_, run_underlying ht, sizeOf, typeInfo, hi, Builtin.lenOf, hnc, hf]
    | some ad => simp [Builtin.append_, run_underlying ht, sizeOf, typeInfo, hi, Builtin.lenOf, hnc, hf, storeCells]
  · have hx0 : news ≠ [] := by
      intro h0
      subst h0
      have : m * zc.length ≥ 1 := Nat.mul_pos hm hpos
      simp at hl; omega
    obtain ⟨b, off, rfl⟩ := hr.open hx0
    have hnews : ∀ j u, news[j]? = some u → w.cell? ((⟨b, off, none⟩ : Addr).add j) = some u := fun j u hu => by
      have h0 := hr.at j hu
      unfold Addr.add
      split
      · rename_i hj; subst hj; simpa using h0
      · exact h0
    have hl' : news.length = m * i.size := by rw [hsize]; exact hl
    have hlen : (xs ++ news).length = (n + m) * zc.length := by rw [List.length_append, hxl, hl, Nat.add_mul]
    cases A' with
    | none =>
      obtain ⟨rfl, rfl⟩ := hA0 rfl
      have hx : xs = [] := List.eq_nil_of_length_eq_zero (by simpa using hxl)
      subst hx
      have hrun := run_append_nil (P := P) w t ty e i z ht hi hz ⟨b, off, none⟩ m c news hl' hnews (by omega) (by simp only [maxLen] at h63; omega) (by have hb := hbytes; simp only [Nat.zero_add] at hb; omega)
      refine ⟨_, _, _, by simpa using hrun, ?_⟩
      have hs := H.tail.new_grew (e := e) (zc := zc) news m 0 hl (by omega) _ (by rw [← hzc])
      simpa using hs
    | some ad =>
      obtain ⟨h0, hsp, hge, hlt⟩ := hA1 ad rfl
      obtain ⟨g, off', sp⟩ := ad
      dsimp only at h0 hsp hge hlt
      subst h0 hsp
      obtain ⟨cur, hg, _, _, hcs, htake, htc⟩ := H.new_blk
      by_cases hroom : n + m ≤ c'
      · have hfit : n * i.size + news.length ≤ cur.size := by rw [hl', hcs, hsize, ← Nat.add_mul]; exact Nat.mul_le_mul_right _ hroom
        have hrun := run_append_room (P := P) w t ty e i ht hi g n c' cur hg ⟨b, off, none⟩ m c news hl' hnews h1 hroom hfit
        refine ⟨_, _, _, hrun, ?_⟩
        have e0 : (cur.toList.take (n * i.size) ++ news ++ cur.toList.drop (n * i.size + news.length)).toArray.toList = (xs ++ news) ++ (cur.toList.drop (n * zc.length)).drop (m * zc.length) := by
          simp only [hsize]
          rw [htake, List.drop_drop, hl]
        have hs := H.new_setRow (cur.toList.take (n * i.size) ++ news ++ cur.toList.drop (n * i.size + news.length)).toArray (n + m) hroom ?_ ?_
        · rw [e0, ← hlen, List.take_left] at hs
          exact hs
        · simp only [List.size_toArray, List.length_append, List.length_take, List.length_drop, Array.length_toList]
          rw [← hcs]; omega
        · rw [e0, ← hlen, List.drop_left]
          exact htc.drop _ (by simp)
      · have holds : ∀ j u, xs[j]? = some u → w.cell? ((⟨g, 0, none⟩ : Addr).add j) = some u := H.new_owns.cells (g := g) rfl
        have hrun := run_append_grow (P := P) w t ty e i z ht hi hz ⟨g, 0, none⟩ n c' xs (by rw [hsize]; exact hxl) holds ⟨b, off, none⟩ m c news hl' hnews (by omega) (by simp only [maxLen] at h63; omega) (growslice_fits (by omega) hbytes)
        refine ⟨_, _, _, hrun, ?_⟩
        exact H.tail.new_grew (e := e) (zc := zc) (xs ++ news) (n + m) c' hlen h63 _ (by rw [← hzc]; simp)
theorem wp_append_new {o : Oper} {a : Act} {K : Act → World → Prop} {Q : Exit → Act → World → Prop} (s x : Operand) (t : TypeId)
    (ho : o.op = .call { callee := .builtin .append, args := #[s, x], argTypes := #[t, t] })
    (e : TypeId) (i : TypeInfo) (z : Value) (zc : List Value) (bytes : Nat) (ht : P.underlying t = some (.slice e)) (hi : P.info? e = some i) (hz : i.zero = some z) (hzc : z.cells = zc.toArray)
    (hsize : i.size = zc.length) (hby : i.bytes = bytes) (hpos : 0 < zc.length)
    (v : Value) (n : Nat) (xs : List Value) (hs : a.eval s = v) (H : Sat W w (newS e zc v n xs :: l))
    (A : Option Addr) (m c : Nat) (news : List Value) (hx : a.eval x = .slice A m c) (hl : news.length = m * zc.length) (hr : Rd w A news) (h1 : ∀ u ∈ news, u.oneCell' = true)
    (h63 : n + m ≤ maxLen) (hbytes : (n + m) * bytes ≤ 140737488355328)
    (h : ∀ A' c' w', Sat W w' (newS e zc (.slice A' (n + m) c') (n + m) (xs ++ news) :: l) → K (a.put o.dst (.slice A' (n + m) c')) w') : o.wp P a w K Q := by
  subst hby
  obtain ⟨A', c', w', hrun, H'⟩ := run_append_new (P := P) t o.type e i z zc ht hi hz hzc hsize hpos v n xs H A m c news hl hr h1 h63 hbytes
  unfold Oper.wp execOp
  simp only [ho, resolve, invoke, builtin, Sem.run_bind, Sem.run_pure, Result.andThen_ok, List.map_toArray, List.map_cons, List.map_nil, hs, hx, hrun]
  exact h A' c' w' H'
set_option maxRecDepth 100000 in
theorem wpList_append_new {ops : Array Oper} {rest : List Oper} {o : Oper} {a : Act} {Q : Exit → Act → World → Prop} (hgd : o.guard = none) (s x : Operand) (t : TypeId)
    (ho : o.op = .call { callee := .builtin .append, args := #[s, x], argTypes := #[t, t] })
    (e : TypeId) (i : TypeInfo) (z : Value) (zc : List Value) (bytes : Nat) (ht : P.underlying t = some (.slice e)) (hi : P.info? e = some i) (hz : i.zero = some z) (hzc : z.cells = zc.toArray)
    (hsize : i.size = zc.length) (hby : i.bytes = bytes) (hpos : 0 < zc.length)
    (v : Value) (n : Nat) (xs : List Value) (hs : a.eval s = v) (H : Sat W w (newS e zc v n xs :: l))
    (A : Option Addr) (m c : Nat) (news : List Value) (hx : a.eval x = .slice A m c) (hl : news.length = m * zc.length) (hr : Rd w A news) (h1 : ∀ u ∈ news, u.oneCell' = true)
    (h63 : n + m ≤ maxLen) (hbytes : (n + m) * bytes ≤ 140737488355328)
    (h : ∀ A' c' w', Sat W w' (newS e zc (.slice A' (n + m) c') (n + m) (xs ++ news) :: l) → wpList P ops Q rest (a.put o.dst (.slice A' (n + m) c')) w') : wpList P ops Q (o :: rest) a w :=
  wpList_plain hgd fun _ hK => wp_append_new s x t ho e i z zc bytes ht hi hz hzc hsize hby hpos v n xs hs H A m c news hx hl hr h1 h63 hbytes fun A' c' w' H' => hK _ _ (h A' c' w' H')
theorem step_append_new {ops : Array Oper} {o : Oper} {a : Act} {K : Act → World → Prop} {Q : Exit → Act → World → Prop} {E : Prop} (hgd : o.guard = none) (s x : Operand) (t : TypeId)
    (ho : o.op = .call { callee := .builtin .append, args := #[s, x], argTypes := #[t, t] })
    (e : TypeId) (i : TypeInfo) (z : Value) (zc : List Value) (bytes : Nat) (ht : P.underlying t = some (.slice e)) (hi : P.info? e = some i) (hz : i.zero = some z) (hzc : z.cells = zc.toArray)
    (hsize : i.size = zc.length) (hby : i.bytes = bytes) (hpos : 0 < zc.length)
    (v : Value) (n : Nat) (xs : List Value) (hs : a.eval s = v) (H : Sat W w (newS e zc v n xs :: l))
    (A : Option Addr) (m c : Nat) (news : List Value) (hx : a.eval x = .slice A m c) (hl : news.length = m * zc.length) (hr : Rd w A news) (h1 : ∀ u ∈ news, u.oneCell' = true)
    (h63 : n + m ≤ maxLen) (hbytes : (n + m) * bytes ≤ 140737488355328)
    (h : ∀ A' c' w', Sat W w' (newS e zc (.slice A' (n + m) c') (n + m) (xs ++ news) :: l) → K (a.put o.dst (.slice A' (n + m) c')) w') :
    if Region.wanted o (yielded ops a.tmps) = true then Oper.wp P o a w K Q else E := by
  have hw : Region.wanted o (yielded ops a.tmps) = true := by simp [Region.wanted, hgd]
  rw [if_pos hw]
  exact wp_append_new s x t ho e i z zc bytes ht hi hz hzc hsize hby hpos v n xs hs H A m c news hx hl hr h1 h63 hbytes h
theorem RdL.newS : RdL W (Go.Rt.newS e zc (.slice A n c) n xs :: l) A xs := fun _ H => H.new_rd
theorem Sat.seen_rd (H : Sat W w (Go.Rt.newS e zc (.slice A n c) n xs :: l)) : Rd w A xs := H.new_rd
theorem RdL.seenS : RdL W (Go.Rt.newS e zc (.slice A n c) n xs :: l) A xs := fun _ H => H.new_rd
end
end Go.Rt

/- What a call owns, where a function is ranged over; append inside a fence; a row of texts, sorted. No program in sight. -/
namespace Go.Rt
open Go.RowKit Go.Proofs Go.Sort

/-- A part of memory without a place. -/
def Hp.but (h : Hp) (r : Nat) : Hp := fun k => if k = r then none else h k
/-- It speaks of cells alone. -/
def Cellish (A : SL) : Prop := ∀ (h : Hp) (r : Nat), (∀ o, h r = some o → o.isCells = false) → A h → A (h.but r)
theorem Cellish.pt (b : Nat) (c : Array Value) (t : TypeId) : Cellish (pt b c t) := fun h r hr ha => by
  unfold Go.Rt.pt at ha ⊢
  unfold Hp.but
  split
  · rename_i e
    subst e
    exact absurd (hr _ ha) (by simp [Obj.isCells])
  · exact ha
theorem Cellish.row (e : TypeId) (zc : List Value) (v : Value) (n : Nat) (xs : List Value) : Cellish (row e zc v n xs) := fun h r hr ha => by
  obtain ⟨hx, ha⟩ := ha
  refine ⟨hx, ?_⟩
  rcases ha with ha | ⟨g, cap, cur, hv, hg, rest⟩
  · exact .inl ha
  · exact .inr ⟨g, cap, cur, hv, Cellish.pt g cur e h r hr hg, rest⟩
theorem Cellish.new (e : TypeId) (zc : List Value) (v : Value) (n : Nat) (xs : List Value) : Cellish (newS e zc v n xs) := fun h r hr ha => by
  obtain ⟨hx, ha⟩ := ha
  refine ⟨hx, ?_⟩
  rcases ha with ha | ⟨g, cap, cur, hv, hg, rest⟩
  · exact .inl ha
  · exact .inr ⟨g, cap, cur, hv, Cellish.pt g cur e h r hr hg, rest⟩
theorem Cellish.own : ∀ (l : List SL), (∀ A ∈ l, Cellish A) → Cellish (Own l)
  | [], _ => fun _ _ _ _ => trivial
  | A :: l, hl => fun h r hr ho => by
    obtain ⟨a, b, hab, rfl, ha, hb⟩ := ho
    have ea : ∀ o, a r = some o → o.isCells = false := fun o e => hr o (by simp [Hp.join, e])
    have eb : ∀ o, b r = some o → o.isCells = false := fun o e => hr o (by rcases hab r with h | h <;> simp_all [Hp.join])
    refine ⟨a.but r, b.but r, fun k => ?_, ?_, hl A (by simp) a r ea ha, Cellish.own l (fun B hB => hl B (by simp [hB])) b r eb hb⟩
    · unfold Hp.but
      split
      · exact .inl rfl
      · exact hab k
    · funext k
      by_cases e1 : k = r <;> simp [Hp.but, Hp.join, e1]
section
variable {P : Program} {W w w' : World} {l : List SL} {e : TypeId} {zc : List Value} {v : Value} {n : Nat} {xs : List Value}
theorem Sat.turned (H : Sat W w l) (hl : ∀ A ∈ l, Cellish A) {row : Option Nat} (hg : w.grownBy w' row) (hr : ∀ r, row = some r → W.heap.size ≤ r ∧ ∃ o : Obj, w.heap[r]? = some o ∧ o.isCells = false) : Sat W w' l := by
  refine ⟨H.bel.grown hg H.bel.size fun k ek => (hr k ek).1, ?_⟩
  obtain ⟨h, ho, hh⟩ := H.has
  cases row with
  | none => exact ⟨h, ho, fun k o ek => ⟨(hh k o ek).1, by rw [hg.block k (Array.getElem?_eq_some_iff.1 (hh k o ek).2).1 (by simp)]; exact (hh k o ek).2⟩⟩
  | some r =>
    obtain ⟨_, o1, hr1, hr2⟩ := hr r rfl
    refine ⟨h.but r, Cellish.own l hl h r (fun o ek => ?_) ho, fun k o ek => ?_⟩
    · have := (hh r o ek).2
      rw [hr1] at this
      cases this
      exact hr2
    · unfold Hp.but at ek
      split at ek
      · cases ek
      · rename_i hne
        exact ⟨(hh k o ek).1, by rw [hg.block k (Array.getElem?_eq_some_iff.1 (hh k o ek).2).1 (by simpa using fun e => hne e)]; exact (hh k o ek).2⟩
/-- What the call owns is apart from what was owned ahead of it. -/
theorem Sat.joined {A : SL} (H : Sat W w l) (H2 : Sat w w' [A]) : Sat W w' (A :: l) := by
  obtain ⟨h, ⟨a, b, _, rfl, ha, _⟩, hh⟩ := H2.has
  exact H.add w' H2.bel ha fun k o ek => hh k o (by simp [Hp.join, ek])
theorem Sat.earlier {W0 : World} (H : Sat W w l) (hb : Below W0.heap.size W0 W) : Sat W0 w l := by
  obtain ⟨h, ho, hh⟩ := H.has
  exact ⟨hb.trans (H.bel.mono hb.size), h, ho, fun k o ek => ⟨Nat.le_trans hb.size (hh k o ek).1, (hh k o ek).2⟩⟩
theorem wpListIn_append_new {F : Fence} {m0 : Nat} {ops : Array Oper} {rest : List Oper} {o : Oper} {a : Act} {Q : Exit → Act → World → Prop} (hgd : o.guard = none) (s x : Operand) (t : TypeId)
    (ho : o.op = .call { callee := .builtin .append, args := #[s, x], argTypes := #[t, t] })
    (e : TypeId) (i : TypeInfo) (z : Value) (zc : List Value) (bytes : Nat) (ht : P.underlying t = some (.slice e)) (hi : P.info? e = some i) (hz : i.zero = some z) (hzc : z.cells = zc.toArray)
    (hsize : i.size = zc.length) (hby : i.bytes = bytes) (hpos : 0 < zc.length)
    (v : Value) (n : Nat) (xs : List Value) (hs : a.eval s = v) (H : Sat W w (newS e zc v n xs :: l))
    (A : Addr) (m c : Nat) (news : List Value) (hx : a.eval x = .slice (some A) m c) (hl : news.length = m * zc.length) (hr : Rd w (some A) news) (hc : ∀ j u, news[j]? = some u → w.cell? (A.add j) = some u) (h1 : ∀ u ∈ news, u.oneCell' = true)
    (h63 : n + m ≤ maxLen) (hbytes : (n + m) * bytes ≤ 140737488355328)
    (h : ∀ A' c' w', Sat W w' (newS e zc (.slice A' (n + m) c') (n + m) (xs ++ news) :: l) → KeepsOthers w w' → wpListIn F m0 P ops Q rest (a.put o.dst (.slice A' (n + m) c')) w') : wpListIn F m0 P ops Q (o :: rest) a w := by
  subst hby
  refine wpListIn_plain hgd fun K hK' => ?_
  obtain ⟨A', c', w', hrun, H'⟩ := run_append_new (P := P) t o.type e i z zc ht hi hz hzc hsize hpos v n xs H (some A) m c news hl hr h1 h63 hbytes
  obtain ⟨v2, w2, hrun2, _, hg, _⟩ := run_append_own (P := P) w W.heap.size t o.type e i z zc.length i.bytes ht hi hz hsize rfl (by rw [hzc]; simp) hpos v n xs H.new_owns A m c news hl hc h1 h63 hbytes H.bel.size
  rw [hrun] at hrun2
  cases hrun2
  have hko : KeepsOthers w w' := KeepsOthers.of_grownBy hg fun j o1 hj ho1 => by
    rcases H.new_owns.2 with ⟨hv, _⟩ | ⟨g, cap, cur, hv, _, hgb, _⟩
    · rw [hv] at hj; cases hj
    · rw [hv] at hj
      have : g = j := by simpa [Value.ownBlock] using hj
      subst this
      rw [hgb] at ho1; cases ho1; rfl
  unfold Oper.wpIn
  refine ⟨?_, ?_⟩
  · simp [Oper.about, ho, resolve, Target.leads, Sem.run_pure]
  · rw [Oper.semAt_plain F _ _ (by rw [ho]; intro c hc'; cases hc')]
    simp [execOp, ho, resolve, invoke, builtin, hs, hx, hrun, Result.andThen]
    exact hK' _ _ (h A' c' w' H' hko)
/-- A slice of texts behind the sort. -/
theorem Sat.new_sorted {g n c k : Nat} {os : Array Obj} {ss ts : List (List UInt8)} (H : Sat W w (seenS e (.slice (some ⟨g, 0, none⟩) n c) n (ss.map encStr) :: l)) (hl : ts.length = ss.length) :
    Sat W (grow (putRow encStr (Sort.ahead w k) g 0 ts.toArray) os) (seenS e (.slice (some ⟨g, 0, none⟩) n c) n (ts.map encStr) :: l) := by
  obtain ⟨hx, hh⟩ := H.new_owns
  simp only [List.length_cons, List.length_nil, Nat.zero_add, Nat.mul_one, List.length_map] at hx hh
  have hgb := grownBy_sorted (w := w) (g := g) (n := k) (os := os) ts.toArray
  have hge : W.heap.size ≤ g := by
    rcases hh with ⟨hv, _⟩ | ⟨g', _, _, hv, hge, _⟩
    · cases hv
    · cases hv; exact hge
  refine H.put (H.bel.grown hgb H.bel.size fun j ej => by cases ej; exact hge) fun a ha hown => ?_
  obtain ⟨_, ha⟩ := ha
  simp only [List.length_cons, List.length_nil, Nat.zero_add, Nat.mul_one] at ha
  rcases ha with ⟨hv, _⟩ | ⟨g', cap, cur, hv, hg, h1, h2, h3, h4, h5⟩
  · cases hv
  · cases hv
    have hw := (hown g _ hg).1
    refine ⟨fun j => if j = g then some (.cells (putCells encStr 0 ts.toArray cur) e (0, 0)) else none, ⟨by simp [hl, hx], .inr ⟨g, c, putCells encStr 0 ts.toArray cur, rfl, by simp, h1, h2, by simp only [List.length_cons, List.length_nil, Nat.zero_add, Nat.mul_one]; simp [putCells, h3], ?_, ?_⟩⟩, fun j hj => ?_, fun j o ej => ?_, fun j hj hj2 => ?_⟩
    · simp only [List.length_cons, List.length_nil, Nat.zero_add, Nat.mul_one]
      rw [← hx, ← hl]
      exact take_putCells cur ts (by omega)
    · simp only [List.length_cons, List.length_nil, Nat.zero_add, Nat.mul_one]
      have e8 : (putCells encStr 0 ts.toArray cur).toList.drop n = cur.toList.drop n := by
        apply List.ext_getElem?
        intro j
        rw [List.getElem?_drop, List.getElem?_drop, Array.getElem?_toList, Array.getElem?_toList]
        simp [putCells, show ¬ n + j < ts.length by omega]
      rw [e8]
      exact h5
    · by_cases e1 : j = g
      · subst e1; left; rw [hg]; simp
      · simp [e1] at hj
    · by_cases e1 : j = g
      · subst e1
        simp at ej
        subst ej
        exact ⟨hge, heap_sorted _ hw⟩
      · simp [e1] at ej
    · exact hgb.block j hj2 (by intro e1; cases e1; rw [hg] at hj; cases hj)
end
end Go.Rt
