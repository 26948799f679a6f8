/- MkA, in one text: Rt, WdA, WdB, WdC, RtB, WdD, WdP, WdE, WeQ, WdF, WdG, RtC. -/
import Derived.WalkKit
import Derived.Maps.AppendAt
import Derived.Lib.AppendStr
import Derived.Lib.ConvBytes
import Derived.Lib.Hide
import Derived.Deep.Draws
import Derived.Test.YtflcmhmbmippfaaProg
import Derived.WalkLawsBesides
import Derived.WalkSpells
import Derived.BigQuiet
import Derived.Deep.QuietTactic
import Derived.Deep.LoopGhost
import Derived.Deep.DeepFit
import Derived.Deep.RegionLaw
import Derived.Laws.BytesArg
import Derived.Lib.Strings
import Derived.Deep.RegionHeld3
import Derived.WideLaws
/- What a call owns, as a list of things that lie apart: a small separation logic over the model's worlds. No program in sight. -/
namespace Go.Rt
open Go.RowKit

/-- A part of the memory. -/
abbrev Hp := Nat → Option Obj
/-- What holds of a part of the memory. -/
abbrev SL := Hp → Prop
def Hp.apart (a b : Hp) : Prop := ∀ k, a k = none ∨ b k = none
def Hp.join (a b : Hp) : Hp := fun k => (a k).or (b k)

/-- The things of a list lie apart from each other in a part of the memory. -/
def Own : List SL → SL
  | [] => fun _ => True
  | A :: l => fun h => ∃ a b, Hp.apart a b ∧ h = Hp.join a b ∧ A a ∧ Own l b

/-- W: the world when the outermost call began; w: now: what was there is as it was, and the things of l lie apart from each other in what is new. -/
structure Sat (W w : World) (l : List SL) : Prop where
  bel : Below W.heap.size W w
  has : ∃ h : Hp, Own l h ∧ ∀ k o, h k = some o → W.heap.size ≤ k ∧ w.heap[k]? = some o

/-- A block of cells, none of them frozen. -/
def pt (b : Nat) (c : Array Value) (t : TypeId) : SL := fun h => h b = some (.cells c t (0, 0))
/-- A thing with a fact beside it. -/
def both (p : Prop) (A : SL) : SL := fun h => p ∧ A h
def ex {α : Type} (A : α → SL) : SL := fun h => ∃ x, A x h
def sep (A B : SL) : SL := fun h => ∃ a b, Hp.apart a b ∧ h = Hp.join a b ∧ A a ∧ B b

theorem join_left {a b : Hp} {k : Nat} {o : Obj} (h : a k = some o) : Hp.join a b k = some o := by simp [Hp.join, h]
theorem join_right {a b : Hp} (d : Hp.apart a b) {k : Nat} {o : Obj} (h : b k = some o) : Hp.join a b k = some o := by
  rcases d k with h1 | h1
  · simp [Hp.join, h1, h]
  · rw [h1] at h; cases h
theorem join_cases {a b : Hp} {k : Nat} {o : Obj} (h : Hp.join a b k = some o) : a k = some o ∨ b k = some o := by
  unfold Hp.join at h
  cases ha : a k with
  | none => rw [ha] at h; exact .inr (by simpa using h)
  | some x => rw [ha] at h; exact .inl (by simpa using h)

theorem Own.swap {A B : SL} {l : List SL} {h : Hp} (H : Own (A :: B :: l) h) : Own (B :: A :: l) h := by
  obtain ⟨a, r, d, rfl, ha, b, c, d2, rfl, hb, hc⟩ := H
  have dab : ∀ k, a k = none ∨ b k = none := fun k => by
    rcases d k with e | e
    · exact .inl e
    · right; cases hbk : b k with
      | none => rfl
      | some x => rw [join_left hbk] at e; cases e
  have dac : ∀ k, a k = none ∨ c k = none := fun k => by
    rcases d k with e | e
    · exact .inl e
    · right; cases hck : c k with
      | none => rfl
      | some x => rw [join_right d2 hck] at e; cases e
  refine ⟨b, Hp.join a c, fun k => ?_, ?_, hb, a, c, dac, rfl, ha, hc⟩
  · cases hbk : b k with
    | none => exact .inl rfl
    | some x =>
      right
      have h1 : a k = none := by rcases dab k with e | e; exact e; rw [hbk] at e; cases e
      have h2 : c k = none := by rcases d2 k with e | e; rw [hbk] at e; cases e; exact e
      simp [Hp.join, h1, h2]
  · funext k
    rcases dab k with e | e <;> simp [Hp.join, e]

theorem Own.cons_mono {A : SL} {l l' : List SL} (hl : ∀ h, Own l h → Own l' h) {h : Hp} (H : Own (A :: l) h) : Own (A :: l') h :=
  let ⟨a, b, d, e, ha, hb⟩ := H; ⟨a, b, d, e, ha, hl b hb⟩

theorem Own.head_mono {A B : SL} {l : List SL} (hl : ∀ h, A h → B h) {h : Hp} (H : Own (A :: l) h) : Own (B :: l) h :=
  let ⟨a, b, d, e, ha, hb⟩ := H; ⟨a, b, d, e, hl a ha, hb⟩

/-- The i-th thing of a list is brought to the head. -/
def pull : Nat → List SL → List SL
  | 0, l => l
  | _ + 1, [] => []
  | i + 1, A :: l => match pull i l with
    | [] => [A]
    | B :: r => B :: A :: r

theorem Own.pull : ∀ (i : Nat) (l : List SL) (h : Hp), Own l h → Own (Go.Rt.pull i l) h
  | 0, _, _, H => H
  | _ + 1, [], _, H => H
  | i + 1, A :: l, h, H => by
    have H1 : Own (A :: Go.Rt.pull i l) h := Own.cons_mono (Own.pull i l) H
    show Own (match Go.Rt.pull i l with | [] => [A] | B :: r => B :: A :: r) h
    cases hp : Go.Rt.pull i l with
    | nil => rw [hp] at H1; exact H1
    | cons B r => rw [hp] at H1; exact Own.swap H1

theorem Own.perm {l l' : List SL} (p : l.Perm l') : ∀ h, Own l h → Own l' h := by
  induction p with
  | nil => exact fun _ H => H
  | cons x _ ih => exact fun _ H => Own.cons_mono ih H
  | swap x y l => exact fun _ H => Own.swap H
  | trans _ _ i1 i2 => exact fun h H => i2 h (i1 h H)

theorem Own.sep {A B : SL} {l : List SL} {h : Hp} (H : Own (Go.Rt.sep A B :: l) h) : Own (A :: B :: l) h := by
  obtain ⟨r, c, d, rfl, ⟨a, b, d2, rfl, ha, hb⟩, hc⟩ := H
  refine ⟨a, Hp.join b c, fun k => ?_, ?_, ha, b, c, fun k => ?_, rfl, hb, hc⟩
  · cases hak : a k with
    | none => exact .inl rfl
    | some x =>
      right
      have h1 : b k = none := by rcases d2 k with e | e; rw [hak] at e; cases e; exact e
      have h2 : c k = none := by rcases d k with e | e; rw [join_left hak] at e; cases e; exact e
      simp [Hp.join, h1, h2]
  · funext k; simp only [Hp.join]; cases a k <;> rfl
  · cases hbk : b k with
    | none => exact .inl rfl
    | some x => right; rcases d k with e | e; rw [join_right d2 hbk] at e; cases e; exact e

theorem Own.unsep {A B : SL} {l : List SL} {h : Hp} (H : Own (A :: B :: l) h) : Own (Go.Rt.sep A B :: l) h := by
  obtain ⟨a, r, d, rfl, ha, b, c, d2, rfl, hb, hc⟩ := H
  have dac : ∀ k, a k = none ∨ c k = none := fun k => by
    rcases d k with e | e
    · exact .inl e
    · right; cases hck : c k with
      | none => rfl
      | some x => rw [join_right d2 hck] at e; cases e
  have dab : ∀ k, a k = none ∨ b k = none := fun k => by
    rcases d k with e | e
    · exact .inl e
    · right; cases hbk : b k with
      | none => rfl
      | some x => rw [join_left hbk] at e; cases e
  refine ⟨Hp.join a b, c, fun k => ?_, ?_, ⟨a, b, dab, rfl, ha, hb⟩, hc⟩
  · cases hck : c k with
    | none => exact .inr rfl
    | some x =>
      left
      have h1 : a k = none := by rcases dac k with e | e; exact e; rw [hck] at e; cases e
      have h2 : b k = none := by rcases d2 k with e | e; exact e; rw [hck] at e; cases e
      simp [Hp.join, h1, h2]
  · funext k; simp only [Hp.join]; cases a k <;> rfl

section
variable {W w : World} {l : List SL} {A B : SL}

theorem Sat.start (W : World) : Sat W W [] := ⟨Below.refl _ _, fun _ => none, trivial, fun _ _ h => by cases h⟩
theorem Sat.own {l' : List SL} (H : Sat W w l) (f : ∀ h, Own l h → Own l' h) : Sat W w l' := let ⟨h, ho, hh⟩ := H.has; ⟨H.bel, h, f h ho, hh⟩
theorem Sat.swap (H : Sat W w (A :: B :: l)) : Sat W w (B :: A :: l) := H.own fun _ => Own.swap
theorem Sat.pull (H : Sat W w l) (i : Nat) : Sat W w (Go.Rt.pull i l) := H.own (Own.pull i l)
theorem Sat.perm {l' : List SL} (H : Sat W w l) (p : l.Perm l') : Sat W w l' := H.own (Own.perm p)
/-- The head is put behind the things of X. -/
theorem Sat.sink (X : List SL) (H : Sat W w (A :: (X ++ l))) : Sat W w (X ++ A :: l) := H.perm (List.perm_middle (l₁ := X)).symm
theorem Sat.sep (H : Sat W w (Go.Rt.sep A B :: l)) : Sat W w (A :: B :: l) := H.own fun _ => Own.sep
theorem Sat.unsep (H : Sat W w (A :: B :: l)) : Sat W w (Go.Rt.sep A B :: l) := H.own fun _ => Own.unsep
theorem Sat.head (H : Sat W w (A :: l)) (f : ∀ h, A h → B h) : Sat W w (B :: l) := H.own fun _ => Own.head_mono f
theorem Sat.tail (H : Sat W w (A :: l)) : Sat W w l := by
  obtain ⟨hb, h, ⟨a, b, d, rfl, ha, hl⟩, hh⟩ := H
  exact ⟨hb, b, hl, fun k o e => hh k o (join_right d e)⟩
theorem Sat.cons_mono {l' : List SL} (H : Sat W w (A :: l)) (f : ∀ h, Own l h → Own l' h) : Sat W w (A :: l') := H.own fun _ => Own.cons_mono f
theorem Sat.ex {α : Type} {A : α → SL} (H : Sat W w (Go.Rt.ex A :: l)) : ∃ x, Sat W w (A x :: l) := by
  obtain ⟨hb, h, ⟨a, b, d, e, ⟨x, ha⟩, hl⟩, hh⟩ := H
  exact ⟨x, hb, h, ⟨a, b, d, e, ha, hl⟩, hh⟩
theorem Sat.unex {α : Type} {A : α → SL} (x : α) (H : Sat W w (A x :: l)) : Sat W w (Go.Rt.ex A :: l) := H.head fun _ h => ⟨x, h⟩
theorem Sat.both {p : Prop} (H : Sat W w (Go.Rt.both p A :: l)) : p ∧ Sat W w (A :: l) := by
  obtain ⟨hb, h, ⟨a, b, d, e, ⟨hp, ha⟩, hl⟩, hh⟩ := H
  exact ⟨hp, hb, h, ⟨a, b, d, e, ha, hl⟩, hh⟩
theorem Sat.unboth {p : Prop} (hp : p) (H : Sat W w (A :: l)) : Sat W w (Go.Rt.both p A :: l) := H.head fun _ h => ⟨hp, h⟩

/-- Whatever keeps the blocks that are owned, and what was there at the beginning, keeps all. -/
theorem Sat.kept {w' : World} (H : Sat W w l) (hb : Below W.heap.size W w') (hk : ∀ k o, w.heap[k]? = some o → W.heap.size ≤ k → w'.heap[k]? = some o) : Sat W w' l := by
  obtain ⟨_, h, ho, hh⟩ := H
  exact ⟨hb, h, ho, fun k o e => let ⟨h1, h2⟩ := hh k o e; ⟨h1, hk k o h2 h1⟩⟩
theorem Sat.drew (H : Sat W w l) : Sat W w.drew l := H.kept H.bel.drew fun _ _ h _ => h
theorem Sat.drewN (H : Sat W w l) (n : Nat) : Sat W (w.drewN n) l := H.kept ⟨H.bel.os, H.bel.tape, H.bel.output, H.bel.size, H.bel.block⟩ fun _ _ h _ => h
theorem Sat.below {w' : World} (H : Sat W w l) (hb : Below w.heap.size w w') : Sat W w' l :=
  H.kept (H.bel.trans (hb.mono H.bel.size)) fun k o h _ => by
    rw [hb.block k (Array.getElem?_eq_some_iff.1 h).1]; exact h

theorem Sat.alloc' (H : Sat W w l) (o : Obj) : Sat W (w.alloc o) l := H.below ((Below.refl _ _).alloc (Nat.le_refl _) o)

theorem heap_new (w : World) (o : Obj) : (w.alloc o).heap[w.heap.size]? = some o := by
  show (w.heap.push o)[w.heap.size]? = _
  simp

theorem Sat.add {A : SL} {a : Hp} (H : Sat W w l) (w' : World) (hb : Below w.heap.size w w') (ha : A a) (hn : ∀ k o, a k = some o → w.heap.size ≤ k ∧ w'.heap[k]? = some o) : Sat W w' (A :: l) := by
  obtain ⟨hb0, h, ho, hh⟩ := H
  refine ⟨hb0.trans (hb.mono hb0.size), Hp.join a h, ⟨a, h, fun k => ?_, rfl, ha, ho⟩, fun k o e => ?_⟩
  · cases hak : a k with
    | none => exact .inl rfl
    | some x =>
      right
      cases hhk : h k with
      | none => rfl
      | some y =>
        have h1 := (hn k x hak).1
        have h2 := (Array.getElem?_eq_some_iff.1 (hh k y hhk).2).1
        omega
  · rcases join_cases e with e | e
    · have := hn k o e
      exact ⟨Nat.le_trans hb0.size this.1, this.2⟩
    · have h2 := (hh k o e).2
      refine ⟨(hh k o e).1, ?_⟩
      rw [hb.block k (Array.getElem?_eq_some_iff.1 h2).1]; exact h2

theorem Sat.alloc (H : Sat W w l) (c : Array Value) (t : TypeId) : Sat W (w.alloc (.cells c t)) (pt w.heap.size c t :: l) := by
  refine H.add (a := fun k => if k = w.heap.size then some (.cells c t (0, 0)) else none) _ ((Below.refl _ _).alloc (Nat.le_refl _) _) (by simp [pt]) fun k o e => ?_
  by_cases hk : k = w.heap.size
  · subst hk
    simp at e
    subst e
    exact ⟨Nat.le_refl _, heap_new w _⟩
  · simp [hk] at e

theorem Sat.heap {b : Nat} {c : Array Value} {t : TypeId} (H : Sat W w (pt b c t :: l)) : w.heap[b]? = some (.cells c t (0, 0)) := by
  obtain ⟨_, h, ⟨a, r, d, rfl, ha, _⟩, hh⟩ := H
  exact (hh b _ (join_left ha)).2
theorem Sat.ge {b : Nat} {c : Array Value} {t : TypeId} (H : Sat W w (pt b c t :: l)) : W.heap.size ≤ b := by
  obtain ⟨_, h, ⟨a, r, d, rfl, ha, _⟩, hh⟩ := H
  exact (hh b _ (join_left ha)).1
theorem Sat.lt {b : Nat} {c : Array Value} {t : TypeId} (H : Sat W w (pt b c t :: l)) : b < w.heap.size := (Array.getElem?_eq_some_iff.1 H.heap).1
theorem Sat.cell {b : Nat} {c : Array Value} {t : TypeId} (H : Sat W w (pt b c t :: l)) (i : Nat) : w.cell? ⟨b, i, none⟩ = c[i]? := by simp [World.cell?, H.heap]
theorem Sat.frz {b : Nat} {c : Array Value} {t : TypeId} (H : Sat W w (pt b c t :: l)) (i : Nat) : w.frozen? ⟨b, i, none⟩ = false := by simp [World.frozen?, H.heap]
theorem Sat.ne {b b' : Nat} {c c' : Array Value} {t t' : TypeId} (H : Sat W w (pt b c t :: pt b' c' t' :: l)) : b ≠ b' := by
  obtain ⟨_, h, ⟨a, r, d, rfl, ha, a', r', d', rfl, ha', _⟩, hh⟩ := H
  rintro rfl
  rcases d b with e | e
  · have ha1 : a b = some (.cells c t (0, 0)) := ha
    rw [ha1] at e; cases e
  · have ha1 : a' b = some (.cells c' t' (0, 0)) := ha'
    rw [join_left ha1] at e; cases e

/-- A part of what is owned is written. -/
theorem Sat.put {A B : SL} {w' : World} (H : Sat W w (A :: l)) (hb : Below W.heap.size W w')
    (f : ∀ a, A a → (∀ k o, a k = some o → w.heap[k]? = some o ∧ W.heap.size ≤ k) →
      ∃ b, B b ∧ (∀ k, b k ≠ none → a k ≠ none ∨ w.heap.size ≤ k) ∧ (∀ k o, b k = some o → W.heap.size ≤ k ∧ w'.heap[k]? = some o) ∧ ∀ k, a k = none → k < w.heap.size → w'.heap[k]? = w.heap[k]?) : Sat W w' (B :: l) := by
  obtain ⟨hb0, h, ⟨a, r, d, rfl, ha, hl⟩, hh⟩ := H
  obtain ⟨b, hB, hs, hn, hk⟩ := f a ha fun k o e => let ⟨h1, h2⟩ := hh k o (join_left e); ⟨h2, h1⟩
  refine ⟨hb, Hp.join b r, ⟨b, r, fun k => ?_, rfl, hB, hl⟩, fun k o e => ?_⟩
  · cases hbk : b k with
    | none => exact .inl rfl
    | some x =>
      right
      rcases hs k (by simp [hbk]) with e | e
      · rcases d k with e' | e'
        · exact absurd e' e
        · exact e'
      · cases hrk : r k with
        | none => rfl
        | some y =>
          have := (Array.getElem?_eq_some_iff.1 (hh k y (join_right d hrk)).2).1
          omega
  · rcases join_cases e with e | e
    · exact hn k o e
    · have h2 := hh k o (join_right d e)
      have hak : a k = none := by
        rcases d k with e' | e'
        · exact e'
        · rw [e] at e'; cases e'
      exact ⟨h2.1, by rw [hk k hak (Array.getElem?_eq_some_iff.1 h2.2).1]; exact h2.2⟩

theorem Sat.setCell {b : Nat} {c : Array Value} {t : TypeId} (H : Sat W w (pt b c t :: l)) (i : Nat) (v : Value) : Sat W (w.setCell ⟨b, i, none⟩ v) (pt b (c.setIfInBounds i v) t :: l) := by
  refine H.put (H.bel.setCell H.ge v) fun a ha hh => ⟨fun k => if k = b then some (.cells (c.setIfInBounds i v) t (0, 0)) else none, by simp [pt], fun k hk => ?_, fun k o e => ?_, fun k hk _ => ?_⟩
  · by_cases e : k = b
    · subst e; left; have : a k = _ := ha; rw [this]; simp
    · simp [e] at hk
  · by_cases e1 : k = b
    · subst e1
      simp at e
      subst e
      have h1 := hh k _ ha
      refine ⟨h1.2, ?_⟩
      simp [World.setCell, Array.getElem?_modify, h1.1]
    · simp [e1] at e
  · have : k ≠ b := by rintro rfl; have : a k = _ := ha; rw [this] at hk; cases hk
    exact Below.heap_setCell w _ v k this

end

/-- Two cells of one kind. -/
def like : Value → Value → Bool
  | .int k _, .int k' _ => k == k'
  | .string _, .string _ => true
  | .bool _, .bool _ => true
  | .slice .., .slice .. => true
  | .pointer _, .pointer _ => true
  | .map _, .map _ => true
  | _, _ => false

/-- Cells of a row whose element has the zero cells zc: each of its kind. -/
def Typed (zc : List Value) (cs : List Value) : Prop := ∀ j u, cs[j]? = some u → like u (zc.getD (j % zc.length) undef) = true

/-- Zero cells that can be told apart from others. -/
def LikeZ (zc : List Value) : Prop := ∀ (j : Nat) (u : Value), zc[j]? = some u → like u u = true

theorem Typed.nil (zc : List Value) : Typed zc [] := fun j u h => by simp at h
theorem Typed.append {zc a b : List Value} (ha : Typed zc a) (hb : Typed zc b) (hl : a.length % zc.length = 0) : Typed zc (a ++ b) := fun j u h => by
  rw [List.getElem?_append] at h
  split at h
  · exact ha j u h
  · rename_i hj
    have h1 := hb _ u h
    have e : (j - a.length) % zc.length = j % zc.length := by
      have := Nat.add_mod (j - a.length) a.length zc.length
      rw [Nat.sub_add_cancel (by omega), hl, Nat.add_zero, Nat.mod_mod] at this
      exact this.symm
    rwa [e] at h1
theorem Typed.take {zc a : List Value} (ha : Typed zc a) (k : Nat) : Typed zc (a.take k) := fun j u h => by
  rw [List.getElem?_take] at h
  split at h
  · exact ha j u h
  · cases h
theorem Typed.drop {zc a : List Value} (ha : Typed zc a) (k : Nat) (hk : k % zc.length = 0) : Typed zc (a.drop k) := fun j u h => by
  rw [List.getElem?_drop] at h
  have h1 := ha _ u h
  have e : (k + j) % zc.length = j % zc.length := by rw [Nat.add_mod, hk, Nat.zero_add, Nat.mod_mod]
  rwa [e] at h1
theorem Typed.set {zc a : List Value} (ha : Typed zc a) (k : Nat) (v : Value) (hv : like v (zc.getD (k % zc.length) undef) = true) : Typed zc (a.set k v) := fun j u h => by
  rw [List.getElem?_set] at h
  split at h
  · rename_i e; subst e
    split at h
    · cases h; exact hv
    · cases h
  · exact ha j u h
theorem Typed.zeros {zc : List Value} (hz : LikeZ zc) (n : Nat) : Typed zc (Builtin.zeroCells zc.toArray n).toList := fun j u h => by
  unfold Builtin.zeroCells at h
  simp only [Array.toList_map, Array.toList_range, List.getElem?_map, List.size_toArray] at h
  cases hr : (List.range (n * zc.length))[j]? with
  | none => rw [hr] at h; cases h
  | some i =>
    rw [hr] at h
    have hi : i = j := by
      have := List.getElem?_eq_some_iff.1 hr
      obtain ⟨h1, h2⟩ := this
      simpa using h2.symm
    subst hi
    simp only [Option.map_some, Option.some.injEq] at h
    have hlt : i < n * zc.length := by
      obtain ⟨h1, _⟩ := List.getElem?_eq_some_iff.1 hr
      simpa using h1
    have hpos : 0 < zc.length := by
      rcases Nat.eq_zero_or_pos zc.length with h0 | h0
      · rw [h0] at hlt; omega
      · exact h0
    have hm : i % zc.length < zc.length := Nat.mod_lt _ hpos
    have e1 : zc.toArray[i % zc.length]! = zc[i % zc.length] := by simp [hm]
    rw [e1] at h
    have e2 : zc.getD (i % zc.length) undef = zc[i % zc.length] := by simp [List.getD, hm]
    rw [e2, ← h]
    exact hz (i % zc.length) _ (List.getElem?_eq_getElem hm)

/-- A row that the call owns alone: its slice value, what it holds (cells), whatever spare room; zc: the zero cells of its element's type. -/
def row (e : TypeId) (zc : List Value) (v : Value) (n : Nat) (xs : List Value) : SL := fun h =>
  xs.length = n * zc.length ∧
  ((v = .slice none 0 0 ∧ n = 0) ∨
   ∃ g cap cur, v = .slice (some ⟨g, 0, none⟩) n cap ∧ h g = some (.cells cur e (0, 0)) ∧ n ≤ cap ∧ cap ≤ maxLen ∧ cur.size = cap * zc.length ∧ cur.toList.take (n * zc.length) = xs ∧ Typed zc cur.toList)

section
variable {W w : World} {l : List SL}
theorem row_nil (e : TypeId) (zc : List Value) (h : Hp) : row e zc (.slice none 0 0) 0 [] h := ⟨by simp, .inl ⟨rfl, rfl⟩⟩
theorem Sat.nil (H : Sat W w l) (e : TypeId) (zc : List Value) : Sat W w (row e zc (.slice none 0 0) 0 [] :: l) :=
  H.add (a := fun _ => none) w (Below.refl _ _) (row_nil e zc _) fun _ _ h => by cases h

variable {e : TypeId} {zc : List Value} {n : Nat} {v : Value} {xs : List Value}
theorem Sat.owns (H : Sat W w (row e zc v n xs :: l)) : w.ownsRow W.heap.size e zc.length v n xs := by
  obtain ⟨_, h, ⟨a, r, d, rfl, ⟨hx, ha⟩, _⟩, hh⟩ := H
  refine ⟨hx, ?_⟩
  rcases ha with ha | ⟨g, cap, cur, hv, hg, h1, h2, h3, h4, _⟩
  · exact .inl ha
  · have := hh g _ (join_left hg)
    exact .inr ⟨g, cap, cur, hv, this.1, this.2, h1, h2, h3, h4⟩

/-- A row that is made whole: the world has one block more. -/
theorem Sat.made (H : Sat W w l) (cur : Array Value) (e : TypeId) (zc : List Value) (n cap : Nat) (h1 : n ≤ cap) (h2 : cap ≤ maxLen) (h3 : cur.size = cap * zc.length) (ht : Typed zc cur.toList) :
    Sat W (w.alloc (.cells cur e)) (row e zc (.slice (some ⟨w.heap.size, 0, none⟩) n cap) n (cur.toList.take (n * zc.length)) :: l) := by
  refine (H.alloc cur e).head fun h hh => ⟨?_, .inr ⟨w.heap.size, cap, cur, rfl, hh, h1, h2, h3, rfl, ht⟩⟩
  have hcl : cur.toList.length = cap * zc.length := by simpa using h3
  rw [List.length_take, hcl]
  exact Nat.min_eq_left (Nat.mul_le_mul_right _ h1)

/-- The row's block is written whole. -/
theorem Sat.setRow {g c : Nat} (H : Sat W w (row e zc (.slice (some ⟨g, 0, none⟩) n c) n xs :: l)) (cur : Array Value) (n' : Nat) (hn : n' ≤ c) (hs : cur.size = c * zc.length) (ht : Typed zc cur.toList) :
    Sat W (w.setRow g cur) (row e zc (.slice (some ⟨g, 0, none⟩) n' c) n' (cur.toList.take (n' * zc.length)) :: l) := by
  have hge : W.heap.size ≤ g := (H.owns.lt g rfl).1
  have hb : Below W.heap.size W (w.setRow g cur) := H.bel.trans ⟨rfl, rfl, rfl, by simp, fun k hk => setRow_other w g k _ (by omega)⟩
  refine H.put hb fun a ⟨hx, ha⟩ hh => ?_
  rcases ha with ⟨hv, _⟩ | ⟨g', cap, cur0, hv, hg, h1, h2, h3, h4, h5⟩
  · cases hv
  · cases hv
    have hw := (hh g _ hg).1
    refine ⟨fun k => if k = g then some (.cells cur e (0, 0)) else none, ⟨?_, .inr ⟨g, c, cur, rfl, by simp, hn, h2, hs, rfl, ht⟩⟩, fun k hk => ?_, fun k o ek => ?_, fun k hk _ => ?_⟩
    · have hcl : cur.toList.length = c * zc.length := by simpa using hs
      rw [List.length_take, hcl]
      exact Nat.min_eq_left (Nat.mul_le_mul_right _ hn)
    · by_cases e1 : k = g
      · subst e1; left; rw [hg]; simp
      · simp [e1] at hk
    · by_cases e1 : k = g
      · subst e1
        simp at ek
        subst ek
        exact ⟨hge, setRow_heap w k _ cur e _ hw⟩
      · simp [e1] at ek
    · exact setRow_other w g k cur (by rintro rfl; rw [hg] at hk; cases hk)

/-- The slice value of a row, written out. -/
theorem Sat.slice (H : Sat W w (row e zc v n xs :: l)) :
    xs.length = n * zc.length ∧ ∃ A c, v = .slice A n c ∧ n ≤ c ∧ c ≤ maxLen ∧ (A = none → c = 0 ∧ n = 0) ∧ ∀ a, A = some a → a.off = 0 ∧ a.spot = none ∧ W.heap.size ≤ a.block ∧ a.block < w.heap.size := by
  obtain ⟨hx, h⟩ := H.owns
  rcases h with ⟨rfl, rfl⟩ | ⟨g, cap, cur, rfl, hge, hg, h1, h2, h3, h4⟩
  · exact ⟨hx, none, 0, rfl, Nat.le_refl _, by simp [maxLen], fun _ => ⟨rfl, rfl⟩, nofun⟩
  · exact ⟨hx, _, cap, rfl, h1, h2, nofun, fun a h => by cases h; exact ⟨rfl, rfl, hge, (Array.getElem?_eq_some_iff.1 hg).1⟩⟩

variable {c : Nat} {A : Option Addr}
theorem Sat.row_some (H : Sat W w (row e zc (.slice A n c) n xs :: l)) (hn : 0 < n) : ∃ g, A = some ⟨g, 0, none⟩ := by
  obtain ⟨_, h⟩ := H.owns
  rcases h with ⟨hv, h0⟩ | ⟨g, cap, cur, hv, _⟩
  · omega
  · cases hv; exact ⟨g, rfl⟩
theorem Sat.row_blk {g : Nat} (H : Sat W w (row e zc (.slice (some ⟨g, 0, none⟩) n c) n xs :: l)) :
    ∃ cur, w.heap[g]? = some (.cells cur e (0, 0)) ∧ n ≤ c ∧ c ≤ maxLen ∧ cur.size = c * zc.length ∧ cur.toList.take (n * zc.length) = xs ∧ Typed zc cur.toList := by
  obtain ⟨_, h, ⟨a, r, d, rfl, ⟨hx, ha⟩, _⟩, hh⟩ := H
  rcases ha with ⟨hv, h0⟩ | ⟨g', cap, cur, hv, h1, h2, h3, h4, h5, h6⟩
  · cases hv
  · cases hv; exact ⟨cur, (hh g _ (join_left h1)).2, h2, h3, h4, h5, h6⟩
theorem Sat.row_lt {g : Nat} (H : Sat W w (row e zc (.slice (some ⟨g, 0, none⟩) n c) n xs :: l)) : g < w.heap.size := by
  obtain ⟨cur, h, _⟩ := H.row_blk; exact (Array.getElem?_eq_some_iff.1 h).1
theorem Sat.row_ge {g : Nat} (H : Sat W w (row e zc (.slice (some ⟨g, 0, none⟩) n c) n xs :: l)) : W.heap.size ≤ g := (H.owns.lt g rfl).1
theorem Sat.row_frz {g : Nat} (H : Sat W w (row e zc (.slice (some ⟨g, 0, none⟩) n c) n xs :: l)) (j : Nat) : w.frozen? ⟨g, j, none⟩ = false := by
  obtain ⟨cur, h, _⟩ := H.row_blk
  simp [World.frozen?, h]
theorem Sat.row_at {g : Nat} (H : Sat W w (row e zc (.slice (some ⟨g, 0, none⟩) n c) n xs :: l)) (j : Nat) (hj : j < c * zc.length) : ∃ u, w.cell? ⟨g, j, none⟩ = some u ∧ like u (zc.getD (j % zc.length) undef) = true := by
  obtain ⟨cur, h, h1, h2, h3, h4, h5⟩ := H.row_blk
  have hj' : j < cur.size := by omega
  refine ⟨cur[j], by simp [World.cell?, h, hj'], h5 j _ (by simp [hj'])⟩
theorem Sat.row_set {g : Nat} (H : Sat W w (row e zc (.slice (some ⟨g, 0, none⟩) n c) n xs :: l)) (j : Nat) (u : Value) (hu : like u (zc.getD (j % zc.length) undef) = true) :
    Sat W (w.setCell ⟨g, j, none⟩ u) (row e zc (.slice (some ⟨g, 0, none⟩) n c) n (xs.set j u) :: l) := by
  refine H.put (H.bel.setCell H.row_ge u) fun a ⟨hx, ha⟩ hh => ?_
  rcases ha with ⟨hv, _⟩ | ⟨g', cap, cur, hv, hg, h1, h2, h3, h4, h5⟩
  · cases hv
  · cases hv
    refine ⟨fun k => if k = g then some (.cells (cur.setIfInBounds j u) e (0, 0)) else none, ⟨by rw [List.length_set]; exact hx, .inr ⟨g, c, cur.setIfInBounds j u, rfl, by simp, h1, h2, by simpa using h3, ?_, ?_⟩⟩, fun k hk => ?_, fun k o ek => ?_, fun k hk _ => ?_⟩
    · rw [Array.toList_setIfInBounds, ← h4, List.take_set]
    · rw [Array.toList_setIfInBounds]; exact h5.set j u hu
    · by_cases e1 : k = g
      · subst e1; left; rw [hg]; simp
      · simp [e1] at hk
    · by_cases e1 : k = g
      · subst e1
        simp at ek
        subst ek
        have h5 := hh k _ hg
        exact ⟨h5.2, by simp [World.setCell, Array.getElem?_modify, h5.1]⟩
      · simp [e1] at ek
    · have : k ≠ g := by rintro rfl; rw [hg] at hk; cases hk
      exact Below.heap_setCell w _ u k this
end

/-- A slice as a reader sees it: the cells of its elements. -/
def Rd (w : World) (A : Option Addr) (xs : List Value) : Prop := ∀ j u, xs[j]? = some u → ∃ b o, A = some ⟨b, o, none⟩ ∧ w.cell? ⟨b, o + j, none⟩ = some u

theorem Rd.nil (w : World) (A : Option Addr) : Rd w A [] := fun j u h => by simp at h
theorem Rd.drewN {w : World} {A : Option Addr} {xs : List Value} (h : Rd w A xs) (n : Nat) : Rd (w.drewN n) A xs := h
theorem Rd.below {w w' : World} {A : Option Addr} {xs : List Value} (h : Rd w A xs) (hb : Below w.heap.size w w') : Rd w' A xs := fun j u hu => by
  obtain ⟨b, o, hA, hc⟩ := h j u hu
  exact ⟨b, o, hA, by rw [hb.cell (World.block_lt_of_cell? w _ hc)]; exact hc⟩
theorem Rd.old {W w : World} {A : Option Addr} {xs : List Value} (h : Rd W A xs) {l : List SL} (H : Sat W w l) : Rd w A xs := h.below H.bel
/-- A new block, read whole. -/
theorem Rd.new (w : World) (c : Array Value) (t : TypeId) : Rd (w.alloc (.cells c t)) (some ⟨w.heap.size, 0, none⟩) c.toList := fun j u hu =>
  ⟨_, _, rfl, by rw [World.cell?_alloc_new, Nat.zero_add, ← Array.getElem?_toList]; exact hu⟩
/-- One cell of it. -/
theorem Rd.at {w : World} {b o : Nat} {xs : List Value} (h : Rd w (some ⟨b, o, none⟩) xs) (j : Nat) {u : Value} (hu : xs[j]? = some u) : w.cell? ⟨b, o + j, none⟩ = some u := by
  obtain ⟨b', o', e, hc⟩ := h j u hu
  cases e; exact hc
theorem Rd.open {w : World} {A : Option Addr} {xs : List Value} (h : Rd w A xs) (hx : xs ≠ []) : ∃ b o, A = some ⟨b, o, none⟩ := by
  cases xs with
  | nil => exact absurd rfl hx
  | cons x l => obtain ⟨b, o, e, _⟩ := h 0 x rfl; exact ⟨b, o, e⟩
theorem Rd.drop {w : World} {b o : Nat} {xs : List Value} (h : Rd w (some ⟨b, o, none⟩) xs) (k : Nat) : Rd w (some ⟨b, o + k, none⟩) (xs.drop k) := fun j u hu => by
  rw [List.getElem?_drop] at hu
  exact ⟨b, o + k, rfl, by rw [Nat.add_assoc]; exact h.at (k + j) hu⟩
theorem Rd.take {w : World} {A : Option Addr} {xs : List Value} (h : Rd w A xs) (k : Nat) : Rd w A (xs.take k) := fun j u hu => by
  rw [List.getElem?_take] at hu
  split at hu
  · exact h j u hu
  · cases hu

theorem Sat.rd {W w : World} {l : List SL} {e : TypeId} {zc : List Value} {n c : Nat} {A : Option Addr} {m : Nat} {xs : List Value} (H : Sat W w (row e zc (.slice A m c) n xs :: l)) : Rd w A xs := by
  intro j u hu
  obtain ⟨hx, h⟩ := H.owns
  rcases h with ⟨hv, hn⟩ | ⟨g, cap, cur, hv, hge, hg, h1, h2, h3, h4⟩
  · subst hn
    have : xs = [] := List.eq_nil_of_length_eq_zero (by simpa using hx)
    subst this; simp at hu
  · injection hv with hA hm hc
    refine ⟨g, 0, hA, ?_⟩
    rw [Nat.zero_add]
    have := H.owns.cells (g := g) (by simp [Value.ownBlock, hA]) j u hu
    unfold Addr.add at this
    split at this
    · rename_i hj; subst hj; exact this
    · simpa using this
theorem Sat.row_cell {W w : World} {l : List SL} {e : TypeId} {zc : List Value} {n c : Nat} {xs : List Value} {g : Nat} (H : Sat W w (row e zc (.slice (some ⟨g, 0, none⟩) n c) n xs :: l)) (j : Nat) {u : Value} (hu : xs[j]? = some u) : w.cell? ⟨g, j, none⟩ = some u := by
  have := (Sat.rd H).at j hu
  rwa [Nat.zero_add] at this

section
variable {P : Program} {W w : World} {l : List SL}

/-- A new row behind append's growing arm. -/
theorem Sat.grew {e : TypeId} {zc : List Value} (H : Sat W w l) (xs : List Value) (need old : Nat) (hx : xs.length = need * zc.length) (ht : Typed zc xs) (hzz : LikeZ zc) (h63 : need ≤ maxLen) (cur : Array Value)
    (hc : cur = xs.toArray ++ Builtin.zeroCells zc.toArray (grownCap w need old e - need)) :
    Sat W (w.drew.alloc (.cells cur e)) (row e zc (.slice (some ⟨w.heap.size, 0, none⟩) need (grownCap w need old e)) need xs :: l) := by
  have hge := grownCap_ge w need old e
  have hcm : grownCap w need old e ≤ maxLen := grownCap_le_maxLen w need old e h63
  have hs : cur.size = grownCap w need old e * zc.length := by
    rw [hc]
    simp only [Array.size_append, List.size_toArray, size_zeroCells, hx, ← Nat.add_mul]
    congr 1
    omega
  have h := H.drew.made cur e zc need (grownCap w need old e) hge hcm hs (by
    rw [hc, Array.toList_append]
    exact ht.append (Typed.zeros hzz _) (by simp [hx]))
  have e1 : cur.toList.take (need * zc.length) = xs := by
    rw [hc, Array.toList_append, ← hx]
    exact List.take_left
  rw [e1] at h
  exact h

theorem run_append_typed (t ty e : TypeId) (i : TypeInfo) (z : Value) (zc : List Value) (ht : P.underlying t = some (.slice e)) (hi : P.info? e = some i) (hz : i.zero = some z) (hzc : z.cells = zc.toArray)
    (hsize : i.size = zc.length) (hpos : 0 < zc.length) (hzz : LikeZ zc)
    (v : Value) (n : Nat) (xs : List Value) (H : Sat W w (row e zc v n xs :: l))
    (A : Option Addr) (m c : Nat) (news : List Value) (hl : news.length = m * zc.length) (hr : Rd w A news) (h1 : ∀ u ∈ news, u.oneCell' = true) (hty : Typed zc news)
    (h63 : n + m ≤ maxLen) (hbytes : (n + m) * i.bytes ≤ 140737488355328) :
    ∃ A' c' w', (Builtin.append_ #[t, t] ty #[v, .slice A m c]).run P w = .ok (.slice A' (n + m) c') w' ∧ Sat W w' (row e zc (.slice A' (n + m) c') (n + m) (xs ++ news) :: l) := by
  obtain ⟨hxl, A', c', rfl, hnc, hcm, hA0, hA1⟩ := H.slice
  rcases Nat.eq_zero_or_pos m with hm | hm
  · subst hm
    have hn0 : news = [] := List.eq_nil_of_length_eq_zero (by simpa using hl)
    subst hn0
    have hf : (Builtin.firstCells i.size 0 (.slice A 0 c)).run P w = .ok #[] w := by
      cases A with
      | none => exact run_firstCells_none w _ _ _ _
      | some ad => exact run_firstCells_some w i.size 0 ad 0 c [] (by simp) (by intro j u h; simp at h)
    refine ⟨A', c', w, ?_, by simpa using H⟩
    cases A' with
    | none => simp [Builtin.append_, run_underlying ht, sizeOf, typeInfo, hi, Builtin.lenOf, hnc, hf]
    | some ad => simp [Builtin.append_, run_underlying ht, sizeOf, typeInfo, hi, Builtin.lenOf, hnc, hf, storeCells]
  · have hx0 : news ≠ [] := by
      intro h0
      subst h0
      have : m * zc.length ≥ 1 := Nat.mul_pos hm hpos
      simp at hl; omega
    obtain ⟨b, off, rfl⟩ := hr.open hx0
    have hnews : ∀ j u, news[j]? = some u → w.cell? ((⟨b, off, none⟩ : Addr).add j) = some u := fun j u hu => by
      have h0 := hr.at j hu
      unfold Addr.add
      split
      · rename_i hj; subst hj; simpa using h0
      · exact h0
    have hl' : news.length = m * i.size := by rw [hsize]; exact hl
    have hlen : (xs ++ news).length = (n + m) * zc.length := by rw [List.length_append, hxl, hl, Nat.add_mul]
    cases A' with
    | none =>
      obtain ⟨rfl, rfl⟩ := hA0 rfl
      have hx : xs = [] := List.eq_nil_of_length_eq_zero (by simpa using hxl)
      subst hx
      have hrun := run_append_nil (P := P) w t ty e i z ht hi hz ⟨b, off, none⟩ m c news hl' hnews (by omega) (by simp only [maxLen] at h63; omega) (by have hb := hbytes; simp only [Nat.zero_add] at hb; omega)
      refine ⟨_, _, _, by simpa using hrun, ?_⟩
      have hs := H.tail.grew (e := e) (zc := zc) news m 0 hl hty hzz (by omega) _ (by rw [← hzc])
      simpa using hs
    | some ad =>
      obtain ⟨h0, hsp, hge, hlt⟩ := hA1 ad rfl
      obtain ⟨g, off', sp⟩ := ad
      dsimp only at h0 hsp hge hlt
      subst h0 hsp
      obtain ⟨cur, hg, _, _, hcs, htake, htc⟩ := H.row_blk
      have htx : Typed zc xs := by rw [← htake]; exact htc.take _
      by_cases hroom : n + m ≤ c'
      · have hfit : n * i.size + news.length ≤ cur.size := by rw [hl', hcs, hsize, ← Nat.add_mul]; exact Nat.mul_le_mul_right _ hroom
        have hrun := run_append_room (P := P) w t ty e i ht hi g n c' cur hg ⟨b, off, none⟩ m c news hl' hnews h1 hroom hfit
        refine ⟨_, _, _, hrun, ?_⟩
        have hs := H.setRow (cur.toList.take (n * i.size) ++ news ++ cur.toList.drop (n * i.size + news.length)).toArray (n + m) hroom ?_ ?_
        · have e1 : (cur.toList.take (n * i.size) ++ news ++ cur.toList.drop (n * i.size + news.length)).toArray.toList.take ((n + m) * zc.length) = xs ++ news := by
            simp only [hsize]
            rw [htake, ← hlen]
            exact List.take_left
          rw [e1] at hs
          exact hs
        · simp only [List.size_toArray, List.length_append, List.length_take, List.length_drop, Array.length_toList]
          rw [← hcs]; omega
        · show Typed zc (cur.toList.take (n * i.size) ++ news ++ cur.toList.drop (n * i.size + news.length))
          rw [hsize, htake]
          refine (htx.append hty (by rw [hxl]; simp)).append (htc.drop _ ?_) (by rw [hlen]; simp)
          rw [hl, ← Nat.add_mul]; simp
      · have holds : ∀ j u, xs[j]? = some u → w.cell? ((⟨g, 0, none⟩ : Addr).add j) = some u := H.owns.cells (g := g) rfl
        have hrun := run_append_grow (P := P) w t ty e i z ht hi hz ⟨g, 0, none⟩ n c' xs (by rw [hsize]; exact hxl) holds ⟨b, off, none⟩ m c news hl' hnews (by omega) (by simp only [maxLen] at h63; omega) (growslice_fits (by omega) hbytes)
        refine ⟨_, _, _, hrun, ?_⟩
        exact H.tail.grew (e := e) (zc := zc) (xs ++ news) (n + m) c' hlen (htx.append hty (by rw [hxl]; simp)) hzz h63 _ (by rw [← hzc]; simp)

/-- APPEND, whatever the source is: a slice that is read. -/
theorem wp_append_sl {o : Oper} {a : Act} {K : Act → World → Prop} {Q : Exit → Act → World → Prop} (s x : Operand) (t : TypeId)
    (ho : o.op = .call { callee := .builtin .append, args := #[s, x], argTypes := #[t, t] })
    (e : TypeId) (i : TypeInfo) (z : Value) (zc : List Value) (bytes : Nat) (ht : P.underlying t = some (.slice e)) (hi : P.info? e = some i) (hz : i.zero = some z) (hzc : z.cells = zc.toArray)
    (hsize : i.size = zc.length) (hby : i.bytes = bytes) (hpos : 0 < zc.length) (hzz : LikeZ zc)
    (v : Value) (n : Nat) (xs : List Value) (hs : a.eval s = v) (H : Sat W w (row e zc v n xs :: l))
    (A : Option Addr) (m c : Nat) (news : List Value) (hx : a.eval x = .slice A m c) (hl : news.length = m * zc.length) (hr : Rd w A news) (h1 : ∀ u ∈ news, u.oneCell' = true) (hty : Typed zc news)
    (h63 : n + m ≤ maxLen) (hbytes : (n + m) * bytes ≤ 140737488355328)
    (h : ∀ A' c' w', Sat W w' (row e zc (.slice A' (n + m) c') (n + m) (xs ++ news) :: l) → K (a.put o.dst (.slice A' (n + m) c')) w') : o.wp P a w K Q := by
  subst hby
  obtain ⟨A', c', w', hrun, H'⟩ := run_append_typed (P := P) t o.type e i z zc ht hi hz hzc hsize hpos hzz v n xs H A m c news hl hr h1 hty h63 hbytes
  unfold Oper.wp execOp
  simp only [ho, resolve, invoke, builtin, Sem.run_bind, Sem.run_pure, Result.andThen_ok, List.map_toArray, List.map_cons, List.map_nil, hs, hx, hrun]
  exact h A' c' w' H'

set_option maxRecDepth 100000 in
theorem wpList_append_sl {ops : Array Oper} {rest : List Oper} {o : Oper} {a : Act} {Q : Exit → Act → World → Prop} (hgd : o.guard = none) (s x : Operand) (t : TypeId)
    (ho : o.op = .call { callee := .builtin .append, args := #[s, x], argTypes := #[t, t] })
    (e : TypeId) (i : TypeInfo) (z : Value) (zc : List Value) (bytes : Nat) (ht : P.underlying t = some (.slice e)) (hi : P.info? e = some i) (hz : i.zero = some z) (hzc : z.cells = zc.toArray)
    (hsize : i.size = zc.length) (hby : i.bytes = bytes) (hpos : 0 < zc.length) (hzz : LikeZ zc)
    (v : Value) (n : Nat) (xs : List Value) (hs : a.eval s = v) (H : Sat W w (row e zc v n xs :: l))
    (A : Option Addr) (m c : Nat) (news : List Value) (hx : a.eval x = .slice A m c) (hl : news.length = m * zc.length) (hr : Rd w A news) (h1 : ∀ u ∈ news, u.oneCell' = true) (hty : Typed zc news)
    (h63 : n + m ≤ maxLen) (hbytes : (n + m) * bytes ≤ 140737488355328)
    (h : ∀ A' c' w', Sat W w' (row e zc (.slice A' (n + m) c') (n + m) (xs ++ news) :: l) → wpList P ops Q rest (a.put o.dst (.slice A' (n + m) c')) w') : wpList P ops Q (o :: rest) a w :=
  wpList_plain hgd fun _ hK => wp_append_sl s x t ho e i z zc bytes ht hi hz hzc hsize hby hpos hzz v n xs hs H A m c news hx hl hr h1 hty h63 hbytes fun A' c' w' H' => hK _ _ (h A' c' w' H')

theorem step_append_sl {ops : Array Oper} {o : Oper} {a : Act} {K : Act → World → Prop} {Q : Exit → Act → World → Prop} {E : Prop} (hgd : o.guard = none) (s x : Operand) (t : TypeId)
    (ho : o.op = .call { callee := .builtin .append, args := #[s, x], argTypes := #[t, t] })
    (e : TypeId) (i : TypeInfo) (z : Value) (zc : List Value) (bytes : Nat) (ht : P.underlying t = some (.slice e)) (hi : P.info? e = some i) (hz : i.zero = some z) (hzc : z.cells = zc.toArray)
    (hsize : i.size = zc.length) (hby : i.bytes = bytes) (hpos : 0 < zc.length) (hzz : LikeZ zc)
    (v : Value) (n : Nat) (xs : List Value) (hs : a.eval s = v) (H : Sat W w (row e zc v n xs :: l))
    (A : Option Addr) (m c : Nat) (news : List Value) (hx : a.eval x = .slice A m c) (hl : news.length = m * zc.length) (hr : Rd w A news) (h1 : ∀ u ∈ news, u.oneCell' = true) (hty : Typed zc news)
    (h63 : n + m ≤ maxLen) (hbytes : (n + m) * bytes ≤ 140737488355328)
    (h : ∀ A' c' w', Sat W w' (row e zc (.slice A' (n + m) c') (n + m) (xs ++ news) :: l) → K (a.put o.dst (.slice A' (n + m) c')) w') :
    if Region.wanted o (yielded ops a.tmps) = true then Oper.wp P o a w K Q else E := by
  have hw : Region.wanted o (yielded ops a.tmps) = true := by simp [Region.wanted, hgd]
  rw [if_pos hw]
  exact wp_append_sl s x t ho e i z zc bytes ht hi hz hzc hsize hby hpos hzz v n xs hs H A m c news hx hl hr h1 hty h63 hbytes h

/-- The bytes of a string as cells. -/
abbrev strC (s : ByteArray) : List Value := s.data.toList.map fun b => Value.int .u8 (b.toNat : Int)
/-- The zero cell of a byte. -/
abbrev zB : List Value := [.int .u8 0]
theorem zB_like : LikeZ zB := by
  intro j u h
  cases j with
  | zero => simp at h; subst h; rfl
  | succ j => simp at h
theorem Typed.bytes (bs : List UInt8) : Typed zB (bs.map fun b => Value.int .u8 (b.toNat : Int)) := fun j u h => by
  rw [List.getElem?_map] at h
  cases hb : bs[j]? with
  | none => rw [hb] at h; cases h
  | some b => rw [hb] at h; cases h; simp [like, Nat.mod_one]

theorem Typed.one (n : Int) : Typed zB [.int .u8 n] := fun j u h => by
  cases j with
  | zero => simp at h; subst h; simp [like]
  | succ j => simp at h
theorem zB_at (j : Nat) (n : Int) : like (.int .u8 n) (zB.getD (j % zB.length) undef) = true := by simp [like, Nat.mod_one]

theorem run_append_str (t u ty e : TypeId) (i : TypeInfo) (ht : P.underlying t = some (.slice e)) (hu : P.underlying u = some .string) (hi : P.info? e = some i) (hz : i.zero = some (.int .u8 0)) (hsize : i.size = 1) (hby : i.bytes = 1)
    (v : Value) (n : Nat) (xs : List Value) (H : Sat W w (row e zB v n xs :: l)) (s : ByteArray) (h63 : n + s.size ≤ maxLen) (hbytes : n + s.size ≤ 140737488355328) :
    ∃ A' c' w', (Builtin.append_ #[t, u] ty #[v, .string s]).run P w = .ok (.slice A' (n + s.size) c') w' ∧ Sat W w' (row e zB (.slice A' (n + s.size) c') (n + s.size) (xs ++ strC s) :: l) := by
  obtain ⟨hxl, A', c', rfl, hnc, hcm, hA0, hA1⟩ := H.slice
  have hxl' : xs.length = n := by simpa using hxl
  have hsl : (strC s).length = s.size := by rw [List.length_map, Array.length_toList]; rfl
  have hlen : (xs ++ strC s).length = (n + s.size) * zB.length := by rw [List.length_append, hxl', hsl, List.length_singleton, Nat.mul_one]
  cases A' with
  | none =>
    obtain ⟨rfl, rfl⟩ := hA0 rfl
    have hx : xs = [] := List.eq_nil_of_length_eq_zero hxl'
    subst hx
    by_cases hm : s.size = 0
    · have hn : strC s = [] := List.eq_nil_of_length_eq_zero (by rw [hsl]; exact hm)
      have hf := Lib.run_firstCells_string (P := P) w 1 s
      rw [hm] at hf
      refine ⟨none, 0, w, ?_, by rw [hn, hm]; simpa using H⟩
      simp [Builtin.append_, run_underlying ht, run_underlying hu, sizeOf, typeInfo, hi, hsize, Builtin.lenOf, hm, hf]
    · have hrun := run_append_nil_string (P := P) w t u ty e i (.int .u8 0) ht hu hi hz s (by omega) (by simp only [maxLen] at h63; omega) (by rw [hby]; omega)
      refine ⟨_, _, _, by simpa using hrun, ?_⟩
      have hs := H.tail.grew (e := e) (zc := zB) (strC s) s.size 0 (by rw [hsl]; simp) (Typed.bytes _) zB_like (by omega) (s.data.map (fun b => Value.int .u8 (b.toNat : Int)) ++ Builtin.zeroCells (Value.int .u8 0).cells (grownCap w s.size 0 e - s.size)) (by
        congr 1
        apply Array.ext'
        simp)
      simpa using hs
  | some ad =>
    obtain ⟨h0, hsp, hge, hlt⟩ := hA1 ad rfl
    obtain ⟨g, off', sp⟩ := ad
    dsimp only at h0 hsp hge hlt
    subst h0 hsp
    obtain ⟨cur, hg, _, _, hcs, htake, htc⟩ := H.row_blk
    have hcs' : cur.size = c' := by simpa using hcs
    have htk : cur.toList.take n = xs := by simpa using htake
    have htx : Typed zB xs := by rw [← htake]; exact htc.take _
    by_cases hroom : n + s.size ≤ c'
    · have hrun := Lib.run_append_room_string (P := P) w t u ty e i ht hu hi hsize g n c' cur hg s hroom (by omega)
      refine ⟨_, _, _, hrun, ?_⟩
      have hs := H.setRow (cur.toList.take n ++ Lib.strCells s ++ cur.toList.drop (n + s.size)).toArray (n + s.size) hroom ?_ ?_
      · have e1 : (cur.toList.take n ++ Lib.strCells s ++ cur.toList.drop (n + s.size)).toArray.toList.take ((n + s.size) * zB.length) = xs ++ strC s := by
          rw [htk, ← hlen]
          exact List.take_left
        rw [e1] at hs
        exact hs
      · simp only [List.size_toArray, List.length_append, List.length_take, List.length_drop, Array.length_toList, Lib.strCells_length, List.length_singleton]
        omega
      · show Typed zB (cur.toList.take n ++ Lib.strCells s ++ cur.toList.drop (n + s.size))
        rw [htk]
        exact (htx.append (Typed.bytes _) (by simp [Nat.mod_one])).append (htc.drop _ (by simp [Nat.mod_one])) (by simp [Nat.mod_one])
    · have holds : ∀ j u, xs[j]? = some u → w.cell? ((⟨g, 0, none⟩ : Addr).add j) = some u := H.owns.cells (g := g) rfl
      have hrun := Lib.run_append_grow_string (P := P) w t u ty e i (.int .u8 0) ht hu hi hz ⟨g, 0, none⟩ n c' xs (by rw [hsize]; simpa using hxl') holds s (by omega) (by simp only [maxLen] at h63; omega) (by rw [hby]; exact growslice_fits (by omega) (by omega))
      refine ⟨_, _, _, hrun, ?_⟩
      exact H.tail.grew (e := e) (zc := zB) (xs ++ strC s) (n + s.size) c' hlen (htx.append (Typed.bytes _) (by simp [Nat.mod_one])) zB_like h63 _ (by
        congr 1
        apply Array.ext'
        simp [Lib.strCells])

/-- APPEND of a string's bytes. -/
theorem wp_append_str {o : Oper} {a : Act} {K : Act → World → Prop} {Q : Exit → Act → World → Prop} (sl x : Operand) (t u : TypeId)
    (ho : o.op = .call { callee := .builtin .append, args := #[sl, x], argTypes := #[t, u] })
    (e : TypeId) (i : TypeInfo) (ht : P.underlying t = some (.slice e)) (hu : P.underlying u = some .string) (hi : P.info? e = some i) (hz : i.zero = some (.int .u8 0)) (hsize : i.size = 1) (hby : i.bytes = 1)
    (v : Value) (n : Nat) (xs : List Value) (hs : a.eval sl = v) (H : Sat W w (row e zB v n xs :: l)) (s : ByteArray) (hx : a.eval x = .string s)
    (h63 : n + s.size ≤ maxLen) (hbytes : n + s.size ≤ 140737488355328)
    (h : ∀ A' c' w', Sat W w' (row e zB (.slice A' (n + s.size) c') (n + s.size) (xs ++ strC s) :: l) → K (a.put o.dst (.slice A' (n + s.size) c')) w') : o.wp P a w K Q := by
  obtain ⟨A', c', w', hrun, H'⟩ := run_append_str (P := P) t u o.type e i ht hu hi hz hsize hby v n xs H s h63 hbytes
  unfold Oper.wp execOp
  simp only [ho, resolve, invoke, builtin, Sem.run_bind, Sem.run_pure, Result.andThen_ok, List.map_toArray, List.map_cons, List.map_nil, hs, hx, hrun]
  exact h A' c' w' H'

set_option maxRecDepth 100000 in
theorem wpList_append_str {ops : Array Oper} {rest : List Oper} {o : Oper} {a : Act} {Q : Exit → Act → World → Prop} (hgd : o.guard = none) (sl x : Operand) (t u : TypeId)
    (ho : o.op = .call { callee := .builtin .append, args := #[sl, x], argTypes := #[t, u] })
    (e : TypeId) (i : TypeInfo) (ht : P.underlying t = some (.slice e)) (hu : P.underlying u = some .string) (hi : P.info? e = some i) (hz : i.zero = some (.int .u8 0)) (hsize : i.size = 1) (hby : i.bytes = 1)
    (v : Value) (n : Nat) (xs : List Value) (hs : a.eval sl = v) (H : Sat W w (row e zB v n xs :: l)) (s : ByteArray) (hx : a.eval x = .string s)
    (h63 : n + s.size ≤ maxLen) (hbytes : n + s.size ≤ 140737488355328)
    (h : ∀ A' c' w', Sat W w' (row e zB (.slice A' (n + s.size) c') (n + s.size) (xs ++ strC s) :: l) → wpList P ops Q rest (a.put o.dst (.slice A' (n + s.size) c')) w') : wpList P ops Q (o :: rest) a w :=
  wpList_plain hgd fun _ hK => wp_append_str sl x t u ho e i ht hu hi hz hsize hby v n xs hs H s hx h63 hbytes fun A' c' w' H' => hK _ _ (h A' c' w' H')

theorem step_append_str {ops : Array Oper} {o : Oper} {a : Act} {K : Act → World → Prop} {Q : Exit → Act → World → Prop} {E : Prop} (hgd : o.guard = none) (sl x : Operand) (t u : TypeId)
    (ho : o.op = .call { callee := .builtin .append, args := #[sl, x], argTypes := #[t, u] })
    (e : TypeId) (i : TypeInfo) (ht : P.underlying t = some (.slice e)) (hu : P.underlying u = some .string) (hi : P.info? e = some i) (hz : i.zero = some (.int .u8 0)) (hsize : i.size = 1) (hby : i.bytes = 1)
    (v : Value) (n : Nat) (xs : List Value) (hs : a.eval sl = v) (H : Sat W w (row e zB v n xs :: l)) (s : ByteArray) (hx : a.eval x = .string s)
    (h63 : n + s.size ≤ maxLen) (hbytes : n + s.size ≤ 140737488355328)
    (h : ∀ A' c' w', Sat W w' (row e zB (.slice A' (n + s.size) c') (n + s.size) (xs ++ strC s) :: l) → K (a.put o.dst (.slice A' (n + s.size) c')) w') :
    if Region.wanted o (yielded ops a.tmps) = true then Oper.wp P o a w K Q else E := by
  have hw : Region.wanted o (yielded ops a.tmps) = true := by simp [Region.wanted, hgd]
  rw [if_pos hw]
  exact wp_append_str sl x t u ho e i ht hu hi hz hsize hby v n xs hs H s hx h63 hbytes h
end
end Go.Rt

/- Package word's writer, function by function: what each call answers, and what becomes of the writer's bytes. -/
namespace Go.Proofs.Ytflcmhmbmippfaa
open Go.RowKit Go.Rt

theorem infoU8 : (Try.prog.info? 5).map (fun i => (i.zero, i.size, i.bytes)) = some (some (.int .u8 0), 1, 1) := by kernel_rfl

/-- A byte as a cell. -/
def B (b : UInt8) : Value := .int .u8 (b.toNat : Int)
theorem B_one (bs : List UInt8) : ∀ u ∈ bs.map B, u.oneCell' = true := by
  intro u hu
  simp only [List.mem_map] at hu
  obtain ⟨b, _, rfl⟩ := hu
  rfl

theorem nums_bytes (bs : List UInt8) : (bs.map fun b => (b.toNat : Int)).map (fun n => UInt8.ofNat n.toNat) = bs := by
  rw [List.map_map]
  induction bs with
  | nil => rfl
  | cons b l ih => rw [List.map_cons, ih]; simp
/-- Bytes as a string. -/
theorem run_str {P : Program} {w : World} (src dst e : TypeId) (hs : P.underlying src = some (.slice e)) (he : P.underlying e = some (.int .u8)) (hd : P.underlying dst = some .string)
    (A : Option Addr) (n c : Nat) (bs : List UInt8) (hn : bs.length = n) (hr : Rd w A (bs.map B)) : (convert src dst (.slice A n c)).run P w = .ok (.string ⟨bs.toArray⟩) w := by
  subst hn
  cases A with
  | none =>
    have : bs = [] := by
      cases bs with
      | nil => rfl
      | cons b l => obtain ⟨_, _, h⟩ := hr.open (by simp); cases h
    subst this
    exact run_convert_bytes_nil (P := P) (w := w) src e hs he 0 c dst hd
  | some ad =>
    rw [run_convert_bytes_string w src dst e _ _ c hs he hd]
    have hl : (loadCells ad bs.length).run P w = .ok ((bs.map fun b => (b.toNat : Int)).map (Value.int .u8)).toArray w := by
      have := run_loadCells_list (P := P) w ad (bs.map B) (fun j v hj => by
        obtain ⟨b, o, h1, h2⟩ := hr j v hj
        cases h1
        have hplain : (⟨b, o, none⟩ : Addr).add j = ⟨b, o + j, none⟩ := by unfold Addr.add; split <;> simp_all
        rw [hplain]; exact h2)
      have e1 : (bs.map fun b => (b.toNat : Int)).map (Value.int .u8) = bs.map B := by simp [B]
      rw [e1]
      simpa using this
    rw [run_bytesToString w _ _ c _ hl, foldl_push_bytes, nums_bytes]
    simp [ByteArray.empty, ByteArray.emptyWithCapacity]
    rfl

/-- A number by sevens, at most k of them. -/
def sevF : Nat → Nat → List UInt8
  | 0, _ => []
  | k + 1, n => if n < 128 then [UInt8.ofNat n] else UInt8.ofNat (n % 128 + 128) :: sevF k (n / 128)
def sev (n : Nat) : List UInt8 := sevF 9 n

theorem sevF_len (k n : Nat) : (sevF k n).length ≤ k := by
  induction k generalizing n with
  | zero => simp [sevF]
  | succ k ih => unfold sevF; split; simp; have := ih (n / 128); simp; omega

theorem ofInt_i64 (a : Nat) (ha : a < 9223372036854775808) : (BitVec.ofInt 64 (a : Int)).toNat = a := by
  rw [BitVec.ofInt_natCast, BitVec.toNat_ofNat]; exact Nat.mod_eq_of_lt (by omega)
theorem and_i64 (a b : Nat) (ha : a < 9223372036854775808) (hb : b < 9223372036854775808) : bits .and .i64 (a : Int) (b : Int) = ((a &&& b : Nat) : Int) := by
  have hx : a &&& b < 2 ^ 63 := Nat.and_lt_two_pow _ (by omega)
  show IntKind.i64.wrap ((BitVec.ofInt 64 (a : Int) &&& BitVec.ofInt 64 (b : Int)).toNat : Int) = _
  rw [BitVec.toNat_and, ofInt_i64 a ha, ofInt_i64 b hb, IntKind.wrap_i64]
  omega
theorem or_i64 (a b : Nat) (ha : a < 9223372036854775808) (hb : b < 9223372036854775808) : bits .or .i64 (a : Int) (b : Int) = ((a ||| b : Nat) : Int) := by
  have hx : a ||| b < 2 ^ 63 := Nat.or_lt_two_pow (by omega) (by omega)
  show IntKind.i64.wrap ((BitVec.ofInt 64 (a : Int) ||| BitVec.ofInt 64 (b : Int)).toNat : Int) = _
  rw [BitVec.toNat_or, ofInt_i64 a ha, ofInt_i64 b hb, IntKind.wrap_i64]
  omega
theorem and127 (m : Nat) : m &&& 127 = m % 128 := Nat.and_two_pow_sub_one_eq_mod m 7
theorem or128 : ∀ x, x < 128 → x ||| 128 = x + 128 := by decide
theorem byte_more (m : Nat) (hm : m < 9223372036854775808) : bits BinOp.or IntKind.i64 (bits BinOp.and IntKind.i64 (m : Int) 127) 128 % 256 = ((UInt8.ofNat (m % 128 + 128)).toNat : Int) := by
  have h1 := and_i64 m 127 hm (by omega)
  rw [show ((127 : Nat) : Int) = 127 from rfl] at h1
  rw [h1, and127]
  have h2 := or_i64 (m % 128) 128 (by omega) (by omega)
  rw [show ((128 : Nat) : Int) = 128 from rfl] at h2
  rw [h2, or128 _ (by omega), UInt8.toNat_ofNat']
  omega
theorem byte_last (m : Nat) (hm : m < 128) : Value.int .u8 (m : Int) = B (UInt8.ofNat m) := by
  unfold B; rw [UInt8.toNat_ofNat']; congr 1; omega
theorem sevF_more (k m : Nat) (hm : 128 ≤ m) : sevF (k + 1) m = UInt8.ofNat (m % 128 + 128) :: sevF k (m / 128) := by
  have h : ¬ m < 128 := by omega
  simp only [sevF, if_neg h]
theorem sevF_last (k m : Nat) (hm : m < 128) : sevF (k + 1) m = [UInt8.ofNat m] := by
  simp only [sevF, if_pos hm]

/-- A writer: its block, its bytes, whether a number below 0 was to be written. -/
def wr (p : Nat) (bs : List UInt8) (bad : Bool) : SL := ex fun Ac : Option Addr × Nat =>
  sep (pt p #[.bool true, .slice Ac.1 bs.length Ac.2, .int .i64 (if bad then 5 else 0), .int .i64 0] 114) (row 5 zB (.slice Ac.1 bs.length Ac.2) bs.length (bs.map B))
theorem wr_open {W w : World} {l : List SL} {p : Nat} {bs : List UInt8} {bad : Bool} (H : Sat W w (wr p bs bad :: l)) :
    ∃ A c, Sat W w (pt p #[.bool true, .slice A bs.length c, .int .i64 (if bad then 5 else 0), .int .i64 0] 114 :: row 5 zB (.slice A bs.length c) bs.length (bs.map B) :: l) :=
  let ⟨Ac, h⟩ := Sat.ex H; ⟨Ac.1, Ac.2, h.sep⟩
theorem wr_shut {W w : World} {l : List SL} {p : Nat} {bs : List UInt8} {bad : Bool} {A : Option Addr} {c : Nat}
    (H : Sat W w (pt p #[.bool true, .slice A bs.length c, .int .i64 (if bad then 5 else 0), .int .i64 0] 114 :: row 5 zB (.slice A bs.length c) bs.length (bs.map B) :: l)) : Sat W w (wr p bs bad :: l) :=
  Sat.unex (A := fun Ac : Option Addr × Nat => sep (pt p #[.bool true, .slice Ac.1 bs.length Ac.2, .int .i64 (if bad then 5 else 0), .int .i64 0] 114) (row 5 zB (.slice Ac.1 bs.length Ac.2) bs.length (bs.map B))) (A, c) H.unsep

set_option maxRecDepth 100000 in
theorem none_any (b o : Nat) (made : Bool) (w : World) (hc : w.cell? ⟨b, o, none⟩ = some (.bool made)) :
    Calls Try.prog 81 #[.pointer (some ⟨b, o, none⟩)] w fun e w' => e = .returned (.bool (!made)) ∧ w = w' := by
  go_enter Try.func81, Try.ntmps81
  go_wp2
  go_ret
  exact ⟨rfl, rfl⟩

set_option maxRecDepth 100000 in
theorem absent_any (b o : Nat) (made : Bool) (w : World) (hc : w.cell? ⟨b, o, none⟩ = some (.bool made)) :
    Calls Try.prog 84 #[.pointer (some ⟨b, o, none⟩)] w fun e w' => e = .returned (.bool (!made)) ∧ w = w' := by
  go_enter Try.func84, Try.ntmps84
  go_wp2_with (go_at_call 81; refine (none_any _ _ made _ hc).mono ?_; rintro e w' ⟨rfl, rfl⟩)
  go_ret
  exact ⟨rfl, rfl⟩

set_option maxRecDepth 100000 in
theorem absent_nil (w : World) :
    Calls Try.prog 84 #[.pointer none] w fun e w' => e = .returned (.bool true) ∧ w = w' := by
  go_enter Try.func84, Try.ntmps84
  go_wp2
  go_ret
  exact ⟨rfl, rfl⟩

set_option maxRecDepth 100000 in
theorem new_any {W w : World} {l : List SL} (H : Sat W w l) :
    Calls Try.prog 54 #[] w fun e w' => e = .returned (.pointer (some ⟨w.heap.size, 0, none⟩)) ∧ Sat W w' (wr w.heap.size [] false :: l) := by
  go_enter Try.func54, Try.ntmps54
  go_wp2
  go_ret
  exact ⟨rfl, wr_shut (((H.alloc _ _).nil 5 zB).swap)⟩

set_option maxRecDepth 100000 in
theorem wInt_any {W w : World} {l : List SL} {p : Nat} {bs : List UInt8} {bad : Bool} (n : Nat) (hn : n < 9223372036854775808) (hb : bs.length ≤ 1000000000) (H : Sat W w (wr p bs bad :: l)) :
    Calls Try.prog 55 #[.pointer (some ⟨p, 0, none⟩), .int .i64 n] w fun e w' => e = .returned (.tuple #[]) ∧ Sat W w' (wr p (bs ++ sev n) bad :: l) := by
  obtain ⟨i0, hi, hz0, hz1, hz2⟩ := info_parts infoU8
  obtain ⟨A, c, H⟩ := wr_open H
  have hc0 : w.cell? ⟨p, 0, none⟩ = some (.bool true) := H.cell 0
  have hneg : decide ((n : Int) < 0) = false := by simp
  go_enter Try.func55, Try.ntmps55
  go_wp2_with (go_at_call 84; refine (absent_any _ _ true _ hc0).mono ?_; rintro e w' ⟨rfl, rfl⟩)
  go_loopw [1] (fun x wc => ∃ (m k : Nat) (cs : List UInt8) (A' : Option Addr) (c' : Nat), x = .int .i64 m ∧ m < 128 ^ k ∧ 1 ≤ k ∧ k ≤ 9 ∧ cs.length + k ≤ bs.length + 9 ∧ Hid (bs ++ sev n = cs ++ sevF k m) ∧
      Sat W wc (pt p #[.bool true, .slice A' cs.length c', .int .i64 (if bad then 5 else 0), .int .i64 0] 114 :: row 5 zB (.slice A' cs.length c') cs.length (cs.map B) :: l)) (fun x _ => (intOf x).toNat)
  case atStart => exact ⟨n, 9, bs, A, c, rfl, by omega, by omega, by omega, by simp, rfl, H⟩
  case round =>
    obtain ⟨m, k, cs, A', c', rfl, hm, hk1, hk, hpk, HS, H'⟩ := hrel
    clear hc0
    have hc1 := H'.cell 1
    have hf1 := H'.frz 1
    by_cases hm7 : (127 : Int) < (m : Int)
    · have hmb : m < 9223372036854775808 := by
        have h1 : (128 : Nat) ^ k ≤ 128 ^ 9 := Nat.pow_le_pow_right (by omega) hk
        have h2 : (128 : Nat) ^ 9 = 9223372036854775808 := by decide
        omega
      obtain ⟨b, hby, HB⟩ : ∃ b : UInt8, bits BinOp.or IntKind.i64 (bits BinOp.and IntKind.i64 (m : Int) 127) 128 % 256 = (b.toNat : Int) ∧ Hid (b = UInt8.ofNat (m % 128 + 128)) := ⟨_, byte_more m hmb, rfl⟩
      go_wp2_with (at_builtin
                   refine wpList_append_sl rfl (.tmp 22) (.tmp 27) 22 rfl 5 i0 (.int .u8 0) zB 1 Try.underlying22 hi hz0 rfl hz1 hz2 (by simp) zB_like _ cs.length _ rfl (H'.swap.alloc' _) (some ⟨wr.heap.size, 0, none⟩) 1 1 [B b] rfl rfl (Rd.new wr #[B b] 5) (B_one [b]) (Typed.bytes [b]) (by unfold maxLen; omega) (by omega) ?_
                   intro A2 c2 w2 H2
                   have hc2 : w2.cell? ⟨p, 1, none⟩ = some (.slice A' cs.length c') := H2.swap.cell 1
                   have hf2 := H2.swap.frz 1)
      obtain ⟨k', rfl⟩ : ∃ k', k = k' + 2 := ⟨k - 2, by have : k ≠ 1 := by { rintro rfl; omega }; omega⟩
      refine ⟨⟨m / 128, k' + 1, cs ++ [b], A2, c2, rfl, ?_, by omega, by omega, by simp; omega, ?_, ?_⟩, by simp [intOf]; omega⟩
      · rw [Nat.pow_succ] at hm; omega
      · show _ = _
        rw [HS.out, sevF_more (k' + 1) m (by omega), HB.out]; simp
      · have := (H2.swap.setCell 1 (.slice A2 (cs.length + 1) c2))
        simpa using this
    · have hm8 : m < 128 := by omega
      go_wp2_with (at_builtin
                   refine wpList_append_sl rfl (.tmp 37) (.tmp 40) 22 rfl 5 i0 (.int .u8 0) zB 1 Try.underlying22 hi hz0 rfl hz1 hz2 (by simp) zB_like _ cs.length _ rfl (H'.swap.alloc' _) (some ⟨wr.heap.size, 0, none⟩) 1 1 [.int .u8 (m : Int)] rfl rfl (Rd.new wr #[.int .u8 (m : Int)] 5) (by simp [Value.oneCell']) (Typed.one _) (by unfold maxLen; omega) (by omega) ?_
                   intro A2 c2 w2 H2
                   have hc2 : w2.cell? ⟨p, 1, none⟩ = some (.slice A' cs.length c') := H2.swap.cell 1
                   have hf2 := H2.swap.frz 1)
      go_end0
      obtain ⟨k', rfl⟩ : ∃ k', k = k' + 1 := ⟨k - 1, by omega⟩
      refine ⟨rfl, wr_shut (A := A2) (c := c2) ?_⟩
      rw [HS.out, sevF_last k' m hm8]
      rw [byte_last m hm8] at H2
      simpa using (H2.swap.setCell 1 (.slice A2 (cs.length + 1) c2))

set_option maxRecDepth 100000 in
theorem wInt_neg {W w : World} {l : List SL} {p : Nat} {bs : List UInt8} {bad : Bool} (n : Int) (hn : n < 0) (H : Sat W w (wr p bs bad :: l)) :
    Calls Try.prog 55 #[.pointer (some ⟨p, 0, none⟩), .int .i64 n] w fun e w' => e = .returned (.tuple #[]) ∧ Sat W w' (wr p bs true :: l) := by
  obtain ⟨A, c, H⟩ := wr_open H
  have hc0 : w.cell? ⟨p, 0, none⟩ = some (.bool true) := H.cell 0
  have hc2 : w.cell? ⟨p, 2, none⟩ = some (.int .i64 (if bad then 5 else 0)) := H.cell 2
  have hf2 := H.frz 2
  go_enter Try.func55, Try.ntmps55
  go_wp2_with (go_at_call 84; refine (absent_any _ _ true _ hc0).mono ?_; rintro e w' ⟨rfl, rfl⟩)
  refine bodyPost_ret (results_none rfl _ _ _) rfl ⟨rfl, wr_shut (A := A) (c := c) ?_⟩
  simpa using H.setCell 2 (.int .i64 5)

/-- What a writer has behind an Int of any number. -/
def wrInt (n : Int) (bs : List UInt8) : List UInt8 := if n < 0 then bs else bs ++ sev n.toNat
theorem wInt_all {W w : World} {l : List SL} {p : Nat} {bs : List UInt8} {bad : Bool} (n : Int) (hn : n ≤ 9223372036854775807) (hb : bs.length ≤ 1000000000) (H : Sat W w (wr p bs bad :: l)) :
    Calls Try.prog 55 #[.pointer (some ⟨p, 0, none⟩), .int .i64 n] w fun e w' => e = .returned (.tuple #[]) ∧ Sat W w' (wr p (wrInt n bs) (bad || decide (n < 0)) :: l) := by
  by_cases h : n < 0
  · refine (wInt_neg n h H).mono ?_
    rintro e w' ⟨rfl, h'⟩
    refine ⟨rfl, ?_⟩
    simpa [wrInt, h] using h'
  · obtain ⟨m, rfl⟩ : ∃ m : Nat, n = m := ⟨n.toNat, by omega⟩
    refine (wInt_any m (by omega) hb H).mono ?_
    rintro e w' ⟨rfl, h'⟩
    refine ⟨rfl, ?_⟩
    simpa [wrInt, h] using h'

set_option maxRecDepth 100000 in
theorem wInt_none (n : Int) (w : World) : Calls Try.prog 55 #[.pointer none, .int .i64 n] w fun e w' => e = .returned (.tuple #[]) ∧ w = w' := by
  go_enter Try.func55, Try.ntmps55
  go_wp2_with (go_at_call 84; refine (absent_nil _).mono ?_; rintro e w' ⟨rfl, rfl⟩)
  exact bodyPost_ret (results_none rfl _ _ _) rfl ⟨rfl, rfl⟩
set_option maxRecDepth 100000 in
theorem wInt_off (p : Nat) (n : Int) (w : World) (hc0 : w.cell? ⟨p, 0, none⟩ = some (.bool false)) : Calls Try.prog 55 #[.pointer (some ⟨p, 0, none⟩), .int .i64 n] w fun e w' => e = .returned (.tuple #[]) ∧ w = w' := by
  go_enter Try.func55, Try.ntmps55
  go_wp2_with (go_at_call 84; refine (absent_any _ _ false _ hc0).mono ?_; rintro e w' ⟨rfl, rfl⟩)
  exact bodyPost_ret (results_none rfl _ _ _) rfl ⟨rfl, rfl⟩

theorem strC_len (s : ByteArray) : s.data.toList.length = s.size := by rw [Array.length_toList]; rfl

set_option maxRecDepth 100000 in
theorem wText_any {W w : World} {l : List SL} {p : Nat} {bs : List UInt8} {bad : Bool} (s : ByteArray) (hn : s.size ≤ 1000000000) (hb : bs.length ≤ 900000000) (H : Sat W w (wr p bs bad :: l)) :
    Calls Try.prog 56 #[.pointer (some ⟨p, 0, none⟩), .string s] w fun e w' => e = .returned (.tuple #[]) ∧ Sat W w' (wr p (bs ++ sev s.size ++ s.data.toList) bad :: l) := by
  obtain ⟨i0, hi, hz0, hz1, hz2⟩ := info_parts infoU8
  have hc0 : w.cell? ⟨p, 0, none⟩ = some (.bool true) := by obtain ⟨A, c, H⟩ := wr_open H; exact H.cell 0
  go_enter Try.func56, Try.ntmps56
  go_wp2_with (go_at_call 84; refine (absent_any _ _ true _ hc0).mono ?_; rintro e w' ⟨rfl, rfl⟩)
  refine (wInt_any s.size (by omega) (by omega) H).mono ?_
  rintro e w1 ⟨rfl, H1⟩
  have hl9 := sevF_len 9 s.size
  obtain ⟨cs, HC⟩ : ∃ cs, Hid (cs = bs ++ sev s.size) := ⟨_, rfl⟩
  rw [← HC.out] at H1
  have hcl : cs.length ≤ 1000000000 := by rw [HC.out, List.length_append]; unfold sev; omega
  obtain ⟨A, c, H1⟩ := wr_open H1
  clear hc0
  have hc1 : w1.cell? ⟨p, 1, none⟩ = some (.slice A cs.length c) := H1.cell 1
  have hf1 := H1.frz 1
  go_wp2_with (at_builtin
               refine wpList_append_str rfl (.tmp 15) (.tmp 16) 22 9 rfl 5 i0 Try.underlying22 Try.underlying9 hi hz0 hz1 hz2 _ cs.length _ rfl H1.swap s rfl (by unfold maxLen; omega) (by omega) ?_
               intro A2 c2 w2 H2
               have hc2 : w2.cell? ⟨p, 1, none⟩ = some (.slice A cs.length c) := H2.swap.cell 1
               have hf2 := H2.swap.frz 1)
  go_end0
  refine ⟨rfl, wr_shut (A := A2) (c := c2) ?_⟩
  rw [← HC.out]
  have := H2.swap.setCell 1 (.slice A2 (cs.length + s.size) c2)
  have e1 : (cs ++ s.data.toList).map B = cs.map B ++ strC s := by rw [List.map_append]; rfl
  rw [List.length_append, strC_len, e1]
  simpa using this

set_option maxRecDepth 100000 in
theorem wText_none (s : ByteArray) (w : World) : Calls Try.prog 56 #[.pointer none, .string s] w fun e w' => e = .returned (.tuple #[]) ∧ w = w' := by
  go_enter Try.func56, Try.ntmps56
  go_wp2_with (go_at_call 84; refine (absent_nil _).mono ?_; rintro e w' ⟨rfl, rfl⟩)
  exact bodyPost_ret (results_none rfl _ _ _) rfl ⟨rfl, rfl⟩
set_option maxRecDepth 100000 in
theorem wText_off (p : Nat) (s : ByteArray) (w : World) (hc0 : w.cell? ⟨p, 0, none⟩ = some (.bool false)) : Calls Try.prog 56 #[.pointer (some ⟨p, 0, none⟩), .string s] w fun e w' => e = .returned (.tuple #[]) ∧ w = w' := by
  go_enter Try.func56, Try.ntmps56
  go_wp2_with (go_at_call 84; refine (absent_any _ _ false _ hc0).mono ?_; rintro e w' ⟨rfl, rfl⟩)
  exact bodyPost_ret (results_none rfl _ _ _) rfl ⟨rfl, rfl⟩

set_option maxRecDepth 100000 in
theorem wOut_any {W w : World} {l : List SL} {p : Nat} {bs : List UInt8} (hb : bs.length ≤ 1000000000) (H : Sat W w (wr p bs false :: l)) :
    Calls Try.prog 57 #[.pointer (some ⟨p, 0, none⟩)] w fun e w' => ∃ A c, e = .returned (.tuple #[.slice A bs.length c, .int .i64 0]) ∧ Sat W w' (row 5 zB (.slice A bs.length c) bs.length (bs.map B) :: wr p bs false :: l) := by
  obtain ⟨i0, hi, hz0, hz1, hz2⟩ := info_parts infoU8
  obtain ⟨A, c, H⟩ := wr_open H
  have hc0 : w.cell? ⟨p, 0, none⟩ = some (.bool true) := H.cell 0
  have hc1 : w.cell? ⟨p, 1, none⟩ = some (.slice A bs.length c) := H.cell 1
  have hc2 : w.cell? ⟨p, 2, none⟩ = some (.int .i64 0) := H.cell 2
  have hlt := H.lt
  have hr : Rd w A (bs.map B) := H.swap.rd
  go_enter Try.func57, Try.ntmps57
  go_wp2_with (first
    | (go_at_call 84; refine (absent_any _ _ true _ hc0).mono ?_; rintro e w' ⟨rfl, rfl⟩)
    | (at_builtin
       refine wpList_append_sl rfl (.tmp 21) (.tmp 26) 22 rfl 5 i0 (.int .u8 0) zB 1 Try.underlying22 hi hz0 rfl hz1 hz2 (by simp) zB_like _ 0 [] rfl (H.made #[] 5 zB 0 0 (by omega) (by unfold maxLen; omega) rfl (Typed.nil _)) A bs.length c (bs.map B) rfl (by simp) (hr.below ((Below.refl _ _).alloc (Nat.le_refl _) _)) (B_one bs) (Typed.bytes bs) (by unfold maxLen; omega) (by omega) ?_
       intro A2 c2 w2 H2))
  go_ret2
  refine ⟨A2, c2, by simp, ?_⟩
  have := wr_shut ((H2.pull 2).pull 2)
  simpa [Go.Rt.pull] using this.swap

set_option maxRecDepth 100000 in
theorem wOut_bad {W w : World} {l : List SL} {p : Nat} {bs : List UInt8} (H : Sat W w (wr p bs true :: l)) :
    Calls Try.prog 57 #[.pointer (some ⟨p, 0, none⟩)] w fun e w' => e = .returned (.tuple #[.slice none 0 0, .int .i64 5]) ∧ ∃ n, w' = w.drewN n := by
  obtain ⟨A, c, H⟩ := wr_open H
  have hc0 : w.cell? ⟨p, 0, none⟩ = some (.bool true) := H.cell 0
  have hc2 : w.cell? ⟨p, 2, none⟩ = some (.int .i64 5) := H.cell 2
  go_enter Try.func57, Try.ntmps57
  go_wp2_with (go_at_call 84; refine (absent_any _ _ true _ hc0).mono ?_; rintro e w' ⟨rfl, rfl⟩)
  go_quiet (fail)
  go_wp2
  go_ret2
  exact ⟨rfl, _, rfl⟩

set_option maxRecDepth 100000 in
theorem wOut_none (w : World) : Calls Try.prog 57 #[.pointer none] w fun e w' => e = .returned (.tuple #[.slice none 0 0, .int .i64 1]) ∧ w = w' := by
  go_enter Try.func57, Try.ntmps57
  go_wp2_with (go_at_call 84; refine (absent_nil _).mono ?_; rintro e w' ⟨rfl, rfl⟩)
  go_ret2
  exact ⟨rfl, rfl⟩
set_option maxRecDepth 100000 in
theorem wOut_off (p : Nat) (w : World) (hc0 : w.cell? ⟨p, 0, none⟩ = some (.bool false)) : Calls Try.prog 57 #[.pointer (some ⟨p, 0, none⟩)] w fun e w' => e = .returned (.tuple #[.slice none 0 0, .int .i64 1]) ∧ w = w' := by
  go_enter Try.func57, Try.ntmps57
  go_wp2_with (go_at_call 84; refine (absent_any _ _ false _ hc0).mono ?_; rintro e w' ⟨rfl, rfl⟩)
  go_ret2
  exact ⟨rfl, rfl⟩

/-- An ID as the value that is handed over. -/
def idv (d : List UInt8) : Value := .agg (d.map B).toArray
end Go.Proofs.Ytflcmhmbmippfaa

/- The document's writer and the numbers' sizes, function by function. -/
namespace Go.Proofs.Ytflcmhmbmippfaa
open Go.RowKit Go.Rt

theorem set_last {α : Type} (xs : List α) (a b : α) (n : Nat) (h : n = xs.length) : (xs ++ [a]).set n b = xs ++ [b] := by
  subst h; simp

set_option maxRecDepth 100000 in
theorem sevens_neg (n : Int) (hn : n < 0) (w : World) : Calls Try.prog 85 #[.int .i64 n] w fun e w' => e = .returned (.slice none 0 0) ∧ w = w' := by
  go_enter Try.func85, Try.ntmps85
  go_wp2
  go_ret
  exact ⟨rfl, rfl⟩

set_option maxRecDepth 100000 in
theorem sevens_any {W w : World} {l : List SL} (n : Nat) (hn : n < 9223372036854775808) (H : Sat W w l) :
    Calls Try.prog 85 #[.int .i64 n] w fun e w' => ∃ A c, e = .returned (.slice A (sev n).length c) ∧ Sat W w' (row 5 zB (.slice A (sev n).length c) (sev n).length ((sev n).map B) :: l) := by
  obtain ⟨i0, hi, hz0, hz1, hz2⟩ := info_parts infoU8
  go_enter Try.func85, Try.ntmps85
  have hH : Sat W (w.alloc (.cells #[.int .u8 ((n : Int) % 128)] 5)) _ := H.made #[.int .u8 ((n : Int) % 128)] 5 zB 1 1 (by omega) (by unfold maxLen; omega) rfl (Typed.one _)
  have hneg : decide ((n : Int) < 0) = false := by simp
  go_wp2
  go_loopw [0, 3] (fun x v wc => ∃ (m d k : Nat) (pre : List UInt8) (A : Option Addr) (c : Nat), x = .int .i64 m ∧ v = .slice A (pre.length + 1) c ∧ m < 128 ^ k ∧ k ≤ 8 ∧ d < 128 ∧ pre.length + k ≤ 8 ∧ Hid (sev n = pre ++ sevF (k + 1) (m * 128 + d)) ∧
      Sat W wc (row 5 zB (.slice A (pre.length + 1) c) (pre.length + 1) (pre.map B ++ [.int .u8 (d : Int)]) :: l)) (fun x _ _ => (intOf x).toNat)
  case atStart =>
    refine ⟨n / 128, n % 128, 8, [], _, _, rfl, rfl, by omega, by omega, by omega, by simp, ?_, by simpa using hH⟩
    show _ = _
    rw [Nat.div_add_mod']
    rfl
  case round =>
    obtain ⟨m, d, k, pre, A, c, rfl, rfl, hm, hk, hd, hpk, HS, H'⟩ := hrel
    obtain ⟨g, rfl⟩ := H'.row_some (by omega)
    clear hH
    have hmb : (m : Int) ≤ 72057594037927936 := by
      have h1 : (128 : Nat) ^ k ≤ 128 ^ 8 := Nat.pow_le_pow_right (by omega) hk
      have h2 : (128 : Nat) ^ 8 = 72057594037927936 := by decide
      omega
    by_cases hm0 : (0 : Int) < (m : Int)
    · have hc := H'.row_cell pre.length (u := .int .u8 (d : Int)) (by simp)
      have hf := H'.row_frz pre.length
      have e1 : (pre.map B ++ [Value.int .u8 (d : Int)]).set pre.length (.int .u8 ((d : Int) + 128)) = (pre ++ [UInt8.ofNat (d + 128)]).map B := by
        rw [set_last _ _ _ _ (by simp), List.map_append]
        simp only [List.map_cons, List.map_nil, B, UInt8.toNat_ofNat']
        congr 4
        omega
      have H1 := H'.row_set pre.length (.int .u8 ((d : Int) + 128)) (zB_at _ _)
      rw [e1] at H1
      have E1 := Lib.hid e1
      clear e1
      go_wp2_with (at_builtin
                   refine wpList_append_sl rfl (.tmp 28) (.tmp 32) 22 rfl 5 i0 (.int .u8 0) zB 1 Try.underlying22 hi hz0 rfl hz1 hz2 (by simp) zB_like _ (pre.length + 1) _ rfl (H1.alloc' _) (some ⟨wr.heap.size, 0, none⟩) 1 1 [.int .u8 ((m : Int) % 128)] rfl rfl (by simpa using Rd.new (wr.setCell ⟨g, pre.length, none⟩ (.int .u8 ((d : Int) + 128))) #[.int .u8 ((m : Int) % 128)] 5) (by simp [Value.oneCell']) (Typed.one _) (by unfold maxLen; omega) (by omega) ?_
                   intro A2 c2 w2 H2)
      obtain ⟨k', rfl⟩ : ∃ k', k = k' + 1 := ⟨k - 1, by cases k with | zero => simp at hm; omega | succ k => omega⟩
      refine ⟨⟨m / 128, m % 128, k', pre ++ [UInt8.ofNat (d + 128)], A2, c2, rfl, by simp, ?_, by omega, by omega, by simp; omega, ?_, by simpa using H2⟩, by simp [intOf]; omega⟩
      · rw [Nat.pow_succ] at hm; omega
      · show _ = _
        rw [HS.out, sevF_more _ _ (by omega), Nat.div_add_mod', show (m * 128 + d) % 128 = d from by omega, show (m * 128 + d) / 128 = m from by omega]
        simp
    · have hm00 : m = 0 := by omega
      subst hm00
      go_wp2
      go_ret
      have hs : sev n = pre ++ [UInt8.ofNat d] := by rw [HS.out, Nat.zero_mul, Nat.zero_add, sevF_last _ _ hd]
      refine ⟨some ⟨g, 0, none⟩, c, ?_, ?_⟩
      · rw [hs]; simp
      · rw [hs, List.map_append, List.length_append]
        rw [byte_last d hd] at H'
        exact H'

set_option maxRecDepth 100000 in
theorem size_neg (n : Int) (hn : n < 0) (w : World) : Calls Try.prog 67 #[.int .i64 n] w fun e w' => e = .returned (.int .i64 0) ∧ w = w' := by
  go_enter Try.func67, Try.ntmps67
  go_wp2
  go_ret
  exact ⟨rfl, rfl⟩

theorem sev_len (n : Nat) : (sev n).length ≤ 9 := sevF_len 9 n

theorem sevF_one (k n : Nat) (h : n < 128) : (sevF (k + 1) n).length = 1 := by rw [sevF_last _ _ h]; rfl
theorem sevF_step (k n : Nat) (h : 128 ≤ n) : (sevF (k + 1) n).length = (sevF k (n / 128)).length + 1 := by rw [sevF_more _ _ h]; rfl

set_option maxRecDepth 100000 in
theorem size_any (n : Nat) (hn : n < 9223372036854775808) (w : World) : Calls Try.prog 67 #[.int .i64 n] w fun e w' => e = .returned (.int .i64 (sev n).length) ∧ w = w' := by
  have hneg : decide ((n : Int) < 0) = false := by simp
  go_enter Try.func67, Try.ntmps67
  go_wp2
  go_loop [0, 3] (fun x v => ∃ (m j k : Nat), x = .int .i64 m ∧ v = .int .i64 (j : Int) ∧ m < 128 ^ k ∧ j + k ≤ 9 ∧ Hid ((sev n).length = j + (if m = 0 then 0 else (sevF k m).length))) (fun x _ => (intOf x).toNat)
  case atStart =>
    refine ⟨n / 128, 1, 8, rfl, rfl, by omega, by omega, ?_⟩
    show _ = _
    unfold sev
    by_cases h : n < 128
    · rw [sevF_one _ _ h, if_pos (by omega)]
    · rw [sevF_step _ _ (by omega), if_neg (by omega)]; omega
  case round =>
    obtain ⟨m, j, k, rfl, rfl, hm, hj, HS⟩ := hrel
    have hmb : (m : Int) ≤ 9223372036854775807 := by
      have h1 : (128 : Nat) ^ k ≤ 128 ^ 9 := Nat.pow_le_pow_right (by omega) (by omega)
      have h2 : (128 : Nat) ^ 9 = 9223372036854775808 := by decide
      omega
    by_cases hm0 : (0 : Int) < (m : Int)
    · go_wp2
      obtain ⟨k', rfl⟩ : ∃ k', k = k' + 1 := ⟨k - 1, by cases k with | zero => simp at hm; omega | succ k => omega⟩
      refine ⟨⟨m / 128, j + 1, k', by simp, by go_num, by rw [Nat.pow_succ] at hm; omega, by omega, ?_⟩, by simp [intOf]; omega⟩
      show _ = _
      rw [HS.out, if_neg (by omega)]
      by_cases h : m < 128
      · rw [sevF_one _ _ h, if_pos (by omega)]
      · rw [sevF_step _ _ (by omega), if_neg (by omega)]; omega
    · go_wp2
      go_ret
      refine ⟨?_, rfl⟩
      rw [HS.out, if_pos (by omega)]
      simp

/-- The document's writer: its block, its bytes, whether a number below 0 was to be written. -/
def xr (p : Nat) (bs : List UInt8) (bad : Bool) : SL := ex fun Ac : Option Addr × Nat =>
  sep (pt p #[.slice Ac.1 bs.length Ac.2, .bool bad] 82) (row 5 zB (.slice Ac.1 bs.length Ac.2) bs.length (bs.map B))
theorem xr_open {W w : World} {l : List SL} {p : Nat} {bs : List UInt8} {bad : Bool} (H : Sat W w (xr p bs bad :: l)) :
    ∃ A c, Sat W w (pt p #[.slice A bs.length c, .bool bad] 82 :: row 5 zB (.slice A bs.length c) bs.length (bs.map B) :: l) :=
  let ⟨Ac, h⟩ := Sat.ex H; ⟨Ac.1, Ac.2, h.sep⟩
theorem xr_shut {W w : World} {l : List SL} {p : Nat} {bs : List UInt8} {bad : Bool} {A : Option Addr} {c : Nat}
    (H : Sat W w (pt p #[.slice A bs.length c, .bool bad] 82 :: row 5 zB (.slice A bs.length c) bs.length (bs.map B) :: l)) : Sat W w (xr p bs bad :: l) :=
  Sat.unex (A := fun Ac : Option Addr × Nat => sep (pt p #[.slice Ac.1 bs.length Ac.2, .bool bad] 82) (row 5 zB (.slice Ac.1 bs.length Ac.2) bs.length (bs.map B))) (A, c) H.unsep

set_option maxRecDepth 100000 in
theorem xInt_any {W w : World} {l : List SL} {p : Nat} {bs : List UInt8} {bad : Bool} (n : Nat) (hn : n < 9223372036854775808) (hb : bs.length ≤ 1000000000) (H : Sat W w (xr p bs bad :: l)) :
    Calls Try.prog 58 #[.pointer (some ⟨p, 0, none⟩), .int .i64 n] w fun e w' => e = .returned (.tuple #[]) ∧ Sat W w' (xr p (bs ++ sev n) bad :: l) := by
  obtain ⟨i0, hi, hz0, hz1, hz2⟩ := info_parts infoU8
  obtain ⟨A, c, H⟩ := xr_open H
  have hc0 : w.cell? ⟨p, 0, none⟩ = some (.slice A bs.length c) := H.cell 0
  have hc1 : w.cell? ⟨p, 1, none⟩ = some (.bool bad) := H.cell 1
  have hf0 := H.frz 0
  have hf1 := H.frz 1
  have hneg : decide ((n : Int) < 0) = false := by simp
  go_enter Try.func58, Try.ntmps58
  have H4 := H.setCell 1 (.bool bad)
  cases bad
  all_goals
    go_wp2
    generalize hwo : w.setCell ⟨p, 1, none⟩ _ = wo at H4 ⊢
    clear hwo hc0 hc1 hf0 hf1
    have hc0 : wo.cell? ⟨p, 0, none⟩ = some (.slice A bs.length c) := H4.cell 0
    go_region_law (first
      | (refine step_append_sl rfl (.tmp 19) (.tmp 21) 22 rfl 5 i0 (.int .u8 0) zB 1 Try.underlying22 hi hz0 rfl hz1 hz2 (by simp) zB_like _ bs.length _ (by simp [Act.eval]) (H5.pull 2) A' (sev n).length c' ((sev n).map B) (by simp [Act.eval]) (by simp) H5.rd (B_one _) (Typed.bytes _) (by unfold maxLen; omega) (by omega) ?_
         intro A2 c2 w2 H2
         have hc2 : w2.cell? ⟨p, 0, none⟩ = some (.slice A bs.length c) := (H2.pull 2).cell 0
         have hf2 := (H2.pull 2).frz 0)
      | (go_simp; go_at_call 85; refine (sevens_any n hn H4.drew).mono ?_
         rintro e w1 ⟨A', c', rfl, H5⟩
         have hc5 : w1.cell? ⟨p, 0, none⟩ = some (.slice A bs.length c) := H5.swap.cell 0
         have hl9 := sev_len n))
  all_goals
    go_wp2
    go_end0
    refine ⟨rfl, xr_shut (A := A2) (c := c2) ?_⟩
    rw [List.length_append, List.map_append]
    simpa [Go.Rt.pull] using (((H2.swap.tail).swap.setCell 0 (.slice A2 (bs.length + (sev n).length) c2)))

set_option maxRecDepth 100000 in
theorem xInt_neg {W w : World} {l : List SL} {p : Nat} {bs : List UInt8} {bad : Bool} (n : Int) (hn : n < 0) (hb : bs.length ≤ 1000000000) (H : Sat W w (xr p bs bad :: l)) :
    Calls Try.prog 58 #[.pointer (some ⟨p, 0, none⟩), .int .i64 n] w fun e w' => e = .returned (.tuple #[]) ∧ Sat W w' (xr p bs true :: l) := by
  obtain ⟨i0, hi, hz0, hz1, hz2⟩ := info_parts infoU8
  obtain ⟨A, c, H⟩ := xr_open H
  have hc0 : w.cell? ⟨p, 0, none⟩ = some (.slice A bs.length c) := H.cell 0
  have hc1 : w.cell? ⟨p, 1, none⟩ = some (.bool bad) := H.cell 1
  have hf0 := H.frz 0
  have hf1 := H.frz 1
  have hneg : decide (n < 0) = true := by simpa using hn
  go_enter Try.func58, Try.ntmps58
  have H4 := H.setCell 1 (.bool true)
  cases bad
  all_goals
    go_wp2
    generalize hwo : w.setCell ⟨p, 1, none⟩ _ = wo at H4 ⊢
    clear hwo hc0 hc1 hf0 hf1
    have hc0 : wo.cell? ⟨p, 0, none⟩ = some (.slice A bs.length c) := H4.cell 0
    go_region_law (first
      | (refine step_append_sl rfl (.tmp 19) (.tmp 21) 22 rfl 5 i0 (.int .u8 0) zB 1 Try.underlying22 hi hz0 rfl hz1 hz2 (by simp) zB_like _ bs.length _ (by simp [Act.eval]) H4.drew.swap none 0 0 [] (by simp [Act.eval]) rfl (Rd.nil _ _) (by simp) (Typed.nil _) (by unfold maxLen; omega) (by omega) ?_
         intro A2 c2 w2 H2
         have hc2 : w2.cell? ⟨p, 0, none⟩ = some (.slice A bs.length c) := H2.swap.cell 0
         have hf2 := H2.swap.frz 0)
      | (go_simp; go_at_call 85; refine (sevens_neg n hn _).mono ?_
         rintro e w1 ⟨rfl, rfl⟩))
  all_goals
    go_wp2
    go_end0
    refine ⟨rfl, xr_shut (A := A2) (c := c2) ?_⟩
    simpa [Go.Rt.pull] using (H2.swap.setCell 0 (.slice A2 bs.length c2))

theorem xInt_all {W w : World} {l : List SL} {p : Nat} {bs : List UInt8} {bad : Bool} (n : Int) (hn : n ≤ 9223372036854775807) (hb : bs.length ≤ 1000000000) (H : Sat W w (xr p bs bad :: l)) :
    Calls Try.prog 58 #[.pointer (some ⟨p, 0, none⟩), .int .i64 n] w fun e w' => e = .returned (.tuple #[]) ∧ Sat W w' (xr p (wrInt n bs) (bad || decide (n < 0)) :: l) := by
  by_cases h : n < 0
  · refine (xInt_neg n h hb H).mono ?_
    rintro e w' ⟨rfl, h'⟩
    refine ⟨rfl, ?_⟩
    simpa [wrInt, h] using h'
  · obtain ⟨m, rfl⟩ : ∃ m : Nat, n = m := ⟨n.toNat, by omega⟩
    refine (xInt_any m (by omega) hb H).mono ?_
    rintro e w' ⟨rfl, h'⟩
    refine ⟨rfl, ?_⟩
    simpa [wrInt, h] using h'

set_option maxRecDepth 100000 in
theorem xText_any {W w : World} {l : List SL} {p : Nat} {bs : List UInt8} {bad : Bool} (s : ByteArray) (hn : s.size ≤ 1000000000) (hb : bs.length ≤ 900000000) (H : Sat W w (xr p bs bad :: l)) :
    Calls Try.prog 59 #[.pointer (some ⟨p, 0, none⟩), .string s] w fun e w' => e = .returned (.tuple #[]) ∧ Sat W w' (xr p (bs ++ sev s.size ++ s.data.toList) bad :: l) := by
  obtain ⟨i0, hi, hz0, hz1, hz2⟩ := info_parts infoU8
  obtain ⟨A, c, H4⟩ := xr_open H
  have hc0 : w.cell? ⟨p, 0, none⟩ = some (.slice A bs.length c) := H4.cell 0
  go_enter Try.func59, Try.ntmps59
  have hl9 := sev_len s.size
  go_region_law (first
      | (refine step_append_sl rfl (.tmp 8) (.tmp 11) 22 rfl 5 i0 (.int .u8 0) zB 1 Try.underlying22 hi hz0 rfl hz1 hz2 (by simp) zB_like _ bs.length _ (by simp [Act.eval]) (H5.pull 2) A' (sev s.size).length c' ((sev s.size).map B) (by simp [Act.eval]) (by simp) H5.rd (B_one _) (Typed.bytes _) (by unfold maxLen; omega) (by omega) ?_
         intro A2 c2 w2 H2
         have hc2 : w2.cell? ⟨p, 0, none⟩ = some (.slice A bs.length c) := (H2.pull 2).cell 0
         have hf2 := (H2.pull 2).frz 0)
      | (refine step_append_str rfl (.tmp 12) (.tmp 13) 22 9 rfl 5 i0 Try.underlying22 Try.underlying9 hi hz0 hz1 hz2 _ (bs.length + (sev s.size).length) _ (by simp [Act.eval]) H2 s (by simp [Act.eval]) (by unfold maxLen; omega) (by omega) ?_
         intro A3 c3 w3 H3
         have hc3 : w3.cell? ⟨p, 0, none⟩ = some (.slice A bs.length c) := (H3.pull 2).cell 0
         have hf3 := (H3.pull 2).frz 0)
      | (go_simp; go_at_call 85; refine (sevens_any s.size (by omega) H4.drew).mono ?_
         rintro e w1 ⟨A', c', rfl, H5⟩
         have hc5 : w1.cell? ⟨p, 0, none⟩ = some (.slice A bs.length c) := H5.swap.cell 0))
  all_goals
    go_end0
    refine ⟨rfl, xr_shut (A := A3) (c := c3) ?_⟩
    have := (H3.swap.tail).swap.setCell 0 (.slice A3 (bs.length + (sev s.size).length + s.size) c3)
    have e1 : (bs ++ sev s.size ++ s.data.toList).length = bs.length + (sev s.size).length + s.size := by simp only [List.length_append, strC_len]
    have e2 : (bs ++ sev s.size ++ s.data.toList).map B = bs.map B ++ (sev s.size).map B ++ strC s := by simp only [List.map_append]; rfl
    rw [e1, e2]
    exact this

set_option maxRecDepth 100000 in
theorem xOut_any {W w : World} {l : List SL} {p : Nat} {bs : List UInt8} (hb : bs.length ≤ 1000000000) (H : Sat W w (xr p bs false :: l)) :
    Calls Try.prog 60 #[.pointer (some ⟨p, 0, none⟩)] w fun e w' => ∃ A c, e = .returned (.tuple #[.slice A bs.length c, .int .i64 0]) ∧ Sat W w' (row 5 zB (.slice A bs.length c) bs.length (bs.map B) :: xr p bs false :: l) := by
  obtain ⟨i0, hi, hz0, hz1, hz2⟩ := info_parts infoU8
  obtain ⟨A, c, H⟩ := xr_open H
  have hc0 : w.cell? ⟨p, 0, none⟩ = some (.slice A bs.length c) := H.cell 0
  have hc1 : w.cell? ⟨p, 1, none⟩ = some (.bool false) := H.cell 1
  have hlt := H.lt
  have hr : Rd w A (bs.map B) := H.swap.rd
  go_enter Try.func60, Try.ntmps60
  go_wp2_with (first
    | (at_builtin
       refine wpList_append_sl rfl (.tmp 8) (.tmp 12) 22 rfl 5 i0 (.int .u8 0) zB 1 Try.underlying22 hi hz0 rfl hz1 hz2 (by simp) zB_like _ 0 [] rfl (H.made #[] 5 zB 0 0 (by omega) (by unfold maxLen; omega) rfl (Typed.nil _)) A bs.length c (bs.map B) rfl (by simp) (hr.below ((Below.refl _ _).alloc (Nat.le_refl _) _)) (B_one bs) (Typed.bytes bs) (by unfold maxLen; omega) (by omega) ?_
       intro A2 c2 w2 H2))
  go_ret2
  refine ⟨A2, c2, by simp, ?_⟩
  have := xr_shut ((H2.pull 2).pull 2)
  simpa [Go.Rt.pull] using this.swap

set_option maxRecDepth 100000 in
theorem xOut_bad {W w : World} {l : List SL} {p : Nat} {bs : List UInt8} (H : Sat W w (xr p bs true :: l)) :
    Calls Try.prog 60 #[.pointer (some ⟨p, 0, none⟩)] w fun e w' => e = .returned (.tuple #[.slice none 0 0, .int .i64 5]) ∧ w = w' := by
  obtain ⟨A, c, H⟩ := xr_open H
  have hc1 : w.cell? ⟨p, 1, none⟩ = some (.bool true) := H.cell 1
  go_enter Try.func60, Try.ntmps60
  go_wp2
  go_ret2
  exact ⟨rfl, rfl⟩
end Go.Proofs.Ytflcmhmbmippfaa

/- Registers as numbers and numbers as registers; bytes that are copied, compared, lent, written over. -/
namespace Go.Proofs.Ytflcmhmbmippfaa
open Go.RowKit Go.Rt

theorem bytesWorld_below (w : World) (e : TypeId) (s : ByteArray) : Below w.heap.size w (Lib.bytesWorld w e s) := by
  refine ⟨?_, ?_, ?_, by rw [Lib.bytesWorld_size]; omega, fun k hk => Lib.bytesWorld_at_old w e s k hk⟩ <;> simp [Lib.bytesWorld, World.freeze, World.alloc, World.drew, -World.alloc_eq, -World.drew_eq]

/-- The number that bytes say, the highest first. -/
def numL (bs : List UInt8) : Nat := bs.foldl (fun n c => n * 256 + c.toNat) 0
theorem numL_snoc (bs : List UInt8) (c : UInt8) : numL (bs ++ [c]) = numL bs * 256 + c.toNat := by simp [numL]
theorem foldl_num (b : List UInt8) : ∀ n, b.foldl (fun n c => n * 256 + c.toNat) n = n * 256 ^ b.length + numL b := by
  induction b with
  | nil => intro n; simp [numL]
  | cons c b ih =>
    intro n
    have h := ih (0 * 256 + c.toNat)
    simp only [List.foldl_cons, List.length_cons, numL] at h ⊢
    rw [h, ih, Nat.pow_succ, Nat.zero_mul, Nat.zero_add, Nat.add_mul, Nat.mul_assoc, Nat.mul_comm 256]
    unfold numL
    omega
theorem numL_append (a b : List UInt8) : numL (a ++ b) = numL a * 256 ^ b.length + numL b := by
  unfold numL; rw [List.foldl_append, foldl_num]; rfl
theorem numL_lt (b : List UInt8) : numL b < 256 ^ b.length := by
  rw [← List.reverse_reverse b]
  induction b.reverse with
  | nil => simp [numL]
  | cons c l ih =>
    rw [List.reverse_cons, numL_snoc, List.length_append, List.length_singleton, Nat.pow_succ]
    have := c.toNat_lt
    omega
/-- What a register says: its last eight bytes. -/
def num8 (bs : List UInt8) : Nat := numL (bs.drop (bs.length - 8))
theorem num8_mod (bs : List UInt8) : num8 bs = numL bs % 18446744073709551616 := by
  have h : numL bs = numL (bs.take (bs.length - 8)) * 256 ^ (bs.drop (bs.length - 8)).length + numL (bs.drop (bs.length - 8)) := by
    rw [← numL_append, List.take_append_drop]
  have hl : (bs.drop (bs.length - 8)).length = bs.length - (bs.length - 8) := List.length_drop
  have hlt := numL_lt (bs.drop (bs.length - 8))
  unfold num8
  by_cases h8 : 8 ≤ bs.length
  · rw [h]
    rw [show (bs.drop (bs.length - 8)).length = 8 by omega] at hlt ⊢
    rw [show (256 : Nat) ^ 8 = 18446744073709551616 by decide] at hlt ⊢
    omega
  · have h0 : bs.length - 8 = 0 := by omega
    rw [h0, List.drop_zero] at hlt ⊢
    have : (256 : Nat) ^ bs.length ≤ 256 ^ 8 := Nat.pow_le_pow_right (by omega) (by omega)
    rw [show (256 : Nat) ^ 8 = 18446744073709551616 by decide] at this
    rw [Nat.mod_eq_of_lt (by omega)]

theorem or_u64 (N : Nat) (c : UInt8) (hN : N < 72057594037927936) : bits BinOp.or IntKind.u64 ((N : Int) * 256) (c.toNat : Int) = ((N * 256 + c.toNat : Nat) : Int) := by
  have hc := c.toNat_lt
  have e1 : (BitVec.ofInt 64 ((N : Int) * 256)).toNat = N * 256 := by
    rw [show (N : Int) * 256 = ((N * 256 : Nat) : Int) by omega, BitVec.ofInt_natCast, BitVec.toNat_ofNat]; exact Nat.mod_eq_of_lt (by omega)
  have e2 : (BitVec.ofInt 64 (c.toNat : Int)).toNat = c.toNat := by
    rw [BitVec.ofInt_natCast, BitVec.toNat_ofNat]; exact Nat.mod_eq_of_lt (by omega)
  have e3 : N * 256 ||| c.toNat = N * 256 + c.toNat := by
    have := Nat.two_pow_add_eq_or_of_lt (i := 8) (b := c.toNat) (by omega) N
    rw [show (2 : Nat) ^ 8 = 256 by decide, Nat.mul_comm 256 N] at this
    exact this.symm
  show IntKind.u64.wrap ((BitVec.ofInt 64 ((N : Int) * 256) ||| BitVec.ofInt 64 (c.toNat : Int)).toNat : Int) = _
  rw [BitVec.toNat_or, e1, e2, e3, IntKind.wrap_u64]
  omega
theorem num_step (t : ByteArray) (j : Nat) (h : j < t.size) : numL (t.data.toList.take (j + 1)) = numL (t.data.toList.take j) * 256 + (t.data.toList.getD j 0).toNat := by
  rw [List.take_succ_eq_append_getElem (by simpa [strC_len] using h), numL_snoc]
  simp [List.getD, h]

theorem ba_append (a b : List UInt8) : (⟨a.toArray⟩ ++ ⟨b.toArray⟩ : ByteArray) = ⟨(a ++ b).toArray⟩ := by
  apply ByteArray.ext
  simp
/-- A number's last i bytes, the highest first. -/
def bF : Nat → Nat → List UInt8
  | 0, _ => []
  | i + 1, n => UInt8.ofNat (n / 256 ^ i) :: bF i n
theorem bF_len (i n : Nat) : (bF i n).length = i := by induction i with | zero => rfl | succ i ih => simp [bF, ih]

/-- The cells of Val's array behind j rounds. -/
def arrF (n j : Nat) : Array Value := ((List.range 8).map fun k => if k < j then B (UInt8.ofNat (n / 256 ^ (7 - k))) else .int .u8 0).toArray
theorem arrF_step (n j : Nat) (hj : j < 8) : (arrF n j).setIfInBounds j (B (UInt8.ofNat (n / 256 ^ (7 - j)))) = arrF n (j + 1) := by
  have : j = 0 ∨ j = 1 ∨ j = 2 ∨ j = 3 ∨ j = 4 ∨ j = 5 ∨ j = 6 ∨ j = 7 := by omega
  rcases this with rfl | rfl | rfl | rfl | rfl | rfl | rfl | rfl <;> rfl
theorem byte_shift (n j : Nat) (hj : j < 8) : Value.int .u8 ((n : Int) / 2 ^ (56 - 8 * j) % 256) = B (UInt8.ofNat (n / 256 ^ (7 - j))) := by
  unfold B
  rw [UInt8.toNat_ofNat']
  congr 1
  have : j = 0 ∨ j = 1 ∨ j = 2 ∨ j = 3 ∨ j = 4 ∨ j = 5 ∨ j = 6 ∨ j = 7 := by omega
  rcases this with rfl | rfl | rfl | rfl | rfl | rfl | rfl | rfl <;> simp
theorem arrF_end (n : Nat) : (arrF n 8).toList = (bF 8 n).map B := by simp [arrF, bF, List.range_succ]

set_option maxRecDepth 100000 in
/-- Bytes that are compared as texts. -/
theorem same_any (A A' : Option Addr) (c c' : Nat) (xs ys : List UInt8) (w : World) (hx : Rd w A (xs.map B)) (hy : Rd w A' (ys.map B)) :
    Calls Try.prog 18 #[.slice A xs.length c, .slice A' ys.length c'] w fun e w' => e = .returned (.bool (xs == ys)) ∧ w = w' := by
  have h1 := run_str (P := Try.prog) (w := w) 22 9 5 Try.underlying22 Try.underlying5 Try.underlying9 A xs.length c xs rfl hx
  have h2 := run_str (P := Try.prog) (w := w) 22 9 5 Try.underlying22 Try.underlying5 Try.underlying9 A' ys.length c' ys rfl hy
  go_enter Try.func18, Try.ntmps18
  go_wp2
  go_ret
  exact ⟨rfl, rfl⟩

set_option maxRecDepth 100000 in
theorem copy_any {W w : World} {l : List SL} (A : Option Addr) (c : Nat) (xs : List UInt8) (hx : Rd w A (xs.map B)) (hb : xs.length ≤ 1000000000) (H : Sat W w l) :
    Calls Try.prog 26 #[.slice A xs.length c] w fun e w' => ∃ A' c', e = .returned (.slice A' xs.length c') ∧ Sat W w' (row 5 zB (.slice A' xs.length c') xs.length (xs.map B) :: l) := by
  obtain ⟨i0, hi, hz0, hz1, hz2⟩ := info_parts infoU8
  go_enter Try.func26, Try.ntmps26
  go_wp2_with (first
    | (at_builtin
       refine wpList_append_sl rfl (.tmp 3) (.tmp 4) 22 rfl 5 i0 (.int .u8 0) zB 1 Try.underlying22 hi hz0 rfl hz1 hz2 (by simp) zB_like _ 0 [] rfl (H.made #[] 5 zB 0 0 (by omega) (by unfold maxLen; omega) rfl (Typed.nil _)) A xs.length c (xs.map B) rfl (by simp) (hx.below ((Below.refl _ _).alloc (Nat.le_refl _) _)) (B_one xs) (Typed.bytes xs) (by unfold maxLen; omega) (by omega) ?_
       intro A2 c2 w2 H2))
  go_ret
  refine ⟨A2, c2, by simp, ?_⟩
  simpa using H2

set_option maxRecDepth 100000 in
/-- Every byte of a list is written over, the spare room too: what it is made of stays bytes. -/
theorem over_any {W w : World} {l : List SL} (A : Option Addr) (c : Nat) (xs : List UInt8) (H : Sat W w (row 5 zB (.slice A xs.length c) xs.length (xs.map B) :: l)) :
    Calls Try.prog 23 #[.slice A xs.length c] w fun e w' => e = .returned (.tuple #[]) ∧ ∃ ys, Sat W w' (row 5 zB (.slice A xs.length c) xs.length ys :: l) := by
  go_enter Try.func23, Try.ntmps23
  obtain ⟨_, A0, c0, hv, hnc, hcm, hA0, _⟩ := H.slice
  cases hv
  unfold maxLen at hcm
  go_wp2
  go_loopw [3] (fun i wc => ∃ (j : Nat) (ys : List Value), j ≤ c ∧ i = .int .i64 j ∧ Sat W wc (row 5 zB (.slice A xs.length c) xs.length ys :: l)) (fun i _ => c - (intOf i).toNat)
  case atStart => exact ⟨0, _, by omega, rfl, H⟩
  case round =>
    obtain ⟨j, ys, hj, rfl, H'⟩ := hrel
    by_cases hlt : j < c
    · cases A with
      | none => have := (hA0 rfl).1; omega
      | some ad =>
        obtain ⟨_, A1, c1, hv, _, _, _, hA1⟩ := H'.slice
        cases hv
        obtain ⟨h0, hsp, _, _⟩ := hA1 ad rfl
        obtain ⟨g, off, sp⟩ := ad
        dsimp only at h0 hsp
        subst h0 hsp
        obtain ⟨u, hu, hk⟩ := H'.row_at j (by simpa using hlt)
        have hf := H'.row_frz j
        obtain ⟨x, rfl⟩ : ∃ x, u = .int .u8 x := by
          cases u <;> simp [like, Nat.mod_one] at hk
          subst hk; exact ⟨_, rfl⟩
        clear hA0 hA1 hk
        go_wp2
        exact ⟨⟨j + 1, _, by omega, by go_num, H'.row_set j _ (zB_at _ _)⟩, by simp [intOf]; omega⟩
    · go_wp2
      go_end0
      exact ⟨rfl, ys, H'⟩
end Go.Proofs.Ytflcmhmbmippfaa

/- More laws on what a call owns: make, copy. No program in sight. -/
namespace Go.Rt
open Go.RowKit

/-- What is read as long as the things of l are owned: memory that was there at the beginning, or a row of l. -/
def RdL (W : World) (l : List SL) (A : Option Addr) (xs : List Value) : Prop := ∀ w, Sat W w l → Rd w A xs
theorem RdL.old {W : World} {l : List SL} {A : Option Addr} {xs : List Value} (h : Rd W A xs) : RdL W l A xs := fun _ H => h.old H
theorem RdL.tail {W : World} {l : List SL} {B : SL} {A : Option Addr} {xs : List Value} (h : RdL W l A xs) : RdL W (B :: l) A xs := fun w H => h w H.tail
theorem RdL.row {W : World} {l : List SL} {e : TypeId} {zc : List Value} {A : Option Addr} {m n c : Nat} {xs : List Value} : RdL W (Go.Rt.row e zc (.slice A m c) n xs :: l) A xs := fun _ H => H.rd
theorem RdL.pull {W : World} {l : List SL} {A : Option Addr} {xs : List Value} (i : Nat) (h : RdL W (Go.Rt.pull i l) A xs) : RdL W l A xs := fun w H => h w (H.pull i)

theorem madeCells_eq (zc : List Value) (n : Nat) : madeCells zc.toArray (n * zc.length) = Builtin.zeroCells zc.toArray n := by
  simp [madeCells, Builtin.zeroCells]

section
variable {P : Program} {W w : World} {l : List SL}

set_option maxRecDepth 100000 in
/-- 'make([]T, n)' -/
theorem wpList_make_sl {ops : Array Oper} {rest : List Oper} {o : Oper} {a : Act} {Q : Exit → Act → World → Prop} (hg : o.guard = none) (lo co : Operand) (t : TypeId) (hop : o.op = Op.makeSlice t lo co)
    (e : TypeId) (i : TypeInfo) (z : Value) (zc : List Value) (h1 : P.underlying t = some (.slice e)) (h2 : P.info? e = some i) (h3 : i.zero = some z) (hzc : z.cells = zc.toArray) (h4 : i.size = zc.length) (hzz : LikeZ zc)
    (kl kc : IntKind) (L C : Int) (n c : Nat) (hl : a.eval lo = .int kl L) (hc : a.eval co = .int kc C) (hL : L = (n : Int)) (hC : C = (c : Int)) (hnc : n ≤ c) (b2 : i.bytes * c ≤ 281474976710656) (b3 : c ≤ maxLen)
    (H : Sat W w l)
    (hK : ∀ w', Sat W w' (row e zc (.slice (some ⟨w.heap.size, 0, none⟩) n c) n (Builtin.zeroCells zc.toArray n).toList :: l) → wpList P ops Q rest (a.put o.dst (.slice (some ⟨w.heap.size, 0, none⟩) n c)) w') :
    wpList P ops Q (o :: rest) a w := by
  refine wpList_plain hg fun K hK' => ?_
  subst hL hC
  have hb : (i.bytes : Int) * (c : Int) ≤ 281474976710656 := by
    have h : ((i.bytes * c : Nat) : Int) ≤ 281474976710656 := by omega
    rwa [Int.natCast_mul] at h
  have hrun := run_make (P := P) w t e i z h1 h2 h3 kl kc n c (by omega) (by omega) hb (by simp only [maxLen] at b3; omega)
  simp only [Int.toNat_natCast, hzc, h4, madeCells_eq] at hrun
  unfold Oper.wp
  simp [execOp, hop, hl, hc, hrun, Result.andThen]
  refine hK' _ _ (hK _ ?_)
  have hs := H.made (Builtin.zeroCells zc.toArray c) e zc n c hnc b3 (by simp [Builtin.zeroCells]) (Typed.zeros hzz c)
  have e1 : (Builtin.zeroCells zc.toArray c).toList.take (n * zc.length) = (Builtin.zeroCells zc.toArray n).toList := by
    simp only [Builtin.zeroCells, Array.toList_map, Array.toList_range, List.size_toArray, ← List.map_take]
    rw [List.take_range, Nat.min_eq_left (Nat.mul_le_mul_right _ hnc)]
  rw [e1] at hs
  exact hs

theorem run_copy_typed (dT sT ty e : TypeId) (i : TypeInfo) (zc : List Value) (hu : P.underlying dT = some (.slice e)) (hi : P.info? e = some i) (hsize : i.size = zc.length) 
    (g n c : Nat) (xs : List Value) (H : Sat W w (row e zc (.slice (some ⟨g, 0, none⟩) n c) n xs :: l))
    (A : Option Addr) (m c' : Nat) (news : List Value) (hl : news.length = m * zc.length) (hr : Rd w A news) (h1 : ∀ u ∈ news, u.oneCell' = true) (hty : Typed zc news) (hmn : m ≤ n) :
    ∃ w', (Builtin.copy_ #[dT, sT] ty #[.slice (some ⟨g, 0, none⟩) n c, .slice A m c']).run P w = .ok (goInt m) w' ∧ Sat W w' (row e zc (.slice (some ⟨g, 0, none⟩) n c) n (news ++ xs.drop (m * zc.length)) :: l) := by
  obtain ⟨cur, hg, hnc, _, hcs, htake, htc⟩ := H.row_blk
  have hmin : Nat.min m n = m := Nat.min_eq_left hmn
  have hf : (Builtin.firstCells i.size m (.slice A m c')).run P w = .ok news.toArray w := by
    cases A with
    | none =>
      have : news = [] := by
        cases news with
        | nil => rfl
        | cons x r => obtain ⟨_, _, h⟩ := hr.open (by simp); cases h
      subst this
      exact run_firstCells_none w _ _ _ _
    | some ad =>
      refine run_firstCells_some w i.size m ad m c' news (by rw [hsize]; exact hl) fun j u hu => ?_
      obtain ⟨b, o, h, hc⟩ := hr j u hu
      cases h
      unfold Addr.add
      split
      · rename_i hj; subst hj; simpa using hc
      · exact hc
  have hst := run_storeCells_at P g 0 e news 0 cur w hg (by rw [hl, hcs]; simpa using Nat.mul_le_mul_right _ (Nat.le_trans hmn hnc)) h1
  simp only [Nat.add_zero, Nat.zero_add, List.take_zero, List.nil_append] at hst
  refine ⟨_, by simp [Builtin.copy_, run_underlying hu, Builtin.lenOf, sizeOf, typeInfo, hi, hmin, hf, hst]; rfl, ?_⟩
  have hs := H.setRow (news ++ cur.toList.drop news.length).toArray n hnc ?_ ?_
  · have e1 : (news ++ cur.toList.drop news.length).toArray.toList.take (n * zc.length) = news ++ xs.drop (m * zc.length) := by
      show (news ++ cur.toList.drop news.length).take (n * zc.length) = _
      rw [List.take_append, List.take_of_length_le (by rw [hl]; exact Nat.mul_le_mul_right _ hmn), ← htake, List.drop_take, hl]
    rw [e1] at hs
    exact hs
  · simp only [List.size_toArray, List.length_append, List.length_drop]
    have : cur.toList.length = c * zc.length := by simpa using hcs
    rw [this, hl, Nat.add_sub_cancel' (Nat.mul_le_mul_right _ (Nat.le_trans hmn hnc))]
  · exact hty.append (htc.drop _ (by rw [hl]; simp)) (by rw [hl]; simp)

set_option maxRecDepth 100000 in
theorem wpList_copy_sl {ops : Array Oper} {rest : List Oper} {o : Oper} {a : Act} {Q : Exit → Act → World → Prop} (hgd : o.guard = none) (d s : Operand) (dT sT : TypeId)
    (ho : o.op = .call { callee := .builtin .copy, args := #[d, s], argTypes := #[dT, sT] })
    (e : TypeId) (i : TypeInfo) (zc : List Value) (hu : P.underlying dT = some (.slice e)) (hi : P.info? e = some i) (hsize : i.size = zc.length) 
    (g n c : Nat) (xs : List Value) (hd : a.eval d = .slice (some ⟨g, 0, none⟩) n c) (H : Sat W w (row e zc (.slice (some ⟨g, 0, none⟩) n c) n xs :: l))
    (A : Option Addr) (m c' : Nat) (news : List Value) (hx : a.eval s = .slice A m c') (hl : news.length = m * zc.length) (hr : Rd w A news) (h1 : ∀ u ∈ news, u.oneCell' = true) (hty : Typed zc news) (hmn : m ≤ n)
    (h : ∀ w', Sat W w' (row e zc (.slice (some ⟨g, 0, none⟩) n c) n (news ++ xs.drop (m * zc.length)) :: l) → wpList P ops Q rest (a.put o.dst (goInt m)) w') : wpList P ops Q (o :: rest) a w := by
  refine wpList_plain hgd fun K hK => ?_
  obtain ⟨w', hrun, H'⟩ := run_copy_typed (P := P) dT sT o.type e i zc hu hi hsize g n c xs H A m c' news hl hr h1 hty hmn
  unfold Oper.wp execOp
  simp only [ho, resolve, invoke, builtin, Sem.run_bind, Sem.run_pure, Result.andThen_ok, List.map_toArray, List.map_cons, List.map_nil, hd, hx, hrun]
  exact hK _ _ (h w' H')
end
end Go.Rt

/- Bytes that are lent, and held against what they were. -/
namespace Go.Proofs.Ytflcmhmbmippfaa
open Go.RowKit Go.Rt

/-- What a copy with marks behind it is. -/
def lent (bs : List UInt8) : List UInt8 := bs ++ [UInt8.ofNat (160 + bs.length % 90), UInt8.ofNat (160 + (bs.length + 1) % 90), UInt8.ofNat (160 + (bs.length + 2) % 90)]
def lentF (bs : List UInt8) (k : Nat) : List Value := bs.map B ++ (List.range 3).map fun j => if j < k then B (UInt8.ofNat (160 + (bs.length + j) % 90)) else .int .u8 0
theorem zeros_bytes (n : Nat) : (Builtin.zeroCells zB.toArray n).toList = List.replicate n (.int .u8 0) := by
  simp [Builtin.zeroCells, Nat.mod_one]
  induction n with
  | zero => rfl
  | succ n ih => rw [List.range_succ, List.map_append, ih, List.replicate_succ']; rfl
theorem lentF_end (bs : List UInt8) : lentF bs 3 = (lent bs).map B := by simp [lentF, lent, List.range_succ]
theorem lentF_len (bs : List UInt8) (k : Nat) : (lentF bs k).length = bs.length + 3 := by simp [lentF]
theorem lentF_step (bs : List UInt8) (k : Nat) (hk : k < 3) : (lentF bs k).set (bs.length + k) (B (UInt8.ofNat (160 + (bs.length + k) % 90))) = lentF bs (k + 1) := by
  unfold lentF
  rw [List.set_append_right _ _ (by simp)]
  congr 1
  have : k = 0 ∨ k = 1 ∨ k = 2 := by omega
  rcases this with rfl | rfl | rfl <;> simp [List.range_succ]
theorem lentF_at (bs : List UInt8) (k : Nat) (hk : k < 3) : (lentF bs k)[bs.length + k]? = some (.int .u8 0) := by
  unfold lentF
  rw [List.getElem?_append_right (by simp)]
  have : k = 0 ∨ k = 1 ∨ k = 2 := by omega
  rcases this with rfl | rfl | rfl <;> simp [List.range_succ]

theorem lent_mark (bs : List UInt8) (j : Nat) : Value.int .u8 (160 + ((bs.length : Int) + j) % 90) = B (UInt8.ofNat (160 + (bs.length + j) % 90)) := by
  unfold B
  rw [UInt8.toNat_ofNat']
  congr 1
  omega

set_option maxRecDepth 100000 in
theorem lent_any {W w : World} {l : List SL} (A : Option Addr) (c : Nat) (xs : List UInt8) (hx : RdL W l A (xs.map B)) (hb : xs.length ≤ 1000000000) (H : Sat W w l) :
    Calls Try.prog 12 #[.slice A xs.length c] w fun e w' => ∃ g, e = .returned (.slice (some ⟨g, 0, none⟩) xs.length (xs.length + 3)) ∧ Sat W w' (row 5 zB (.slice (some ⟨g, 0, none⟩) (xs.length + 3) (xs.length + 3)) (xs.length + 3) ((lent xs).map B) :: l) := by
  obtain ⟨i0, hi, hz0, hz1, hz2⟩ := info_parts infoU8
  go_enter Try.func12, Try.ntmps12
  go_wp2_with (first
    | (at_make
       refine wpList_make_sl rfl (.tmp 7) (.tmp 7) 22 rfl 5 i0 (.int .u8 0) zB Try.underlying22 hi hz0 rfl hz1 zB_like .i64 .i64 _ _ (xs.length + 3) (xs.length + 3) rfl rfl (by omega) (by omega) (Nat.le_refl _) (by rw [hz2]; omega) (by unfold maxLen; omega) H ?_
       intro w1 H1)
    | (refine wpList_copy_sl rfl (.tmp 9) (.tmp 10) 22 22 rfl 5 i0 zB Try.underlying22 hi hz1 w.heap.size (xs.length + 3) (xs.length + 3) _ rfl H1 A xs.length c (xs.map B) rfl (by simp) (hx _ H1.tail) (B_one xs) (Typed.bytes xs) (by omega) ?_
       intro w2 H2))
  have e0 : xs.map B ++ (Builtin.zeroCells zB.toArray (xs.length + 3)).toList.drop (xs.length * zB.length) = lentF xs 0 := by
    rw [zeros_bytes, List.drop_replicate, List.length_singleton, Nat.mul_one, Nat.add_sub_cancel_left]; rfl
  rw [e0] at H2
  clear e0 H1
  generalize w.heap.size = g at H2 ⊢
  go_loopw [4] (fun i wc => ∃ (j : Nat), j ≤ 3 ∧ i = .int .i64 ((xs.length + j : Nat) : Int) ∧ Sat W wc (row 5 zB (.slice (some ⟨g, 0, none⟩) (xs.length + 3) (xs.length + 3)) (xs.length + 3) (lentF xs j) :: l)) (fun i _ => xs.length + 3 - (intOf i).toNat)
  case atStart => exact ⟨0, by omega, rfl, H2⟩
  case round =>
    obtain ⟨j, hj, rfl, H'⟩ := hrel
    clear H2
    by_cases hlt : j < 3
    · have hc := H'.row_cell (xs.length + j) (lentF_at xs j hlt)
      have hf := H'.row_frz (xs.length + j)
      go_wp2
      refine ⟨⟨j + 1, by omega, by go_num, ?_⟩, by simp [intOf]; omega⟩
      rw [lent_mark xs j, ← lentF_step xs j hlt]
      exact H'.row_set _ _ (zB_at _ _)
    · have ej : j = 3 := by omega
      subst ej
      go_wp2
      go_ret
      refine ⟨g, by simp, ?_⟩
      rw [← lentF_end]
      exact H'

set_option maxRecDepth 100000 in
theorem kept_any {W w : World} {l : List SL} (A A' : Option Addr) (c' : Nat) (zs ys : List UInt8) (hz : RdL W l A (zs.map B)) (hy : RdL W l A' (ys.map B)) (hzl : ys.length ≤ zs.length) (hb : zs.length ≤ 1000000000) (H : Sat W w l) :
    Calls Try.prog 15 #[.slice A ys.length zs.length, .slice A' ys.length c'] w fun e w' => e = .returned (.bool (zs == lent ys)) ∧ Sat W w' l := by
  have hs : zs.length ≤ 1000000000 := hb
  go_enter Try.func15, Try.ntmps15
  go_wp2
  have hsum : IntKind.i64.wrap ((ys.length : Int) + 3) = (ys.length : Int) + 3 := IntWalk.i64_in _ (by omega)
  have hsum0 : (0 : Int) ≤ (ys.length : Int) + 3 := by omega
  have hsumN : ((ys.length : Int) + 3).toNat = ys.length + 3 := by omega
  go_region_held3 (fun _ => True) (exact trivial) (first
    | (go_at_call 12; refine (lent_any A' c' ys hy (by omega) H.drew).mono ?_
       rintro e w1 ⟨g, rfl, H1⟩
       have hll : Hid (ys.length + 3 = (lent ys).length) := by show _ = _; simp [lent]
       have h2 : Rd w1 (some ⟨g, 0, none⟩) ((lent ys).map B) := H1.rd
       have h1 : Rd w1 A (zs.map B) := hz _ H1.tail)
    | (go_at_call 18; rw [hll.out]; refine (same_any A (some ⟨g, 0, none⟩) zs.length (lent ys).length zs (lent ys) _ h1 h2).mono ?_
       rintro e w2 ⟨rfl, rfl⟩))
  go_wp2
  go_ret
  exact ⟨rfl, H1.tail⟩
end Go.Proofs.Ytflcmhmbmippfaa

/- Bits that a number is put together of. No program in sight. -/
namespace Go.Proofs.Ytflcmhmbmippfaa
open Go.RowKit Go.Rt

theorem and_u8 (a b : Nat) (ha : a < 256) (hb : b < 256) : bits .and .u8 (a : Int) (b : Int) = ((a &&& b : Nat) : Int) := by
  have e1 : ∀ x : Nat, x < 256 → (BitVec.ofInt 8 (x : Int)).toNat = x := fun x hx => by
    rw [BitVec.ofInt_natCast, BitVec.toNat_ofNat]; exact Nat.mod_eq_of_lt (by omega)
  have hx : a &&& b < 2 ^ 8 := Nat.and_lt_two_pow _ (by omega)
  show IntKind.u8.wrap ((BitVec.ofInt 8 (a : Int) &&& BitVec.ofInt 8 (b : Int)).toNat : Int) = _
  rw [BitVec.toNat_and, e1 a ha, e1 b hb, IntKind.wrap_u8]
  omega
theorem acc_lt (acc x j : Nat) (h : acc < 128 ^ j) (hx : x < 128) : acc + x * 128 ^ j < 128 ^ (j + 1) := by
  have h1 : x * 128 ^ j ≤ 127 * 128 ^ j := Nat.mul_le_mul_right _ (by omega)
  rw [Nat.pow_succ]
  omega
theorem acc_step (acc : Nat) (b : UInt8) (j : Nat) (hj : j ≤ 8) (h : acc < 128 ^ j) :
    bits BinOp.or IntKind.i64 (acc : Int) (wrap64 (wrap64 (bits BinOp.and IntKind.u8 (b.toNat : Int) 127) * 2 ^ (7 * j))) = ((acc + (b.toNat % 128) * 128 ^ j : Nat) : Int) := by
  have hb := b.toNat_lt
  have h1 := and_u8 b.toNat 127 (by omega) (by omega)
  rw [show ((127 : Nat) : Int) = 127 from rfl, and127] at h1
  rw [h1]
  clear h1
  have hm : b.toNat % 128 < 128 := Nat.mod_lt _ (by omega)
  generalize b.toNat % 128 = x at hm
  have hlt := acc_lt acc x j h hm
  have hp : (128 : Nat) ^ (j + 1) ≤ 9223372036854775808 := by
    have : (128 : Nat) ^ (j + 1) ≤ 128 ^ 9 := Nat.pow_le_pow_right (by omega) (by omega)
    rwa [show (128 : Nat) ^ 9 = 9223372036854775808 by decide] at this
  have hs : acc + x * 128 ^ j < 9223372036854775808 := Nat.lt_of_lt_of_le hlt hp
  clear hlt hp
  have e2 : (128 : Nat) ^ j = 2 ^ (7 * j) := by rw [Nat.pow_mul]
  have h3 := Nat.two_pow_add_eq_or_of_lt (i := 7 * j) (b := acc) (by rw [← e2]; exact h) x
  have e3 : (x : Int) * 2 ^ (7 * j) = ((x * 128 ^ j : Nat) : Int) := by rw [e2]; simp
  rw [← e2, Nat.mul_comm, Nat.or_comm] at h3
  clear h
  have w1 : wrap64 (x : Int) = (x : Int) := by unfold wrap64; omega
  rw [w1, e3]
  clear e3 e2 w1
  generalize x * 128 ^ j = y at *
  have w2 : wrap64 (y : Int) = (y : Int) := by unfold wrap64; omega
  rw [w2, or_i64 acc y (by omega) (by omega)]
  congr 1
  omega

end Go.Proofs.Ytflcmhmbmippfaa

/- Package word's reader: what is beneath its methods. -/
namespace Go.Proofs.Ytflcmhmbmippfaa
open Go.RowKit Go.Rt

/-- A reader: its block, its bytes, its place, its fault. -/
def rdr (p : Nat) (bs : List UInt8) (pl : Nat) (fe fa : Int) : SL := ex fun Ac : Option Addr × Nat =>
  sep (pt p #[.bool true, .slice Ac.1 bs.length Ac.2, .int .i64 fe, .int .i64 fa, .int .i64 pl] 105) (row 5 zB (.slice Ac.1 bs.length Ac.2) bs.length (bs.map B))
theorem rdr_open {W w : World} {l : List SL} {p : Nat} {bs : List UInt8} {pl : Nat} {fe fa : Int} (H : Sat W w (rdr p bs pl fe fa :: l)) :
    ∃ A c, Sat W w (pt p #[.bool true, .slice A bs.length c, .int .i64 fe, .int .i64 fa, .int .i64 pl] 105 :: row 5 zB (.slice A bs.length c) bs.length (bs.map B) :: l) :=
  let ⟨Ac, h⟩ := Sat.ex H; ⟨Ac.1, Ac.2, h.sep⟩
theorem rdr_shut {W w : World} {l : List SL} {p : Nat} {bs : List UInt8} {pl : Nat} {fe fa : Int} {A : Option Addr} {c : Nat}
    (H : Sat W w (pt p #[.bool true, .slice A bs.length c, .int .i64 fe, .int .i64 fa, .int .i64 pl] 105 :: row 5 zB (.slice A bs.length c) bs.length (bs.map B) :: l)) : Sat W w (rdr p bs pl fe fa :: l) :=
  Sat.unex (A := fun Ac : Option Addr × Nat => sep (pt p #[.bool true, .slice Ac.1 bs.length Ac.2, .int .i64 fe, .int .i64 fa, .int .i64 pl] 105) (row 5 zB (.slice Ac.1 bs.length Ac.2) bs.length (bs.map B))) (A, c) H.unsep

set_option maxRecDepth 100000 in
theorem open_any {W w : World} {l : List SL} (A : Option Addr) (c : Nat) (xs : List UInt8) (hx : RdL W l A (xs.map B)) (hb : xs.length ≤ 1000000000) (H : Sat W w l) :
    Calls Try.prog 42 #[.slice A xs.length c] w fun e w' => ∃ p, e = .returned (.pointer (some ⟨p, 0, none⟩)) ∧ Sat W w' (rdr p xs 0 0 0 :: l) := by
  obtain ⟨i0, hi, hz0, hz1, hz2⟩ := info_parts infoU8
  have hr : Rd w A (xs.map B) := hx _ H
  go_enter Try.func42, Try.ntmps42
  go_wp2_with (first
    | (at_builtin
       refine wpList_append_sl rfl (.tmp 3) (.tmp 4) 22 rfl 5 i0 (.int .u8 0) zB 1 Try.underlying22 hi hz0 rfl hz1 hz2 (by simp) zB_like _ 0 [] rfl (H.made #[] 5 zB 0 0 (by omega) (by unfold maxLen; omega) rfl (Typed.nil _)) A xs.length c (xs.map B) rfl (by simp) (hr.below ((Below.refl _ _).alloc (Nat.le_refl _) _)) (B_one xs) (Typed.bytes xs) (by unfold maxLen; omega) (by omega) ?_
       intro A2 c2 w2 H2))
  go_ret
  refine ⟨w2.heap.size, by simp, rdr_shut (A := A2) (c := c2) ?_⟩
  simpa using H2.alloc #[.bool true, .slice A2 xs.length c2, .int .i64 0, .int .i64 0, .int .i64 0] 105

/-- What is thrown where the bytes tell nothing. -/
def gone (e a : Int) : List PanicEntry := [{ v := .iface 124 (.agg #[.int .i64 e, .int .i64 a]), recovered := false }]

set_option maxRecDepth 100000 in
theorem some_short {W w : World} {l : List SL} {p : Nat} {bs : List UInt8} {pl : Nat} (n : Nat) (hp : pl ≤ bs.length) (hb : bs.length ≤ 1000000000) (hn : bs.length - pl < n) (H : Sat W w (rdr p bs pl 0 0 :: l)) :
    Calls Try.prog 80 #[.pointer (some ⟨p, 0, none⟩), .int .i64 n] w fun e w' => e = .panicked (gone 4 bs.length) ∧ Sat W w' (rdr p bs pl 0 0 :: l) := by
  obtain ⟨A, c, H1⟩ := rdr_open H
  have hc1 : w.cell? ⟨p, 1, none⟩ = some (.slice A bs.length c) := H1.cell 1
  have hc4 : w.cell? ⟨p, 4, none⟩ = some (.int .i64 pl) := H1.cell 4
  have hs1 : IntKind.i64.wrap ((bs.length : Int) - pl) = (bs.length : Int) - pl := IntWalk.i64_in _ (by omega)
  have hd : decide ((bs.length : Int) - pl < n) = true := by simp; omega
  go_enter Try.func80, Try.ntmps80
  go_wp2
  go_quiet (fail)
  go_wp2
  exact ⟨rfl, rfl, H.drewN _⟩

set_option maxRecDepth 100000 in
theorem some_fits {W w : World} {l : List SL} {p : Nat} {bs : List UInt8} {pl : Nat} (n : Nat) (hp : pl ≤ bs.length) (hb : bs.length ≤ 1000000000) (hn : n ≤ bs.length - pl) (H : Sat W w (rdr p bs pl 0 0 :: l)) :
    Calls Try.prog 80 #[.pointer (some ⟨p, 0, none⟩), .int .i64 n] w fun e w' => ∃ A c, e = .returned (.slice A n c) ∧ Sat W w' (rdr p bs (pl + n) 0 0 :: l) ∧ Rd w' A (((bs.drop pl).take n).map B) := by
  obtain ⟨A, c, H1⟩ := rdr_open H
  have hc1 : w.cell? ⟨p, 1, none⟩ = some (.slice A bs.length c) := H1.cell 1
  have hc4 : w.cell? ⟨p, 4, none⟩ = some (.int .i64 pl) := H1.cell 4
  have hf4 := H1.frz 4
  have hs1 : IntKind.i64.wrap ((bs.length : Int) - pl) = (bs.length : Int) - pl := IntWalk.i64_in _ (by omega)
  have hs2 : IntKind.i64.wrap ((pl : Int) + n) = (pl : Int) + n := IntWalk.i64_in _ (by omega)
  have hs3 : IntKind.i64.wrap ((pl : Int) + n - n) = (pl : Int) := by rw [Int.add_sub_cancel]; exact IntWalk.i64_in _ (by omega)
  have hd : decide ((bs.length : Int) - pl < n) = false := by simp; omega
  go_enter Try.func80, Try.ntmps80
  go_wp2
  obtain ⟨_, A0, c0, hv, hcl, hcm, hA0, hA1⟩ := (H1.swap).slice
  cases hv
  unfold maxLen at hcm
  go_quiet (fail)
  go_wp2
  have H2 := (H1.drewN nq).setCell 4 (.int .i64 ((pl : Int) + n))
  generalize (w.drewN nq).setCell ⟨p, 4, none⟩ (.int .i64 ((pl : Int) + n)) = wo at H2 ⊢
  clear hc1 hc4 hf4 hs2 hd
  have hc1 : wo.cell? ⟨p, 1, none⟩ = some (.slice A bs.length c) := H2.cell 1
  have hc4 : wo.cell? ⟨p, 4, none⟩ = some (.int .i64 ((pl : Int) + n)) := H2.cell 4
  have h0 : (0 : Int) ≤ (pl : Int) := by omega
  have h1 : (pl : Int) ≤ (pl : Int) + n := by omega
  have h2 : (pl : Int) + n ≤ (c : Int) := by omega
  have h3 : ((pl : Int) + n).toNat = pl + n := by omega
  cases A with
  | none =>
    obtain ⟨hc0, hl0⟩ := hA0 rfl
    obtain rfl : c = 0 := hc0
    obtain rfl : n = 0 := by omega
    obtain rfl : pl = 0 := by omega
    go_quiet (fail)
    go_wp2
    go_ret
    exact ⟨none, ⟨_, rfl⟩, rdr_shut (A := none) (c := 0) (by simpa using H2.drewN _), Rd.nil _ _⟩
  | some ad =>
    obtain ⟨e0, e1, _, _⟩ := hA1 ad rfl
    obtain ⟨g, off, sp⟩ := ad
    dsimp only at e0 e1
    subst e0 e1
    have hr : Rd wo (some ⟨g, 0, none⟩) (bs.map B) := H2.swap.rd
    by_cases hcp : c = pl
    · subst hcp
      obtain rfl : n = 0 := by omega
      clear hA0 hA1
      go_quiet (fail)
      go_wp2
      go_ret
      exact ⟨some ⟨g, 0, none⟩, ⟨_, rfl⟩, rdr_shut (A := some ⟨g, 0, none⟩) (c := c) (by simpa using H2.drewN nq), Rd.nil _ _⟩
    · clear hA0 hA1
      go_quiet (fail)
      go_wp2
      go_ret
      refine ⟨some ⟨g, pl, none⟩, ⟨_, rfl⟩, rdr_shut (A := some ⟨g, 0, none⟩) (c := c) (by simpa using H2.drewN nq), ?_⟩
      have := ((hr.drop pl).take n).drewN nq
      rwa [Nat.zero_add] at this

set_option maxRecDepth 100000 in
theorem number1_any (a b : Nat) (e : Int) (pl : Int) (w : World) (hc : w.cell? ⟨b, a, none⟩ = some (.int .i64 pl)) :
    Calls Try.prog 94 #[.int .i64 e, .pointer (some ⟨b, a, none⟩)] w fun e' w' => e' = .panicked (gone e pl) ∧ w = w' := by
  go_enter Try.func94, Try.ntmps94
  go_wp2
  exact ⟨rfl, rfl, rfl⟩

/-- What the bytes at a place say: a number and how many bytes it has, or why there is none. -/
inductive Dec where
  | ok (n k : Nat)
  | short
  | zero
  | long

def decF : Nat → List UInt8 → Nat → Nat → Dec
  | 0, _, _, _ => .long
  | _ + 1, [], _, _ => .short
  | f + 1, c :: r, j, acc =>
    if c.toNat < 128 then (if c.toNat = 0 ∧ 0 < j then .zero else .ok (acc + c.toNat * 128 ^ j) (j + 1))
    else if f = 0 then .long else decF f r (j + 1) (acc + (c.toNat % 128) * 128 ^ j)
def dec (bs : List UInt8) : Dec := decF 9 bs 0 0

/-- What a number asked for comes to: it and how many bytes it has, or a fault. -/
inductive Num where
  | ok (n k : Nat)
  | bad (e a : Int)
def numAt (bs : List UInt8) (pl : Nat) (low high above : Int) : Num :=
  match dec (bs.drop pl) with
  | .short => .bad 4 bs.length
  | .zero => .bad 4 pl
  | .long => .bad 5 pl
  | .ok n k => if (n : Int) < low then .bad 5 pl else if high < (n : Int) then .bad above pl else .ok n k

/-- What becomes of a number that is taken. -/
def NumPost (W : World) (l : List SL) (p : Nat) (bs : List UInt8) (pl : Nat) : Num → Ending → World → Prop
  | .ok n k, e, w' => e = .returned (.int .i64 n) ∧ Sat W w' (rdr p bs (pl + k) 0 0 :: l) ∧ pl + k ≤ bs.length
  | .bad fe fa, e, w' => e = .panicked (gone fe fa) ∧ ∃ pl', Sat W w' (rdr p bs pl' 0 0 :: l)

theorem decF_end (f j acc : Nat) : decF (f + 1) [] j acc = .short := rfl

set_option maxRecDepth 100000 in
set_option maxHeartbeats 1600000 in
theorem number_any {W w : World} {l : List SL} {p : Nat} {bs : List UInt8} {pl : Nat} (low high above : Int) (hp : pl ≤ bs.length) (hb : bs.length ≤ 1000000000) (H : Sat W w (rdr p bs pl 0 0 :: l)) :
    Calls Try.prog 78 #[.pointer (some ⟨p, 0, none⟩), .int .i64 low, .int .i64 high, .int .i64 above] w fun e w' => NumPost W l p bs pl (numAt bs pl low high above) e w' := by
  have hc4 : w.cell? ⟨p, 4, none⟩ = some (.int .i64 pl) := by obtain ⟨A, c, H⟩ := rdr_open H; exact H.cell 4
  have hmf : ∀ (fn : Fn) (first cap : Array Value) (w : World), (Instr.makeFunc fn first cap).run Try.prog w = .ok (.func fn first cap) w := fun _ _ _ _ => rfl
  go_enter Try.func78, Try.ntmps78
  go_wp2
  clear hmf hc4
  have H0 := H.alloc #[.int .i64 (pl : Int)] 3
  generalize w.heap.size = q at H0 ⊢
  go_loopw [10, 11] (fun x y wc => ∃ (j acc : Nat), x = .int .i64 acc ∧ y = .int .i64 j ∧ j ≤ 8 ∧ acc < 128 ^ j ∧ pl + j ≤ bs.length ∧ Hid (dec (bs.drop pl) = decF (9 - j) (bs.drop (pl + j)) j acc) ∧
      Sat W wc (pt q #[.int .i64 (pl : Int)] 3 :: rdr p bs (pl + j) 0 0 :: l)) (fun _ y _ => 9 - (intOf y).toNat)
  case atStart => exact ⟨0, 0, rfl, rfl, by omega, by omega, by omega, rfl, H0⟩
  case round =>
    obtain ⟨j, acc, rfl, rfl, hj, hacc, hpj, HS, H'⟩ := hrel
    clear H0
    by_cases hend : pl + j = bs.length
    · go_wp2_with (go_at_call 80; refine (some_short 1 hpj hb (by omega) H'.swap).mono ?_; rintro e w1 ⟨rfl, H1⟩)
      have hd : dec (bs.drop pl) = .short := by
        rw [HS.out, hend, List.drop_length, show 9 - j = (8 - j) + 1 by omega]; rfl
      refine ⟨rfl, ?_⟩
      simp only [numAt, hd]
      exact ⟨rfl, pl + j, (H1.swap).tail⟩
    · obtain ⟨b, hbj⟩ : ∃ b, bs[pl + j]? = some b := ⟨bs[pl + j]'(by omega), List.getElem?_eq_getElem _⟩
      have hdrop : bs.drop (pl + j) = b :: bs.drop (pl + (j + 1)) := by
        obtain ⟨h1, h2⟩ := List.getElem?_eq_some_iff.1 hbj
        rw [List.drop_eq_getElem_cons h1, h2]; rfl
      have HD := Lib.hid hdrop
      clear hdrop hbj
      have hlt := b.toNat_lt
      by_cases h128 : (b.toNat : Int) < 128
      · by_cases h0 : b.toNat = 0 ∧ 0 < j
        · obtain ⟨h00, hj0⟩ := h0
          have hz1 : ((b.toNat : Int) == 0) = true := by simp [h00]
          have hz2 : decide (1 < (j : Int) + 1) = true := by simp; omega
          have hd : Hid (dec (bs.drop pl) = .zero) := by
            show _ = _
            rw [HS.out, HD.out, show 9 - j = (8 - j) + 1 by omega]; simp only [decF]
            rw [if_pos (by omega), if_pos ⟨h00, hj0⟩]
          clear h00
          go_wp2_with (first
            | (go_at_call 80; refine (some_fits 1 hpj hb (by omega) H'.swap).mono ?_; rintro e w1 ⟨A, c, rfl, H1, hr⟩; rw [HD.out] at hr; obtain ⟨g, o, rfl⟩ := hr.open (by simp); have hcb : w1.cell? ⟨g, o, none⟩ = some (.int .u8 (b.toNat : Int)) := hr.at 0 rfl; have hcq : w1.cell? ⟨q, 0, none⟩ = some (.int .i64 (pl : Int)) := H1.swap.cell 0)
            | (go_at_call 94; refine (number1_any 0 q 4 pl _ hcq).mono ?_; rintro e w2 ⟨rfl, rfl⟩))
          refine ⟨rfl, ?_⟩
          simp only [numAt, hd.out]
          exact ⟨rfl, pl + j + 1, H1.swap.tail⟩
        · have hN := acc_step acc b j hj hacc
          have hd : Hid (dec (bs.drop pl) = .ok (acc + (b.toNat % 128) * 128 ^ j) (j + 1)) := by
            show _ = _
            rw [HS.out, HD.out, show 9 - j = (8 - j) + 1 by omega]; simp only [decF]
            rw [if_pos (by omega), if_neg h0, Nat.mod_eq_of_lt (show b.toNat < 128 by omega)]
          generalize acc + (b.toNat % 128) * 128 ^ j = N at hN hd
          have hbz : (((b.toNat : Int) == 0) = true ∧ decide (1 < (j : Int) + 1) = false) ∨ (((b.toNat : Int) == 0) = false ∧ (0 : Int) < 1) := by
            by_cases e : b.toNat = 0
            · exact .inl ⟨by simp [e], by simp; omega⟩
            · exact .inr ⟨by simp [e], by omega⟩
          clear h0
          by_cases hl : (N : Int) < low
          · have hln : Hid (numAt bs pl low high above = .bad 5 pl) := by show _ = _; simp only [numAt, hd.out]; rw [if_pos hl]
            rcases hbz with ⟨hz1, hz2⟩ | ⟨hz1, hz2⟩
            all_goals
              go_wp2_with (first
                | (go_at_call 80; refine (some_fits 1 hpj hb (by omega) H'.swap).mono ?_; rintro e w1 ⟨A, c, rfl, H1, hr⟩; rw [HD.out] at hr; obtain ⟨g, o, rfl⟩ := hr.open (by simp); have hcb : w1.cell? ⟨g, o, none⟩ = some (.int .u8 (b.toNat : Int)) := hr.at 0 rfl; have hcq : w1.cell? ⟨q, 0, none⟩ = some (.int .i64 (pl : Int)) := H1.swap.cell 0)
                | (go_at_call 94; refine (number1_any 0 q 5 pl _ hcq).mono ?_; rintro e w2 ⟨rfl, rfl⟩))
              refine ⟨rfl, ?_⟩
              rw [hln.out]
              exact ⟨rfl, pl + j + 1, H1.swap.tail⟩
          · by_cases hh : high < (N : Int)
            · have hln : Hid (numAt bs pl low high above = .bad above pl) := by show _ = _; simp only [numAt, hd.out]; rw [if_neg hl, if_pos hh]
              rcases hbz with ⟨hz1, hz2⟩ | ⟨hz1, hz2⟩
              all_goals
                go_wp2_with (first
                  | (go_at_call 80; refine (some_fits 1 hpj hb (by omega) H'.swap).mono ?_; rintro e w1 ⟨A, c, rfl, H1, hr⟩; rw [HD.out] at hr; obtain ⟨g, o, rfl⟩ := hr.open (by simp); have hcb : w1.cell? ⟨g, o, none⟩ = some (.int .u8 (b.toNat : Int)) := hr.at 0 rfl; have hcq : w1.cell? ⟨q, 0, none⟩ = some (.int .i64 (pl : Int)) := H1.swap.cell 0)
                  | (go_at_call 94; refine (number1_any 0 q above pl _ hcq).mono ?_; rintro e w2 ⟨rfl, rfl⟩))
                refine ⟨rfl, ?_⟩
                rw [hln.out]
                exact ⟨rfl, pl + j + 1, H1.swap.tail⟩
            · have hln : Hid (numAt bs pl low high above = .ok N (j + 1)) := by show _ = _; simp only [numAt, hd.out]; rw [if_neg hl, if_neg hh]
              rcases hbz with ⟨hz1, hz2⟩ | ⟨hz1, hz2⟩
              all_goals
                go_wp2_with (go_at_call 80; refine (some_fits 1 hpj hb (by omega) H'.swap).mono ?_; rintro e w1 ⟨A, c, rfl, H1, hr⟩; rw [HD.out] at hr; obtain ⟨g, o, rfl⟩ := hr.open (by simp); have hcb : w1.cell? ⟨g, o, none⟩ = some (.int .u8 (b.toNat : Int)) := hr.at 0 rfl; have hcq : w1.cell? ⟨q, 0, none⟩ = some (.int .i64 (pl : Int)) := H1.swap.cell 0)
                go_ret
                rw [hln.out]
                exact ⟨rfl, H1.swap.tail, by omega⟩
      · by_cases h8 : j = 8
        · subst h8
          go_wp2_with (first
            | (go_at_call 80; refine (some_fits 1 hpj hb (by omega) H'.swap).mono ?_; rintro e w1 ⟨A, c, rfl, H1, hr⟩; rw [HD.out] at hr; obtain ⟨g, o, rfl⟩ := hr.open (by simp); have hcb : w1.cell? ⟨g, o, none⟩ = some (.int .u8 (b.toNat : Int)) := hr.at 0 rfl; have hcq : w1.cell? ⟨q, 0, none⟩ = some (.int .i64 (pl : Int)) := H1.swap.cell 0)
            | (go_at_call 94; refine (number1_any 0 q 5 pl _ hcq).mono ?_; rintro e w2 ⟨rfl, rfl⟩))
          have hd : dec (bs.drop pl) = .long := by
            rw [HS.out, HD.out]; simp only [decF]
            rw [if_neg (by omega)]; simp
          refine ⟨rfl, ?_⟩
          simp only [numAt, hd]
          exact ⟨rfl, pl + 8 + 1, H1.swap.tail⟩
        · have h9 : ((j : Int) + 1 == 9) = false := by simp; omega
          go_wp2_with (go_at_call 80; refine (some_fits 1 hpj hb (by omega) H'.swap).mono ?_; rintro e w1 ⟨A, c, rfl, H1, hr⟩; rw [HD.out] at hr; obtain ⟨g, o, rfl⟩ := hr.open (by simp); have hcb : w1.cell? ⟨g, o, none⟩ = some (.int .u8 (b.toNat : Int)) := hr.at 0 rfl; have hcq : w1.cell? ⟨q, 0, none⟩ = some (.int .i64 (pl : Int)) := H1.swap.cell 0)
          refine ⟨⟨j + 1, acc + (b.toNat % 128) * 128 ^ j, ?_, by go_num, by omega, ?_, by omega, ?_, ?_⟩, by simp [intOf]; omega⟩
          · rw [acc_step acc b j hj hacc]
          · exact acc_lt acc _ j hacc (Nat.mod_lt _ (by omega))
          · show _ = _
            rw [HS.out, HD.out, show 9 - j = (8 - j) + 1 by omega]; simp only [decF]
            rw [if_neg (by omega), if_neg (by omega), show 8 - j = 9 - (j + 1) by omega]
          · exact H1.swap
end Go.Proofs.Ytflcmhmbmippfaa

/- The plain law of the numbers' bytes: what is written is read, and what is read was written. No program in sight. -/
namespace Go.Proofs.Ytflcmhmbmippfaa

theorem dec_sev (f m j acc : Nat) (rest : List UInt8) (hm : m < 128 ^ f) (hf : 0 < f) (hz : m ≠ 0 ∨ j = 0) :
    decF f (sevF f m ++ rest) j acc = .ok (acc + m * 128 ^ j) (j + (sevF f m).length) := by
  induction f generalizing m j acc with
  | zero => omega
  | succ f ih =>
    by_cases h : m < 128
    · have hc : (UInt8.ofNat m).toNat = m := by rw [UInt8.toNat_ofNat']; omega
      rw [sevF_last _ _ h]
      simp only [List.cons_append, List.nil_append, decF, hc, if_pos h, List.length_singleton]
      rw [if_neg (by omega)]
    · have hc : (UInt8.ofNat (m % 128 + 128)).toNat = m % 128 + 128 := by rw [UInt8.toNat_ofNat']; omega
      rw [sevF_more _ _ (by omega)]
      simp only [List.cons_append, decF, hc, List.length_cons]
      have hf0 : f ≠ 0 := by rintro rfl; simp at hm; omega
      rw [if_neg (by omega), if_neg hf0, show (m % 128 + 128) % 128 = m % 128 by omega]
      have hd : m / 128 < 128 ^ f := by
        rw [Nat.div_lt_iff_lt_mul (by decide)]
        rw [Nat.pow_succ] at hm
        exact hm
      rw [ih (m / 128) (j + 1) _ hd (by omega) (.inl (by omega))]
      have e : (m % 128) * 128 ^ j + m / 128 * 128 ^ (j + 1) = m * 128 ^ j := by
        rw [Nat.pow_succ, Nat.mul_comm (128 ^ j) 128, ← Nat.mul_assoc, ← Nat.add_mul]
        congr 1
        omega
      congr 1
      · rw [Nat.add_assoc, e]
      · omega

/-- What is told was written so. -/
theorem dec_inv (f : Nat) (bs : List UInt8) (j acc N K : Nat) (h : decF f bs j acc = .ok N K) :
    ∃ m, N = acc + m * 128 ^ j ∧ K = j + (sevF f m).length ∧ (∃ rest, bs = sevF f m ++ rest) ∧ m < 128 ^ f ∧ (m ≠ 0 ∨ j = 0) := by
  induction f generalizing bs j acc with
  | zero => simp [decF] at h
  | succ f ih =>
    cases bs with
    | nil => simp [decF] at h
    | cons c r =>
      have hlt := c.toNat_lt
      simp only [decF] at h
      by_cases h1 : c.toNat < 128
      · rw [if_pos h1] at h
        by_cases h2 : c.toNat = 0 ∧ 0 < j
        · rw [if_pos h2] at h; cases h
        · rw [if_neg h2] at h
          cases h
          refine ⟨c.toNat, rfl, by rw [sevF_last _ _ h1]; rfl, ⟨r, by rw [sevF_last _ _ h1, UInt8.ofNat_toNat]; rfl⟩, Nat.lt_of_lt_of_le h1 (Nat.le_self_pow (by omega) 128), by omega⟩
      · rw [if_neg h1] at h
        by_cases h2 : f = 0
        · rw [if_pos h2] at h; cases h
        · rw [if_neg h2] at h
          obtain ⟨m, rfl, rfl, ⟨rest, rfl⟩, hm, hz⟩ := ih _ _ _ h
          have hm0 : m ≠ 0 := by omega
          have h128 : 128 ≤ c.toNat % 128 + 128 * m := by omega
          have hmod : (c.toNat % 128 + 128 * m) % 128 = c.toNat % 128 := by omega
          have hdiv : (c.toNat % 128 + 128 * m) / 128 = m := by omega
          have hcc : UInt8.ofNat (c.toNat % 128 + 128) = c := by
            rw [show c.toNat % 128 + 128 = c.toNat by omega, UInt8.ofNat_toNat]
          have hs : sevF (f + 1) (c.toNat % 128 + 128 * m) = c :: sevF f m := by rw [sevF_more _ _ h128, hmod, hdiv, hcc]
          refine ⟨c.toNat % 128 + 128 * m, ?_, by rw [hs, List.length_cons]; omega, ⟨rest, by rw [hs]; rfl⟩, ?_, .inl (by omega)⟩
          · rw [Nat.pow_succ, Nat.add_mul, Nat.add_assoc, Nat.mul_comm (128 ^ j) 128, ← Nat.mul_assoc, Nat.mul_comm m 128]
          · rw [Nat.pow_succ]; omega

theorem dec_of_sev (n : Nat) (hn : n < 9223372036854775808) (rest : List UInt8) : dec (sev n ++ rest) = .ok n (sev n).length := by
  have h := dec_sev 9 n 0 0 rest (by omega) (by omega) (.inr rfl)
  simpa [dec, sev] using h
theorem sev_of_dec (bs : List UInt8) (N K : Nat) (h : dec bs = .ok N K) : K = (sev N).length ∧ (∃ rest, bs = sev N ++ rest) ∧ N < 9223372036854775808 := by
  obtain ⟨m, h1, h2, h3, h4, _⟩ := dec_inv 9 bs 0 0 N K h
  have e : N = m := by simpa using h1
  subst e
  exact ⟨by simpa [sev] using h2, h3, by simpa using h4⟩
end Go.Proofs.Ytflcmhmbmippfaa

/- Package word's reader: 'try', its deferred closure, and what is tried. -/
namespace Go.Proofs.Ytflcmhmbmippfaa
open Go.RowKit Go.Rt

theorem as_gone (e a : Int) (w : World) : (Instr.typeAssert (.iface 124 (.agg #[.int .i64 e, .int .i64 a])) 20 124 true).run Try.prog w = .ok (.tuple #[.agg #[.int .i64 e, .int .i64 a], .bool true]) w := by
  kernel_rfl

/-- recover, as a region of its own. -/
theorem wpS_recover {P : Program} {Q : Exit → Act → List Frame → World → Prop} {a : Act} {cs : List Frame} {w : World} {id d : Nat} {t : TypeId} {pos : String}
    (h : match recoverD cs with
      | some (v, cs') => Q .normal (a.put (some d) v) cs' w
      | none => Q .normal (a.put (some d) .nilIface) cs w) :
    (Code.region id #[{ dst := some d, op := .call { callee := .builtin .recover, args := #[], argTypes := #[] }, type := t, pos := pos, after := #[], guard := none }] false).wpS P Q a cs w := by
  apply wpS_region
  have hr : (execOp a.eval { dst := some d, op := .call { callee := .builtin .recover, args := #[], argTypes := #[] }, type := t, pos := pos, after := #[], guard := none }).run P w = .ok .recover w := by
    simp [execOp, resolve, invoke, builtin]
  show wpOpsS P _ Q [0] a cs w
  simp only [wpOpsS, List.getElem?_toArray, List.getElem?_cons_zero, Region.wanted, if_true, hr]
  cases hc : recoverD cs with
  | none => rw [hc] at h; exact h
  | some x => rw [hc] at h; exact h

theorem try1_idle {W w : World} {l : List SL} (fb ab rb : Nat) (x : Bool) (H : Sat W w (pt fb #[.bool x] 4 :: l)) :
    CallsD Try.prog 93 #[.pointer (some ⟨fb, 0, none⟩), .pointer (some ⟨ab, 0, none⟩), .pointer (some ⟨rb, 0, none⟩)] .returning w fun e u' w' =>
      e = .returned (.tuple #[]) ∧ u' = .returning ∧ Sat W w' (pt fb #[.bool true] 4 :: l) := by
  have hc : w.cell? ⟨fb, 0, none⟩ = some (.bool x) := H.cell 0
  have hf := H.frz 0
  refine callsD_of_wpS Try.func93 rfl fun c₀ cs hu => ?_
  apply wpS_seq
  apply wpS_recover
  have hrec : recoverD (c₀ :: cs) = none := by simp [recoverD, hu]
  rw [hrec]
  show Code.wpS _ _ _ _ _ _
  refine wpS_of_wp ?_
  simp only [Act.put, Try.ntmps93, List.size_toArray, List.length_cons, List.length_nil, Nat.reduceAdd, Nat.reduceSub, Array.replicate_succ,
     Array.replicate_zero, List.push_toArray, List.append_toArray, List.nil_append, List.cons_append]
  go_wp2
  exact ⟨rfl, .returning, by rw [← hu], _, results_none rfl _ _ _, rfl, rfl, by simpa using H.setCell 0 (.bool true)⟩

set_option maxRecDepth 100000 in
theorem try1_gone {W w : World} {l : List SL} (fb ab rb : Nat) (p : Nat) (bs : List UInt8) (pl pl' : Nat) (e a : Int) (x : Bool)
    (H : Sat W w (pt fb #[.bool x] 4 :: pt ab #[.int .i64 pl] 3 :: pt rb #[.pointer (some ⟨p, 0, none⟩)] 61 :: rdr p bs pl' 0 0 :: l)) :
    CallsD Try.prog 93 #[.pointer (some ⟨fb, 0, none⟩), .pointer (some ⟨ab, 0, none⟩), .pointer (some ⟨rb, 0, none⟩)] (.panicking (gone e a)) w fun en u' w' =>
      en = .returned (.tuple #[]) ∧ u' = .panicking [{ v := .iface 124 (.agg #[.int .i64 e, .int .i64 a]), recovered := true }] ∧
      Sat W w' (pt fb #[.bool x] 4 :: pt ab #[.int .i64 pl] 3 :: pt rb #[.pointer (some ⟨p, 0, none⟩)] 61 :: rdr p bs pl e a :: l) := by
  have hag := as_gone e a
  refine callsD_of_wpS Try.func93 rfl fun c₀ cs hu => ?_
  apply wpS_seq
  apply wpS_recover
  have hrec : recoverD (c₀ :: cs) = some (.iface 124 (.agg #[.int .i64 e, .int .i64 a]), { c₀ with mode := .panicking ({ v := .iface 124 (.agg #[.int .i64 e, .int .i64 a]), recovered := true } :: []) } :: cs) := by
    simp only [recoverD, hu, gone]
  rw [hrec]
  show Code.wpS _ _ _ _ _ _
  refine wpS_of_wp ?_
  simp only [Act.put, Try.ntmps93, List.size_toArray, List.length_cons, List.length_nil, Nat.reduceAdd, Nat.reduceSub, Array.replicate_succ,
     Array.replicate_zero, List.push_toArray, List.append_toArray, List.nil_append, List.cons_append]
  clear hrec hu
  go_wp2
  have H0 := H.alloc #[.int .i64 e, .int .i64 a] 124
  generalize w.heap.size = gb at H0 ⊢
  generalize w.alloc _ = wo at H0 ⊢
  clear hag H
  have hg0 : wo.cell? ⟨gb, 0, none⟩ = some (.int .i64 e) := H0.cell 0
  have hg1 : wo.cell? ⟨gb, 1, none⟩ = some (.int .i64 a) := H0.cell 1
  have hr : wo.cell? ⟨rb, 0, none⟩ = some (.pointer (some ⟨p, 0, none⟩)) := (H0.pull 3).cell 0
  have ha : wo.cell? ⟨ab, 0, none⟩ = some (.int .i64 pl) := (H0.pull 2).cell 0
  obtain ⟨A, c, H1⟩ := rdr_open (H0.pull 4)
  have h2 : wo.cell? ⟨p, 2, none⟩ = some (.int .i64 0) := H1.cell 2
  have h3 : wo.cell? ⟨p, 3, none⟩ = some (.int .i64 0) := H1.cell 3
  have h4 : wo.cell? ⟨p, 4, none⟩ = some (.int .i64 pl') := H1.cell 4
  have f2 := H1.frz 2
  have f3 := H1.frz 3
  have f4 := H1.frz 4
  go_region
  go_wp2
  refine ⟨rfl, _, rfl, _, results_none rfl _ _ _, rfl, rfl, ?_⟩
  have H2 := (((H1.setCell 4 (.int .i64 pl)).setCell 2 (.int .i64 e)).setCell 3 (.int .i64 a)).drew
  have H3 : Sat W _ (rdr p bs pl e a :: _) := rdr_shut (A := A) (c := c) (by simpa using H2)
  exact (H3.swap.tail).sink [pt fb #[.bool x] 4, pt ab #[.int .i64 pl] 3, pt rb #[.pointer (some ⟨p, 0, none⟩)] 61]

theorem perm_in (a b c r : SL) (X l : List SL) : (a :: b :: c :: r :: (X ++ l)).Perm (r :: (X ++ (a :: b :: c :: l))) := by
  have h1 : (X ++ (a :: b :: c :: l)).Perm (a :: b :: c :: (X ++ l)) :=
    List.perm_middle.trans ((List.perm_middle.trans ((List.perm_middle).cons b)).cons a)
  have h2 : (a :: b :: c :: r :: (X ++ l)).Perm (r :: a :: b :: c :: (X ++ l)) :=
    ((((List.Perm.swap r c _).cons b).trans (List.Perm.swap r b _)).cons a).trans (List.Perm.swap r a _)
  exact h2.trans ((h1.symm).cons r)

set_option maxRecDepth 100000 in
theorem try_fine {W w : World} {l : List SL} (p : Nat) (bs : List UInt8) (pl pl1 : Nat) (fid : Nat) (caps : Array Value) (X X1 : List SL)
    (hf : ∀ (L : List SL) (w1 : World), Sat W w1 (rdr p bs pl 0 0 :: (X ++ L)) → Calls Try.prog fid caps w1 fun e w' => e = .returned (.tuple #[]) ∧ Sat W w' (rdr p bs pl1 0 0 :: (X1 ++ L)))
    (hfn : ∀ w1 : World, (callFunc fid caps).run Try.prog w1 = .ok (.enter fid caps) w1)
    (H : Sat W w (rdr p bs pl 0 0 :: (X ++ l))) :
    Calls Try.prog 76 #[.pointer (some ⟨p, 0, none⟩), .func (.func fid) #[] caps] w fun e w' => e = .returned (.bool true) ∧ Sat W w' (rdr p bs pl1 0 0 :: (X1 ++ l)) := by
  have hmf : ∀ (fn : Fn) (first cap : Array Value) (w : World), (Instr.makeFunc fn first cap).run Try.prog w = .ok (.func fn first cap) w := fun _ _ _ _ => rfl
  have H0 := ((H.alloc #[.pointer (some ⟨p, 0, none⟩)] 61).alloc #[.bool false] 4)
  rw [World.size_alloc] at H0
  obtain ⟨A, c, H1⟩ := rdr_open (H0.pull 2)
  have hc0 := H1.cell 0
  have hc2 := H1.cell 2
  have hc4 := H1.cell 4
  have hcr := (H0.pull 1).cell 0
  have hcf := H0.cell 0
  have hff := H0.frz 0
  go_enter_defers Try.func76, Try.ntmps76
  go_wp2_with fail
  generalize (w.alloc _).alloc _ = wo at *
  generalize w.heap.size = q at *
  have hc0' : wo.cell? ⟨p, 0, none⟩ = some (.bool true) := hc0
  have hc2' : wo.cell? ⟨p, 2, none⟩ = some (.int .i64 0) := hc2
  have hc4' : wo.cell? ⟨p, 4, none⟩ = some (.int .i64 pl) := hc4
  have hcr' : wo.cell? ⟨q, 0, none⟩ = some (.pointer (some ⟨p, 0, none⟩)) := hcr
  have hcf' : wo.cell? ⟨q + 1, 0, none⟩ = some (.bool false) := hcf
  clear hc0 hc2 hc4 hcr hcf H1
  refine (none_any p 0 true wo hc0').mono ?_
  rintro e w' ⟨rfl, rfl⟩
  have HF := Lib.hid hf
  clear hf
  go_wp2_with fail
  have H3 := ((H0.alloc #[.int .i64 pl] 3).perm (perm_in _ _ _ _ X l))
  refine (HF.out _ _ H3).mono ?_
  rintro e w2 ⟨rfl, H4⟩
  go_wp2
  have H5 := H4.perm (perm_in _ _ _ _ X1 l).symm
  generalize wo.heap.size = q2 at *
  refine leaves_cons (f := 93) (args := #[.pointer (some ⟨q + 1, 0, none⟩), .pointer (some ⟨q2, 0, none⟩), .pointer (some ⟨q, 0, none⟩)]) (by simp) (by simp [go_sem]) ?_
  refine (try1_idle (q + 1) q2 q false H5.swap).mono ?_
  rintro e u' w3 ⟨rfl, rfl, H6⟩
  have hq : w3.cell? ⟨q + 1, 0, none⟩ = some (.bool true) := H6.cell 0
  refine ⟨.bool true, ?_, rfl, H6.tail.tail.tail⟩
  simp [results, Try.results76, go_sem, hq]
set_option maxRecDepth 100000 in
theorem try_gone {W w : World} {l : List SL} (p : Nat) (bs : List UInt8) (pl : Nat) (er ea : Int) (fid : Nat) (caps : Array Value) (X X1 : List SL)
    (hf : ∀ (L : List SL) (w1 : World), Sat W w1 (rdr p bs pl 0 0 :: (X ++ L)) → Calls Try.prog fid caps w1 fun e w' => e = .panicked (gone er ea) ∧ ∃ pl', Sat W w' (rdr p bs pl' 0 0 :: (X1 ++ L)))
    (hfn : ∀ w1 : World, (callFunc fid caps).run Try.prog w1 = .ok (.enter fid caps) w1)
    (H : Sat W w (rdr p bs pl 0 0 :: (X ++ l))) :
    Calls Try.prog 76 #[.pointer (some ⟨p, 0, none⟩), .func (.func fid) #[] caps] w fun e w' => e = .returned (.bool false) ∧ Sat W w' (rdr p bs pl er ea :: (X1 ++ l)) := by
  have hmf : ∀ (fn : Fn) (first cap : Array Value) (w : World), (Instr.makeFunc fn first cap).run Try.prog w = .ok (.func fn first cap) w := fun _ _ _ _ => rfl
  have H0 := ((H.alloc #[.pointer (some ⟨p, 0, none⟩)] 61).alloc #[.bool false] 4)
  rw [World.size_alloc] at H0
  obtain ⟨A, c, H1⟩ := rdr_open (H0.pull 2)
  have hc0 := H1.cell 0
  have hc2 := H1.cell 2
  have hc4 := H1.cell 4
  have hcr := (H0.pull 1).cell 0
  have hcf := H0.cell 0
  have hff := H0.frz 0
  go_enter_defers Try.func76, Try.ntmps76
  go_wp2_with fail
  generalize (w.alloc _).alloc _ = wo at *
  generalize w.heap.size = q at *
  have hc0' : wo.cell? ⟨p, 0, none⟩ = some (.bool true) := hc0
  have hc2' : wo.cell? ⟨p, 2, none⟩ = some (.int .i64 0) := hc2
  have hc4' : wo.cell? ⟨p, 4, none⟩ = some (.int .i64 pl) := hc4
  have hcr' : wo.cell? ⟨q, 0, none⟩ = some (.pointer (some ⟨p, 0, none⟩)) := hcr
  have hcf' : wo.cell? ⟨q + 1, 0, none⟩ = some (.bool false) := hcf
  clear hc0 hc2 hc4 hcr hcf H1
  refine (none_any p 0 true wo hc0').mono ?_
  rintro e w' ⟨rfl, rfl⟩
  have HF := Lib.hid hf
  clear hf
  go_wp2_with fail
  have H3 := ((H0.alloc #[.int .i64 pl] 3).perm (perm_in _ _ _ _ X l))
  refine (HF.out _ _ H3).mono ?_
  rintro e w2 ⟨rfl, pl', H4⟩
  have H5 := H4.perm (perm_in _ _ _ _ X1 l).symm
  generalize wo.heap.size = q2 at *
  go_wp2
  refine leaves_cons (f := 93) (args := #[.pointer (some ⟨q + 1, 0, none⟩), .pointer (some ⟨q2, 0, none⟩), .pointer (some ⟨q, 0, none⟩)]) (by simp) (by simp [go_sem]) ?_
  refine (try1_gone (q + 1) q2 q p bs pl pl' er ea false H5.swap).mono ?_
  rintro e u' w3 ⟨rfl, rfl, H6⟩
  have hq : w3.cell? ⟨q + 1, 0, none⟩ = some (.bool false) := H6.cell 0
  refine ⟨.bool false, ?_, rfl, H6.tail.tail.tail⟩
  simp [results, Try.results76, go_sem, hq]

set_option maxRecDepth 100000 in
/-- A reader with a fault, or that is none, tries nothing. -/
theorem try_stuck {W w : World} {l : List SL} (p : Nat) (bs : List UInt8) (pl : Nat) (er ea : Int) (f : Value) (hne : ¬ er = 0) (H : Sat W w (rdr p bs pl er ea :: l)) :
    Calls Try.prog 76 #[.pointer (some ⟨p, 0, none⟩), f] w fun e w' => e = .returned (.bool false) ∧ Sat W w' (rdr p bs pl er ea :: l) := by
  have H0 := ((H.alloc #[.pointer (some ⟨p, 0, none⟩)] 61).alloc #[.bool false] 4)
  rw [World.size_alloc] at H0
  obtain ⟨A, c, H1⟩ := rdr_open (H0.pull 2)
  have hc0 := H1.cell 0
  have hc2 := H1.cell 2
  have hcr := (H0.pull 1).cell 0
  have hcf := H0.cell 0
  have hff := H0.frz 0
  have hneb : (er == 0) = false := by simpa using hne
  go_enter_defers Try.func76, Try.ntmps76
  go_wp2_with fail
  generalize (w.alloc _).alloc _ = wo at *
  generalize w.heap.size = q at *
  have hc0' : wo.cell? ⟨p, 0, none⟩ = some (.bool true) := hc0
  have hc2' : wo.cell? ⟨p, 2, none⟩ = some (.int .i64 er) := hc2
  have hcr' : wo.cell? ⟨q, 0, none⟩ = some (.pointer (some ⟨p, 0, none⟩)) := hcr
  have hcf' : wo.cell? ⟨q + 1, 0, none⟩ = some (.bool false) := hcf
  clear hc0 hc2 hcr hcf H1
  refine (none_any p 0 true wo hc0').mono ?_
  rintro e w' ⟨rfl, rfl⟩
  go_wp2
  have H2 := H0.setCell 0 (.bool false)
  generalize wo.setCell _ _ = w2 at H2 ⊢
  have hq : w2.cell? ⟨q + 1, 0, none⟩ = some (.bool false) := H2.cell 0
  refine ⟨.bool false, ?_, rfl, H2.tail.tail⟩
  simp [results, Try.results76, go_sem, hq]

set_option maxRecDepth 100000 in
/-- No reader: nil, or one that Open did not make. -/
theorem try_none (f : Value) (w : World) : Calls Try.prog 76 #[.pointer none, f] w fun e w' => e = .returned (.bool false) ∧ Below w.heap.size w w' := by
  go_enter_defers Try.func76, Try.ntmps76
  go_wp2
  refine ⟨.bool false, ?_, rfl, ((Below.refl _ _).alloc (Nat.le_refl _) _).alloc (by simp) _⟩
  simp [results, Try.results76, go_sem]
set_option maxRecDepth 100000 in
theorem try_off (p : Nat) (f : Value) (w : World) (hc : w.cell? ⟨p, 0, none⟩ = some (.bool false)) : Calls Try.prog 76 #[.pointer (some ⟨p, 0, none⟩), f] w fun e w' => e = .returned (.bool false) ∧ Below w.heap.size w w' := by
  have hlt := World.block_lt_of_cell? _ _ hc
  have hc' : ((w.alloc (.cells #[.pointer (some ⟨p, 0, none⟩)] 61)).alloc (.cells #[.bool false] 4)).cell? ⟨p, 0, none⟩ = some (.bool false) := by
    rw [World.cell?_alloc_lt _ _ _ (show p < (w.alloc _).heap.size by rw [World.size_alloc]; exact Nat.lt_succ_of_lt hlt), World.cell?_alloc_lt _ _ _ hlt]; exact hc
  go_enter_defers Try.func76, Try.ntmps76
  go_wp2_with fail
  refine (none_any p 0 false _ hc').mono ?_
  rintro e w' ⟨rfl, rfl⟩
  go_wp2
  refine ⟨.bool false, ?_, rfl, ((Below.refl _ _).alloc (Nat.le_refl _) _).alloc (by simp) _⟩
  simp [results, Try.results76, go_sem]
end Go.Proofs.Ytflcmhmbmippfaa

/- Package word's reader: Int and Count. -/
namespace Go.Proofs.Ytflcmhmbmippfaa
open Go.RowKit Go.Rt

set_option maxRecDepth 100000 in
theorem rInt1_any {W w : World} {l : List SL} (b1 b2 b3 b4 : Nat) (p : Nat) (bs : List UInt8) (pl : Nat) (low high : Int) (hp : pl ≤ bs.length) (hb : bs.length ≤ 1000000000)
    (H : Sat W w (rdr p bs pl 0 0 :: ([pt b4 #[.int .i64 0] 3, pt b3 #[.int .i64 high] 3, pt b2 #[.int .i64 low] 3, pt b1 #[.pointer (some ⟨p, 0, none⟩)] 61] ++ l))) :
    Calls Try.prog 77 #[.pointer (some ⟨b1, 0, none⟩), .pointer (some ⟨b2, 0, none⟩), .pointer (some ⟨b3, 0, none⟩), .pointer (some ⟨b4, 0, none⟩)] w fun e w' =>
      match numAt bs pl low high 5 with
      | .ok n k => e = .returned (.tuple #[]) ∧ Sat W w' (rdr p bs (pl + k) 0 0 :: ([pt b4 #[.int .i64 n] 3, pt b3 #[.int .i64 high] 3, pt b2 #[.int .i64 low] 3, pt b1 #[.pointer (some ⟨p, 0, none⟩)] 61] ++ l))
      | .bad fe fa => e = .panicked (gone fe fa) ∧ ∃ pl', Sat W w' (rdr p bs pl' 0 0 :: ([pt b4 #[.int .i64 0] 3, pt b3 #[.int .i64 high] 3, pt b2 #[.int .i64 low] 3, pt b1 #[.pointer (some ⟨p, 0, none⟩)] 61] ++ l)) := by
  have h1 : w.cell? ⟨b1, 0, none⟩ = some (.pointer (some ⟨p, 0, none⟩)) := (H.pull 4).cell 0
  have h2 : w.cell? ⟨b2, 0, none⟩ = some (.int .i64 low) := (H.pull 3).cell 0
  have h3 : w.cell? ⟨b3, 0, none⟩ = some (.int .i64 high) := (H.pull 2).cell 0
  have hn := number_any low high 5 hp hb H
  generalize numAt bs pl low high 5 = r at hn ⊢
  have HN := Lib.hid hn
  clear hn
  cases r with
  | bad fe fa =>
    go_enter Try.func77, Try.ntmps77
    go_wp2_with fail
    refine HN.out.mono ?_
    rintro e w1 ⟨rfl, h⟩
    exact ⟨rfl, rfl, h⟩
  | ok n k =>
    go_enter Try.func77, Try.ntmps77
    go_wp2_with fail
    refine HN.out.mono ?_
    rintro e w1 ⟨rfl, H1, hk⟩
    have h4 : w1.cell? ⟨b4, 0, none⟩ = some (.int .i64 0) := (H1.pull 1).cell 0
    have f4 := (H1.pull 1).frz 0
    go_wp2
    go_end0
    exact ⟨rfl, ((H1.swap).setCell 0 (.int .i64 n)).swap⟩

/-- What a reader tells and becomes: a result, its place and its fault. -/
structure Told where
  n : Int
  pl : Nat
  fe : Int
  fa : Int
def toldInt (bs : List UInt8) (pl : Nat) (fe fa : Int) (low high above : Int) : Told :=
  if fe = 0 then (match numAt bs pl low high above with
    | .ok n k => ⟨n, pl + k, 0, 0⟩
    | .bad e a => ⟨0, pl, e, a⟩) else ⟨0, pl, fe, fa⟩

set_option maxRecDepth 100000 in
theorem rInt_any {W w : World} {l : List SL} (p : Nat) (bs : List UInt8) (pl : Nat) (fe fa : Int) (low high : Int) (hp : pl ≤ bs.length) (hb : bs.length ≤ 1000000000) (hf : fe = 0 → fa = 0)
    (H : Sat W w (rdr p bs pl fe fa :: l)) :
    Calls Try.prog 43 #[.pointer (some ⟨p, 0, none⟩), .int .i64 low, .int .i64 high] w fun e w' =>
      e = .returned (.int .i64 (toldInt bs pl fe fa low high 5).n) ∧ Sat W w' (rdr p bs (toldInt bs pl fe fa low high 5).pl (toldInt bs pl fe fa low high 5).fe (toldInt bs pl fe fa low high 5).fa :: l) := by
  have hmf : ∀ (fn : Fn) (first cap : Array Value) (w : World), (Instr.makeFunc fn first cap).run Try.prog w = .ok (.func fn first cap) w := fun _ _ _ _ => rfl
  have H0 := ((((H.alloc #[.pointer (some ⟨p, 0, none⟩)] 61).alloc #[.int .i64 low] 3).alloc #[.int .i64 high] 3).alloc #[.int .i64 0] 3)
  simp only [World.size_alloc] at H0
  obtain ⟨T, HT⟩ : ∃ T, Hid (toldInt bs pl fe fa low high 5 = T) := ⟨_, rfl⟩
  rw [HT.out]
  go_enter Try.func43, Try.ntmps43
  go_wp2_with fail
  generalize (((w.alloc _).alloc _).alloc _).alloc _ = wo at *
  generalize w.heap.size + 1 + 1 + 1 = b4 at *
  generalize w.heap.size + 1 + 1 = b3 at *
  generalize w.heap.size + 1 = b2 at *
  generalize w.heap.size = b1 at *
  have H1 : Sat W wo (rdr p bs pl fe fa :: ([pt b4 #[.int .i64 0] 3, pt b3 #[.int .i64 high] 3, pt b2 #[.int .i64 low] 3, pt b1 #[.pointer (some ⟨p, 0, none⟩)] 61] ++ l)) := H0.pull 4
  clear H0 hmf
  by_cases h0 : fe = 0
  · subst h0
    obtain rfl := hf rfl
    have hI := fun (L : List SL) (w1 : World) (h : Sat W w1 (rdr p bs pl 0 0 :: ([pt b4 #[.int .i64 0] 3, pt b3 #[.int .i64 high] 3, pt b2 #[.int .i64 low] 3, pt b1 #[.pointer (some ⟨p, 0, none⟩)] 61] ++ L))) => rInt1_any b1 b2 b3 b4 p bs pl low high hp hb h
    have ht : T = (match numAt bs pl low high 5 with | .ok n k => ⟨n, pl + k, 0, 0⟩ | .bad e a => ⟨0, pl, e, a⟩) := HT.out.symm
    clear HT hf
    generalize numAt bs pl low high 5 = r at hI ht
    have HI := Lib.hid hI
    clear hI
    cases r with
    | ok n k =>
      obtain rfl : T = ⟨n, pl + k, 0, 0⟩ := ht
      refine (try_fine p bs pl (pl + k) 77 _ _ _ HI.out (fun w1 => by simp [go_sem]) H1).mono ?_
      rintro e w2 ⟨rfl, H2⟩
      have hc : w2.cell? ⟨b4, 0, none⟩ = some (.int .i64 n) := (H2.pull 1).cell 0
      go_wp2
      go_ret
      exact ⟨rfl, H2.swap.tail.swap.tail.swap.tail.swap.tail⟩
    | bad er ea =>
      obtain rfl : T = ⟨0, pl, er, ea⟩ := ht
      refine (try_gone p bs pl er ea 77 _ _ _ HI.out (fun w1 => by simp [go_sem]) H1).mono ?_
      rintro e w2 ⟨rfl, H2⟩
      go_wp2
      go_ret
      exact ⟨rfl, H2.swap.tail.swap.tail.swap.tail.swap.tail⟩
  · obtain rfl : T = ⟨0, pl, fe, fa⟩ := by rw [← HT.out]; simp only [toldInt]; rw [if_neg h0]
    clear HT
    refine (try_stuck p bs pl fe fa _ h0 H1).mono ?_
    rintro e w2 ⟨rfl, H2⟩
    go_wp2
    go_ret
    exact ⟨rfl, H2.swap.tail.swap.tail.swap.tail.swap.tail⟩
end Go.Proofs.Ytflcmhmbmippfaa

/- A law on reading a variable of several cells at once. No program in sight. -/
namespace Go.Rt
open Go.RowKit
theorem RdL.pt {W : World} {l : List SL} {b : Nat} {xs : List Value} {t : TypeId} : RdL W (Go.Rt.pt b xs.toArray t :: l) (some ⟨b, 0, none⟩) xs := fun w H j u hu => ⟨b, 0, rfl, by rw [Nat.zero_add, H.cell j]; simpa using hu⟩

section
variable {P : Program} {w : World}

theorem run_loadVar_rd (t : TypeId) (b off : Nat) (vs : List Value) (hagg : (match P.underlying t with | some (.struct _) | some (.array _ _) => true | _ => false) = true) (hsz : (P.info? t).map (·.size) = some vs.length)
    (hr : Rd w (some ⟨b, off, none⟩) vs) : (loadVar t ⟨b, off, none⟩).run P w = .ok (.agg vs.toArray) w := by
  have h1 : ∀ w, (isAgg t).run P w = .ok true w := fun w => by
    cases hu : P.underlying t with
    | none => simp [hu] at hagg
    | some u => rw [hu] at hagg; cases u <;> simp_all [isAgg, underlying, Result.andThen]
  have h2 : ∀ w, (sizeOf t).run P w = .ok vs.length w := fun w => by
    cases hi : P.info? t with
    | none => simp [hi] at hsz
    | some i => simp [hi] at hsz; simp [sizeOf, typeInfo, hi, Result.andThen, hsz]
  have h3 := run_loadCells_list (P := P) w ⟨b, off, none⟩ vs (fun k v h => by rw [Addr.add_lit]; exact hr.at k h)
  simp [loadVar, h1, h2, h3, Result.andThen]

set_option maxRecDepth 100000 in
theorem wpList_load_rd {ops : Array Oper} {rest : List Oper} {o : Oper} {a : Act} {Q : Exit → Act → World → Prop} (hg : o.guard = none) (x : Operand) (t : TypeId) (hop : o.op = Op.load t x)
    (b off : Nat) (vs : List Value) (hagg : (match P.underlying t with | some (.struct _) | some (.array _ _) => true | _ => false) = true) (hsz : (P.info? t).map (·.size) = some vs.length) (ha : a.eval x = .pointer (some ⟨b, off, none⟩))
    (hr : Rd w (some ⟨b, off, none⟩) vs) (hK : wpList P ops Q rest (a.put o.dst (.agg vs.toArray)) w) : wpList P ops Q (o :: rest) a w := by
  refine wpList_plain hg fun K hK' => ?_
  have h1 := run_loadVar_rd (P := P) t b off vs hagg hsz hr
  unfold Oper.wp
  simp [execOp, hop, ha, Instr.loadAt, Instr.sureAddr, h1, Result.andThen]
  exact hK' _ _ hK
end
end Go.Rt
