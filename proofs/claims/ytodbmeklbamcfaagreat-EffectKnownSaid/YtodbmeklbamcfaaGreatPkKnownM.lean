/- A pack of texts: RtO -/
import Derived.Test.YtodbmeklbamcfaaGreatPkKnownI
import Derived.Maps.Own
import Derived.Maps.OwnSet
import Derived.Sort.KeysCollected
/- Maps that the call owns: made, written, struck out, looked up, counted. No program in sight. -/
namespace Go.Rt
open Go.RowKit Go.Maps
open Go.WideElems (Fit rg)

/-- A map in a block of the call's own. -/
def mapS {H : Type} (P : Program) (k : TypeId) (R : Value → Option (DataW H × List MemPlace)) (b n : Nat) (D : DataW H) : SL := fun h =>
  ∃ es clock, h b = some (.map es clock) ∧ Fit P k R es clock ∧ es.size ≤ n ∧ D = .map ((es.toList.map (rg P k R)).foldr DataW.insert [])
section
variable {H : Type} {P : Program} {W w w' : World} {l : List SL} {k : TypeId} {R : Value → Option (DataW H × List MemPlace)} {b n n' : Nat} {D D' : DataW H}
theorem Sat.map_owns (S : Sat W w (mapS P k R b n D :: l)) : w.ownsMap P k R b n D := by
  obtain ⟨_, h, ⟨a, r, d, rfl, ⟨es, clock, h1, h2⟩, _⟩, hh⟩ := S
  exact ⟨es, clock, (hh b _ (join_left h1)).2, h2⟩
theorem Sat.map_ge (S : Sat W w (mapS P k R b n D :: l)) : W.heap.size ≤ b := by
  obtain ⟨_, h, ⟨a, r, d, rfl, ⟨es, clock, h1, h2⟩, _⟩, hh⟩ := S
  exact (hh b _ (join_left h1)).1
theorem Sat.map_made (S : Sat W w l) (P : Program) (k : TypeId) (R : Value → Option (DataW H × List MemPlace)) : Sat W (w.alloc (.map #[] 0)) (mapS P k R w.heap.size 0 (.map []) :: l) := by
  obtain ⟨es, clock, h1, h2, h3, h4⟩ := World.ownsMap_made w P k R
  rw [heap_new w (.map #[] 0)] at h1
  cases h1
  refine S.add (a := fun j => if j = w.heap.size then some (.map #[] 0) else none) _ ((Below.refl _ _).alloc (Nat.le_refl _) _) ⟨#[], 0, by simp, h2, h3, h4⟩ fun j o e => ?_
  by_cases hj : j = w.heap.size
  · subst hj
    simp at e
    subst e
    exact ⟨Nat.le_refl _, heap_new w _⟩
  · simp [hj] at e
theorem Sat.map_grown (S : Sat W w (mapS P k R b n D :: l)) (hgb : w.grownBy w' (some b)) (ho : w'.ownsMap P k R b n' D') : Sat W w' (mapS P k R b n' D' :: l) := by
  have hge := S.map_ge
  obtain ⟨es', clock', g1, g2, g3, g4⟩ := ho
  refine S.put (S.bel.grown hgb S.bel.size fun j e => by cases e; exact hge) fun a ⟨es, clock, h1, _⟩ hh => ⟨fun j => if j = b then some (.map es' clock') else none, ⟨es', clock', by simp, g2, g3, g4⟩, fun j hj => ?_, fun j o e => ?_, fun j hj hj2 => ?_⟩
  · by_cases e : j = b
    · subst e; left; rw [h1]; simp
    · simp [e] at hj
  · by_cases e1 : j = b
    · subst e1
      simp at e
      subst e
      exact ⟨hge, g1⟩
    · simp [e1] at e
  · exact hgb.block j hj2 (by intro e; cases e; rw [h1] at hj; cases hj)
theorem Sat.map_mono (S : Sat W w (mapS P k R b n D :: l)) (h : n ≤ n') : Sat W w (mapS P k R b n' D :: l) := S.head fun _ ⟨es, clock, h1, h2, h3, h4⟩ => ⟨es, clock, h1, h2, Nat.le_trans h3 h, h4⟩

set_option maxRecDepth 100000 in
theorem wpList_map_store {ops : Array Oper} {rest : List Oper} {o : Oper} {a : Act} {Q : Exit → Act → World → Prop} (hg : o.guard = none) (m x v : Operand) (t : TypeId) (hop : o.op = Op.mapUpdate t m x v)
    (e : TypeId) (K : Keyed P k) (ht : P.underlying t = some (.map k e)) (hm : a.eval m = .map (some b)) (S : Sat W w (mapS P k R b n D :: l)) (hn : n < maxLen) (key val : Value) (kl : Lit) (hx : a.eval x = key) (hv : a.eval v = val) (hkey : keyOf P k key = some kl)
    (d : DataW H) (hval : R val = some (d, []))
    (hK : ∀ w', Sat W w' (mapS P k R b (n + 1) (D.put kl d) :: l) → wpList P ops Q rest (a.put o.dst undef) w') : wpList P ops Q (o :: rest) a w :=
  wpList_mapUpdate_own w hg m x v t hop k e K ht R b n D hm S.map_owns hn key val kl hx hv hkey d [] hval fun w' r1 r2 => hK w' (S.map_grown r2 r1)
set_option maxRecDepth 100000 in
theorem wpList_map_delete {ops : Array Oper} {rest : List Oper} {o : Oper} {a : Act} {Q : Exit → Act → World → Prop} (hg : o.guard = none) (m x : Operand) (t k' : TypeId) (hop : o.op = Op.call { callee := Callee.builtin Builtin.delete, args := #[m, x], argTypes := #[t, k'] }) (hkk : k' = k)
    (e : TypeId) (K : Keyed P k) (ht : P.underlying t = some (.map k e)) (hm : a.eval m = .map (some b)) (S : Sat W w (mapS P k R b n D :: l)) (key : Value) (kl : Lit) (hx : a.eval x = key) (hkey : keyOf P k key = some kl)
    (hK : ∀ w', Sat W w' (mapS P k R b n (D.del kl) :: l) → wpList P ops Q rest (a.put o.dst (.tuple #[])) w') : wpList P ops Q (o :: rest) a w := by
  subst hkk
  exact wpList_delete_own w hg m x t k' hop e K ht R b n D hm S.map_owns key kl hx hkey fun w' r1 r2 => hK w' (S.map_grown r2.grown r1)
end
/-- A datum of a map whose keys are texts: what each has. -/
structure MapOf (D : DataW Unit) (f : List UInt8 → Option (DataW Unit)) : Prop where
  tidy : Maps.Tidy D
  has : ∀ x, Maps.has D (.string x) = (f x).isSome
  look : ∀ x d, f x = some d → ∀ z, D.atKey (.string x) z = d
theorem str_lit_ne {x y : List UInt8} (h : ¬ x = y) : (Lit.string x) ≠ .string y := fun e => h (by cases e; rfl)
theorem key_lit (x : List UInt8) : WideAt.IsKeyLit (Lit.string x) := trivial
theorem MapOf.nil : MapOf (.map []) fun _ => none := ⟨Maps.tidy_empty, fun _ => rfl, fun _ _ h => by cases h⟩
theorem MapOf.put {D : DataW Unit} {f : List UInt8 → Option (DataW Unit)} (h : MapOf D f) (x : List UInt8) (d : DataW Unit) : MapOf (D.put (.string x) d) fun y => if x = y then some d else f y := by
  refine ⟨h.tidy.put (key_lit x) d, fun y => ?_, fun y d' hy z => ?_⟩
  · by_cases e : x = y
    · subst e; rw [if_pos rfl, Maps.has_put_same h.tidy.isMap (key_lit x)]; rfl
    · rw [if_neg e, Maps.has_put_other (str_lit_ne fun h => e h.symm), h.has]
  · by_cases e : x = y
    · subst e; rw [if_pos rfl] at hy; cases hy; exact Maps.atKey_put_same h.tidy.isMap (key_lit x) _ _
    · rw [if_neg e] at hy; rw [Maps.atKey_put_other (str_lit_ne fun h => e h.symm)]; exact h.look y d' hy z
theorem MapOf.del {D : DataW Unit} {f : List UInt8 → Option (DataW Unit)} (h : MapOf D f) (x : List UInt8) : MapOf (D.del (.string x)) fun y => if x = y then none else f y := by
  refine ⟨h.tidy.del _, fun y => ?_, fun y d' hy z => ?_⟩
  · by_cases e : x = y
    · subst e; rw [if_pos rfl, Maps.has_del_same]; rfl
    · rw [if_neg e, Maps.has_del_other (str_lit_ne fun h => e h.symm), h.has]
  · by_cases e : x = y
    · subst e; rw [if_pos rfl] at hy; cases hy
    · rw [if_neg e] at hy; rw [Maps.atKey_del_other (str_lit_ne fun h => e h.symm)]; exact h.look y d' hy z
theorem MapOf.congr {D : DataW Unit} {f g : List UInt8 → Option (DataW Unit)} (h : MapOf D f) (e : ∀ x, f x = g x) : MapOf D g := by
  have : f = g := funext e
  exact this ▸ h
end Go.Rt
