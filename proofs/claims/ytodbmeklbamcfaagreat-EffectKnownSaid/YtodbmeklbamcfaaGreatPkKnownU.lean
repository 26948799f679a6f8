/- A pack of texts: KdC -/
import Derived.Test.YtodbmeklbamcfaaGreatPkKnownL
import Derived.Test.YtodbmeklbamcfaaGreatPkKnownD
import Derived.Maps.Own
import Derived.Maps.OwnSet
import Derived.Deep.DeepCutAuto
/- The set of a list of keys: the program's own answer. -/
namespace Go.Proofs.YtodbmeklbamcfaaGreat
open Go.RowKit Go.Rt Go.Maps

/-- What a list of keys becomes as a map. -/
def setD (l : List Str) : DataW Unit := Maps.setOf .nil (l.map Lit.string)
theorem setD_snoc (l : List Str) (x : Str) : setD (l ++ [x]) = (setD l).put (.string x) .nil := by
  unfold setD
  rw [List.map_append]
  exact Maps.setOf_snoc _ _ _
theorem has_setD (l : List Str) (x : Str) : Maps.has (setD l) (.string x) = true ↔ x ∈ l := by
  unfold setD
  rw [Maps.has_setOf _ _ _ (fun y hy => by obtain ⟨z, _, rfl⟩ := List.mem_map.1 hy; trivial), List.any_eq_true]
  constructor
  · rintro ⟨y, hy, h⟩
    obtain ⟨z, hz, rfl⟩ := List.mem_map.1 hy
    have : z = x := by simpa [Lit.sameKey] using h
    exact this ▸ hz
  · intro h
    exact ⟨.string x, List.mem_map.2 ⟨x, h, rfl⟩, by simp [Lit.sameKey]⟩
theorem tidy_setD (l : List Str) : Maps.Tidy (setD l) := Maps.tidy_setOf _ _ fun y hy => by obtain ⟨z, _, rfl⟩ := List.mem_map.1 hy; trivial
theorem setD_perm {R : Value → Option (DataW Unit × List MemPlace)} {w : World} {b n : Nat} {l : List Str} (hown : w.ownsMap Tryz.prog 9 R b n (setD l)) {ss : List Str} (h : ss.Perm (strKeys (setD l))) : ss.mergeSort leB = sortS l := by
  obtain ⟨es, hD, hpw⟩ := tidy_setD l
  obtain ⟨es', hD', hko⟩ := hown.keysOf
  obtain rfl : es = es' := by rw [hD] at hD'; simpa using hD'
  have hp : (sortS l).Perm (strKeys (setD l)) := by
    rw [hD]
    refine perm_strKeys hpw (fun p hp => by obtain ⟨v, hv⟩ := hko p hp; obtain ⟨x, _, hx, _⟩ := Maps.keyOf_str Tryz.underlying9 hv; exact ⟨x, hx⟩) (List.Pairwise.imp (fun {x y} (h : x < y) (e : x = y) => str_irrefl y (by rw [e] at h; exact h)) (rise_sortS l)) fun x => ?_
    rw [← hD, mem_sortS, has_setD]
  have hq := h.trans hp.symm
  refine sorted_is (hq.nodup_iff.2 (List.Pairwise.imp (fun {x y} (h : x < y) (e : x = y) => str_irrefl y (by rw [e] at h; exact h)) (rise_sortS l))) fun x => ?_
  rw [hq.mem_iff, mem_sortS]
theorem key_str (x : Str) (h : x.length ≤ maxLen) : keyOf Tryz.prog 9 (.string ⟨x.toArray⟩) = some (.string x) := by
  unfold keyOf
  rw [Tryz.underlying9]
  simp [mapKey, ByteArray.size, h]

end Go.Proofs.YtodbmeklbamcfaaGreat
