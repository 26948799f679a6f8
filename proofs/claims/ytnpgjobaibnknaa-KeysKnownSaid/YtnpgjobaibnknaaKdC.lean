/- The set of a list of keys: the program's own answer. -/
import Derived.Test.YtnpgjobaibnknaaKdB
import Derived.Test.YtnpgjobaibnknaaShI
import Derived.Maps.Own
import Derived.Maps.OwnSet
import Derived.Deep.DeepCutAuto
namespace Go.Proofs.Ytnpgjobaibnknaa
open Go.RowKit Go.Rt Go.Maps

/-- What a list of keys becomes as a map. -/
def setD (l : List Str) : DataW Unit := Maps.setOf .nil (l.map Lit.string)
theorem setD_snoc (l : List Str) (x : Str) : setD (l ++ [x]) = (setD l).put (.string x) .nil := by
  unfold setD
  rw [List.map_append]
  exact Maps.setOf_snoc _ _ _
theorem has_setD (l : List Str) (x : Str) : Maps.has (setD l) (.string x) = true ↔ x ∈ l := by
  unfold setD
  rw [Maps.has_setOf _ _ _ (fun y hy => by obtain ⟨z, _, rfl⟩ := List.mem_map.1 hy; trivial), List.any_eq_true]
  constructor
  · rintro ⟨y, hy, h⟩
    obtain ⟨z, hz, rfl⟩ := List.mem_map.1 hy
    have : z = x := by simpa [Lit.sameKey] using h
    exact this ▸ hz
  · intro h
    exact ⟨.string x, List.mem_map.2 ⟨x, h, rfl⟩, by simp [Lit.sameKey]⟩
theorem tidy_setD (l : List Str) : Maps.Tidy (setD l) := Maps.tidy_setOf _ _ fun y hy => by obtain ⟨z, _, rfl⟩ := List.mem_map.1 hy; trivial
theorem setD_perm {R : Value → Option (DataW Unit × List MemPlace)} {w : World} {b n : Nat} {l : List Str} (hown : w.ownsMap Try.prog 9 R b n (setD l)) {ss : List Str} (h : ss.Perm (strKeys (setD l))) : ss.mergeSort leB = sortS l := by
  obtain ⟨es, hD, hpw⟩ := tidy_setD l
  obtain ⟨es', hD', hko⟩ := hown.keysOf
  obtain rfl : es = es' := by rw [hD] at hD'; simpa using hD'
  have hp : (sortS l).Perm (strKeys (setD l)) := by
    rw [hD]
    refine perm_strKeys hpw (fun p hp => by obtain ⟨v, hv⟩ := hko p hp; obtain ⟨x, _, hx, _⟩ := Maps.keyOf_str Try.underlying9 hv; exact ⟨x, hx⟩) (List.Pairwise.imp (fun {x y} (h : x < y) (e : x = y) => str_irrefl y (by rw [e] at h; exact h)) (rise_sortS l)) fun x => ?_
    rw [← hD, mem_sortS, has_setD]
  have hq := h.trans hp.symm
  refine sorted_is (hq.nodup_iff.2 (List.Pairwise.imp (fun {x y} (h : x < y) (e : x = y) => str_irrefl y (by rw [e] at h; exact h)) (rise_sortS l))) fun x => ?_
  rw [hq.mem_iff, mem_sortS]
theorem key_str (x : Str) (h : x.length ≤ maxLen) : keyOf Try.prog 9 (.string ⟨x.toArray⟩) = some (.string x) := by
  unfold keyOf
  rw [Try.underlying9]
  simp [mapKey, ByteArray.size, h]

set_option maxRecDepth 100000 in
set_option maxHeartbeats 4000000 in
theorem eSort_any {w : World} (A : Option Addr) (c : Nat) (l : List Str) (hl : l.length ≤ 1000000000) (hx : ∀ x ∈ l, x.length ≤ maxLen) (hr : Rd w A (tsC l)) :
    Calls Try.prog 17 #[.slice A l.length c] w fun e w' => ∃ v, e = .returned v ∧ w'.ownsRow w.heap.size 9 1 v (sortS l).length (tsC (sortS l)) ∧ (v = .slice none 0 0 ↔ l = []) ∧ Below w.heap.size w w' := by
  have hmm := @run_makeMap Try.prog
  have hkey := fun x hx0 => key_str x (hx x hx0)
  have HKEY := Lib.hid hkey
  have hfin := fun (wc : World) (n : Nat) (h : wc.ownsMap Try.prog 9 (fun _ => some (DataW.nil, [])) w.heap.size n (setD l)) (h1 : Maps.size (setD l) ≤ maxLen) (h2 : Maps.size (setD l) * 16 ≤ 140737488355328) => callsIn_wide.1 (Try.sortedA w.heap.size n (setD l) (fun _ => some (DataW.nil, [])) wc h h1 h2)
  have hper := fun (wc : World) (n : Nat) (h : wc.ownsMap Try.prog 9 (fun _ => some (DataW.nil, [])) w.heap.size n (setD l)) => @setD_perm _ wc w.heap.size n l h
  have HFIN := Lib.hid hfin
  have HPER := Lib.hid hper
  have H0 := World.ownsMap_made w Try.prog 9 (fun _ => some (DataW.nil (H := Unit), []))
  clear hkey hfin hper hx
  go_enter Try.func17, Try.ntmps17
  go_wp2
  go_loopw [9] (fun i wc => ∃ j : Nat, j ≤ l.length ∧ i = .int .i64 j ∧ wc.ownsMap (H := Unit) Try.prog 9 (fun _ => some (DataW.nil, [])) w.heap.size j (setD (l.take j)) ∧ Below w.heap.size w wc) (fun i _ => l.length - (intOf i).toNat)
  case atStart => exact ⟨0, by omega, rfl, H0, (Below.refl _ _).alloc (Nat.le_refl _) _⟩
  case round =>
    obtain ⟨j, hj, rfl, hown, hB⟩ := hrel
    clear hmm H0
    by_cases hlt : j < l.length
    · obtain ⟨x, hx⟩ : ∃ x, l[j]? = some x := ⟨_, List.getElem?_eq_getElem hlt⟩
      have hk := HKEY.out x (List.mem_of_getElem? hx)
      have htk : l.take (j + 1) = l.take j ++ [x] := by rw [List.take_add_one, hx]; rfl
      have hst : setD (l.take (j + 1)) = (setD (l.take j)).put (.string x) .nil := by rw [htk, setD_snoc]
      have HST := Lib.hid hst
      obtain ⟨b, o, rfl, hc⟩ := ts_at (hr.below hB) j x hx
      clear htk hst hx
      go_wp2_with (first
        | (refine wpList_mapUpdate_own _ rfl _ _ _ 73 rfl 9 74 (string_keyed Try.underlying9) Try.underlying73 _ w.heap.size j (setD (l.take j)) rfl hown (by unfold maxLen; omega) _ _ (.string x) rfl rfl hk .nil [] rfl ?_
           intro w1 hown1 hgrow1))
      refine ⟨⟨j + 1, by omega, by go_num, ?_, hB.grown hgrow1 hB.size (fun k e => by cases e; exact Nat.le_refl _)⟩, by simp [intOf]; omega⟩
      rw [HST.out]
      exact hown1
    · obtain rfl : j = l.length := by omega
      rw [List.take_length] at hown
      have hsz : Maps.size (setD l) ≤ l.length := hown.size_le
      have hf := HFIN.out wr l.length hown (by unfold maxLen; omega) (by omega)
      have HF := Lib.hid hf
      have hP := fun ss => HPER.out wr l.length hown (ss := ss)
      have HP := Lib.hid hP
      clear hf hP HFIN HPER HKEY
      go_wp2_with fail
      refine (callsIn_wide.1 (Try.keysA (some w.heap.size) wr)).mono ?_
      rintro e w1 ⟨rfl, rfl⟩
      go_wp2_with fail
      refine HF.out.mono ?_
      rintro e w2 ⟨v, ss, rfl, hS, hrow, hnil, hb⟩
      clear HF
      have hsort := HP.out ss hS
      have hlen : ss.length = (sortS l).length := by rw [← hsort, List.length_mergeSort]
      go_wp2
      go_ret
      have hwr := hB.size
      have hrow2 := ownsRow_base_a hrow (show w.heap.size ≤ _ by simp; omega)
      have e1 : (ss.mergeSort fun x y => decide (x ≤ y)).map encStr = tsC (sortS l) := by
        show (ss.mergeSort leB).map encStr = _
        rw [hsort]; rfl
      rw [e1, hlen] at hrow2
      refine ⟨v, rfl, hrow2, ?_, (hB.alloc hB.size _).trans (hb.mono (by simp; omega))⟩
      rw [hnil]
      constructor
      · rintro rfl
        exact (sortS_nil l).1 (List.eq_nil_of_length_eq_zero hlen.symm)
      · intro h
        refine List.eq_nil_of_length_eq_zero ?_
        rw [hlen, (sortS_nil l).2 h]; rfl
end Go.Proofs.Ytnpgjobaibnknaa
