/- The set of a list of keys: the program's own answer, its spare room of texts too. -/
import Derived.Test.YtnpgjobaibnknaaKdC
import Derived.Test.YtnpgjobaibnknaaKdL
namespace Go.Proofs.Ytnpgjobaibnknaa
open Go.RowKit Go.Rt Go.Maps Go.Shelf

set_option maxRecDepth 100000 in
set_option maxHeartbeats 4000000 in
theorem eSort_row {w : World} (A : Option Addr) (c : Nat) (l : List Str) (hl : l.length ≤ 1000000000) (hx : ∀ x ∈ l, x.length ≤ maxLen) (hr : Rd w A (tsC l)) :
    Calls Try.prog 17 #[.slice A l.length c] w fun e w' => ∃ A' c', e = .returned (.slice A' (sortS l).length c') ∧ Sat w w' [seenS 9 (.slice A' (sortS l).length c') (sortS l).length (tsC (sortS l))] := by
  have hmm := @run_makeMap Try.prog
  have hkey := fun x hx0 => key_str x (hx x hx0)
  have HKEY := Lib.hid hkey
  have hfin := fun (wc : World) (n : Nat) (h : wc.ownsMap Try.prog 9 (fun _ => some (DataW.nil, [])) w.heap.size n (setD l)) (h1 : Maps.size (setD l) ≤ 1000000000) => eSorted_any 86 #[.pointer (some ⟨wc.heap.size, 0, none⟩)] (enters_of Try.func86 (by kernel_rfl) rfl) _ (Maps.size (setD l)) h1 (wc.alloc (.cells #[.map (some w.heap.size)] 73))
    ⟨_, AnyZ.keys_stops (ρ := Try.ren65) { Try.keys65 with } Fence.wide 2 trivial rfl (by omega) wc.heap.size w.heap.size n (setD l) (R := fun _ => some (DataW.nil, [])) _ (by simp) (by simp) (by
      have hbl := h.lt
      obtain ⟨es, clock, hb, Ft, hs, hD⟩ := h
      exact ⟨es, clock, (Below.heap_alloc _ _ _ hbl).trans hb, Ft, hs, hD⟩)⟩
    (fun ss hS => by have h2 := setD_perm h hS.1; have h3 := congrArg List.length h2; rw [List.length_mergeSort] at h3; have := sortS_len l; omega)
  have hper := fun (wc : World) (n : Nat) (h : wc.ownsMap Try.prog 9 (fun _ => some (DataW.nil, [])) w.heap.size n (setD l)) => @setD_perm _ wc w.heap.size n l h
  have HFIN := Lib.hid hfin
  have HPER := Lib.hid hper
  have H0 := World.ownsMap_made w Try.prog 9 (fun _ => some (DataW.nil (H := Unit), []))
  clear hkey hfin hper hx
  go_enter Try.func17, Try.ntmps17
  go_wp2
  go_loopw [9] (fun i wc => ∃ j : Nat, j ≤ l.length ∧ i = .int .i64 j ∧ wc.ownsMap (H := Unit) Try.prog 9 (fun _ => some (DataW.nil, [])) w.heap.size j (setD (l.take j)) ∧ Below w.heap.size w wc) (fun i _ => l.length - (intOf i).toNat)
  case atStart => exact ⟨0, by omega, rfl, H0, (Below.refl _ _).alloc (Nat.le_refl _) _⟩
  case round =>
    obtain ⟨j, hj, rfl, hown, hB⟩ := hrel
    clear hmm H0
    by_cases hlt : j < l.length
    · obtain ⟨x, hx⟩ : ∃ x, l[j]? = some x := ⟨_, List.getElem?_eq_getElem hlt⟩
      have hk := HKEY.out x (List.mem_of_getElem? hx)
      have htk : l.take (j + 1) = l.take j ++ [x] := by rw [List.take_add_one, hx]; rfl
      have hst : setD (l.take (j + 1)) = (setD (l.take j)).put (.string x) .nil := by rw [htk, setD_snoc]
      have HST := Lib.hid hst
      obtain ⟨b, o, rfl, hc⟩ := ts_at (hr.below hB) j x hx
      clear htk hst hx
      go_wp2_with (first
        | (refine wpList_mapUpdate_own _ rfl _ _ _ 73 rfl 9 74 (string_keyed Try.underlying9) Try.underlying73 _ w.heap.size j (setD (l.take j)) rfl hown (by unfold maxLen; omega) _ _ (.string x) rfl rfl hk .nil [] rfl ?_
           intro w1 hown1 hgrow1))
      refine ⟨⟨j + 1, by omega, by go_num, ?_, hB.grown hgrow1 hB.size (fun k e => by cases e; exact Nat.le_refl _)⟩, by simp [intOf]; omega⟩
      rw [HST.out]
      exact hown1
    · obtain rfl : j = l.length := by omega
      rw [List.take_length] at hown
      have hsz : Maps.size (setD l) ≤ l.length := hown.size_le
      have hf := HFIN.out wr l.length hown (by omega)
      have HF := Lib.hid hf
      have hP := fun ss => HPER.out wr l.length hown (ss := ss)
      have HP := Lib.hid hP
      clear hf hP HFIN HPER HKEY
      go_wp2_with fail
      refine (callsIn_wide.1 (Try.keysA65 (some w.heap.size) wr)).mono ?_
      rintro e w1 ⟨rfl, rfl⟩
      go_wp2_with fail
      refine HF.out.mono ?_
      rintro e w2 ⟨A2, c2, ss, rfl, hS, H2⟩
      clear HF
      have hsort := HP.out ss hS.1
      have hlen : ss.length = (sortS l).length := by rw [← hsort, List.length_mergeSort]
      have hwr := hB.size
      rw [hsort] at H2
      go_wp2
      go_ret
      rw [hlen] at H2
      refine ⟨A2, c2, rfl, ?_⟩
      exact H2.earlier (hB.alloc hB.size _)
end Go.Proofs.Ytnpgjobaibnknaa
