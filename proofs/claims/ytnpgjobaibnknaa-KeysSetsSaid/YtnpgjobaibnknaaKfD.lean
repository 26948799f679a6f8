/- Texts of a new slice written over, its spare room too. -/
import Derived.Test.YtnpgjobaibnknaaKfC
namespace Go.Proofs.Ytnpgjobaibnknaa
open Go.RowKit Go.Rt

theorem _root_.Go.Rt.Sat.new_pt {W w : World} {L : List SL} {e : TypeId} {zc xs : List Value} {g n c : Nat} (H : Sat W w (newS e zc (.slice (some ⟨g, 0, none⟩) n c) n xs :: L)) :
    ∃ cur : Array Value, n ≤ c ∧ c ≤ maxLen ∧ cur.size = c * zc.length ∧ cur.toList.take (n * zc.length) = xs ∧ Zeros zc (cur.toList.drop (n * zc.length)) ∧ Sat W w (pt g cur e :: L) := by
  obtain ⟨cur, h1, h2, h3, h4, h5, h6⟩ := H.new_blk
  refine ⟨cur, h2, h3, h4, h5, h6, ?_⟩
  obtain ⟨hb, h, ⟨a, r, d, rfl, ⟨hx, ha⟩, hl⟩, hh⟩ := H
  rcases ha with ⟨hv, _⟩ | ⟨g', cap, cur', hv, hg, _⟩
  · cases hv
  · cases hv
    have := (hh g _ (join_left hg)).2
    rw [h1] at this
    cases this
    exact ⟨hb, _, ⟨a, r, d, rfl, hg, hl⟩, hh⟩
/-- Texts, none of them too long. -/
def Texts (cur : Array Value) (c : Nat) (f : Nat → Nat) : Prop := cur.size = c ∧ ∀ j u, cur[j]? = some u → ∃ s : Str, u = .string ⟨s.toArray⟩ ∧ s.length ≤ f j
theorem texts_new {cur : Array Value} {c n m : Nat} {xs : List Str} (h1 : cur.size = c * zS.length) (h2 : cur.toList.take (n * zS.length) = tsC xs) (h3 : Zeros zS (cur.toList.drop (n * zS.length))) (hx : ∀ x ∈ xs, x.length ≤ m) : Texts cur c (fun _ => m) := by
  refine ⟨by simpa using h1, fun j u hu => ?_⟩
  rw [← Array.getElem?_toList] at hu
  simp only [List.length_cons, List.length_nil, Nat.zero_add, Nat.mul_one] at h2 h3
  by_cases hj : j < n
  · have h4 : (tsC xs)[j]? = some u := by rw [← h2, List.getElem?_take, if_pos hj]; exact hu
    unfold tsC at h4
    rw [List.getElem?_map] at h4
    cases hl : xs[j]? with
    | none => rw [hl] at h4; cases h4
    | some x => rw [hl] at h4; exact ⟨x, (Option.some.inj h4).symm, hx x (List.mem_of_getElem? hl)⟩
  · have h4 := h3 (j - n) u (by rw [List.getElem?_drop, Nat.add_sub_cancel' (by omega)]; exact hu)
    exact ⟨[], by rw [h4]; simp [Nat.mod_one], by simp⟩
def once (m j : Nat) : Nat → Nat := fun k => if k < j then m + 1 else m
theorem Texts.set {cur : Array Value} {c m j : Nat} (h : Texts cur c (once m j)) (s : Str) (hs : s.length ≤ m + 1) : Texts (cur.setIfInBounds j (.string ⟨s.toArray⟩)) c (once m (j + 1)) := by
  refine ⟨by simp [h.1], fun k u hu => ?_⟩
  rw [Array.getElem?_setIfInBounds] at hu
  split at hu
  · rename_i e
    subst e
    split at hu
    · exact ⟨s, (Option.some.inj hu).symm, by unfold once; rw [if_pos (by omega)]; exact hs⟩
    · cases hu
  · obtain ⟨t, h1, h2⟩ := h.2 k u hu
    refine ⟨t, h1, Nat.le_trans h2 ?_⟩
    unfold once
    split <;> split <;> omega

set_option maxRecDepth 100000 in
set_option maxHeartbeats 1000000 in
theorem OverTexts_any {W w : World} {L : List SL} (A : Option Addr) (c : Nat) (xs : List Str) (hx : ∀ x ∈ xs, x.length ≤ 1000000) (H : Sat W w (seenS 9 (.slice A xs.length c) xs.length (tsC xs) :: L)) :
    Calls Try.prog 30 #[.slice A xs.length c] w fun e w' => e = .returned (.tuple #[]) ∧ Sat W w' L := by
  cases A with
  | none =>
    obtain ⟨_, A0, c0, hv, hnc, hcm, hA0, _⟩ := H.new_slice
    cases hv
    obtain ⟨rfl, h0⟩ := hA0 rfl
    rw [h0]
    clear hA0 hx hnc hcm
    go_enter Try.func30, Try.ntmps30
    go_wp2
    go_loopw [3] (fun i wc => i = .int .i64 0 ∧ Sat W wc L) (fun i _ => 0)
    case atStart => exact ⟨rfl, H.tail⟩
    case round =>
      obtain ⟨rfl, H1⟩ := hrel
      go_wp2
      go_end0
      exact ⟨rfl, H1⟩
  | some ad =>
    obtain ⟨_, A1, c1, hv, _, _, _, hA1⟩ := H.new_slice
    cases hv
    obtain ⟨h0, hsp, _, _⟩ := hA1 ad rfl
    obtain ⟨g, off, sp⟩ := ad
    dsimp only at h0 hsp
    subst h0 hsp
    obtain ⟨cur, hnc, hcm, hcs, hct, hcz, H1⟩ := H.new_pt
    have HT := Lib.hid (texts_new hcs hct hcz hx)
    clear hA1 hcs hct hcz hx H
    unfold maxLen at hcm
    go_enter Try.func30, Try.ntmps30
    go_wp2
    go_loopw [3] (fun i wc => ∃ (j : Nat) (cur : Array Value), j ≤ c ∧ i = .int .i64 j ∧ Hid (Texts cur c (once 1000000 j)) ∧ Sat W wc (pt g cur 9 :: L)) (fun i _ => c - (intOf i).toNat)
    case atStart => exact ⟨0, cur, by omega, rfl, by rw [show once 1000000 0 = fun _ => 1000000 by funext k; simp [once]]; exact HT.out, H1⟩
    case round =>
      clear H1 HT
      obtain ⟨j, cur, hj, rfl, HT, H1⟩ := hrel
      by_cases hlt : j < c
      · obtain ⟨u, hu⟩ : ∃ u, cur[j]? = some u := ⟨_, Array.getElem?_eq_getElem (by rw [HT.out.1]; exact hlt)⟩
        obtain ⟨s, rfl, hs⟩ := HT.out.2 j u hu
        have hc := H1.cell j
        rw [hu] at hc
        have hf := H1.frz j
        unfold once at hs
        rw [if_neg (Nat.lt_irrefl j)] at hs
        have hT2 := HT.out.set (s ++ [33]) (by simp; omega)
        have HT2 := Lib.hid hT2
        clear hT2 hu
        go_wp2
        exact ⟨⟨j + 1, _, by omega, by go_num, HT2.out, H1.setCell j _⟩, by simp [intOf]; omega⟩
      · go_wp2
        go_end0
        exact ⟨rfl, H1.tail⟩
end Go.Proofs.Ytnpgjobaibnknaa
