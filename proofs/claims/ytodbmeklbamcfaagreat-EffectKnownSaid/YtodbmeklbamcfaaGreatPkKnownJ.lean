/- A pack of texts: KdA -/
import Derived.Test.YtodbmeklbamcfaaGreatProg
import Derived.WalkKit
import Derived.Test.YtodbmeklbamcfaaGreatPkKnownG
import Derived.Test.YtodbmeklbamcfaaGreatPkKnownB
import Derived.BigQuiet
import Derived.Sort.Walk0
/- Lists of texts: their cells; copied, held against each other; too long. -/
namespace Go.Proofs.YtodbmeklbamcfaaGreat
open Go.RowKit Go.Rt

def tsC (l : List Str) : List Value := l.map encStr
abbrev zS : List Value := [.string ⟨#[]⟩]
theorem zS_like : LikeZ zS := by
  intro j u h
  match j, h with
  | 0, h => simp at h; subst h; rfl
  | j + 1, h => simp at h
theorem tsC_len (l : List Str) : (tsC l).length = l.length := by simp [tsC]
theorem tsC_append (l m : List Str) : tsC (l ++ m) = tsC l ++ tsC m := by simp [tsC]
theorem tsC_one (l : List Str) : ∀ u ∈ tsC l, u.oneCell' = true := by
  intro u hu
  obtain ⟨x, _, rfl⟩ := List.mem_map.1 hu
  rfl
theorem tsC_typed (l : List Str) : Typed zS (tsC l) := fun j u h => by
  unfold tsC at h
  rw [List.getElem?_map] at h
  cases hl : l[j]? with
  | none => rw [hl] at h; cases h
  | some x => rw [hl] at h; simp at h; subst h; simp [like, Nat.mod_one, encStr]
theorem ts_at {w : World} {A : Option Addr} {l : List Str} (h : Rd w A (tsC l)) (j : Nat) (x : Str) (hx : l[j]? = some x) : ∃ b o, A = some ⟨b, o, none⟩ ∧ w.cell? ⟨b, o + j, none⟩ = some (.string ⟨x.toArray⟩) := by
  have h1 : (tsC l)[j]? = some (encStr x) := by unfold tsC; rw [List.getElem?_map, hx]; rfl
  obtain ⟨b, o, hA, hc⟩ := h j _ h1
  exact ⟨b, o, hA, hc⟩
theorem below_drew' {n : Nat} {w w' : World} (h : Below n w w') (k : Nat) : Below n w (w'.drewN k) := h.trans ⟨rfl, rfl, rfl, Nat.le_refl _, fun _ _ => rfl⟩
theorem infoStr : (Tryz.prog.info? 9).map (fun i => (i.zero, i.size, i.bytes)) = some (some (.string ⟨#[]⟩), 1, 16) := by kernel_rfl
theorem str_beq (x y : Str) : ((⟨x.toArray⟩ : ByteArray).toList == (⟨y.toArray⟩ : ByteArray).toList) = decide (x = y) := by
  have h : ∀ s : List UInt8, (⟨s.toArray⟩ : ByteArray).toList = s := fun s => by simp
  rw [h, h]
  by_cases e : x = y <;> simp [e]
theorem str_lt (x y : Str) : Op.bytesLess (⟨x.toArray⟩ : ByteArray).toList (⟨y.toArray⟩ : ByteArray).toList = decide (x < y) := by
  have h : ∀ s : List UInt8, (⟨s.toArray⟩ : ByteArray).toList = s := fun s => by simp
  rw [h, h, bytesLess_eq]

set_option maxRecDepth 100000 in
theorem CopyTexts_any {W w : World} {L : List SL} (A : Option Addr) (c : Nat) (l : List Str) (hl : l.length ≤ 1000000000) (hr : Rd w A (tsC l)) (H : Sat W w L) :
    Calls Tryz.prog 61 #[.slice A l.length c] w fun e w' => ∃ A' c', e = .returned (.slice A' l.length c') ∧ Sat W w' (row 9 zS (.slice A' l.length c') l.length (tsC l) :: L) := by
  obtain ⟨i0, hi, hz0, hz1, hz2⟩ := info_parts infoStr
  go_enter Tryz.func61, Tryz.ntmps61
  go_wp2_with (first
    | (at_builtin
       refine wpList_append_sl rfl (.tmp 3) (.tmp 4) 22 rfl 9 i0 _ zS 16 Tryz.underlying22 hi hz0 rfl hz1 hz2 (by simp) zS_like _ 0 [] rfl (H.made #[] 9 zS 0 0 (by omega) (by unfold maxLen; omega) rfl (Typed.nil _)) A l.length c (tsC l) rfl (by simp [tsC]) (hr.below ((Below.refl _ _).alloc (Nat.le_refl _) _)) (tsC_one l) (tsC_typed l) (by unfold maxLen; omega) (by omega) ?_
       intro A2 c2 w2 H2))
  go_ret
  refine ⟨A2, c2, by simp, ?_⟩
  simpa using H2

theorem ts_ext {l m : List Str} (hl : l.length = m.length) (h : ∀ k, k < l.length → l[k]? = m[k]?) : l = m := by
  refine List.ext_getElem hl fun k h1 h2 => ?_
  have := h k h1
  simpa [h1, h2] using this

set_option maxRecDepth 100000 in
set_option maxHeartbeats 4000000 in
theorem SameTexts_any {w : World} (A A' : Option Addr) (c c' : Nat) (l m : List Str) (hl : l.length ≤ maxLen) (hr : Rd w A (tsC l)) (hr' : Rd w A' (tsC m)) :
    Calls Tryz.prog 20 #[.slice A l.length c, .slice A' m.length c'] w fun e w' => e = .returned (.bool (decide (l = m))) ∧ Below w.heap.size w w' := by
  have hl' := hl
  unfold maxLen at hl'
  by_cases hlm : l.length = m.length
  · go_enter Tryz.func20, Tryz.ntmps20
    go_wp2
    go_loopw [5] (fun i wc => ∃ j : Nat, j ≤ l.length ∧ i = .int .i64 j ∧ Hid (∀ k, k < j → l[k]? = m[k]?) ∧ Below w.heap.size w wc) (fun i _ => l.length - (intOf i).toNat)
    case atStart => exact ⟨0, by omega, rfl, (fun k hk => by omega), Below.refl _ _⟩
    case round =>
      obtain ⟨j, hj, rfl, hN, hB⟩ := hrel
      by_cases hlt : j < l.length
      · obtain ⟨x, hx⟩ : ∃ x, l[j]? = some x := ⟨_, List.getElem?_eq_getElem hlt⟩
        obtain ⟨y, hy⟩ : ∃ y, m[j]? = some y := ⟨_, List.getElem?_eq_getElem (by omega)⟩
        obtain ⟨b, o, rfl, hc⟩ := ts_at (hr.below hB) j x hx
        obtain ⟨b', o', rfl, hc'⟩ := ts_at (hr'.below hB) j y hy
        clear hr hr'
        by_cases hq : x = y
        · have hxy : l[j]? = m[j]? := by rw [hx, hy, hq]
          have hE : (x == y) = true := by simpa using hq
          clear hq hx hy
          go_wp2
          go_quiet (fail)
          go_wp2
          exact ⟨⟨j + 1, by omega, by go_num, fun k hk => by
            rcases Nat.lt_or_ge k j with h | h
            · exact hN.out k h
            · obtain rfl : k = j := by omega
              exact hxy, below_drew' hB _⟩, by simp [intOf]; omega⟩
        · have hf : decide (l = m) = false := decide_eq_false fun e => hq (by rw [e, hy] at hx; exact (Option.some.inj hx).symm)
          have hE : (x == y) = false := by simpa using hq
          clear hq hx hy
          go_wp2
          go_quiet (fail)
          go_wp2
          go_ret
          exact ⟨by first | rfl | (rw [hf]; rfl), below_drew' hB _⟩
      · obtain rfl : j = l.length := by omega
        have hf : decide (l = m) = true := decide_eq_true (ts_ext hlm hN.out)
        go_wp2
        go_ret
        exact ⟨by first | rfl | (rw [hf]; rfl), hB⟩
  · have e1 : decide (l = m) = false := decide_eq_false fun e => hlm (by rw [e])
    rw [e1]
    go_enter Tryz.func20, Tryz.ntmps20
    go_wp2
    go_ret
    exact ⟨rfl, Below.refl _ _⟩
end Go.Proofs.YtodbmeklbamcfaaGreat
