/- A pack of texts: KeC -/
import Derived.Test.YtodbmeklbamcfaaGreatPkKnownO
import Derived.Test.YtodbmeklbamcfaaGreatPkKnownW
/- Lists of spans: their cells; copied, held against each other, written over. -/
namespace Go.Proofs.YtodbmeklbamcfaaGreat
open Go.RowKit Go.Rt

abbrev zSp : List Value := [.string ⟨#[]⟩, .string ⟨#[]⟩]
theorem spC_len (l : List Sp) : (spC l).length = l.length * 2 := flat_len Sp.cs 2 l fun _ _ => rfl
theorem spC_append (l m : List Sp) : spC (l ++ m) = spC l ++ spC m := by simp [spC]
theorem spC_single (x : Sp) : spC [x] = x.cs := by simp [spC]
theorem spC_nil : spC [] = [] := rfl
theorem zSp_like : LikeZ zSp := by
  intro j u h
  match j, h with
  | 0, h | 1, h => simp at h; subst h; rfl
  | j + 2, h => simp at h
theorem sp_typed (x : Sp) : Typed zSp x.cs := by
  intro j u h
  match j, h with
  | 0, h | 1, h => simp [Sp.cs] at h; subst h; rfl
  | j + 2, h => simp [Sp.cs] at h
theorem sp_one (x : Sp) : ∀ u ∈ x.cs, u.oneCell' = true := by
  intro u hu
  simp only [Sp.cs, List.mem_cons, List.not_mem_nil, or_false] at hu
  rcases hu with rfl | rfl <;> rfl
theorem spC_one (l : List Sp) : ∀ u ∈ spC l, u.oneCell' = true := by
  intro u hu
  obtain ⟨x, _, h⟩ := List.mem_flatMap.1 hu
  exact sp_one x u h
theorem spC_typed (l : List Sp) : Typed zSp (spC l) := by
  induction l with
  | nil => exact Typed.nil _
  | cons x l ih => exact Typed.append (sp_typed x) ih (show 2 % 2 = 0 from rfl)
theorem infoSp : (Tryz.prog.info? 74).map (fun i => (i.zero, i.size, i.bytes)) = some (some (.agg #[.string ⟨#[]⟩, .string ⟨#[]⟩]), 2, 32) := by kernel_rfl
theorem sp_size : (Tryz.prog.info? 74).map (·.size) = some 2 := by kernel_rfl
theorem sp_cells {w : World} {A : Option Addr} {l : List Sp} (h : Rd w A (spC l)) (j : Nat) (x : Sp) (hj : l[j]? = some x) : ∃ b o, A = some ⟨b, o, none⟩ ∧ w.cell? ⟨b, o + j * 2, none⟩ = some (.string ⟨x.lo.toArray⟩) ∧ w.cell? ⟨b, o + j * 2 + 1, none⟩ = some (.string ⟨x.hi.toArray⟩) ∧ Rd w (some ⟨b, o + j * 2, none⟩) x.cs := by
  obtain ⟨b, o, hA, hr⟩ := rd_elem Sp.cs 2 (by omega) h (fun _ _ => rfl) j x hj
  exact ⟨b, o, hA, hr.at 0 rfl, hr.at 1 rfl, hr⟩

theorem sp_equal (x y : Sp) (w : World) : (Op.equalIn 10000 74 (.agg #[.string ⟨x.lo.toArray⟩, .string ⟨x.hi.toArray⟩]) (.agg #[.string ⟨y.lo.toArray⟩, .string ⟨y.hi.toArray⟩])).run Tryz.prog w = .ok (decide (x = y)) w := by
  obtain ⟨x0, x1⟩ := x
  obtain ⟨y0, y1⟩ := y
  dsimp only
  go_simp
  by_cases h0 : x0 = y0 <;> by_cases h1 : x1 = y1 <;> simp [h0, h1]

set_option maxRecDepth 100000 in
theorem CopySpans_any {W w : World} {L : List SL} (A : Option Addr) (c : Nat) (l : List Sp) (hl : l.length ≤ 1000000000) (hr : Rd w A (spC l)) (H : Sat W w L) :
    Calls Tryz.prog 62 #[.slice A l.length c] w fun e w' => ∃ A' c', e = .returned (.slice A' l.length c') ∧ Sat W w' (row 74 zSp (.slice A' l.length c') l.length (spC l) :: L) := by
  obtain ⟨i0, hi, hz0, hz1, hz2⟩ := info_parts infoSp
  go_enter Tryz.func62, Tryz.ntmps62
  go_wp2_with (first
    | (at_builtin
       refine wpList_append_sl rfl (.tmp 3) (.tmp 4) 23 rfl 74 i0 _ zSp 32 Tryz.underlying23 hi hz0 rfl hz1 hz2 (by simp) zSp_like _ 0 [] rfl (H.made #[] 74 zSp 0 0 (by omega) (by unfold maxLen; omega) rfl (Typed.nil _)) A l.length c (spC l) rfl (spC_len l) (hr.below ((Below.refl _ _).alloc (Nat.le_refl _) _)) (spC_one l) (spC_typed l) (by unfold maxLen; omega) (by omega) ?_
       intro A2 c2 w2 H2))
  go_ret
  refine ⟨A2, c2, by simp, ?_⟩
  simpa using H2

set_option maxRecDepth 100000 in
theorem OverSpans_any {W w : World} {L : List SL} (A : Option Addr) (n c : Nat) (xs : List Value) (H : Sat W w (row 74 zSp (.slice A n c) n xs :: L)) :
    Calls Tryz.prog 97 #[.slice A n c] w fun e w' => e = .returned (.tuple #[]) ∧ Sat W w' L := by
  obtain ⟨_, A0, c0, hv, hnc, hcm, hA0, _⟩ := H.slice
  cases hv
  unfold maxLen at hcm
  have HL := Lib.hid (show (Tryz.prog.info? 74).map (·.size) = some zSp.length from sp_size)
  go_enter Tryz.func97, Tryz.ntmps97
  go_wp2
  go_loopw [2] (fun i wc => ∃ (j : Nat) (ys : List Value), j ≤ n ∧ i = .int .i64 j ∧ Sat W wc (row 74 zSp (.slice A n c) n ys :: L)) (fun i _ => n - (intOf i).toNat)
  case atStart => exact ⟨0, _, by omega, rfl, H⟩
  case round =>
    obtain ⟨j, ys, hj, rfl, H'⟩ := hrel
    by_cases hlt : j < n
    · cases A with
      | none => have := (hA0 rfl).1; omega
      | some ad =>
        obtain ⟨_, A1, c1, hv, _, _, _, hA1⟩ := H'.slice
        cases hv
        obtain ⟨h0, hsp, _, _⟩ := hA1 ad rfl
        obtain ⟨g, off, sp⟩ := ad
        dsimp only at h0 hsp
        subst h0 hsp
        clear hA0 hA1
        go_wp2_with (first
          | (refine wpList_store_el rfl rfl (.tmp 12) (.tmp 11) 74 rfl j hlt (Sp.cs ⟨[63], [63]⟩) HL.out rfl (by simp [Act.eval]) rfl (sp_one _) (sp_typed _) H' ?_
             intro w2 zs H2))
        exact ⟨⟨j + 1, _, by omega, by go_num, H2⟩, by simp [intOf]; omega⟩
    · go_wp2
      go_end0
      exact ⟨rfl, H'.tail⟩

theorem sp_ext {l m : List Sp} (hl : l.length = m.length) (h : ∀ k, k < l.length → l[k]? = m[k]?) : l = m := by
  refine List.ext_getElem hl fun k h1 h2 => ?_
  have := h k h1
  simpa [h1, h2] using this

set_option maxRecDepth 100000 in
set_option maxHeartbeats 4000000 in
theorem SameSpans_any {w : World} (A A' : Option Addr) (c c' : Nat) (l m : List Sp) (hl : l.length ≤ maxLen) (hr : Rd w A (spC l)) (hr' : Rd w A' (spC m)) :
    Calls Tryz.prog 52 #[.slice A l.length c, .slice A' m.length c'] w fun e w' => e = .returned (.bool (decide (l = m))) ∧ Below w.heap.size w w' := by
  have hl' := hl
  unfold maxLen at hl'
  by_cases hlm : l.length = m.length
  · go_enter Tryz.func52, Tryz.ntmps52
    go_wp2
    go_loopw [5] (fun i wc => ∃ j : Nat, j ≤ l.length ∧ i = .int .i64 j ∧ Hid (∀ k, k < j → l[k]? = m[k]?) ∧ Below w.heap.size w wc) (fun i _ => l.length - (intOf i).toNat)
    case atStart => exact ⟨0, by omega, rfl, (fun k hk => by omega), Below.refl _ _⟩
    case round =>
      obtain ⟨j, hj, rfl, hN, hB⟩ := hrel
      by_cases hlt : j < l.length
      · obtain ⟨x, hx⟩ : ∃ x, l[j]? = some x := ⟨_, List.getElem?_eq_getElem hlt⟩
        obtain ⟨y, hy⟩ : ∃ y, m[j]? = some y := ⟨_, List.getElem?_eq_getElem (by omega)⟩
        obtain ⟨b, o, rfl, c0, c1, _⟩ := sp_cells (hr.below hB) j x hx
        obtain ⟨b', o', rfl, d0, d1, _⟩ := sp_cells (hr'.below hB) j y hy
        have hE := sp_equal x y
        clear hr hr'
        by_cases hq : x = y
        · have hxy : l[j]? = m[j]? := by rw [hx, hy, hq]
          rw [decide_eq_true hq] at hE
          clear hq hx hy
          go_wp2
          go_quiet (fail)
          go_wp2
          exact ⟨⟨j + 1, by omega, by go_num, fun k hk => by
            rcases Nat.lt_or_ge k j with h | h
            · exact hN.out k h
            · obtain rfl : k = j := by omega
              exact hxy, below_drew' hB _⟩, by simp [intOf]; omega⟩
        · have hf : decide (l = m) = false := decide_eq_false fun e => hq (by rw [e, hy] at hx; exact (Option.some.inj hx).symm)
          rw [decide_eq_false hq] at hE
          clear hq hx hy
          go_wp2
          go_quiet (fail)
          go_wp2
          go_ret
          exact ⟨by first | rfl | (rw [hf]; rfl), below_drew' hB _⟩
      · obtain rfl : j = l.length := by omega
        have hf : decide (l = m) = true := decide_eq_true (sp_ext hlm hN.out)
        go_wp2
        go_ret
        exact ⟨by first | rfl | (rw [hf]; rfl), hB⟩
  · have e1 : decide (l = m) = false := decide_eq_false fun e => hlm (by rw [e])
    rw [e1]
    go_enter Tryz.func52, Tryz.ntmps52
    go_wp2
    go_ret
    exact ⟨rfl, Below.refl _ _⟩

end Go.Proofs.YtodbmeklbamcfaaGreat
