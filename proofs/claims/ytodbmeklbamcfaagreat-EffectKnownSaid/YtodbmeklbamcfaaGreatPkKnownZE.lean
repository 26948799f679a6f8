/- A pack of texts: KgT, KiA, KiB -/
import Derived.Test.YtodbmeklbamcfaaGreatPkKnownZB
import Derived.Test.YtodbmeklbamcfaaGreatPkKnownZC
import Derived.Test.YtodbmeklbamcfaaGreatPkKnownY
import Derived.Test.YtodbmeklbamcfaaGreatPkKnownI
/- Joined spans, step by step, as the loops go. No program in sight. -/
namespace Go.Proofs.YtodbmeklbamcfaaGreat

def joinAcc (l : List Sp) (j : Nat) : List Sp := ((l.take j).foldl stepR []).reverse
theorem joinAcc_zero (l : List Sp) : joinAcc l 0 = [] := rfl
theorem joinAcc_fold {l : List Sp} {j : Nat} {s : Sp} (h : l[j]? = some s) : joinAcc l (j + 1) = (stepR (joinAcc l j).reverse s).reverse := by
  unfold joinAcc
  rw [take_succ_of h, List.foldl_append, List.reverse_reverse]
  rfl
theorem joinAcc_first {l : List Sp} {j : Nat} {s : Sp} (h : l[j]? = some s) (h0 : joinAcc l j = []) : joinAcc l (j + 1) = [s] := by
  rw [joinAcc_fold h, h0]
  rfl
theorem joinAcc_in {l : List Sp} {j : Nat} {s z : Sp} {p : List Sp} (h : l[j]? = some s) (h0 : joinAcc l j = p ++ [z]) (hr : reach z.hi s.lo) : joinAcc l (j + 1) = p ++ [⟨z.lo, greatE z.hi s.hi⟩] := by
  rw [joinAcc_fold h, h0, List.reverse_append]
  show (if reach z.hi s.lo then _ else _ : List Sp).reverse = _
  rw [if_pos hr]
  simp
theorem joinAcc_out {l : List Sp} {j : Nat} {s z : Sp} {p : List Sp} (h : l[j]? = some s) (h0 : joinAcc l j = p ++ [z]) (hr : ¬ reach z.hi s.lo) : joinAcc l (j + 1) = p ++ [z] ++ [s] := by
  rw [joinAcc_fold h, h0, List.reverse_append]
  show (if reach z.hi s.lo then _ else _ : List Sp).reverse = _
  rw [if_neg hr]
  simp
theorem joinAcc_len (l : List Sp) : ∀ j, (joinAcc l j).length ≤ j
  | 0 => Nat.le_refl _
  | j + 1 => by
    cases hx : l[j]? with
    | none =>
      have e : joinAcc l (j + 1) = joinAcc l j := by unfold joinAcc; rw [List.take_add_one, hx, Option.toList, List.append_nil]
      rw [e]
      have := joinAcc_len l j
      omega
    | some s =>
      have ih := joinAcc_len l j
      rcases List.eq_nil_or_concat (joinAcc l j) with h0 | ⟨p, z, h0⟩
      · rw [joinAcc_first hx h0]; simp
      · rw [List.concat_eq_append] at h0
        rw [h0, List.length_append] at ih
        by_cases hr : reach z.hi s.lo
        · rw [joinAcc_in hx h0 hr, List.length_append]; simp at ih ⊢; omega
        · rw [joinAcc_out hx h0 hr, List.length_append, List.length_append]; simp at ih ⊢; omega
theorem joinAcc_all (l : List Sp) : joinAcc l l.length = (l.foldl stepR []).reverse := by unfold joinAcc; rw [List.take_length]
theorem greatE_take {a b : Str} (ha : a ≠ []) (h : b = [] ∨ a < b) : greatE a b = b := by
  by_cases hb : b = []
  · rw [hb]; exact (greatE_nil _).2
  · rw [greatE_mk ha hb, if_pos (h.resolve_left hb)]
theorem greatE_keep {a b : Str} (h : a = [] ∨ (b ≠ [] ∧ ¬ a < b)) : greatE a b = a := by
  by_cases ha : a = []
  · rw [ha]; exact (greatE_nil _).1
  · obtain ⟨h1, h2⟩ := h.resolve_left ha
    rw [greatE_mk ha h1, if_neg h2]
/-- The document's sorted spans, step by step. -/
def sortAcc (l : List Sp) (j : Nat) : List Sp := insSp (l.take j)
theorem sortAcc_skip {l : List Sp} {j : Nat} {s : Sp} (h : l[j]? = some s) (he : emptyB s = true) : sortAcc l (j + 1) = sortAcc l j := by
  unfold sortAcc insSp
  rw [take_succ_of h, List.foldl_append]
  show (if emptyB s = true then _ else _) = _
  rw [if_pos he]
theorem sortAcc_ins {l : List Sp} {j : Nat} {s : Sp} (h : l[j]? = some s) (he : emptyB s = false) : sortAcc l (j + 1) = insLo s (sortAcc l j) := by
  unfold sortAcc insSp
  rw [take_succ_of h, List.foldl_append]
  show (if emptyB s = true then _ else _) = _
  rw [if_neg (by simp [he])]
/-- Where a span is laid in: behind all that begin no later. -/
theorem insLo_at {s : Sp} {out : List Sp} {k : Nat} (hk : k ≤ out.length) (h1 : ∀ j z, j < k → out[j]? = some z → ¬ s.lo < z.lo) (h2 : ∀ z, out[k]? = some z → s.lo < z.lo) : insLo s out = out.take k ++ [s] ++ out.drop k := by
  have e : (out.takeWhile fun z => !decide (s.lo < z.lo)) = out.take k ∧ (out.dropWhile fun z => !decide (s.lo < z.lo)) = out.drop k := by
    induction out generalizing k with
    | nil => simp
    | cons y r ih =>
      cases k with
      | zero =>
        have := h2 y rfl
        simp [this]
      | succ k =>
        have hy : ¬ s.lo < y.lo := h1 0 y (Nat.succ_pos _) rfl
        have := ih (k := k) (by simpa using hk) (fun j z hj hz => h1 (j + 1) z (by omega) hz) (fun z hz => h2 z hz)
        simp [hy, this.1, this.2]
  unfold insLo
  rw [e.1, e.2]
  simp
end Go.Proofs.YtodbmeklbamcfaaGreat

/- Whether a span is empty: the package's and the document's way. -/
namespace Go.Proofs.YtodbmeklbamcfaaGreat
open Go.RowKit Go.Rt

set_option maxRecDepth 100000 in
set_option maxHeartbeats 4000000 in
theorem spEmpty_any {W w : World} {L : List SL} (lo hi : Str) (H : Sat W w L) :
    Calls Tryz.prog 152 #[.agg #[.string ⟨lo.toArray⟩, .string ⟨hi.toArray⟩]] w fun e w' => e = .returned (.bool (emptyB ⟨lo, hi⟩)) ∧ Sat W w' L := by
  have H1 := H.alloc #[.string ⟨lo.toArray⟩, .string ⟨hi.toArray⟩] 74
  have HB := Lib.hid (sbelow_any lo hi lo H1)
  unfold emptyB
  dsimp only
  generalize belowB hi lo = bb at *
  go_enter Tryz.func152, Tryz.ntmps152
  go_wp2_with fail
  refine (HB.out).mono ?_
  rintro e w2 ⟨rfl, H2⟩
  go_wp2
  go_ret
  exact ⟨rfl, H2.tail⟩
set_option maxRecDepth 100000 in
set_option maxHeartbeats 4000000 in
theorem jEmpty_any {W w : World} {L : List SL} (lo hi : Str) (H : Sat W w L) :
    Calls Tryz.prog 205 #[.agg #[.string ⟨lo.toArray⟩, .string ⟨hi.toArray⟩]] w fun e w' => e = .returned (.bool (emptyB ⟨lo, hi⟩)) ∧ Sat W w' L := by
  have H1 := H.alloc #[.string ⟨lo.toArray⟩, .string ⟨hi.toArray⟩] 74
  unfold emptyB belowB
  dsimp only
  go_enter Tryz.func205, Tryz.ntmps205
  by_cases h : hi = []
  · subst h
    go_wp2
    go_ret
    exact ⟨rfl, H1.tail⟩
  · have h1 : hi.isEmpty = false := by cases hi with | nil => exact absurd rfl h | cons x l => rfl
    rw [decide_eq_false h]
    by_cases h2 : lo < hi
    · have h3 := less_no fun h' => str_irrefl _ (str_trans h2 h')
      have h4 : (hi == lo) = false := beq_no fun h' => str_irrefl lo (by rw [h'] at h2; exact h2)
      rw [decide_eq_true h2]
      clear h h2
      go_wp2
      go_ret
      exact ⟨by first | rfl | (rw [h3, h4]; rfl), H1.tail⟩
    · rw [decide_eq_false h2]
      rcases str_total hi lo with h3 | h3 | h3
      · have h5 := less_yes h3
        clear h h2 h3
        go_wp2
        go_ret
        exact ⟨by first | rfl | (rw [h5]; rfl), H1.tail⟩
      · have h5 := beq_yes h3
        clear h h2 h3
        go_wp2
        go_ret
        exact ⟨by first | rfl | (rw [h5]; simp), H1.tail⟩
      · exact absurd h3 h2
end Go.Proofs.YtodbmeklbamcfaaGreat

/- slices.Clone and slices.DeleteFunc at lists of spans: what is left are those that are not empty. -/
namespace Go.Proofs.YtodbmeklbamcfaaGreat
open Go.RowKit Go.Rt

def fullB (s : Sp) : Bool := !emptyB s
/-- Where the first empty span stands. -/
def firstE (l : List Sp) : Nat := (l.takeWhile fullB).length
theorem firstE_le (l : List Sp) : firstE l ≤ l.length := (List.takeWhile_prefix _).length_le
theorem firstE_at {l : List Sp} {j : Nat} {s : Sp} (hs : l[j]? = some s) (hj : j = firstE l) : emptyB s = true := by
  induction l generalizing j with
  | nil => simp at hs
  | cons x l ih =>
    unfold firstE at hj
    rw [List.takeWhile_cons] at hj
    split at hj
    · subst hj
      rw [List.length_cons] at hs
      exact ih (by simpa [firstE] using hs) rfl
    · rename_i h
      subst hj
      simp at hs
      subst hs
      unfold fullB at h
      simpa using h
theorem firstE_of {l : List Sp} {j : Nat} (hj : j ≤ l.length) (h1 : ∀ m s, m < j → l[m]? = some s → emptyB s = false) (h2 : ∀ s, l[j]? = some s → emptyB s = true) : firstE l = j := by
  induction l generalizing j with
  | nil => simp at hj; subst hj; rfl
  | cons x l ih =>
    unfold firstE
    rw [List.takeWhile_cons]
    cases j with
    | zero =>
      have := h2 x rfl
      unfold fullB
      simp [this]
    | succ j =>
      have h0 := h1 0 x (by omega) rfl
      rw [if_pos (by unfold fullB; simp [h0]), List.length_cons]
      congr 1
      exact ih (by simpa using hj) (fun m s hm hs => h1 (m + 1) s (by omega) (by simpa using hs)) (fun s hs => h2 s (by simpa using hs))
theorem firstE_all {l : List Sp} (h : firstE l = l.length) : l.filter fullB = l := by
  induction l with
  | nil => rfl
  | cons x l ih =>
    unfold firstE at h
    rw [List.takeWhile_cons] at h
    split at h
    · rename_i hx
      rw [List.filter_cons, if_pos hx, ih (by simpa [firstE] using h)]
    · simp at h

/-- What IndexFunc tells. -/
def idxE (l : List Sp) : Int := if firstE l < l.length then (firstE l : Int) else -1
set_option maxRecDepth 100000 in
set_option maxHeartbeats 4000000 in
theorem spIndexE_any {W w : World} {L : List SL} (A : Option Addr) (c : Nat) (l : List Sp) (hl : l.length ≤ maxLen) (hr : RdL W L A (spC l)) (H : Sat W w L) :
    Calls Tryz.prog 206 #[.slice A l.length c, .func (.func 152) #[] #[]] w fun e w' => e = .returned (.int .i64 (idxE l)) ∧ Sat W w' L := by
  have hl' := hl
  unfold maxLen at hl'
  go_enter Tryz.func206, Tryz.ntmps206
  go_wp2
  go_loopw [8] (fun i wc => ∃ j : Nat, j ≤ l.length ∧ i = .int .i64 j ∧ Hid (∀ m s, m < j → l[m]? = some s → emptyB s = false) ∧ Sat W wc L) (fun i _ => l.length - (intOf i).toNat)
  case atStart => exact ⟨0, by omega, rfl, (fun m s h => by omega), H⟩
  case round =>
    obtain ⟨j, hj, rfl, hN, H1⟩ := hrel
    by_cases hlt : j < l.length
    · obtain ⟨s, hs⟩ : ∃ x, l[j]? = some x := ⟨_, List.getElem?_eq_getElem (by omega)⟩
      obtain ⟨b, o, rfl, c0, c1⟩ := sp_rd (hr _ H1) j s hs
      have HS := Lib.hid (hs)
      obtain ⟨lo, hi⟩ := s
      dsimp only at c0 c1
      have HI := Lib.hid (spEmpty_any (W := W) (w := wr) (L := L) lo hi H1)
      clear hs
      cases hb : emptyB ⟨lo, hi⟩ with
      | true =>
        rw [hb] at HI
        have hf : idxE l = (j : Int) := by unfold idxE; rw [firstE_of hj hN.out (fun s hs => by rw [HS.out] at hs; cases hs; exact hb), if_pos hlt]
        have HF := Lib.hid (hf)
        clear hb hf
        go_wp2_with fail
        refine (HI.out).mono ?_
        rintro e w2 ⟨rfl, H2⟩
        go_wp2
        go_ret
        exact ⟨by rw [HF.out]; rfl, H2⟩
      | false =>
        rw [hb] at HI
        have HBB := Lib.hid (hb)
        clear hb
        go_wp2_with fail
        refine (HI.out).mono ?_
        rintro e w2 ⟨rfl, H2⟩
        go_wp2
        refine ⟨⟨j + 1, by omega, by go_num, fun m s hm hs => ?_, H2⟩, by simp [intOf]; omega⟩
        rcases Nat.lt_or_ge m j with h | h
        · exact hN.out m s h hs
        · obtain rfl : m = j := by omega
          rw [HS.out] at hs; cases hs; exact HBB.out
    · obtain rfl : j = l.length := by omega
      have hf : idxE l = -1 := by unfold idxE; rw [firstE_of (Nat.le_refl _) hN.out (fun s hs => by rw [List.getElem?_eq_none (Nat.le_refl _)] at hs; cases hs), if_neg (by omega)]
      have HF := Lib.hid (hf)
      clear hf
      go_wp2
      go_ret
      exact ⟨by rw [HF.out]; rfl, H1⟩

set_option maxRecDepth 100000 in
set_option maxHeartbeats 4000000 in
theorem spClone_any {W w : World} {L : List SL} (A : Option Addr) (c : Nat) (l : List Sp) (hl : l.length ≤ 1000000000) (hb : Bsl A l.length c) (hr : RdL W L A (spC l)) (H : Sat W w L) :
    Calls Tryz.prog 151 #[.slice A l.length c] w fun e w' => ∃ A' c', e = .returned (.slice A' l.length c') ∧ Sat W w' (row 74 zSp (.slice A' l.length c') l.length (spC l) :: L) := by
  obtain ⟨i0, hi, hz0, hz1, hz2⟩ := info_parts infoSp
  have hr0 := hr _ H
  have hq : ∀ (w : World) (a : Option Addr) (n c n' c' : Nat), (binOp .eql 23 (.slice a n c) (.slice none n' c')).run Tryz.prog w = .ok (.bool a.isNone) w := fun w a n c n' c' => Lib.run_eql_slice_nil w _ _ a n c n' c' Tryz.underlying23
  cases A with
  | none =>
    have h0 := hb.none rfl
    have h1 := hb.le
    obtain rfl : c = 0 := h0
    have hn : l = [] := List.eq_nil_of_length_eq_zero (by omega)
    subst hn
    clear hb h1
    go_enter Tryz.func151, Tryz.ntmps151
    go_wp2
    go_ret
    exact ⟨none, 0, rfl, H.nil _ _⟩
  | some a =>
    go_enter Tryz.func151, Tryz.ntmps151
    go_wp2_with (first
      | (at_builtin
         refine wpList_append_sl rfl (.tmp 5) (.tmp 6) 23 rfl 74 i0 _ zSp 32 Tryz.underlying23 hi hz0 rfl hz1 hz2 (by simp) zSp_like _ 0 [] rfl (H.made #[] 74 zSp 0 0 (by omega) (by unfold maxLen; omega) rfl (Typed.nil _)) (some a) l.length c (spC l) rfl (spC_len l) (hr0.below ((Below.refl _ _).alloc (Nat.le_refl _) _)) (spC_one l) (spC_typed l) (by unfold maxLen; omega) (by omega) ?_
         intro A2 c2 w2 H2))
    go_ret
    refine ⟨A2, c2, by simp, ?_⟩
    simpa using H2

/-- Where DeleteFunc's second loop stands: j of l have been looked at, i were kept; m is what the row holds. -/
structure DelAt (l m : List Sp) (i j : Nat) : Prop where
  len : m.length = l.length
  lt : i < j
  low : m.take i = (l.take j).filter fullB
  high : m.drop j = l.drop j
theorem DelAt.start {l : List Sp} {k : Nat} (hk : k < l.length) (h : firstE l = k) : DelAt l l k (k + 1) where
  len := rfl
  lt := by omega
  low := by
    obtain ⟨s, hs⟩ : ∃ s, l[k]? = some s := ⟨_, List.getElem?_eq_getElem hk⟩
    have h1 : l.take k = l.takeWhile fullB := by
      rw [← h]; unfold firstE
      exact (List.prefix_iff_eq_take.1 (List.takeWhile_prefix ..)).symm
    have h2 := firstE_at hs h.symm
    rw [List.take_add_one, hs, List.filter_append, h1]
    have h3 : (l.takeWhile fullB).filter fullB = l.takeWhile fullB := List.filter_eq_self.2 fun x hx => List.all_eq_true.1 (List.all_takeWhile (l := l) (p := fullB)) x hx
    have h4 : fullB s = false := by unfold fullB; rw [h2]; rfl
    rw [h3]
    simp [h4]
  high := rfl
theorem DelAt.skip {l m : List Sp} {i j : Nat} {s : Sp} (h : DelAt l m i j) (hs : l[j]? = some s) (he : emptyB s = true) : DelAt l m i (j + 1) where
  len := h.len
  lt := by have := h.lt; omega
  low := by rw [List.take_add_one, hs, List.filter_append, ← h.low]; simp [fullB, he]
  high := by rw [← List.drop_drop, h.high, List.drop_drop]
theorem DelAt.keep {l m : List Sp} {i j : Nat} {s : Sp} (h : DelAt l m i j) (hs : l[j]? = some s) (he : emptyB s = false) : DelAt l (m.set i s) (i + 1) (j + 1) where
  len := by rw [List.length_set]; exact h.len
  lt := by have := h.lt; omega
  low := by
    have hj := (List.getElem?_eq_some_iff.1 hs).1
    have h1 := h.lt
    have h2 := h.len
    rw [List.take_add_one, List.take_add_one, hs, List.filter_append, ← h.low, List.getElem?_set_self (by omega), List.take_set_of_le (Nat.le_refl _)]
    simp [fullB, he]
  high := by
    have h1 := h.lt
    rw [List.drop_set_of_lt (by omega), ← List.drop_drop, h.high, List.drop_drop]
theorem DelAt.at {l m : List Sp} {i j : Nat} {s : Sp} (h : DelAt l m i j) (hs : l[j]? = some s) : m[j]? = some s := by
  have h1 : (m.drop j)[0]? = (l.drop j)[0]? := by rw [h.high]
  simpa [hs] using h1
theorem DelAt.done {l m : List Sp} {i : Nat} (h : DelAt l m i l.length) : m.take i = l.filter fullB ∧ (l.filter fullB).length = i := by
  have h1 := h.low
  rw [List.take_length] at h1
  refine ⟨h1, ?_⟩
  rw [← h1, List.length_take]
  have := h.lt
  have := h.len
  omega
theorem zSp_one : ∀ u ∈ zSp, u.oneCell' = true := by intro u hu; simp at hu; subst hu; rfl
theorem zeroSp : ∀ w : World, (zeroValue 74).run Tryz.prog w = .ok (.agg #[.string ⟨#[]⟩, .string ⟨#[]⟩]) w := Tryz.zeroValue74
set_option maxRecDepth 100000 in
set_option maxHeartbeats 8000000 in
theorem spDel_any {W w : World} {L : List SL} (A : Option Addr) (c : Nat) (l : List Sp) (hl : l.length ≤ 1000000000) (H : Sat W w (row 74 zSp (.slice A l.length c) l.length (spC l) :: L)) :
    Calls Tryz.prog 150 #[.slice A l.length c, .func (.func 152) #[] #[]] w fun e w' => ∃ A' c', e = .returned (.slice A' (l.filter fullB).length c') ∧ Sat W w' (row 74 zSp (.slice A' (l.filter fullB).length c') (l.filter fullB).length (spC (l.filter fullB)) :: L) := by
  obtain ⟨i0, hi, hz0, hz1, hz2⟩ := info_parts infoSp
  have HI := spIndexE_any A c l (by unfold maxLen; omega) RdL.row H
  by_cases hlt : firstE l < l.length
  · rw [show idxE l = (firstE l : Int) from if_pos hlt] at HI
    have hst := DelAt.start hlt rfl
    generalize firstE l = k0 at *
    have HST := Lib.hid (hst)
    have HI2 := Lib.hid (HI)
    have HL := Lib.hid (show (Tryz.prog.info? 74).map (·.size) = some zSp.length from sp_size)
    have hne : ((k0 : Int) == -1) = false := beq_eq_false_iff_ne.2 (by omega)
    obtain ⟨_, A1, c1, hv, hnc, hcm, _, hA1⟩ := H.slice
    cases hv
    obtain ⟨g, rfl⟩ := H.row_some (by omega)
    unfold maxLen at hcm
    clear HI hst hA1
    go_enter Tryz.func150, Tryz.ntmps150
    go_wp2_with fail
    refine (HI2.out).mono ?_
    rintro e w2 ⟨rfl, H2⟩
    clear HI2 H
    go_wp2
    go_loopw [5, 6] (fun s5 s6 wc => ∃ (i j : Nat) (m : List Sp), s5 = .int .i64 i ∧ s6 = .int .i64 j ∧ j ≤ l.length ∧ Hid (DelAt l m i j) ∧ Sat W wc (row 74 zSp (.slice (some ⟨g, 0, none⟩) l.length c) l.length (spC m) :: L)) (fun _ s6 _ => l.length - (intOf s6).toNat)
    case atStart => exact ⟨k0, k0 + 1, l, rfl, by go_num, by omega, HST.out, H2⟩
    case round =>
      clear H2 HST
      obtain ⟨i, j, m, rfl, rfl, hj, hD, H⟩ := hrel
      have hij := hD.out.lt
      have hml := hD.out.len
      by_cases hlt2 : j < l.length
      · obtain ⟨s, hs⟩ : ∃ x, l[j]? = some x := ⟨_, List.getElem?_eq_getElem (by omega)⟩
        have hms := hD.out.at hs
        obtain ⟨b, o, hA, c0, c1, hrd⟩ := sp_cells H.rd j s hms
        cases hA
        simp only [Nat.zero_add] at c0 c1 hrd
        have HS := Lib.hid (hs)
        obtain ⟨lo, hi'⟩ := s
        dsimp only at c0 c1
        have H5 := H.alloc #[.string ⟨lo.toArray⟩, .string ⟨hi'.toArray⟩] 74
        have HE := spEmpty_any lo hi' H5
        clear hs hms
        cases hb : emptyB ⟨lo, hi'⟩ with
        | true =>
          rw [hb] at HE
          have HE2 := Lib.hid (HE)
          have HB := Lib.hid (hb)
          clear hb HE hml
          go_wp2_with fail
          refine (HE2.out).mono ?_
          rintro e w6 ⟨rfl, H6⟩
          go_wp2
          exact ⟨⟨i, j + 1, m, rfl, by go_num, by omega, hD.out.skip HS.out HB.out, H6.tail⟩, by simp [intOf]; omega⟩
        | false =>
          rw [hb] at HE
          have HE2 := Lib.hid (HE)
          have HB := Lib.hid (hb)
          have HML := Lib.hid (hml)
          clear hb HE hml
          go_wp2_with fail
          refine (HE2.out).mono ?_
          rintro e w6 ⟨rfl, H6⟩
          have d0 := H6.cell 0
          have d1 := H6.cell 1
          go_wp2_with (first
            | (refine wpList_store_elx rfl rfl (.tmp 33) (.tmp 32) 74 rfl i (by omega) [.string ⟨lo.toArray⟩, .string ⟨hi'.toArray⟩] HL.out rfl (by simp [Act.eval]) rfl (sp_one ⟨lo, hi'⟩) (sp_typed ⟨lo, hi'⟩) H6.swap ?_
               intro w7 H7))
          have hset := flat_set Sp.cs 2 m i ⟨lo, hi'⟩ (fun _ _ => rfl) (by have := HML.out; omega)
          refine ⟨⟨i + 1, j + 1, m.set i ⟨lo, hi'⟩, by go_num, by go_num, by omega, hD.out.keep HS.out HB.out, ?_⟩, by simp [intOf]; omega⟩
          have H8 := H7.swap.tail
          unfold spC
          rw [← hset]
          exact H8
      · obtain rfl : j = l.length := by omega
        have hdn := hD.out.done
        have hlm : i ≤ l.length := by omega
        have HDN := Lib.hid (hdn)
        clear hdn hml
        go_wp2_with (first
          | (refine wpList_slice_fromZ (by rfl) (.tmp 36) (.tmp 37) 23 rfl 74 i0 2 Tryz.underlying23 hi hz1 (some ⟨g, 0, none⟩) l.length c i rfl rfl (by omega) ?_)
          | (refine wpList_clear_row (zc := zSp) rfl rfl (.tmp 38) 23 rfl Tryz.underlying23 _ zeroSp rfl (by simp) zSp_one zSp_like i hij rfl H ?_
             intro w7 H7)
          | (refine wpList_slice_toZ (by rfl) (.tmp 39) (.tmp 40) 23 rfl 74 i0 Tryz.underlying23 hi (some ⟨g, 0, none⟩) i c i rfl rfl (by omega) ?_))
        go_ret
        refine ⟨some ⟨g, 0, none⟩, c, by rw [HDN.out.2]; rfl, ?_⟩
        have e1 : (spC m).take (i * zSp.length) = spC (l.filter fullB) := by
          rw [← HDN.out.1]
          unfold spC
          have e2 : m = m.take i ++ m.drop i := (List.take_append_drop i m).symm
          conv => lhs; rw [e2]
          rw [List.flatMap_append, List.take_left']
          rw [flat_len Sp.cs 2 _ fun _ _ => rfl, List.length_take, Nat.min_eq_left (by have := hD.out.len; omega)]
          rfl
        rw [e1] at H7
        rw [HDN.out.2]
        exact H7
  · rw [show idxE l = -1 from if_neg hlt] at HI
    have hf := firstE_all (l := l) (by have := firstE_le l; omega)
    have HI2 := Lib.hid (HI)
    rw [hf]
    clear HI hf hlt
    go_enter Tryz.func150, Tryz.ntmps150
    go_wp2_with fail
    refine (HI2.out).mono ?_
    rintro e w2 ⟨rfl, H2⟩
    go_wp2
    go_ret
    exact ⟨A, c, rfl, H2⟩
end Go.Proofs.YtodbmeklbamcfaaGreat
