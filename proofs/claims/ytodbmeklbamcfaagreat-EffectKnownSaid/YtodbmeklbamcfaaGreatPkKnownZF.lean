/- A pack of texts: KiC, KiD, KiF, KiG, KiJ -/
import Derived.Test.YtodbmeklbamcfaaGreatPkKnownZE
import Derived.Test.YtodbmeklbamcfaaGreatPkKnownC
import Derived.Deep.RegionHeld3
import Derived.Test.YtodbmeklbamcfaaGreatPkKnownZC
import Derived.Test.YtodbmeklbamcfaaGreatPkKnownZD
import Derived.Test.YtodbmeklbamcfaaGreatPkKnownY
import Derived.Deep.DeepCutAuto
/- span.Join: spans that are sorted by the library, then joined. -/
namespace Go.Proofs.YtodbmeklbamcfaaGreat
open Go.RowKit Go.Rt Go.Sort Go.Shelf

/-- A world that has grown: draws and new blocks alone. -/
def Grew (W w : World) : Prop := ∃ q os, w = grow (W.drewN q) os
theorem Grew.refl (W : World) : Grew W W := ⟨0, #[], by rw [grow_empty]; rfl⟩
theorem Grew.alloc {W w : World} (h : Grew W w) (o : Obj) : Grew W (w.alloc o) := by
  obtain ⟨q, os, rfl⟩ := h
  exact ⟨q, os ++ #[o], by rw [alloc_eq_grow, grow_grow]⟩
theorem Grew.drew {W w : World} (h : Grew W w) : Grew W w.drew := by
  obtain ⟨q, os, rfl⟩ := h
  exact ⟨q + 1, os, rfl⟩

theorem cmpText_any {w : World} (a b : Str) : Calls Tryz.prog 156 #[.string ⟨a.toArray⟩, .string ⟨b.toArray⟩] w fun e w' => e = .returned (.int .i64 (cmpS a b)) ∧ w' = w := by
  have hn : ∀ (x : Str) (w : World), Calls Tryz.prog 210 #[.string ⟨x.toArray⟩] w fun e w' => e = .returned (.bool false) ∧ w' = w := fun x w => by
    have h1 := beq_yes (rfl : x = x)
    go_enter Tryz.func210, Tryz.ntmps210
    go_wp2
    go_ret
    exact ⟨by first | rfl | (rw [h1]; rfl) | simp, rfl⟩
  have HN := Lib.hid (hn)
  rcases str_total a b with h | h | h
  · rw [cmpS_lt h]
    have h1 := less_yes h
    clear h hn
    go_enter Tryz.func156, Tryz.ntmps156
    go_wp2_with fail
    refine (HN.out _ _).mono ?_
    rintro e w2 ⟨rfl, rfl⟩
    go_wp2_with fail
    refine (HN.out _ _).mono ?_
    rintro e w2 ⟨rfl, rfl⟩
    go_wp2
    go_ret
    exact ⟨rfl, rfl⟩
  · subst h
    rw [cmpS_self]
    have h1 := less_no (str_irrefl a)
    clear hn
    go_enter Tryz.func156, Tryz.ntmps156
    go_wp2_with fail
    refine (HN.out _ _).mono ?_
    rintro e w2 ⟨rfl, rfl⟩
    go_wp2_with fail
    refine (HN.out _ _).mono ?_
    rintro e w2 ⟨rfl, rfl⟩
    go_wp2
    go_ret
    exact ⟨rfl, rfl⟩
  · rw [cmpS_gt h]
    have h1 := less_no fun h' => str_irrefl _ (str_trans h h')
    have h2 := less_yes h
    have h3 : (a == b) = false := beq_no fun h' => str_irrefl b (by rw [h'] at h; exact h)
    clear h hn
    go_enter Tryz.func156, Tryz.ntmps156
    go_wp2_with fail
    refine (HN.out _ _).mono ?_
    rintro e w2 ⟨rfl, rfl⟩
    go_wp2_with fail
    refine (HN.out _ _).mono ?_
    rintro e w2 ⟨rfl, rfl⟩
    go_wp2
    go_ret
    exact ⟨rfl, rfl⟩
def orI (x y : Int) : Int := if x ≠ 0 then x else y
theorem cmpOr_any {w : World} (b : Nat) (x y : Int) (h0 : w.cell? ⟨b, 0, none⟩ = some (.int .i64 x)) (h1 : w.cell? ⟨b, 1, none⟩ = some (.int .i64 y)) :
    Calls Tryz.prog 155 #[.slice (some ⟨b, 0, none⟩) 2 2] w fun e w' => e = .returned (.int .i64 (orI x y)) ∧ w' = w := by
  unfold orI
  by_cases hx : x = 0
  · subst hx
    have e1 : ((0 : Int) != 0) = false := rfl
    rw [if_neg (by simp)]
    by_cases hy : y = 0
    · subst hy
      go_enter Tryz.func155, Tryz.ntmps155
      go_wp2
      refine wp_loop_rounds 3 ?_
      rw [rounds_succ]
      go_wp2
      rw [rounds_succ]
      go_wp2
      rw [rounds_succ]
      go_wp2
      go_ret
      exact ⟨rfl, rfl⟩
    · have e2 : (y != 0) = true := by simpa using hy
      clear hy
      go_enter Tryz.func155, Tryz.ntmps155
      go_wp2
      refine wp_loop_rounds 3 ?_
      rw [rounds_succ]
      go_wp2
      rw [rounds_succ]
      go_wp2
      go_ret
      exact ⟨rfl, rfl⟩
  · have e2 : (x != 0) = true := by simpa using hx
    rw [if_pos hx]
    clear hx
    go_enter Tryz.func155, Tryz.ntmps155
    go_wp2
    refine wp_loop_rounds 3 ?_
    rw [rounds_succ]
    go_wp2
    go_ret
    exact ⟨rfl, rfl⟩
theorem cmpSp_or (a b : Sp) : cmpSp a b = orI (cmpS a.lo b.lo) (cmpS a.hi b.hi) := rfl
set_option maxRecDepth 100000 in
set_option maxHeartbeats 4000000 in
theorem spjoin1_any (x y : Sp) (W : World) : Calls Tryz.prog 154 #[.agg x.cs.toArray, .agg y.cs.toArray] W fun e w' => e = .returned (.int .i64 (cmpSp x y)) ∧ ∃ q os', w' = grow (W.drewN q) os' := by
  obtain ⟨xl, xh⟩ := x
  obtain ⟨yl, yh⟩ := y
  rw [cmpSp_or]
  dsimp only [Sp.cs]
  have HC := Lib.hid (fun (w : World) (a b : Str) => cmpText_any (w := w) a b)
  have HO := Lib.hid (fun (w : World) (b : Nat) => cmpOr_any (w := w) b (cmpS xl yl) (cmpS xh yh))
  have H1 := (Sat.start W).alloc #[.string ⟨xl.toArray⟩, .string ⟨xh.toArray⟩] 74
  have H2 := H1.alloc #[.string ⟨yl.toArray⟩, .string ⟨yh.toArray⟩] 74
  have g2 := ((Grew.refl W).alloc (.cells #[.string ⟨xl.toArray⟩, .string ⟨xh.toArray⟩] 74)).alloc (.cells #[.string ⟨yl.toArray⟩, .string ⟨yh.toArray⟩] 74)
  have d0 := H2.cell 0
  have d1 := H2.cell 1
  have d2 := H2.swap.cell 0
  have d3 := H2.swap.cell 1
  simp only [World.size_alloc] at d0 d1
  clear H1 H2
  go_enter Tryz.func154, Tryz.ntmps154
  go_wp2
  generalize hW : (W.alloc (.cells #[.string ⟨xl.toArray⟩, .string ⟨xh.toArray⟩] 74)).alloc (.cells #[.string ⟨yl.toArray⟩, .string ⟨yh.toArray⟩] 74) = W2 at *
  clear hW
  go_region_held3 (fun w' => Grew W w' ∧ w'.cell? ⟨W.heap.size, 0, none⟩ = some (.string ⟨xl.toArray⟩) ∧ w'.cell? ⟨W.heap.size, 1, none⟩ = some (.string ⟨xh.toArray⟩) ∧ w'.cell? ⟨W.heap.size + 1, 0, none⟩ = some (.string ⟨yl.toArray⟩) ∧ w'.cell? ⟨W.heap.size + 1, 1, none⟩ = some (.string ⟨yh.toArray⟩)) (refine ⟨?_, ?_, ?_, ?_, ?_⟩ <;> first | with_reducible assumption | exact Grew.drew (by with_reducible assumption) | exact Grew.alloc (by with_reducible assumption) _ | exact Grew.drew (Grew.alloc (by with_reducible assumption) _) | assumption | exact Lib.cell?_alloc_some _ (by assumption)) (first
    | (go_at_call 156; refine (HC.out _ _ _).mono ?_; rintro e w9 ⟨rfl, rfl⟩)
    | (go_at_call 155; refine (HO.out _ _ (by simp) (by simp)).mono ?_; rintro e w9 ⟨rfl, rfl⟩))
  go_wp2
  go_ret
  exact ⟨rfl, (g2.alloc _).drew⟩

theorem spSort_any {W w : World} {L : List SL} (A : Option Addr) (c : Nat) (l : List Sp) (hl : l.length ≤ 1000000000) (H : Sat W w (row 74 zSp (.slice A l.length c) l.length (spC l) :: L)) :
    Calls Tryz.prog 153 #[.slice A l.length c, .func (.func 154) #[] #[]] w fun e w' => e = .returned (.tuple #[]) ∧ ∃ d : Array Sp, PermIn 0 l.toArray.size l.toArray d ∧ SortedIn (ltOf cmpSp) 0 l.toArray.size d ∧ Sat W w' (row 74 zSp (.slice A l.length c) l.length (spC d.toList) :: L) := by
  rcases Nat.eq_zero_or_pos l.length with h0 | h0
  · obtain rfl : l = [] := List.eq_nil_of_length_eq_zero h0
    have h := AnyF.slices_SortFunc_none Tryz.sortF153 A c (.func (.func 154) #[] #[]) w
    refine Calls.mono (show Calls Tryz.prog 153 _ _ _ from h) ?_
    rintro e w' ⟨rfl, rfl⟩
    exact ⟨rfl, #[], permIn_refl _ _ _, fun i j h1 h2 h3 => by simp at h3, H⟩
  · obtain ⟨g, rfl⟩ := H.row_some h0
    obtain ⟨hH, hg⟩ := H.row_holdsK Sp.cs (by simp) (fun _ => rfl) l
    have eg : ∀ args w, (callFunc 154 args).run Tryz.prog w = .ok (.enter 154 args) w := enters_of Tryz.func154 (by kernel_rfl) rfl
    have hcon := AnyQ.slices_SortFunc Tryz.sortF153 2 Tryz.isAgg74 Tryz.sizeOf74 Sp.cs (fun _ => rfl) sp_one cmpSp swoSp 154 #[] g 0 c l.toArray w eg (fun _ _ _ _ x y => spjoin1_any x y _) hH hg (by simp; omega)
    have hcon2 : Calls Tryz.prog 153 #[.slice (some ⟨g, 0, none⟩) l.toArray.size c, .func (.func 154) #[] #[]] w _ := hcon
    rw [List.size_toArray] at hcon2
    refine hcon2.mono ?_
    rintro e w' ⟨rfl, d, n, os, hp, hs, rfl⟩
    have hd : d.size = l.length := by have := (perm_of hp).length_eq; simpa using this
    exact ⟨rfl, d, hp, hs, H.row_sortedK Sp.cs (by simp) (fun _ => rfl) d hd (spC_typed _)⟩

theorem spC_set_hi (hi : Str) : ∀ (l : List Sp) (k : Nat) (z : Sp), l[k]? = some z → (spC l).set (k * 2 + 1) (.string ⟨hi.toArray⟩) = spC (l.set k ⟨z.lo, hi⟩)
  | [], k, z, h => by simp at h
  | x :: l, 0, z, h => by
    simp at h
    subst h
    rfl
  | x :: l, k + 1, z, h => by
    have ih := spC_set_hi hi l k z (by simpa using h)
    have e : spC (x :: l) = .string ⟨x.lo.toArray⟩ :: .string ⟨x.hi.toArray⟩ :: spC l := rfl
    rw [e, show (k + 1) * 2 + 1 = (k * 2 + 1) + 1 + 1 by omega, List.set_cons_succ, List.set_cons_succ, ih]
    rfl
theorem list_last {α : Type} {l : List α} (h : l ≠ []) : ∃ k z, l[k]? = some z ∧ l.length = k + 1 ∧ l = l.take k ++ [z] := by
  obtain ⟨p, z, rfl⟩ : ∃ p z, l = p ++ [z] := ⟨l.dropLast, l.getLast h, (List.dropLast_concat_getLast h).symm⟩
  refine ⟨p.length, z, by simp, by simp, by simp⟩
theorem set_same {α : Type} {l : List α} {k : Nat} {z : α} (h : l[k]? = some z) : l.set k z = l := by
  obtain ⟨h1, h2⟩ := List.getElem?_eq_some_iff.1 h
  rw [← h2, List.set_getElem_self]
theorem lset_last {α : Type} (p : List α) (z y : α) : (p ++ [z]).set p.length y = p ++ [y] := by
  induction p with
  | nil => rfl
  | cons x p ih => simp [ih]
theorem joinAcc_inK {l acc : List Sp} {j k : Nat} {s z : Sp} (h : l[j]? = some s) (h0 : joinAcc l j = acc) (hz : acc[k]? = some z) (hk : acc.length = k + 1) (hr : reach z.hi s.lo) : joinAcc l (j + 1) = acc.set k ⟨z.lo, greatE z.hi s.hi⟩ := by
  have e : acc = acc.take k ++ [z] := by
    rw [← take_succ_of hz, List.take_of_length_le (by omega)]
  have hl : (acc.take k).length = k := by rw [List.length_take]; omega
  rw [joinAcc_in h (by rw [h0]; exact e) hr]
  conv => rhs; rw [e]
  have := lset_last (acc.take k) z ⟨z.lo, greatE z.hi s.hi⟩
  rw [hl] at this
  exact this.symm
theorem joinAcc_outK {l acc : List Sp} {j k : Nat} {s z : Sp} (h : l[j]? = some s) (h0 : joinAcc l j = acc) (hz : acc[k]? = some z) (hk : acc.length = k + 1) (hr : ¬ reach z.hi s.lo) : joinAcc l (j + 1) = acc ++ [s] := by
  have e : acc = acc.take k ++ [z] := by
    rw [← take_succ_of hz, List.take_of_length_le (by omega)]
  rw [joinAcc_out h (by rw [h0]; exact e) hr, ← e]


set_option maxRecDepth 100000 in
set_option maxHeartbeats 16000000 in
theorem spjoin_any {W w : World} {L : List SL} (A : Option Addr) (c : Nat) (l : List Sp) (hl : l.length ≤ 1000000) (hb : Bsl A l.length c) (hr : RdL W L A (spC l)) (H : Sat W w L) :
    Calls Tryz.prog 110 #[.slice A l.length c] w fun e w' => ∃ A' c', e = .returned (.slice A' (joinS l).length c') ∧ Sat W w' (row 74 zSp (.slice A' (joinS l).length c') (joinS l).length (spC (joinS l)) :: L) := by
  obtain ⟨i0, hi, hz0, hz1, hz2⟩ := info_parts infoSp
  have HC := Lib.hid (spClone_any A c l (by omega) hb hr H)
  have HD := Lib.hid (fun (w0 : World) (A0 : Option Addr) (c0 : Nat) (h : Sat W w0 (row 74 zSp (.slice A0 l.length c0) l.length (spC l) :: L)) => spDel_any A0 c0 l (by omega) h)
  have hfl : (l.filter fullB).length ≤ l.length := List.length_filter_le _ _
  have HS := Lib.hid (fun (w0 : World) (A0 : Option Addr) (c0 : Nat) (h : Sat W w0 (row 74 zSp (.slice A0 (l.filter fullB).length c0) (l.filter fullB).length (spC (l.filter fullB)) :: L)) => spSort_any A0 c0 (l.filter fullB) (by omega) h)
  go_enter Tryz.func110, Tryz.ntmps110
  go_wp2_with fail
  refine (HC.out).mono ?_
  rintro e w2 ⟨A1, c1, rfl, H1⟩
  go_wp2_with fail
  refine (HD.out _ _ _ H1).mono ?_
  rintro e w3 ⟨A2, c2, rfl, H2⟩
  go_wp2_with fail
  refine (HS.out _ _ _ H2).mono ?_
  rintro e w4 ⟨rfl, d, hp, hs, H3⟩
  have hj := join_sorted (l := l) hp hs
  have hdl := (perm_of hp).length_eq
  rw [← joinAcc_all] at hj
  generalize hm : d.toList = m at *
  have hml : (l.filter fullB).length = m.length := hdl.symm
  have HJ := Lib.hid (hj)
  generalize (l.filter fullB).length = n0 at *
  subst hml
  clear H1 H2 HC HD HS hp hs hj hdl hm hb H hr
  go_wp2
  go_loopw [3, 15] (fun ou i wc => ∃ (j : Nat) (Ao : Option Addr) (n co : Nat) (acc : List Sp), j ≤ m.length ∧ i = .int .i64 j ∧ ou = .slice Ao n co ∧ Hid (joinAcc m j = acc ∧ acc.length = n) ∧ Sat W wc (row 74 zSp (.slice Ao n co) n (spC acc) :: row 74 zSp (.slice A2 m.length c2) m.length (spC m) :: L)) (fun _ i _ => m.length - (intOf i).toNat)
  case atStart => exact ⟨0, none, 0, 0, [], by omega, rfl, rfl, ⟨joinAcc_zero m, rfl⟩, H3.nil _ _⟩
  case round =>
    clear H3
    obtain ⟨j, Ao, n, co, acc, hj, rfl, rfl, hA, H⟩ := hrel
    by_cases hlt : j < m.length
    · obtain ⟨s, hs⟩ : ∃ x, m[j]? = some x := ⟨_, List.getElem?_eq_getElem (by omega)⟩
      obtain ⟨b, o, rfl, c0, c1, hrd⟩ := sp_cells H.tail.rd j s hs
      have hal : n ≤ j := by rw [← hA.out.2, ← hA.out.1]; exact joinAcc_len m j
      have HS := Lib.hid (hs)
      obtain ⟨lo, hi'⟩ := s
      dsimp only at c0 c1
      have H5 := H.alloc #[.string ⟨lo.toArray⟩, .string ⟨hi'.toArray⟩] 74
      have d0 := H5.cell 0
      have d1 := H5.cell 1
      clear hs hrd
      cases n with
      | zero =>
        obtain rfl : acc = [] := List.eq_nil_of_length_eq_zero hA.out.2
        have HF := Lib.hid (joinAcc_first HS.out hA.out.1)
        go_wp2
        go_quiet (fail)
        have e6 : ((wr.alloc (.cells #[.string ⟨lo.toArray⟩, .string ⟨hi'.toArray⟩] 74)).drewN nq).heap.size = wr.heap.size + 1 := World.size_alloc _ _
        have H6 := (H5.drewN nq).alloc #[.string ⟨lo.toArray⟩, .string ⟨hi'.toArray⟩] 74
        rw [e6] at H6
        go_wp2_with (first
          | (at_builtin
             refine wpList_append_sl rfl (.tmp 71) (.tmp 73) 23 rfl 74 i0 _ zSp 32 Tryz.underlying23 hi hz0 rfl hz1 hz2 (by simp) zSp_like _ 0 _ rfl ((H6.pull 2)) (some ⟨wr.heap.size + 1, 0, none⟩) 1 1 [.string ⟨lo.toArray⟩, .string ⟨hi'.toArray⟩] rfl rfl (RdL.pt _ H6) (sp_one ⟨lo, hi'⟩) (sp_typed ⟨lo, hi'⟩) (by unfold maxLen; omega) (by omega) ?_
             intro A7 c7 w7 H7))
        exact ⟨⟨j + 1, A7, 1, c7, [⟨lo, hi'⟩], by omega, by go_num, rfl, ⟨HF.out, rfl⟩, (H7.swap.tail).swap.tail⟩, by simp [intOf]; omega⟩
      | succ k =>
        obtain ⟨z, hz⟩ : ∃ z, acc[k]? = some z := ⟨_, List.getElem?_eq_getElem (by have := hA.out.2; omega)⟩
        obtain ⟨g, o', hAo, e0, e1, _⟩ := sp_cells H.rd k z hz
        obtain ⟨g', hAo'⟩ := H.row_some (by omega)
        rw [hAo'] at hAo
        cases hAo
        subst hAo'
        simp only [Nat.zero_add] at e0 e1
        have f1 := Lib.cell?_alloc_some (.cells #[.string ⟨lo.toArray⟩, .string ⟨hi'.toArray⟩] 74) e1
        have fz := H5.swap.row_frz (k * 2 + 1)
        have HIN := Lib.hid (fun (hr : reach z.hi lo) => joinAcc_inK HS.out hA.out.1 hz hA.out.2 hr)
        have HOUT := Lib.hid (fun (hr : ¬ reach z.hi lo) => joinAcc_outK HS.out hA.out.1 hz hA.out.2 hr)
        have HSET := Lib.hid (fun (hi : Str) => spC_set_hi hi acc k z hz)
        obtain ⟨zl, zh⟩ := z
        dsimp only at e0 e1 f1 HIN HOUT HSET
        have hs1 : IntKind.i64.wrap ((k : Int) + 1 - 1) = (k : Int) := by rw [IntWalk.i64_in _ (by omega)]; omega
        have hs2 : IntKind.i64.wrap (k : Int) = (k : Int) := by rw [IntWalk.i64_in _ (by omega)]
        have hgt : (0 : Int) < (k : Int) + 1 := by omega
        have HZ := Lib.hid (hz)
        clear hz e0 e1
        by_cases hze : zh = []
        · subst hze
          have HI := Lib.hid (HIN.out (.inl rfl))
          go_wp2
          go_quiet (fail)
          generalize nq = n1 at *
          go_wp2
          go_quiet (fail)
          go_wp2
          refine ⟨⟨j + 1, some ⟨g, 0, none⟩, k + 1, co, acc.set k ⟨zl, []⟩, by omega, by go_num, rfl, ⟨HI.out, by rw [List.length_set]; exact hA.out.2⟩, ?_⟩, by simp [intOf]; omega⟩
          have h8 : acc.set k ⟨zl, []⟩ = acc := set_same HZ.out
          rw [h8]
          exact (H5.drewN (n1 + nq)).tail
        · have hzE : zh.isEmpty = false := by cases zh with | nil => exact absurd rfl hze | cons x l => rfl
          by_cases hr : zh < lo
          · have HO := Lib.hid (HOUT.out (by unfold reach; simp [hze, hr]))
            have hb1 := less_no fun h' => str_irrefl _ (str_trans hr h')
            have hb2 : (lo == zh) = false := beq_no fun h' => str_irrefl lo (by rw [← h'] at hr; exact hr)
            clear hze hr
            go_wp2
            go_quiet (fail)
            have e6 : ((wr.alloc (.cells #[.string ⟨lo.toArray⟩, .string ⟨hi'.toArray⟩] 74)).drewN nq).heap.size = wr.heap.size + 1 := World.size_alloc _ _
            have H6 := (H5.drewN nq).alloc #[.string ⟨lo.toArray⟩, .string ⟨hi'.toArray⟩] 74
            rw [e6] at H6
            go_wp2_with (first
              | (at_builtin
                 refine wpList_append_sl rfl (.tmp 71) (.tmp 73) 23 rfl 74 i0 _ zSp 32 Tryz.underlying23 hi hz0 rfl hz1 hz2 (by simp) zSp_like _ (k+1) _ rfl ((H6.pull 2)) (some ⟨wr.heap.size + 1, 0, none⟩) 1 1 [.string ⟨lo.toArray⟩, .string ⟨hi'.toArray⟩] rfl rfl (RdL.pt _ H6) (sp_one ⟨lo, hi'⟩) (sp_typed ⟨lo, hi'⟩) (by unfold maxLen; omega) (by omega) ?_
                 intro A7 c7 w7 H7))
            refine ⟨⟨j + 1, A7, k + 1 + 1, c7, acc ++ [⟨lo, hi'⟩], by omega, by go_num, rfl, ⟨HO.out, by rw [List.length_append, hA.out.2]; rfl⟩, ?_⟩, by simp [intOf]; omega⟩
            rw [spC_append]
            exact (H7.swap.tail).swap.tail
          · have hre : reach zh lo := .inr hr
            have HI := Lib.hid (HIN.out hre)
            obtain ⟨bb, hb, hbb⟩ : ∃ bb, (Op.bytesLess lo zh || lo == zh) = bb ∧ bb = true := ⟨_, rfl, by
              rcases str_total lo zh with h | h | h
              · rw [less_yes h]; rfl
              · rw [beq_yes h, Bool.or_true]
              · exact absurd h hr⟩
            have hl2 : (Op.bytesLess lo zh = true) ∨ (Op.bytesLess lo zh = false ∧ (lo == zh) = true) := by
              cases h3 : Op.bytesLess lo zh with
              | true => exact .inl rfl
              | false => rw [h3, hbb] at hb; exact .inr ⟨rfl, hb⟩
            have HL2 := Lib.hid hl2
            clear hl2
            by_cases hie : hi' = []
            · subst hie
              have HG := Lib.hid (greatE_take hze (.inl (rfl : ([] : Str) = [])))
              clear hze hr hre
              go_wp2
              go_quiet (fail)
              generalize nq = n1 at *
              go_wp2
              go_quiet (fail)
              go_wp2
              refine ⟨⟨j + 1, some ⟨g, 0, none⟩, k + 1, co, acc.set k ⟨zl, []⟩, by omega, by go_num, rfl, ⟨by rw [HI.out, HG.out], by rw [List.length_set]; exact hA.out.2⟩, ?_⟩, by simp [intOf]; omega⟩
              have h8 := ((H5.drewN (n1 + nq)).swap.row_set (k * 2 + 1) (.string ⟨List.toArray []⟩) (by rw [show (k * 2 + 1) % zSp.length = 1 by show (k * 2 + 1) % 2 = 1; omega]; rfl)).swap.tail
              rw [HSET.out []] at h8
              exact h8
            · have hiE : hi'.isEmpty = false := by cases hi' with | nil => exact absurd rfl hie | cons x l => rfl
              by_cases hgr : zh < hi'
              · have HG := Lib.hid (greatE_take hze (.inr hgr))
                have hc1 := less_no fun h' => str_irrefl _ (str_trans hgr h')
                have hc2 : (hi' == zh) = false := beq_no fun h' => str_irrefl hi' (by rw [← h'] at hgr; exact hgr)
                clear hze hr hre hgr hie
                go_wp2
                go_quiet (fail)
                generalize nq = n1 at *
                go_wp2
                go_quiet (fail)
                go_wp2
                refine ⟨⟨j + 1, some ⟨g, 0, none⟩, k + 1, co, acc.set k ⟨zl, hi'⟩, by omega, by go_num, rfl, ⟨by rw [HI.out, HG.out], by rw [List.length_set]; exact hA.out.2⟩, ?_⟩, by simp [intOf]; omega⟩
                have h8 := ((H5.drewN (n1 + nq)).swap.row_set (k * 2 + 1) (.string ⟨List.toArray hi'⟩) (by rw [show (k * 2 + 1) % zSp.length = 1 by show (k * 2 + 1) % 2 = 1; omega]; rfl)).swap.tail
                rw [HSET.out hi'] at h8
                exact h8
              · have HG := Lib.hid (greatE_keep (a := zh) (b := hi') (.inr ⟨hie, hgr⟩))
                obtain ⟨cc, hc, hcc⟩ : ∃ cc, (Op.bytesLess hi' zh || hi' == zh) = cc ∧ cc = true := ⟨_, rfl, by
                  rcases str_total hi' zh with h | h | h
                  · rw [less_yes h]; rfl
                  · rw [beq_yes h, Bool.or_true]
                  · exact absurd h hgr⟩
                clear hze hr hre hgr hie
                go_wp2
                go_quiet (fail)
                generalize nq = n1 at *
                go_wp2
                go_quiet (fail)
                go_wp2
                refine ⟨⟨j + 1, some ⟨g, 0, none⟩, k + 1, co, acc.set k ⟨zl, zh⟩, by omega, by go_num, rfl, ⟨by rw [HI.out, HG.out], by rw [List.length_set]; exact hA.out.2⟩, ?_⟩, by simp [intOf]; omega⟩
                have h8 : acc.set k ⟨zl, zh⟩ = acc := set_same HZ.out
                rw [h8]
                exact (H5.drewN (n1 + nq)).tail
    · obtain rfl : j = m.length := by omega
      have hacc := hA.out.1.symm.trans HJ.out
      subst hacc
      have hn := hA.out.2
      subst hn
      go_wp2
      go_ret
      exact ⟨Ao, co, rfl, H.swap.tail⟩
end Go.Proofs.YtodbmeklbamcfaaGreat

/- span.Join; the document's sorted spans, its Join. -/
namespace Go.Proofs.YtodbmeklbamcfaaGreat
open Go.RowKit Go.Rt

set_option maxRecDepth 100000 in
set_option maxHeartbeats 4000000 in
theorem spJoin_any {W w : World} {L : List SL} (A : Option Addr) (c : Nat) (l : List Sp) (hl : l.length ≤ 1000000) (hb : Bsl A l.length c) (hr : RdL W L A (spC l)) (H : Sat W w L) :
    Calls Tryz.prog 53 #[.slice A l.length c] w fun e w' => ∃ A' c', e = .returned (.slice A' (joinS l).length c') ∧ Sat W w' (row 74 zSp (.slice A' (joinS l).length c') (joinS l).length (spC (joinS l)) :: L) := by
  have HJ := Lib.hid (spjoin_any A c l hl hb hr H)
  go_enter Tryz.func53, Tryz.ntmps53
  go_wp2_with fail
  refine (HJ.out).mono ?_
  rintro e w2 ⟨A1, c1, rfl, H1⟩
  go_wp2
  go_ret
  exact ⟨A1, c1, rfl, H1⟩

theorem sortAcc_len (l : List Sp) : ∀ j, (sortAcc l j).length ≤ j
  | 0 => Nat.le_refl _
  | j + 1 => by
    have ih := sortAcc_len l j
    cases hx : l[j]? with
    | none =>
      have e : sortAcc l (j + 1) = sortAcc l j := by unfold sortAcc; rw [List.take_add_one, hx, Option.toList, List.append_nil]
      rw [e]; omega
    | some s =>
      cases he : emptyB s with
      | true => rw [sortAcc_skip hx he]; omega
      | false =>
        have := (insLo_perm s (sortAcc l j)).length_eq
        rw [sortAcc_ins hx he, this, List.length_cons]; omega

theorem spC_take (l : List Sp) (k : Nat) (hk : k ≤ l.length) : spC (l.take k) = (spC l).take (k * 2) := by
  conv => rhs; rw [← List.take_append_drop k l, spC_append]
  rw [List.take_left']
  rw [spC_len, List.length_take, Nat.min_eq_left hk]
theorem spC_drop (l : List Sp) (k : Nat) (hk : k ≤ l.length) : spC (l.drop k) = (spC l).drop (k * 2) := by
  conv => rhs; rw [← List.take_append_drop k l, spC_append]
  rw [List.drop_left']
  rw [spC_len, List.length_take, Nat.min_eq_left hk]


set_option maxRecDepth 100000 in
set_option maxHeartbeats 16000000 in
theorem jsorted_any {W w : World} {L : List SL} (A : Option Addr) (c : Nat) (l : List Sp) (hl : l.length ≤ 1000000) (hr : RdL W L A (spC l)) (H : Sat W w L) :
    Calls Tryz.prog 149 #[.slice A l.length c] w fun e w' => ∃ A' c', e = .returned (.slice A' (insSp l).length c') ∧ Sat W w' (row 74 zSp (.slice A' (insSp l).length c') (insSp l).length (spC (insSp l)) :: L) := by
  obtain ⟨i0, hi, hz0, hz1, hz2⟩ := info_parts infoSp
  have HE := Lib.hid (fun (w0 : World) (L0 : List SL) (lo hi : Str) (h : Sat W w0 L0) => jEmpty_any lo hi h)
  go_enter Tryz.func149, Tryz.ntmps149
  go_wp2
  go_loopw [3, 4] (fun ou i wc => ∃ (j : Nat) (Ao : Option Addr) (n co : Nat) (acc : List Sp), j ≤ l.length ∧ i = .int .i64 j ∧ ou = .slice Ao n co ∧ Hid (sortAcc l j = acc ∧ acc.length = n) ∧ Sat W wc (row 74 zSp (.slice Ao n co) n (spC acc) :: L)) (fun _ i _ => l.length - (intOf i).toNat)
  case atStart => exact ⟨0, none, 0, 0, [], by omega, rfl, rfl, ⟨rfl, rfl⟩, H.nil _ _⟩
  case round =>
    clear H
    obtain ⟨j, Ao, n, co, acc, hj, rfl, rfl, hA, H⟩ := hrel
    by_cases hlt : j < l.length
    · obtain ⟨s, hs⟩ : ∃ x, l[j]? = some x := ⟨_, List.getElem?_eq_getElem (by omega)⟩
      have hal : n ≤ j := by rw [← hA.out.2, ← hA.out.1]; exact sortAcc_len l j
      obtain ⟨b, o, rfl, c0, c1, hrd⟩ := sp_cells (hr _ H.tail) j s hs
      have hcx : ∀ w', Sat W w' (row 74 zSp (.slice Ao n co) n (spC acc) :: L) → w'.cell? ⟨b, o + j * 2, none⟩ = some (.string ⟨s.lo.toArray⟩) ∧ w'.cell? ⟨b, o + j * 2 + 1, none⟩ = some (.string ⟨s.hi.toArray⟩) := by
        intro w' h
        obtain ⟨b2, o2, e, h1, h2, _⟩ := sp_cells (hr _ h.tail) j s hs
        cases e
        exact ⟨h1, h2⟩
      have HCX := Lib.hid (hcx)
      have HS := Lib.hid (hs)
      clear hcx hrd hr
      have hE := HE.out _ _ s.lo s.hi H
      cases he : emptyB s with
      | true =>
        rw [show emptyB ⟨s.lo, s.hi⟩ = true from he] at hE
        have HE1 := Lib.hid (hE)
        have hsk := sortAcc_skip hs he
        rw [hA.out.1] at hsk
        have HSK := Lib.hid (hsk)
        clear hE he hs hsk
        obtain ⟨lo, hi'⟩ := s
        dsimp only at c0 c1
        go_wp2_with fail
        refine (HE1.out).mono ?_
        rintro e w3 ⟨rfl, H2⟩
        go_wp2
        exact ⟨⟨j + 1, Ao, n, co, acc, by omega, by go_num, rfl, ⟨HSK.out, hA.out.2⟩, H2⟩, by simp [intOf]; omega⟩
      | false =>
        rw [show emptyB ⟨s.lo, s.hi⟩ = false from he] at hE
        have HE1 := Lib.hid (hE)
        have hin := sortAcc_ins hs he
        rw [hA.out.1] at hin
        have HINS := Lib.hid (hin)
        clear hE he hs hin
        obtain ⟨lo, hi'⟩ := s
        dsimp only at c0 c1 HCX
        go_wp2_with fail
        refine (HE1.out).mono ?_
        rintro e w3 ⟨rfl, H2⟩
        clear H c0 c1
        go_wp2
        go_loopw [5] (fun i wc => ∃ k : Nat, k ≤ n ∧ i = .int .i64 k ∧ Hid (∀ m z, m < k → acc[m]? = some z → ¬ lo < z.lo) ∧ Sat W wc (row 74 zSp (.slice Ao n co) n (spC acc) :: L)) (fun i _ => n - (intOf i).toNat)
        case atStart => exact ⟨0, by omega, rfl, (fun m z h => by omega), H2⟩
        case round =>
          clear H2
          obtain ⟨k, hk, rfl, hN, H2⟩ := hrel
          obtain ⟨d0, d1⟩ := HCX.out _ H2
          by_cases hkl : k < n
          · obtain ⟨z, hz⟩ : ∃ z, acc[k]? = some z := ⟨_, List.getElem?_eq_getElem (by rw [hA.out.2]; exact hkl)⟩
            obtain ⟨b', o', rfl, e0, e1, _⟩ := sp_cells H2.rd k z hz
            obtain ⟨zl, zh⟩ := z
            dsimp only at e0 e1
            have HZ := Lib.hid (hz)
            clear hz e1
            by_cases hq : lo < zl
            · have h1 := less_no fun h' => str_irrefl _ (str_trans hq h')
              have h2 : (zl == lo) = false := beq_no fun h' => str_irrefl zl (by rw [← h'] at hq; exact hq)
              have HQ := Lib.hid (hq)
              clear hq
              have hins := insLo_at (s := ⟨lo, hi'⟩) (out := acc) (k := k) (by rw [hA.out.2]; omega) hN.out (fun z h => by rw [HZ.out] at h; cases h; exact HQ.out)
              have hins2 : sortAcc l (j + 1) = acc.take k ++ [⟨lo, hi'⟩] ++ acc.drop k := by rw [HINS.out, hins]
              have HI := Lib.hid (hins2)
              clear hins hins2
              (go_wp2; go_quiet (fail); go_wp2; clear e0 d0 d1)
              generalize hz : wr.drewN nq = wz
              have H3 : Sat W wz (row 74 zSp (.slice (some ⟨b', o', none⟩) n co) n (spC acc) :: L) := by rw [← hz]; exact H2.drewN _
              obtain ⟨_, _, _, hv3, hnc, _⟩ := H3.slice
              cases hv3
              have hkc : k ≤ co := Nat.le_trans (show k ≤ n by omega) hnc
              clear hz H2
              have HM := H3.drew.made #[] 74 zSp 0 0 (by omega) (by unfold maxLen; omega) rfl (Typed.nil _)
              have HXX := H3.drew.alloc #[.string ⟨lo.toArray⟩, .string ⟨hi'.toArray⟩] 74
              have HN := (HM.alloc #[.string ⟨lo.toArray⟩, .string ⟨hi'.toArray⟩] 74).swap
              have HO := HXX.made #[] 74 zSp 0 0 (by omega) (by unfold maxLen; omega) rfl (Typed.nil _)
              obtain ⟨c00, c01⟩ := HCX.out _ H3.drew
              obtain ⟨c10, c11⟩ := HCX.out _ HM.tail
              obtain ⟨c20, c21⟩ := HCX.out _ HXX.tail
              obtain ⟨c30, c31⟩ := HCX.out _ HN.tail.tail
              obtain ⟨c40, c41⟩ := HCX.out _ HO.tail.tail
              have HRT : RdL W (row 74 zSp (.slice (some ⟨b', o', none⟩) n co) n (spC acc) :: L) (some ⟨b', o', none⟩) (spC (acc.take k)) := fun w' h => by rw [spC_take _ _ (by rw [hA.out.2]; omega)]; exact h.rd.take _
              have HRD0 : RdL W (row 74 zSp (.slice (some ⟨b', o', none⟩) n co) n (spC acc) :: L) (subZ 2 (some ⟨b', o', none⟩) co k) (spC (acc.drop k)) := fun w' h => by
                have h := subZ_rd (sz := 2) h.rd (n := n) (by rw [spC_len, hA.out.2]) hnc k (n - k) (by omega)
                rw [spC_drop _ _ (by rw [hA.out.2]; omega)]
                rw [List.take_of_length_le (by rw [List.length_drop, spC_len, hA.out.2]; omega)] at h
                exact h
              have hlt1 : (spC (acc.take k)).length = k * zSp.length := by rw [spC_len, List.length_take, hA.out.2, Nat.min_eq_left (by omega)]; rfl
              have hlt2 : (spC (acc.drop k)).length = (n - k) * zSp.length := by rw [spC_len, List.length_drop, hA.out.2]; rfl
              go_region_held3 (fun w' => w'.cell? ⟨b, o + j * 2, none⟩ = some (.string ⟨lo.toArray⟩) ∧ w'.cell? ⟨b, o + j * 2 + 1, none⟩ = some (.string ⟨hi'.toArray⟩)) (exact ⟨by assumption, by assumption⟩) (first
                | (refine step_append_sl rfl (.tmp 36) (.tmp 39) 23 rfl 74 i0 _ zSp 32 Tryz.underlying23 hi hz0 rfl hz1 hz2 (by simp) zSp_like _ (0) [] (by simp [Act.eval]) HM (some ⟨b', o', none⟩) (k) (co) (spC (acc.take k)) (by simp [Act.eval]) hlt1 (HRT _ HM.tail) (spC_one _) (spC_typed _) (by unfold maxLen; omega) (by omega) ?_
                   intro A4 c4' w4 H4
                   have H4b := (H4.alloc #[.string ⟨lo.toArray⟩, .string ⟨hi'.toArray⟩] 74).swap
                   obtain ⟨c50, c51⟩ := HCX.out _ H4.tail
                   obtain ⟨c60, c61⟩ := HCX.out _ H4b.tail.tail
                   have HRX : Rd _ _ [.string ⟨lo.toArray⟩, .string ⟨hi'.toArray⟩] := RdL.pt _ H4b.swap)
                | (refine step_append_sl rfl (.tmp 36) (.tmp 39) 23 rfl 74 i0 _ zSp 32 Tryz.underlying23 hi hz0 rfl hz1 hz2 (by simp) zSp_like _ (0) [] (by simp [Act.eval]) HN (some ⟨b', o', none⟩) (k) (co) (spC (acc.take k)) (by simp [Act.eval]) hlt1 (HRT _ HN.tail.tail) (spC_one _) (spC_typed _) (by unfold maxLen; omega) (by omega) ?_
                   intro A4 c4' w4 H4b
                   obtain ⟨c60, c61⟩ := HCX.out _ H4b.tail.tail
                   have HRX : Rd _ _ [.string ⟨lo.toArray⟩, .string ⟨hi'.toArray⟩] := RdL.pt _ H4b.swap)
                | (refine step_append_sl rfl (.tmp 36) (.tmp 39) 23 rfl 74 i0 _ zSp 32 Tryz.underlying23 hi hz0 rfl hz1 hz2 (by simp) zSp_like _ (0) [] (by simp [Act.eval]) HO (some ⟨b', o', none⟩) (k) (co) (spC (acc.take k)) (by simp [Act.eval]) hlt1 (HRT _ HO.tail.tail) (spC_one _) (spC_typed _) (by unfold maxLen; omega) (by omega) ?_
                   intro A4 c4' w4 H4b
                   obtain ⟨c60, c61⟩ := HCX.out _ H4b.tail.tail
                   have HRX : Rd _ _ [.string ⟨lo.toArray⟩, .string ⟨hi'.toArray⟩] := RdL.pt _ H4b.swap)
                | (refine step_append_sl rfl (.tmp 40) (.tmp 45) 23 rfl 74 i0 _ zSp 32 Tryz.underlying23 hi hz0 rfl hz1 hz2 (by simp) zSp_like _ (0 + k) _ (by simp [Act.eval]) H4b _ (1) (1) ([.string ⟨lo.toArray⟩, .string ⟨hi'.toArray⟩]) (by simp [Act.eval]) rfl HRX (sp_one ⟨lo, hi'⟩) (sp_typed ⟨lo, hi'⟩) (by unfold maxLen; omega) (by omega) ?_
                   intro A5 c5' w5 H5
                   obtain ⟨c70, c71⟩ := HCX.out _ H5.tail.tail
                   have HRD := HRD0 _ H5.tail.tail)
                | (refine step_append_sl rfl (.tmp 46) (.tmp 49) 23 rfl 74 i0 _ zSp 32 Tryz.underlying23 hi hz0 rfl hz1 hz2 (by simp) zSp_like _ (0 + k + 1) _ (by simp [Act.eval]) H5 (subZ 2 (some ⟨b', o', none⟩) co k) (n - k) (co - k) (spC (acc.drop k)) (by (have hq : ¬ co = k := (by omega); simp [Act.eval, subZ, Addr.add_lit, hq])) hlt2 HRD (spC_one _) (spC_typed _) (by unfold maxLen; omega) (by omega) ?_
                   intro A6 c6' w6 H6
                   obtain ⟨c80, c81⟩ := HCX.out _ H6.tail.tail))
              all_goals
                have H7 := H6.swap.tail.swap.tail
                have e7 : 0 + k + 1 + (n - k) = n + 1 := by omega
                have e8 : ([] : List Value) ++ spC (acc.take k) ++ [.string ⟨lo.toArray⟩, .string ⟨hi'.toArray⟩] ++ spC (acc.drop k) = spC (acc.take k ++ [⟨lo, hi'⟩] ++ acc.drop k) := by
                  rw [spC_append, spC_append]; rfl
                rw [e8, e7] at H7
                go_wp2
                refine ⟨⟨j + 1, A6, n + 1, c6', _, by omega, by go_num, ?_, ⟨HI.out, ?_⟩, H7⟩, by simp [intOf]; omega⟩
                · first | rfl | (congr 1 <;> omega)
                · have := hA.out.2
                  simp only [List.length_append, List.length_take, List.length_drop, List.length_singleton]
                  omega
            · obtain ⟨bb, hb, hbb⟩ : ∃ bb, (Op.bytesLess zl lo || zl == lo) = bb ∧ bb = true := ⟨_, rfl, by
                rcases str_total zl lo with h | h | h
                · rw [less_yes h]; rfl
                · rw [beq_yes h, Bool.or_true]
                · exact absurd h hq⟩
              have HQ := Lib.hid (hq)
              clear hq
              go_wp2
              go_quiet (fail)
              go_wp2
              refine ⟨⟨k + 1, by omega, by go_num, fun m z hm hz => ?_, H2.drewN _⟩, by simp [intOf]; omega⟩
              rcases Nat.lt_or_ge m k with h | h
              · exact hN.out m z h hz
              · obtain rfl : m = k := by omega
                rw [HZ.out] at hz; cases hz; exact HQ.out
          · obtain rfl : n = k := by omega
            have hins := insLo_at (s := ⟨lo, hi'⟩) (out := acc) (k := n) (by rw [hA.out.2]; exact Nat.le_refl _) hN.out (fun z h => by rw [List.getElem?_eq_none (by rw [hA.out.2]; exact Nat.le_refl _)] at h; cases h)
            have hins2 : sortAcc l (j + 1) = acc.take n ++ [⟨lo, hi'⟩] ++ acc.drop n := by rw [HINS.out, hins]
            have HI := Lib.hid (hins2)
            clear hins hins2
            (go_wp2; go_quiet (fail); go_wp2; clear d0 d1)
            generalize hz : wr.drewN nq = wz
            have H3 : Sat W wz (row 74 zSp (.slice Ao n co) n (spC acc) :: L) := by rw [← hz]; exact H2.drewN _
            obtain ⟨_, _, _, hv3, hnc, _⟩ := H3.slice
            cases hv3
            have hkc : n ≤ co := Nat.le_trans (show n ≤ n by omega) hnc
            clear hz H2
            have HM := H3.drew.made #[] 74 zSp 0 0 (by omega) (by unfold maxLen; omega) rfl (Typed.nil _)
            have HXX := H3.drew.alloc #[.string ⟨lo.toArray⟩, .string ⟨hi'.toArray⟩] 74
            have HN := (HM.alloc #[.string ⟨lo.toArray⟩, .string ⟨hi'.toArray⟩] 74).swap
            have HO := HXX.made #[] 74 zSp 0 0 (by omega) (by unfold maxLen; omega) rfl (Typed.nil _)
            obtain ⟨c00, c01⟩ := HCX.out _ H3.drew
            obtain ⟨c10, c11⟩ := HCX.out _ HM.tail
            obtain ⟨c20, c21⟩ := HCX.out _ HXX.tail
            obtain ⟨c30, c31⟩ := HCX.out _ HN.tail.tail
            obtain ⟨c40, c41⟩ := HCX.out _ HO.tail.tail
            have HRT : RdL W (row 74 zSp (.slice Ao n co) n (spC acc) :: L) Ao (spC (acc.take n)) := fun w' h => by rw [spC_take _ _ (by rw [hA.out.2]; exact Nat.le_refl _)]; exact h.rd.take _
            have HRD0 : RdL W (row 74 zSp (.slice Ao n co) n (spC acc) :: L) (subZ 2 Ao co n) (spC (acc.drop n)) := fun w' h => by
              have h := subZ_rd (sz := 2) h.rd (n := n) (by rw [spC_len, hA.out.2]) hnc n (n - n) (by omega)
              rw [spC_drop _ _ (by rw [hA.out.2]; exact Nat.le_refl _)]
              rw [List.take_of_length_le (by rw [List.length_drop, spC_len, hA.out.2]; omega)] at h
              exact h
            have hlt1 : (spC (acc.take n)).length = n * zSp.length := by rw [spC_len, List.length_take, hA.out.2, Nat.min_eq_left (by omega)]; rfl
            have hlt2 : (spC (acc.drop n)).length = (n - n) * zSp.length := by rw [spC_len, List.length_drop, hA.out.2]; rfl
            go_region_held3 (fun w' => w'.cell? ⟨b, o + j * 2, none⟩ = some (.string ⟨lo.toArray⟩) ∧ w'.cell? ⟨b, o + j * 2 + 1, none⟩ = some (.string ⟨hi'.toArray⟩)) (exact ⟨by assumption, by assumption⟩) (first
              | (refine step_append_sl rfl (.tmp 36) (.tmp 39) 23 rfl 74 i0 _ zSp 32 Tryz.underlying23 hi hz0 rfl hz1 hz2 (by simp) zSp_like _ (0) [] (by simp [Act.eval]) HM Ao (n) (co) (spC (acc.take n)) (by simp [Act.eval]) hlt1 (HRT _ HM.tail) (spC_one _) (spC_typed _) (by unfold maxLen; omega) (by omega) ?_
                 intro A4 c4' w4 H4
                 have H4b := (H4.alloc #[.string ⟨lo.toArray⟩, .string ⟨hi'.toArray⟩] 74).swap
                 obtain ⟨c50, c51⟩ := HCX.out _ H4.tail
                 obtain ⟨c60, c61⟩ := HCX.out _ H4b.tail.tail
                 have HRX : Rd _ _ [.string ⟨lo.toArray⟩, .string ⟨hi'.toArray⟩] := RdL.pt _ H4b.swap)
              | (refine step_append_sl rfl (.tmp 36) (.tmp 39) 23 rfl 74 i0 _ zSp 32 Tryz.underlying23 hi hz0 rfl hz1 hz2 (by simp) zSp_like _ (0) [] (by simp [Act.eval]) HN Ao (n) (co) (spC (acc.take n)) (by simp [Act.eval]) hlt1 (HRT _ HN.tail.tail) (spC_one _) (spC_typed _) (by unfold maxLen; omega) (by omega) ?_
                 intro A4 c4' w4 H4b
                 obtain ⟨c60, c61⟩ := HCX.out _ H4b.tail.tail
                 have HRX : Rd _ _ [.string ⟨lo.toArray⟩, .string ⟨hi'.toArray⟩] := RdL.pt _ H4b.swap)
              | (refine step_append_sl rfl (.tmp 36) (.tmp 39) 23 rfl 74 i0 _ zSp 32 Tryz.underlying23 hi hz0 rfl hz1 hz2 (by simp) zSp_like _ (0) [] (by simp [Act.eval]) HO Ao (n) (co) (spC (acc.take n)) (by simp [Act.eval]) hlt1 (HRT _ HO.tail.tail) (spC_one _) (spC_typed _) (by unfold maxLen; omega) (by omega) ?_
                 intro A4 c4' w4 H4b
                 obtain ⟨c60, c61⟩ := HCX.out _ H4b.tail.tail
                 have HRX : Rd _ _ [.string ⟨lo.toArray⟩, .string ⟨hi'.toArray⟩] := RdL.pt _ H4b.swap)
              | (refine step_append_sl rfl (.tmp 40) (.tmp 45) 23 rfl 74 i0 _ zSp 32 Tryz.underlying23 hi hz0 rfl hz1 hz2 (by simp) zSp_like _ (0 + n) _ (by simp [Act.eval]) H4b _ (1) (1) ([.string ⟨lo.toArray⟩, .string ⟨hi'.toArray⟩]) (by simp [Act.eval]) rfl HRX (sp_one ⟨lo, hi'⟩) (sp_typed ⟨lo, hi'⟩) (by unfold maxLen; omega) (by omega) ?_
                 intro A5 c5' w5 H5
                 obtain ⟨c70, c71⟩ := HCX.out _ H5.tail.tail
                 have HRD := HRD0 _ H5.tail.tail)
              | (refine step_append_sl rfl (.tmp 46) (.tmp 49) 23 rfl 74 i0 _ zSp 32 Tryz.underlying23 hi hz0 rfl hz1 hz2 (by simp) zSp_like _ (0 + n + 1) _ (by simp [Act.eval]) H5 (subZ 2 Ao co n) (n - n) (co - n) (spC (acc.drop n)) (by (simp [Act.eval, subZ])) hlt2 HRD (spC_one _) (spC_typed _) (by unfold maxLen; omega) (by omega) ?_
                 intro A6 c6' w6 H6
                 obtain ⟨c80, c81⟩ := HCX.out _ H6.tail.tail))
            all_goals
              have H7 := H6.swap.tail.swap.tail
              have e7 : 0 + n + 1 + (n - n) = n + 1 := by omega
              have e8 : ([] : List Value) ++ spC (acc.take n) ++ [.string ⟨lo.toArray⟩, .string ⟨hi'.toArray⟩] ++ spC (acc.drop n) = spC (acc.take n ++ [⟨lo, hi'⟩] ++ acc.drop n) := by
                rw [spC_append, spC_append]; rfl
              rw [e8, e7] at H7
              go_wp2
              refine ⟨⟨j + 1, A6, n + 1, c6', _, by omega, by go_num, ?_, ⟨HI.out, ?_⟩, H7⟩, by simp [intOf]; omega⟩
              · first | rfl | (congr 1 <;> omega)
              · have := hA.out.2
                simp only [List.length_append, List.length_take, List.length_drop, List.length_singleton]
                omega
    · obtain rfl : j = l.length := by omega
      have hacc : acc = insSp l := by rw [← hA.out.1]; unfold sortAcc; rw [List.take_length]
      subst hacc
      have hn := hA.out.2
      subst hn
      go_wp2
      go_ret
      exact ⟨Ao, co, rfl, H⟩
end Go.Proofs.YtodbmeklbamcfaaGreat

/- effect's functions that ask: may a write be, spans, an effect; which keys it wrote; does it meet keys. -/
namespace Go.Proofs.YtodbmeklbamcfaaGreat
open Go.RowKit Go.Rt

/-- An effect's cells: where its lists lie, and how much room they have. -/
structure EfAt where
  A : Option Addr
  c : Nat
  A' : Option Addr
  c' : Nat
  A'' : Option Addr
  c'' : Nat
def Ef.cs (x : Ef) (p : EfAt) : List Value := [.int .i64 x.why, .int .i64 x.steps, .slice p.A x.rs.length p.c, .slice p.A' x.ss.length p.c', .slice p.A'' x.ws.length p.c'']
def Ef.v (x : Ef) (p : EfAt) : Value := .agg (x.cs p).toArray
/-- An effect's lists read, as long as the things of L are owned. -/
structure EfRd (W : World) (L : List SL) (x : Ef) (p : EfAt) : Prop where
  b : Bsl p.A x.rs.length p.c
  b' : Bsl p.A' x.ss.length p.c'
  b'' : Bsl p.A'' x.ws.length p.c''
  r : RdL W L p.A (tsC x.rs)
  r' : RdL W L p.A' (spC x.ss)
  r'' : RdL W L p.A'' (wtC x.ws)
theorem EfRd.tail {W : World} {L : List SL} {B : SL} {x : Ef} {p : EfAt} (h : EfRd W L x p) : EfRd W (B :: L) x p := ⟨h.b, h.b', h.b'', h.r.tail, h.r'.tail, h.r''.tail⟩
/-- An effect whose lists, and whose texts, are not too long. -/
structure EfOk (x : Ef) : Prop where
  rs : x.rs.length ≤ 100000
  ss : x.ss.length ≤ 100000
  ws : x.ws.length ≤ 100000
  ts : ∀ t ∈ x.rs, t.length ≤ 1000000
  sp : ∀ s ∈ x.ss, s.lo.length ≤ 1000000 ∧ s.hi.length ≤ 1000000
  wt : ∀ w ∈ x.ws, w.k.length ≤ 1000000 ∧ w.v.length ≤ 1000000

set_option maxRecDepth 100000 in
set_option maxHeartbeats 4000000 in
theorem efWrite_any {W w : World} {L : List SL} (x : Wt) (H : Sat W w L) :
    Calls Tryz.prog 78 #[.agg #[.string ⟨x.k.toArray⟩, .string ⟨x.v.toArray⟩, .bool x.d]] w fun e w' => e = .returned (.bool (mayW x)) ∧ Sat W w' L := by
  obtain ⟨k, v, d⟩ := x
  dsimp only
  have H1 := H.alloc #[.string ⟨k.toArray⟩, .string ⟨v.toArray⟩, .bool d] 65
  generalize hw0 : w.alloc (.cells #[.string ⟨k.toArray⟩, .string ⟨v.toArray⟩, .bool d] 65) = w0 at H1
  have c0 : w0.cell? ⟨w.heap.size, 0, none⟩ = some (.string ⟨k.toArray⟩) := H1.cell 0
  have c1 : w0.cell? ⟨w.heap.size, 1, none⟩ = some (.string ⟨v.toArray⟩) := H1.cell 1
  have c2 : w0.cell? ⟨w.heap.size, 2, none⟩ = some (.bool d) := H1.cell 2
  have QK := Lib.hid (fun v (hv : keyB k = v) (n : Nat) => cKey_is k v hv w0)
  unfold mayW
  dsimp only
  go_enter Tryz.func78, Tryz.ntmps78
  cases hk : keyB k with
  | false =>
    have QK1 := Lib.hid (QK.out false hk)
    clear QK hk
    go_wp2_with fail
    refine (QK1.out 0).mono ?_
    rintro e _ ⟨rfl, rfl⟩
    go_wp2
    go_ret
    exact ⟨rfl, H1.tail⟩
  | true =>
    have QK1 := Lib.hid (QK.out true hk)
    clear QK hk
    by_cases hv : v.length ≤ 64
    · have hv2 : decide ((v.length : Int) ≤ 64) = true := decide_eq_true (by omega)
      rw [decide_eq_true hv]
      clear hv
      cases d with
      | false =>
        go_wp2_with fail
        refine (QK1.out 0).mono ?_
        rintro e _ ⟨rfl, rfl⟩
        go_wp2
        go_ret
        exact ⟨rfl, H1.tail⟩
      | true =>
        by_cases hn : v = []
        · have e1 : v.isEmpty = true := by rw [hn]; rfl
          rw [decide_eq_true hn]
          clear hn
          go_wp2_with fail
          refine (QK1.out 0).mono ?_
          rintro e _ ⟨rfl, rfl⟩
          go_wp2
          go_ret
          exact ⟨rfl, H1.tail⟩
        · have e1 : v.isEmpty = false := by cases v with | nil => exact absurd rfl hn | cons x l => rfl
          rw [decide_eq_false hn]
          clear hn
          go_wp2_with fail
          refine (QK1.out 0).mono ?_
          rintro e _ ⟨rfl, rfl⟩
          go_wp2
          go_ret
          exact ⟨rfl, H1.tail⟩
    · have hv2 : decide ((v.length : Int) ≤ 64) = false := decide_eq_false (by omega)
      rw [decide_eq_false hv]
      clear hv
      go_wp2_with fail
      refine (QK1.out 0).mono ?_
      rintro e _ ⟨rfl, rfl⟩
      go_wp2
      go_ret
      exact ⟨rfl, H1.tail⟩

/-- Is a span the joined one of its place, and short? -/
def spOk (J : List Sp) (j : Nat) (s : Sp) : Bool := decide (J[j]? = some s) && (decide (s.lo.length ≤ 64) && decide (s.hi.length ≤ 64))
theorem spansB_len {l : List Sp} (h : (joinS l).length ≠ l.length) : spansB l = false := by
  unfold spansB
  rw [decide_eq_false (fun e => h (by rw [e]))]; rfl
theorem spansB_no {l : List Sp} {j : Nat} {s : Sp} (hs : l[j]? = some s) (h : spOk (joinS l) j s = false) : spansB l = false := by
  cases hb : spansB l with
  | false => rfl
  | true =>
    unfold spansB at hb
    rw [Bool.and_eq_true, decide_eq_true_eq, List.all_eq_true] at hb
    have h1 := hb.2 s (List.mem_of_getElem? hs)
    unfold spOk at h
    rw [hb.1, hs] at h
    rw [h1] at h
    simp at h
theorem spansB_yes {l : List Sp} (hl : (joinS l).length = l.length) (h : ∀ j s, j < l.length → l[j]? = some s → spOk (joinS l) j s = true) : spansB l = true := by
  unfold spansB
  rw [Bool.and_eq_true, decide_eq_true_eq, List.all_eq_true]
  refine ⟨sp_ext hl fun k hk => ?_, fun s hs => ?_⟩
  · have hs := List.getElem?_eq_getElem (l := l) (i := k) (by omega)
    have := h k _ (by omega) hs
    unfold spOk at this
    simp only [Bool.and_eq_true, decide_eq_true_eq] at this
    rw [this.1, hs]
  · obtain ⟨j, hj⟩ := List.getElem?_of_mem hs
    have := h j s (List.getElem?_eq_some_iff.1 hj).1 hj
    unfold spOk at this
    rw [Bool.and_eq_true] at this
    exact this.2

set_option maxRecDepth 100000 in
set_option maxHeartbeats 8000000 in
theorem efSpans_any {W w : World} {L : List SL} (A : Option Addr) (c : Nat) (l : List Sp) (hl : l.length ≤ 100000) (hb : Bsl A l.length c) (hr : RdL W L A (spC l)) (H : Sat W w L) :
    Calls Tryz.prog 77 #[.slice A l.length c] w fun e w' => e = .returned (.bool (spansB l)) ∧ Sat W w' L := by
  have HJ := Lib.hid (spJoin_any A c l (by omega) hb hr H)
  by_cases hlen : (joinS l).length = l.length
  · have hne : (((joinS l).length : Int) != (l.length : Int)) = false := by rw [hlen]; simp
    have hle : (joinS l).length ≤ 100000 := by omega
    have HNO := Lib.hid (fun (j : Nat) (s : Sp) (hs : l[j]? = some s) (h : spOk (joinS l) j s = false) => spansB_no hs h)
    have HYES := Lib.hid (fun (h : ∀ j s, j < l.length → l[j]? = some s → spOk (joinS l) j s = true) => spansB_yes hlen h)
    generalize spansB l = R at *
    generalize joinS l = J at *
    have HLEN := Lib.hid (hlen)
    clear H hb hlen
    go_enter Tryz.func77, Tryz.ntmps77
    go_wp2_with fail
    refine (HJ.out).mono ?_
    rintro e w2 ⟨A1, c1, rfl, H1⟩
    clear HJ
    go_wp2
    go_loopw [15] (fun i wc => ∃ j : Nat, j ≤ l.length ∧ i = .int .i64 j ∧ Hid (∀ k s, k < j → l[k]? = some s → spOk J k s = true) ∧ Sat W wc (row 74 zSp (.slice A1 J.length c1) J.length (spC J) :: L)) (fun i _ => l.length - (intOf i).toNat)
    case atStart => exact ⟨0, by omega, rfl, (fun k s h => by omega), H1⟩
    case round =>
      clear H1
      obtain ⟨j, hj, rfl, hN, H⟩ := hrel
      by_cases hlt : j < l.length
      · obtain ⟨s, hs⟩ : ∃ x, l[j]? = some x := ⟨_, List.getElem?_eq_getElem (by omega)⟩
        obtain ⟨t, ht⟩ : ∃ t, J[j]? = some t := ⟨_, List.getElem?_eq_getElem (by have := HLEN.out; omega)⟩
        have hjJ : j < J.length := by have := HLEN.out; omega
        obtain ⟨b, o, rfl, c0, c1', _⟩ := sp_cells (hr _ H.tail) j s hs
        obtain ⟨b', o', rfl, e0, e1, _⟩ := sp_cells H.rd j t ht
        have hE := sp_equal s t
        have HS := Lib.hid (hs)
        have HT := Lib.hid (ht)
        obtain ⟨lo, hi'⟩ := s
        obtain ⟨tl, th⟩ := t
        dsimp only at c0 c1' e0 e1 hE
        have H5 := H.alloc #[.string ⟨lo.toArray⟩, .string ⟨hi'.toArray⟩] 74
        have d0 := H5.cell 0
        have d1 := H5.cell 1
        have f0 := Lib.cell?_alloc_some (.cells #[.string ⟨lo.toArray⟩, .string ⟨hi'.toArray⟩] 74) e0
        have f1 := Lib.cell?_alloc_some (.cells #[.string ⟨lo.toArray⟩, .string ⟨hi'.toArray⟩] 74) e1
        clear hs ht e0 e1 hr
        by_cases hq : (Sp.mk lo hi') = ⟨tl, th⟩
        · rw [decide_eq_true hq] at hE
          have hq2 : J[j]? = some ⟨lo, hi'⟩ := by rw [HT.out, hq]
          have HQ := Lib.hid (hq2)
          clear hq hq2
          by_cases hlo : lo.length ≤ 64
          · have g1 : decide ((64 : Int) < (lo.length : Int)) = false := decide_eq_false (by omega)
            by_cases hhi : hi'.length ≤ 64
            · have g2 : decide ((64 : Int) < (hi'.length : Int)) = false := decide_eq_false (by omega)
              have hok : spOk J j ⟨lo, hi'⟩ = true := by unfold spOk; rw [decide_eq_true HQ.out, decide_eq_true hlo, decide_eq_true hhi]; rfl
              have HOK := Lib.hid (hok)
              clear hok hlo hhi
              go_wp2
              go_quiet (fail)
              go_wp2
              refine ⟨⟨j + 1, by omega, by go_num, fun k s hk hs => ?_, (H5.drewN nq).tail⟩, by simp [intOf]; omega⟩
              rcases Nat.lt_or_ge k j with h | h
              · exact hN.out k s h hs
              · obtain rfl : k = j := by omega
                rw [HS.out] at hs; cases hs; exact HOK.out
            · have g2 : decide ((64 : Int) < (hi'.length : Int)) = true := decide_eq_true (by omega)
              have hno := HNO.out j _ HS.out (by unfold spOk; rw [decide_eq_true HQ.out, decide_eq_true hlo, decide_eq_false hhi]; rfl)
              have HF := Lib.hid (hno)
              clear hno hlo hhi
              go_wp2
              go_quiet (fail)
              go_wp2
              go_ret
              exact ⟨by rw [HF.out]; rfl, (H5.drewN nq).tail.tail⟩
          · have g1 : decide ((64 : Int) < (lo.length : Int)) = true := decide_eq_true (by omega)
            have hno := HNO.out j _ HS.out (by unfold spOk; rw [decide_eq_true HQ.out, decide_eq_false hlo]; rfl)
            have HF := Lib.hid (hno)
            clear hno hlo
            go_wp2
            go_quiet (fail)
            go_wp2
            go_ret
            exact ⟨by rw [HF.out]; rfl, (H5.drewN nq).tail.tail⟩
        · rw [decide_eq_false hq] at hE
          have hno := HNO.out j _ HS.out (by unfold spOk; rw [HT.out, decide_eq_false (fun e => hq (by cases e; rfl))]; rfl)
          have HF := Lib.hid (hno)
          clear hno hq
          go_wp2
          go_quiet (fail)
          go_wp2
          go_ret
          exact ⟨by rw [HF.out]; rfl, (H5.drewN nq).tail.tail⟩
      · obtain rfl : j = l.length := by omega
        have hy := HYES.out hN.out
        have HF := Lib.hid (hy)
        clear hy
        go_wp2
        go_ret
        exact ⟨by rw [HF.out]; rfl, H.tail⟩
  · have hne : (((joinS l).length : Int) != (l.length : Int)) = true := bne_iff_ne.2 (by omega)
    rw [spansB_len hlen]
    clear hlen
    go_enter Tryz.func77, Tryz.ntmps77
    go_wp2_with fail
    refine (HJ.out).mono ?_
    rintro e w2 ⟨A1, c1, rfl, H1⟩
    go_wp2
    go_ret
    exact ⟨rfl, H1.tail⟩

theorem keys_take (l : List Wt) (j : Nat) (x : Wt) (h : l[j]? = some x) : tsC ((l.take (j + 1)).map Wt.k) = tsC ((l.take j).map Wt.k) ++ [.string ⟨x.k.toArray⟩] := by
  rw [List.take_add_one, h]
  simp [tsC, encStr]
set_option maxRecDepth 100000 in
set_option maxHeartbeats 4000000 in
theorem efKeys_any {W w : World} {L : List SL} (x : Ef) (p : EfAt) (hx : EfOk x) (hr : EfRd W L x p) (H : Sat W w L) :
    Calls Tryz.prog 18 #[x.v p] w fun e w' => ∃ A' c', e = .returned (.slice A' x.keys.length c') ∧ Sat W w' (seenS 9 (.slice A' x.keys.length c') x.keys.length (tsC x.keys) :: L) := by
  obtain ⟨i0, hi, hz0, hz1, hz2⟩ := info_parts infoStr
  have hl := hx.ws
  have hrw := hr.r''
  obtain ⟨why, steps, rs, ss, ws⟩ := x
  obtain ⟨A, c, A', c', A'', c''⟩ := p
  dsimp only at hl hrw
  have H1 := H.alloc #[.int .i64 why, .int .i64 steps, .slice A rs.length c, .slice A' ss.length c', .slice A'' ws.length c''] 26
  have c4 := H1.cell 4
  have hkl : (Ef.keys ⟨why, steps, rs, ss, ws⟩) = ws.map Wt.k := rfl
  rw [hkl]
  have hml : (ws.map Wt.k).length = ws.length := List.length_map ..
  rw [hml]
  clear hx hr hkl hml H
  show Calls Tryz.prog 18 #[.agg #[.int .i64 why, .int .i64 steps, .slice A rs.length c, .slice A' ss.length c', .slice A'' ws.length c'']] w _
  go_enter Tryz.func18, Tryz.ntmps18
  go_wp2
  go_loopw [3, 9] (fun ou i wc => ∃ (j : Nat) (Ao : Option Addr) (co : Nat), j ≤ ws.length ∧ i = .int .i64 j ∧ ou = .slice Ao j co ∧ Sat W wc (seenS 9 (.slice Ao j co) j (tsC ((ws.take j).map Wt.k)) :: pt w.heap.size #[.int .i64 why, .int .i64 steps, .slice A rs.length c, .slice A' ss.length c', .slice A'' ws.length c''] 26 :: L)) (fun _ i _ => ws.length - (intOf i).toNat)
  case atStart => exact ⟨0, none, 0, by omega, rfl, rfl, H1.new_nil _ _⟩
  case round =>
    clear H1
    obtain ⟨j, Ao, co, hj, rfl, rfl, H⟩ := hrel
    by_cases hlt : j < ws.length
    · obtain ⟨x, hx⟩ : ∃ x, ws[j]? = some x := ⟨_, List.getElem?_eq_getElem (by omega)⟩
      obtain ⟨b, o, rfl, c0, c1, c2, _⟩ := wt_cells (hrw _ H.tail.tail) j x hx
      have HK := Lib.hid (keys_take ws j x hx)
      obtain ⟨k, v, d⟩ := x
      dsimp only at c0 c1 c2 HK
      have H5 := H.alloc #[.string ⟨k.toArray⟩, .string ⟨v.toArray⟩, .bool d] 65
      have d0 := H5.cell 0
      have H6 := H5.alloc #[.string ⟨k.toArray⟩] 9
      rw [World.size_alloc] at H6
      clear hx hrw
      go_wp2_with (first
        | (at_builtin
           ((refine wpList_append_new rfl (.tmp 13) (.tmp 16) 22 rfl 9 i0 _ zS 16 Tryz.underlying22 hi hz0 rfl hz1 hz2 (by simp) _ j _ rfl (H6.pull 2) (some ⟨wr.heap.size + 1, 0, none⟩) 1 1 [.string ⟨k.toArray⟩] rfl rfl (RdL.pt _ H6) (by simp [Value.oneCell']) (by unfold maxLen; omega) (by omega) ?_); intro A7 c7 w7 H7)))
      refine ⟨⟨j + 1, A7, c7, by omega, by go_num, rfl, ?_⟩, by simp [intOf]; omega⟩
      rw [HK.out]
      exact (H7.swap.tail).swap.tail
    · obtain rfl : j = ws.length := by omega
      rw [List.take_length] at H
      go_wp2
      go_ret
      exact ⟨Ao, co, rfl, H.swap.tail⟩
end Go.Proofs.YtodbmeklbamcfaaGreat

/- effect.Check and effect.Meets. -/
namespace Go.Proofs.YtodbmeklbamcfaaGreat
open Go.RowKit Go.Rt

set_option maxRecDepth 100000 in
set_option maxHeartbeats 4000000 in
theorem efMeets_any {W w : World} {L : List SL} (x : Ef) (p : EfAt) (hx : EfOk x) (hr : EfRd W L x p) (B : Option Addr) (cb : Nat) (l : List Str) (hl : l.length ≤ 100000) (hlt : ∀ t ∈ l, t.length ≤ 1000000) (hrl : RdL W L B (tsC l)) (H : Sat W w L) :
    Calls Tryz.prog 22 #[x.v p, .slice B l.length cb] w fun e w' => e = .returned (.bool (meetsX x l)) ∧ Sat W w' L := by
  have h1 := hx.rs
  have h2 := hx.ss
  have h3 := hx.ts
  have r1 := hr.r
  have r2 := hr.r'
  obtain ⟨why, steps, rs, ss, ws⟩ := x
  obtain ⟨A, c, A', c', A'', c''⟩ := p
  dsimp only at h1 h2 h3 r1 r2
  have hm : ∀ n : Nat, n ≤ 1000000 → n ≤ maxLen := fun n h => by unfold maxLen; omega
  have H1 := H.alloc #[.int .i64 why, .int .i64 steps, .slice A rs.length c, .slice A' ss.length c', .slice A'' ws.length c''] 26
  have c2 := H1.cell 2
  have c3 := H1.cell 3
  have HM := Lib.hid (eMeets_any B A A' cb c c' l rs ss (by omega) (fun t h => hm _ (hlt t h)) (by omega) (fun t h => hm _ (h3 t h)) (hm _ (by omega)) hrl.tail r1.tail r2.tail H1)
  have e1 : meetsX ⟨why, steps, rs, ss, ws⟩ l = meetsB l rs ss := rfl
  rw [e1]
  clear e1 hx hr h3 r1 r2 hlt hrl H H1
  show Calls Tryz.prog 22 #[.agg #[.int .i64 why, .int .i64 steps, .slice A rs.length c, .slice A' ss.length c', .slice A'' ws.length c''], .slice B l.length cb] w _
  go_enter Tryz.func22, Tryz.ntmps22
  go_wp2_with fail
  refine (HM.out).mono ?_
  rintro e w2 ⟨rfl, H2⟩
  go_wp2
  go_ret
  exact ⟨rfl, H2.tail⟩

/-- What of an effect is asked ahead of its keys and writes. -/
def fineH (x : Ef) : Bool := decide (0 ≤ x.why) && (decide (x.why ≤ 3) && (decide (0 ≤ x.steps) && (decide (x.steps ≤ 200) && (checkK x.rs && (checkK x.keys && spansB x.ss)))))
theorem fineX_of (x : Ef) : fineX x = (fineH x && (x.rs.all keyB && (x.ws.all mayW && (decide (x.why = 0) || x.ws.isEmpty)))) := by
  unfold fineX fineH
  rw [Bool.decide_and, Bool.decide_and]
  simp only [Bool.and_assoc]
theorem all_take {α : Type} {l : List α} {p : α → Bool} {j : Nat} {x : α} (h : l[j]? = some x) : (l.take (j + 1)).all p = ((l.take j).all p && p x) := by
  rw [List.take_add_one, h]; simp [List.all_append]

set_option maxRecDepth 100000 in
set_option maxHeartbeats 16000000 in
theorem efChk_any {W w : World} {L : List SL} (x : Ef) (p : EfAt) (hx : EfOk x) (hr : EfRd W L x p) (H : Sat W w L) :
    Calls Tryz.prog 27 #[x.v p] w fun e w' => e = .returned (.int .i64 (checkX x)) ∧ Sat W w' L := by
  have h1 := hx.rs
  have h2 := hx.ss
  have h3 := hx.ws
  have r1 := hr.r
  have r2 := hr.r'
  have r3 := hr.r''
  have b2 := hr.b'
  have hfx := fineX_of x
  have hck : checkX x = if 60 < x.rs.length + x.ss.length + x.ws.length then 3 else if fineX x then 0 else 2 := rfl
  have hfh : fineH x = (decide (0 ≤ x.why) && (decide (x.why ≤ 3) && (decide (0 ≤ x.steps) && (decide (x.steps ≤ 200) && (checkK x.rs && (checkK x.keys && spansB x.ss)))))) := rfl
  generalize checkX x = C at *
  generalize fineX x = fx at *
  generalize fineH x = fh at *
  have hkl : x.keys.length = x.ws.length := List.length_map ..
  have hv : x.v p = .agg (x.cs p).toArray := rfl
  obtain ⟨why, steps, rs, ss, ws⟩ := x
  obtain ⟨A, c, A', c', A'', c''⟩ := p
  dsimp only [Ef.cs] at h1 h2 h3 r1 r2 r3 b2 hfx hck hfh hv hkl
  rw [hv]
  have hkk : ∀ (w0 : World) (L0 : List SL), EfRd W L0 ⟨why, steps, rs, ss, ws⟩ ⟨A, c, A', c', A'', c''⟩ → Sat W w0 L0 → Calls Tryz.prog 18 #[.agg #[.int .i64 why, .int .i64 steps, .slice A rs.length c, .slice A' ss.length c', .slice A'' ws.length c'']] w0 fun e w' => ∃ A' c', e = .returned (.slice A' (Ef.keys ⟨why, steps, rs, ss, ws⟩).length c') ∧ Sat W w' (seenS 9 (.slice A' (Ef.keys ⟨why, steps, rs, ss, ws⟩).length c') (Ef.keys ⟨why, steps, rs, ss, ws⟩).length (tsC (Ef.keys ⟨why, steps, rs, ss, ws⟩)) :: L0) := fun w0 L0 hr h => efKeys_any (⟨why, steps, rs, ss, ws⟩ : Ef) (⟨A, c, A', c', A'', c''⟩ : EfAt) hx hr h
  have HKK := Lib.hid (hkk)
  clear hkk
  generalize Ef.keys ⟨why, steps, rs, ss, ws⟩ = ks at *
  have H1 := H.alloc #[.int .i64 why, .int .i64 steps, .slice A rs.length c, .slice A' ss.length c', .slice A'' ws.length c''] 26
  have H1r : EfRd W (pt w.heap.size #[.int .i64 why, .int .i64 steps, .slice A rs.length c, .slice A' ss.length c', .slice A'' ws.length c''] 26 :: L) ⟨why, steps, rs, ss, ws⟩ ⟨A, c, A', c', A'', c''⟩ := hr.tail
  have i0 := H1.cell 0
  have i1 := H1.cell 1
  have i2 := H1.cell 2
  have i3 := H1.cell 3
  have i4 := H1.cell 4
  have s1 : IntKind.i64.wrap ((rs.length : Int) + (ss.length : Int)) = (rs.length : Int) + (ss.length : Int) := IntWalk.i64_in _ (by omega)
  have s2 : IntKind.i64.wrap ((rs.length : Int) + (ss.length : Int) + (ws.length : Int)) = (rs.length : Int) + (ss.length : Int) + (ws.length : Int) := IntWalk.i64_in _ (by omega)
  by_cases hbig : 60 < rs.length + ss.length + ws.length
  · rw [if_pos hbig] at hck
    subst hck
    have g1 : (60 : Int) < (rs.length : Int) + (ss.length : Int) + (ws.length : Int) := by omega
    clear hbig hfx hfh hv hr hx
    go_enter Tryz.func27, Tryz.ntmps27
    go_wp2
    go_ret
    exact ⟨rfl, H1.tail⟩
  · rw [if_neg hbig] at hck
    have g1 : ¬ (60 : Int) < (rs.length : Int) + (ss.length : Int) + (ws.length : Int) := by omega
    have HC := Lib.hid (hck)
    have HFX := Lib.hid (hfx)
    have HFH := Lib.hid (hfh)
    clear hbig hck hfx hfh hv hr hx
    have hm : ∀ n : Nat, n ≤ 1000000 → n ≤ maxLen := fun n h => by unfold maxLen; omega
    have hE1 : ∀ (w0 : World), Sat W w0 (pt w.heap.size #[.int .i64 why, .int .i64 steps, .slice A rs.length c, .slice A' ss.length c', .slice A'' ws.length c''] 26 :: L) → Calls Tryz.prog 51 #[.slice A rs.length c] w0 fun e w' => e = .returned (.bool (checkK rs)) ∧ Below w0.heap.size w0 w' := fun w0 h => eCheck_any A c rs (hm _ (by omega)) (r1.tail _ h)
    have hE2 : ∀ (w0 : World) (A5 : Option Addr) (c5 : Nat), Rd w0 A5 (tsC ks) → Calls Tryz.prog 51 #[.slice A5 ks.length c5] w0 fun e w' => e = .returned (.bool (checkK ks)) ∧ Below w0.heap.size w0 w' := fun w0 A5 c5 h => eCheck_any A5 c5 ks (hm _ (by omega)) h
    have hE3 : ∀ (w0 : World) (L0 : List SL), RdL W L0 A' (spC ss) → Sat W w0 L0 → Calls Tryz.prog 77 #[.slice A' ss.length c'] w0 fun e w' => e = .returned (.bool (spansB ss)) ∧ Sat W w' L0 := fun w0 L0 hr h => efSpans_any A' c' ss h2 b2 hr h
    have HR2 := Lib.hid (r2)
    have HR1 := Lib.hid (H1r)
    generalize checkK rs = rb at *
    generalize checkK ks = kb at *
    generalize spansB ss = sb at *
    have HE1 := Lib.hid (hE1)
    have HE2 := Lib.hid (hE2)
    have HE3 := Lib.hid (hE3)
    clear hE1 hE2 hE3 hkl
    go_enter Tryz.func27, Tryz.ntmps27
    go_upto_region 3 with fail
    go_cut [3] (fun v wx => v = .bool fh ∧ Sat W wx (pt w.heap.size #[.int .i64 why, .int .i64 steps, .slice A rs.length c, .slice A' ss.length c', .slice A'' ws.length c''] 26 :: L))
    case first =>
      clear HC HFX r1 r2 r3
      by_cases a1 : 0 ≤ why
      · by_cases a2 : why ≤ 3
        · by_cases a3 : 0 ≤ steps
          · by_cases a4 : steps ≤ 200
            · have hfh2 : fh = (rb && (kb && sb)) := by rw [HFH.out]; simp [a1, a2, a3, a4]
              clear HFH
              subst hfh2
              go_wp2_with fail
              refine (HE1.out _ H1).mono ?_
              rintro e w2 ⟨rfl, hb2⟩
              have H2 := H1.below hb2
              clear i0 i1 i2 i3 i4 HE1
              cases rb with
              | false =>
                go_wp2_with fail
                go_meet
                exact ⟨rfl, H2⟩
              | true =>
                have j0 := H2.cell 0
                have j1 := H2.cell 1
                have j2 := H2.cell 2
                have j3 := H2.cell 3
                have j4 := H2.cell 4
                go_wp2_with fail
                refine (HKK.out _ _ HR1.out H2).mono ?_
                rintro e w3 ⟨A5, c5, rfl, H3⟩
                clear j0 j1 j2 j3 j4
                go_wp2_with fail
                refine (HE2.out _ A5 c5 H3.new_rd).mono ?_
                rintro e w4 ⟨rfl, hb4⟩
                have H4 := H3.below hb4
                have k3 := H4.tail.cell 3
                cases kb with
                | false =>
                  go_wp2_with fail
                  go_meet
                  exact ⟨rfl, H4.tail⟩
                | true =>
                  go_wp2_with fail
                  refine (HE3.out _ _ HR2.out.tail.tail H4).mono ?_
                  rintro e w5 ⟨rfl, H5⟩
                  go_wp2_with fail
                  go_meet
                  exact ⟨by simp, H5.tail⟩
            · obtain rfl : fh = false := by rw [HFH.out]; simp [a4]
              clear HE1 HE2 HE3 HFH
              go_wp2_with fail
              go_meet
              exact ⟨rfl, H1⟩
          · obtain rfl : fh = false := by rw [HFH.out]; simp [a3]
            clear HE1 HE2 HE3 HFH
            go_wp2_with fail
            go_meet
            exact ⟨rfl, H1⟩
        · obtain rfl : fh = false := by rw [HFH.out]; simp [a2]
          clear HE1 HE2 HE3 HFH
          go_wp2_with fail
          go_meet
          exact ⟨rfl, H1⟩
      · obtain rfl : fh = false := by rw [HFH.out]; simp [a1]
        clear HE1 HE2 HE3 HFH
        go_wp2_with fail
        go_meet
        exact ⟨rfl, H1⟩
    case rest =>
      obtain ⟨rfl, H2⟩ := hcut
      clear H1 H1r HKK HR1 HE1 HE2 HE3 HFH i0 i1 i2 i3 i4 HR2
      have i2 := H2.cell 2
      have hst1 : ∀ j k, rs[j]? = some k → (fh && (rs.take (j + 1)).all keyB) = ((fh && (rs.take j).all keyB) && keyB k) := fun j k h => by rw [all_take h, Bool.and_assoc]
      have HST1 := Lib.hid (hst1)
      clear hst1
      go_wp2
      go_loopw [3, 56] (fun f i wx => ∃ j : Nat, j ≤ rs.length ∧ i = .int .i64 j ∧ f = .bool (fh && (rs.take j).all keyB) ∧ Sat W wx (pt w.heap.size #[.int .i64 why, .int .i64 steps, .slice A rs.length c, .slice A' ss.length c', .slice A'' ws.length c''] 26 :: L)) (fun _ i _ => rs.length - (intOf i).toNat)
      case atStart => exact ⟨0, by omega, rfl, by simp, H2⟩
      case round =>
        clear H2 i2
        obtain ⟨j, hj, rfl, rfl, H⟩ := hrel
        by_cases hlt : j < rs.length
        · obtain ⟨k, hk⟩ : ∃ x, rs[j]? = some x := ⟨_, List.getElem?_eq_getElem (by omega)⟩
          obtain ⟨b, o, rfl, c0⟩ := ts_at (r1.tail _ H) j k hk
          have h9 := HST1.out j k hk
          generalize (fh && (rs.take j).all keyB) = g at *
          cases g with
          | false =>
            have H9 := Lib.hid (h9)
            clear hk h9 r1
            go_wp2
            exact ⟨⟨j + 1, by omega, by go_num, by rw [H9.out]; rfl, H⟩, by simp [intOf]; omega⟩
          | true =>
            rw [Bool.true_and] at h9
            have H9 := Lib.hid (h9)
            have hK := Lib.hid (cKey_is k _ rfl wr)
            generalize keyB k = v at *
            clear hk h9 r1
            go_wp2_with fail
            refine (hK.out).mono ?_
            rintro e _ ⟨rfl, rfl⟩
            go_wp2
            exact ⟨⟨j + 1, by omega, by go_num, by rw [H9.out], H⟩, by simp [intOf]; omega⟩
        · obtain rfl : j = rs.length := by omega
          rw [List.take_length]
          have i4 := H.cell 4
          have hfx : fx = ((fh && rs.all keyB) && (ws.all mayW && (decide (why = 0) || ws.isEmpty))) := by rw [HFX.out, Bool.and_assoc]
          have HFX2 := Lib.hid (hfx)
          clear HFX hfx HST1
          generalize (fh && rs.all keyB) = g1' at *
          have hst2 : ∀ j k, ws[j]? = some k → (g1' && (ws.take (j + 1)).all mayW) = ((g1' && (ws.take j).all mayW) && mayW k) := fun j k h => by rw [all_take h, Bool.and_assoc]
          have HST2 := Lib.hid (hst2)
          clear hst2
          go_wp2
          go_loopw [3, 69] (fun f i wx => ∃ j : Nat, j ≤ ws.length ∧ i = .int .i64 j ∧ f = .bool (g1' && (ws.take j).all mayW) ∧ Sat W wx (pt w.heap.size #[.int .i64 why, .int .i64 steps, .slice A rs.length c, .slice A' ss.length c', .slice A'' ws.length c''] 26 :: L)) (fun _ i _ => ws.length - (intOf i).toNat)
          case atStart => exact ⟨0, by omega, rfl, by simp, H⟩
          case round =>
            clear H i4
            obtain ⟨j, hj, rfl, rfl, H⟩ := hrel
            by_cases hlt : j < ws.length
            · obtain ⟨k, hk⟩ : ∃ x, ws[j]? = some x := ⟨_, List.getElem?_eq_getElem (by omega)⟩
              obtain ⟨b, o, rfl, c0, c1, c2, _⟩ := wt_cells (r3.tail _ H) j k hk
              have h9 := HST2.out j k hk
              generalize (g1' && (ws.take j).all mayW) = g at *
              obtain ⟨kk, kv, kd⟩ := k
              dsimp only at c0 c1 c2
              have H5 := H.alloc #[.string ⟨kk.toArray⟩, .string ⟨kv.toArray⟩, .bool kd] 65
              cases g with
              | false =>
                have H9 := Lib.hid (h9)
                clear hk h9 r3
                go_wp2
                exact ⟨⟨j + 1, by omega, by go_num, by rw [H9.out]; rfl, H5.tail⟩, by simp [intOf]; omega⟩
              | true =>
                rw [Bool.true_and] at h9
                have H9 := Lib.hid (h9)
                have d0 := H5.cell 0
                have d1 := H5.cell 1
                have d2 := H5.cell 2
                have HM := Lib.hid (efWrite_any ⟨kk, kv, kd⟩ H5)
                dsimp only at HM
                generalize mayW ⟨kk, kv, kd⟩ = v at *
                clear hk h9 r3
                go_wp2_with fail
                refine (HM.out).mono ?_
                rintro e w7 ⟨rfl, H7⟩
                go_wp2
                exact ⟨⟨j + 1, by omega, by go_num, by rw [H9.out], H7.tail⟩, by simp [intOf]; omega⟩
            · obtain rfl : j = ws.length := by omega
              rw [List.take_length]
              have i0 := H.cell 0
              have i4 := H.cell 4
              have hfx : fx = ((g1' && ws.all mayW) && (decide (why = 0) || ws.isEmpty)) := by rw [HFX2.out, Bool.and_assoc]
              clear HFX2 HST2
              generalize (g1' && ws.all mayW) = g2' at *
              cases g2' with
              | false =>
                have hc : C = 2 := by rw [HC.out, hfx]; rfl
                have HCC := Lib.hid (hc)
                clear hfx hc HC
                go_wp2
                go_ret
                exact ⟨by rw [HCC.out]; rfl, H.tail⟩
              | true =>
                by_cases hw : why = 0
                · have hc : C = 0 := by rw [HC.out, hfx, decide_eq_true hw]; rfl
                  have e1 : (why != 0) = false := by rw [hw]; rfl
                  have HCC := Lib.hid (hc)
                  clear hfx hc HC hw
                  go_wp2
                  go_ret
                  exact ⟨by rw [HCC.out]; rfl, H.tail⟩
                · have e1 : (why != 0) = true := by simpa using hw
                  rw [decide_eq_false hw] at hfx
                  by_cases hws : ws = []
                  · subst hws
                    have hc : C = 0 := by rw [HC.out, hfx]; rfl
                    have HCC := Lib.hid (hc)
                    clear hfx hc HC hw
                    go_wp2
                    go_ret
                    exact ⟨by rw [HCC.out]; rfl, H.tail⟩
                  · have e3 : ws.isEmpty = false := by cases ws with | nil => exact absurd rfl hws | cons y l => rfl
                    have hc : C = 2 := by rw [HC.out, hfx, e3]; rfl
                    have hlp : 0 < ws.length := by cases ws with | nil => exact absurd rfl hws | cons y l => simp
                    have e2 : decide ((0 : Int) < (ws.length : Int)) = true := decide_eq_true (by omega)
                    have HCC := Lib.hid (hc)
                    clear hfx hc HC hw hws e3
                    go_wp2
                    go_ret
                    exact ⟨by rw [HCC.out]; rfl, H.tail⟩
end Go.Proofs.YtodbmeklbamcfaaGreat

/- The kit's functions on effects: too long, copied, held against each other, written over. -/
namespace Go.Proofs.YtodbmeklbamcfaaGreat
open Go.RowKit Go.Rt

theorem ef_size : (Tryz.prog.info? 26).map (·.size) = some 5 := by kernel_rfl
theorem ef_one (x : Ef) (p : EfAt) : ∀ u ∈ x.cs p, u.oneCell' = true := by
  intro u hu
  simp only [Ef.cs, List.mem_cons, List.not_mem_nil, or_false] at hu
  rcases hu with rfl | rfl | rfl | rfl | rfl <;> rfl

def longX (x : Ef) (n : Nat) : Bool := longK x.rs n || (longS x.ss n || longWt x.ws n)
theorem longX_ok {x : Ef} (h : longX x 70 = false) : EfOk x := by
  unfold longX at h
  rw [Bool.or_eq_false_iff, Bool.or_eq_false_iff] at h
  obtain ⟨h1, h2, h3⟩ := h
  have a1 := longK_no h1
  have a2 := longS_no h2
  have a3 := longWt_no h3
  refine ⟨by omega, by omega, by omega, fun t ht => ?_, fun s hs => ?_, fun w hw => ?_⟩
  · have := a1.2 t ht; omega
  · have := a2.2 s hs
    unfold bigSp at this
    simp only [Bool.or_eq_false_iff, decide_eq_false_iff_not] at this
    omega
  · have := a3.2 w hw; omega
set_option maxRecDepth 100000 in
set_option maxHeartbeats 4000000 in
theorem LongEffect_any {W w : World} {L : List SL} (x : Ef) (p : EfAt) (hr : EfRd W L x p) (H : Sat W w L) :
    Calls Tryz.prog 13 #[x.v p, .int .i64 70] w fun e w' => e = .returned (.bool (longX x 70)) ∧ Sat W w' L := by
  have b1 := hr.b.le
  have b2 := hr.b'.le
  have b3 := hr.b''.le
  have m1 := hr.b.max
  have m2 := hr.b'.max
  have m3 := hr.b''.max
  have r1 := hr.r
  have r2 := hr.r'
  have r3 := hr.r''
  obtain ⟨why, steps, rs, ss, ws⟩ := x
  obtain ⟨A, c, A', c', A'', c''⟩ := p
  dsimp only at b1 b2 b3 m1 m2 m3 r1 r2 r3
  have H1 := H.alloc #[.int .i64 why, .int .i64 steps, .slice A rs.length c, .slice A' ss.length c', .slice A'' ws.length c''] 26
  have c2 := H1.cell 2
  have c3 := H1.cell 3
  have c4 := H1.cell 4
  have K1 := LongKeys_any A c rs 70 (by omega) (Nat.le_trans b1 m1) (r1.tail _ H1)
  have K2 := LongSpans_any A' c' ss 70 (by omega) (Nat.le_trans b2 m2) (r2.tail _ H1)
  have K3 := LongWrites_any A'' c'' ws 70 (by omega) (Nat.le_trans b3 m3) (r3.tail _ H1)
  have e : longX ⟨why, steps, rs, ss, ws⟩ 70 = (longK rs 70 || (longS ss 70 || longWt ws 70)) := rfl
  rw [e]
  show Calls Tryz.prog 13 #[.agg #[.int .i64 why, .int .i64 steps, .slice A rs.length c, .slice A' ss.length c', .slice A'' ws.length c''], .int .i64 70] w _
  generalize longK rs 70 = q1 at *
  generalize longS ss 70 = q2 at *
  generalize longWt ws 70 = q3 at *
  have K1' := Lib.hid (K1)
  have K2' := Lib.hid (K2)
  have K3' := Lib.hid (K3)
  clear K1 K2 K3 r1 r2 r3 hr b1 b2 b3 m1 m2 m3 e
  go_enter Tryz.func13, Tryz.ntmps13
  go_wp2_with fail
  refine (K1'.out).mono ?_
  rintro e w2 ⟨rfl, rfl⟩
  cases q1 with
  | true =>
    go_wp2
    go_ret
    exact ⟨rfl, H1.tail⟩
  | false =>
    go_wp2_with fail
    refine (K2'.out).mono ?_
    rintro e w2 ⟨rfl, rfl⟩
    cases q2 with
    | true =>
      go_wp2
      go_ret
      exact ⟨rfl, H1.tail⟩
    | false =>
      go_wp2_with fail
      refine (K3'.out).mono ?_
      rintro e w2 ⟨rfl, rfl⟩
      go_wp2
      go_ret
      exact ⟨rfl, H1.tail⟩

theorem ef_ext {x y : Ef} : x = y ↔ x.why = y.why ∧ x.steps = y.steps ∧ x.rs = y.rs ∧ x.ss = y.ss ∧ x.ws = y.ws := by
  cases x; cases y; simp
instance : DecidableEq Ef := fun _ _ => decidable_of_iff _ ef_ext.symm
set_option maxRecDepth 100000 in
set_option maxHeartbeats 4000000 in
theorem SameEffect_any {W w : World} {L : List SL} (x y : Ef) (p q : EfAt) (hx : EfOk x) (hr : EfRd W L x p) (hr' : EfRd W L y q) (H : Sat W w L) :
    Calls Tryz.prog 26 #[x.v p, y.v q] w fun e w' => e = .returned (.bool (decide (x = y))) ∧ Sat W w' L := by
  have l1 := hx.rs
  have l2 := hx.ss
  have l3 := hx.ws
  have r1 := hr.r
  have r2 := hr.r'
  have r3 := hr.r''
  have s1 := hr'.r
  have s2 := hr'.r'
  have s3 := hr'.r''
  have hq : decide (x = y) = (decide (x.why = y.why) && (decide (x.steps = y.steps) && (decide (x.rs = y.rs) && (decide (x.ss = y.ss) && decide (x.ws = y.ws))))) := by
    rw [Bool.eq_iff_iff]
    simp only [Bool.and_eq_true, decide_eq_true_eq]
    exact ef_ext
  generalize decide (x = y) = R at *
  obtain ⟨why, steps, rs, ss, ws⟩ := x
  obtain ⟨A, c, A', c', A'', c''⟩ := p
  obtain ⟨why2, steps2, rs2, ss2, ws2⟩ := y
  obtain ⟨B, d, B', d', B'', d''⟩ := q
  dsimp only at l1 l2 l3 r1 r2 r3 s1 s2 s3 hq
  have H1 := H.alloc #[.int .i64 why, .int .i64 steps, .slice A rs.length c, .slice A' ss.length c', .slice A'' ws.length c''] 26
  have H2 := H1.alloc #[.int .i64 why2, .int .i64 steps2, .slice B rs2.length d, .slice B' ss2.length d', .slice B'' ws2.length d''] 26
  rw [World.size_alloc] at H2
  have hm : ∀ n : Nat, n ≤ 1000000 → n ≤ maxLen := fun n h => by unfold maxLen; omega
  have K1 := fun (w0 : World) (L0 : List SL) (h : Sat W w0 L0) (a : RdL W L0 A (tsC rs)) (b : RdL W L0 B (tsC rs2)) => SameTexts_any A B c d rs rs2 (hm _ (by omega)) (a _ h) (b _ h)
  have K2 := fun (w0 : World) (L0 : List SL) (h : Sat W w0 L0) (a : RdL W L0 A' (spC ss)) (b : RdL W L0 B' (spC ss2)) => SameSpans_any A' B' c' d' ss ss2 (hm _ (by omega)) (a _ h) (b _ h)
  have K3 := fun (w0 : World) (L0 : List SL) (h : Sat W w0 L0) (a : RdL W L0 A'' (wtC ws)) (b : RdL W L0 B'' (wtC ws2)) => SameWrites_any A'' B'' c'' d'' ws ws2 (hm _ (by omega)) (a _ h) (b _ h)
  show Calls Tryz.prog 26 #[.agg #[.int .i64 why, .int .i64 steps, .slice A rs.length c, .slice A' ss.length c', .slice A'' ws.length c''], .agg #[.int .i64 why2, .int .i64 steps2, .slice B rs2.length d, .slice B' ss2.length d', .slice B'' ws2.length d'']] w _
  by_cases e1 : why = why2
  · have f1 : (why == why2) = true := beq_iff_eq.2 e1
    rw [decide_eq_true e1] at hq
    by_cases e2 : steps = steps2
    · have f2 : (steps == steps2) = true := beq_iff_eq.2 e2
      rw [decide_eq_true e2] at hq
      simp only [Bool.true_and] at hq
      generalize decide (rs = rs2) = q1 at *
      generalize decide (ss = ss2) = q2 at *
      generalize decide (ws = ws2) = q3 at *
      subst hq
      have K1' := Lib.hid (K1 _ _ H2 r1.tail.tail s1.tail.tail)
      have K2' := Lib.hid (K2)
      have K3' := Lib.hid (K3)
      have R2 := Lib.hid (And.intro r2 s2)
      have R3 := Lib.hid (And.intro r3 s3)
      have a0 := H2.cell 0
      have a1 := H2.cell 1
      have a2 := H2.cell 2
      have b0 := H2.swap.cell 0
      have b1 := H2.swap.cell 1
      have b2 := H2.swap.cell 2
      clear K1 K2 K3 r1 r2 r3 s1 s2 s3 hr hr' hx e1 e2
      go_enter Tryz.func26, Tryz.ntmps26
      go_wp2_with fail
      refine (K1'.out).mono ?_
      rintro e w3 ⟨rfl, h3⟩
      have H3 := H2.below h3
      cases q1 with
      | false =>
        go_wp2
        go_ret
        exact ⟨rfl, H3.tail.tail⟩
      | true =>
        have a3 := H3.cell 3
        have b3 := H3.swap.cell 3
        go_wp2_with fail
        refine (K2'.out _ _ H3 R2.out.1.tail.tail R2.out.2.tail.tail).mono ?_
        rintro e w4 ⟨rfl, h4⟩
        have H4 := H3.below h4
        cases q2 with
        | false =>
          go_wp2
          go_ret
          exact ⟨rfl, H4.tail.tail⟩
        | true =>
          have a4 := H4.cell 4
          have b4 := H4.swap.cell 4
          go_wp2_with fail
          refine (K3'.out _ _ H4 R3.out.1.tail.tail R3.out.2.tail.tail).mono ?_
          rintro e w5 ⟨rfl, h5⟩
          have H5 := H4.below h5
          go_wp2
          go_ret
          exact ⟨rfl, H5.tail.tail⟩
    · have f2 : (steps == steps2) = false := beq_eq_false_iff_ne.2 e2
      rw [decide_eq_false e2] at hq
      obtain rfl : R = false := by rw [hq]; rfl
      have a0 := H2.cell 0
      have a1 := H2.cell 1
      have b0 := H2.swap.cell 0
      have b1 := H2.swap.cell 1
      clear K1 K2 K3 r1 r2 r3 s1 s2 s3 hr hr' hx e1 e2 hq
      go_enter Tryz.func26, Tryz.ntmps26
      go_wp2
      go_ret
      exact ⟨rfl, H2.tail.tail⟩
  · have f1 : (why == why2) = false := beq_eq_false_iff_ne.2 e1
    rw [decide_eq_false e1] at hq
    obtain rfl : R = false := by rw [hq]; rfl
    have a0 := H2.cell 0
    have b0 := H2.swap.cell 0
    clear K1 K2 K3 r1 r2 r3 s1 s2 s3 hr hr' hx e1 hq
    go_enter Tryz.func26, Tryz.ntmps26
    go_wp2
    go_ret
    exact ⟨rfl, H2.tail.tail⟩

/-- An effect's lists, its own. -/
def efL (x : Ef) (q : EfAt) (L : List SL) : List SL := row 65 zWt (.slice q.A'' x.ws.length q.c'') x.ws.length (wtC x.ws) :: row 74 zSp (.slice q.A' x.ss.length q.c') x.ss.length (spC x.ss) :: row 9 zS (.slice q.A x.rs.length q.c) x.rs.length (tsC x.rs) :: L
theorem _root_.Go.Rt.Sat.bsl {W w : World} {l : List SL} {e : TypeId} {zc : List Value} {A : Option Addr} {n c : Nat} {xs : List Value} (H : Sat W w (row e zc (.slice A n c) n xs :: l)) : Bsl A n c := by
  obtain ⟨_, A', c', hv, h1, h2, h3, _⟩ := H.slice
  cases hv
  exact ⟨h1, fun h => (h3 h).1, h2⟩
theorem efL_rd {W w : World} {L : List SL} {x : Ef} {q : EfAt} (H : Sat W w (efL x q L)) : EfRd W (efL x q L) x q :=
  ⟨H.tail.tail.bsl, H.tail.bsl, H.bsl, RdL.tail (RdL.tail RdL.row), RdL.tail RdL.row, RdL.row⟩
set_option maxRecDepth 100000 in
set_option maxHeartbeats 8000000 in
theorem CopyEffect_any {W w : World} {L : List SL} (x : Ef) (p : EfAt) (hx : EfOk x) (hr : EfRd W L x p) (H : Sat W w L) :
    Calls Tryz.prog 15 #[x.v p] w fun e w' => ∃ q, e = .returned (x.v q) ∧ Sat W w' (efL x q L) := by
  obtain ⟨i0, hi, hz0, hz1, hz2⟩ := info_parts infoWt
  have l1 := hx.rs
  have l2 := hx.ss
  have l3 := hx.ws
  have r1 := hr.r
  have r2 := hr.r'
  have r3 := hr.r''
  obtain ⟨why, steps, rs, ss, ws⟩ := x
  obtain ⟨A, c, A', c', A'', c''⟩ := p
  dsimp only at l1 l2 l3 r1 r2 r3
  have H1 := (H.alloc #[.int .i64 why, .int .i64 steps, .slice A rs.length c, .slice A' ss.length c', .slice A'' ws.length c''] 26).alloc #[.int .i64 0, .int .i64 0, .slice none 0 0, .slice none 0 0, .slice none 0 0] 26
  rw [World.size_alloc] at H1
  have c2 := H1.swap.cell 2
  have K1 := Lib.hid (CopyTexts_any A c rs (by omega) (r1.tail.tail _ H1) H1)
  have K2 := Lib.hid (fun (w0 : World) (L0 : List SL) (h : Sat W w0 L0) (r : RdL W L0 A' (spC ss)) => CopySpans_any A' c' ss (by omega) (r _ h) h)
  have R2 := Lib.hid (r2)
  have R3 := Lib.hid (r3)
  clear r1 r2 r3 hr hx H
  show Calls Tryz.prog 15 #[.agg #[.int .i64 why, .int .i64 steps, .slice A rs.length c, .slice A' ss.length c', .slice A'' ws.length c'']] w _
  go_enter Tryz.func15, Tryz.ntmps15
  go_wp2_with fail
  refine (K1.out).mono ?_
  rintro e w2 ⟨A1, c1, rfl, H2⟩
  clear c2 K1
  have d2 := (H2.pull 2).cell 2
  have f2 := (H2.pull 2).frz 2
  have H3 := (H2.pull 2).setCell 2 (.slice A1 rs.length c1)
  generalize hw3 : w2.setCell ⟨w.heap.size, 2, none⟩ (.slice A1 rs.length c1) = w3 at H3
  have d3 : w3.cell? ⟨w.heap.size, 3, none⟩ = some (.slice A' ss.length c') := H3.cell 3
  go_wp2_with fail
  refine (K2.out _ _ H3 R2.out.tail.tail.tail).mono ?_
  rintro e w4 ⟨A2, c2, rfl, H4⟩
  clear d2 f2 hw3 d3 K2
  have d2 := (H4.pull 1).cell 3
  have f2 := (H4.pull 1).frz 3
  have H5 := (H4.pull 1).setCell 3 (.slice A2 ss.length c2)
  generalize hw5 : w4.setCell ⟨w.heap.size, 3, none⟩ (.slice A2 ss.length c2) = w5 at H5
  have d4 : w5.cell? ⟨w.heap.size, 4, none⟩ = some (.slice A'' ws.length c'') := H5.cell 4
  have H6 := H5.made #[] 65 zWt 0 0 (by omega) (by unfold maxLen; omega) rfl (Typed.nil _)
  have d5 : (w5.alloc (.cells #[] 65)).cell? ⟨w.heap.size, 4, none⟩ = some (.slice A'' ws.length c'') := Lib.cell?_alloc_some _ d4
  go_wp2_with (first
    | (at_builtin
       ((refine wpList_append_sl rfl (.tmp 11) (.tmp 13) 24 rfl 65 i0 _ zWt 40 Tryz.underlying24 hi hz0 rfl hz1 hz2 (by simp) zWt_like _ 0 [] rfl H6 A'' ws.length c'' (wtC ws) rfl (wtC_len ws) (R3.out.tail.tail.tail.tail.tail _ H6) (wtC_one ws) (wtC_typed ws) (by unfold maxLen; omega) (by omega) ?_); intro A3 c3 w7 H7; rw [Nat.zero_add, List.nil_append] at H7; rw [Nat.zero_add]; (have g4 := (H7.pull 1).cell 4); (have k4 := (H7.pull 1).frz 4); (have H8 := (H7.pull 1).setCell 4 (.slice A3 ws.length c3)); (generalize hw8 : w7.setCell ⟨w.heap.size, 4, none⟩ (.slice A3 ws.length c3) = w8 at H8); (have HR : Rd w8 (some ⟨w.heap.size, 0, none⟩) [.int .i64 why, .int .i64 steps, .slice A1 rs.length c1, .slice A2 ss.length c2, .slice A3 ws.length c3] := RdL.pt _ H8)))
    | (refine wpList_load_rd rfl (.tmp 1) 26 rfl w.heap.size 0 [.int .i64 why, .int .i64 steps, .slice A1 rs.length c1, .slice A2 ss.length c2, .slice A3 ws.length c3] (by rw [Tryz.underlying26]) ef_size (by simp [Act.eval]) HR ?_)
    | (((refine wpList_store_pt rfl rfl (.tmp 2) (.tmp 16) 26 rfl (w.heap.size + 1) #[.int .i64 0, .int .i64 0, .slice none 0 0, .slice none 0 0, .slice none 0 0] 26 [.int .i64 why, .int .i64 steps, .slice A1 rs.length c1, .slice A2 ss.length c2, .slice A3 ws.length c3] ef_size rfl rfl rfl (ef_one ⟨why, steps, rs, ss, ws⟩ ⟨A1, c1, A2, c2, A3, c3⟩) (H8.pull 4) ?_); intro w9 H9)))
  exact bodyPost_ret (v := .agg (List.toArray [.int .i64 why, .int .i64 steps, .slice A1 rs.length c1, .slice A2 ss.length c2, .slice A3 ws.length c3])) (results_cell_row Tryz.results15 _ w9 (w.heap.size + 1) 26 (List.toArray [.int .i64 why, .int .i64 steps, .slice A1 rs.length c1, .slice A2 ss.length c2, .slice A3 ws.length c3]) (0, 0) _ rfl H9.heap Tryz.underlying26 rfl ef_size) rfl ⟨⟨A1, c1, A2, c2, A3, c3⟩, rfl, H9.tail.tail⟩
end Go.Proofs.YtodbmeklbamcfaaGreat
