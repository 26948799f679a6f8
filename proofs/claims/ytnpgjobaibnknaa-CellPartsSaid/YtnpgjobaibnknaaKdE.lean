/- Lists of keys, one behind the other; the set of either. -/
import Derived.Test.YtnpgjobaibnknaaKdD
import Derived.Test.YtnpgjobaibnknaaRtK
namespace Go.Proofs.Ytnpgjobaibnknaa
open Go.RowKit Go.Rt

set_option maxRecDepth 100000 in
theorem eGrow_any {W w : World} {L : List SL} (n : Nat) (hn : n ≤ 1000000000) (H : Sat W w L) :
    Calls Try.prog 101 #[.slice none 0 0, .int .i64 n] w fun e w' => ∃ A c, e = .returned (.slice A 0 c) ∧ Sat W w' (row 9 zS (.slice A 0 c) 0 [] :: L) := by
  obtain ⟨i0, hi, hz0, hz1, hz2⟩ := info_parts infoStr
  by_cases h0 : n = 0
  · subst h0
    go_enter Try.func101, Try.ntmps101
    go_wp2
    go_ret
    exact ⟨none, 0, rfl, H.nil _ _⟩
  · have hp : (0 : Int) < (n : Int) := by omega
    go_enter Try.func101, Try.ntmps101
    go_wp2_with (first
      | (refine wpList_append_zeros rfl (.tmp 20) (.tmp 21) 22 3 rfl 9 i0 _ zS .i64 Try.underlying22 Try.underlying3 hi hz0 rfl hz1 (by simp) zS_like rfl n rfl (by omega) (by unfold maxLen; omega) (by rw [hz2]; omega) H ?_
         intro g c' w1 H1 hc))
    go_ret
    exact ⟨_, c', rfl, H1⟩

/-- A list of texts as a slice's value; lists, one behind the other. -/
abbrev tsV (p : Option Addr × Nat × List Str) : Value := .slice p.1 p.2.2.length p.2.1
def catT (ps : List (Option Addr × Nat × List Str)) : List Str := ps.flatMap (·.2.2)
theorem catT_append (a b : List (Option Addr × Nat × List Str)) : catT (a ++ b) = catT a ++ catT b := by simp [catT]

set_option maxRecDepth 100000 in
set_option maxHeartbeats 4000000 in
theorem eConcat_any {W w : World} {L : List SL} (b o c : Nat) (ps : List (Option Addr × Nat × List Str)) (hr : RdL W L (some ⟨b, o, none⟩) (ps.map tsV)) (hp : ∀ p ∈ ps, RdL W L p.1 (tsC p.2.2)) (hn : ps.length ≤ 1000000) (hb : (catT ps).length ≤ 1000000000) (H : Sat W w L) :
    Calls Try.prog 88 #[.slice (some ⟨b, o, none⟩) ps.length c] w fun e w' => ∃ A' c', e = .returned (.slice A' (catT ps).length c') ∧ Sat W w' (row 9 zS (.slice A' (catT ps).length c') (catT ps).length (tsC (catT ps)) :: L) := by
  obtain ⟨i0, hi, hz0, hz1, hz2⟩ := info_parts infoStr
  have hlen : ∀ j, (catT (ps.take j)).length ≤ (catT ps).length := fun j => by
    have h2 : catT ps = catT (ps.take j) ++ catT (ps.drop j) := by rw [← catT_append, List.take_append_drop]
    rw [h2, List.length_append]; omega
  have hstep : ∀ j p, ps[j]? = some p → catT (ps.take (j + 1)) = catT (ps.take j) ++ p.2.2 := fun j p h => by
    rw [List.take_add_one, h, catT_append]; simp [catT]
  have HLEN := Lib.hid hlen
  have HSTEP := Lib.hid hstep
  clear hlen hstep
  go_enter Try.func88, Try.ntmps88
  go_wp2
  go_loopw [3, 11] (fun n i wc => ∃ j : Nat, j ≤ ps.length ∧ i = .int .i64 j ∧ n = .int .i64 ((catT (ps.take j)).length : Nat) ∧ Sat W wc L) (fun _ i _ => ps.length - (intOf i).toNat)
  case atStart => exact ⟨0, by omega, rfl, rfl, H⟩
  case round =>
    obtain ⟨j, hj, rfl, rfl, H1⟩ := hrel
    by_cases hlt : j < ps.length
    · obtain ⟨p, hx⟩ : ∃ p, ps[j]? = some p := ⟨_, List.getElem?_eq_getElem hlt⟩
      have hcell : wr.cell? ⟨b, o + j, none⟩ = some (.slice p.1 p.2.2.length p.2.1) := (hr _ H1).at j (by simp [hx])
      have hst := HSTEP.out j p hx
      have hl1 := HLEN.out (j + 1)
      rw [hst, List.length_append] at hl1
      obtain ⟨Ap, cp, xs⟩ := p
      dsimp only at hcell hst hl1
      have HST := Lib.hid hst
      clear hst hx
      generalize catT (ps.take j) = acc at *
      have hnn : ¬ ((acc.length : Int) + (xs.length : Int)) < 0 := by omega
      go_wp2
      exact ⟨⟨j + 1, by omega, by go_num, by rw [HST.out, List.length_append]; go_num, H1⟩, by simp [intOf]; omega⟩
    · obtain rfl : j = ps.length := by omega
      have htk : catT (ps.take ps.length) = catT ps := by rw [List.take_length]
      rw [htk]
      have HTK := Lib.hid htk
      clear htk
      have hgr := eGrow_any (catT ps).length hb H1
      have HGR := Lib.hid hgr
      clear hgr
      go_wp2_with fail
      refine HGR.out.mono ?_
      rintro e w2 ⟨A2, c2, rfl, H2⟩
      clear HGR H1
      go_wp2
      go_loopw [6, 27] (fun v i wc => ∃ (j : Nat) (A' : Option Addr) (c' : Nat), j ≤ ps.length ∧ i = .int .i64 j ∧ v = .slice A' (catT (ps.take j)).length c' ∧ Sat W wc (row 9 zS (.slice A' (catT (ps.take j)).length c') (catT (ps.take j)).length (tsC (catT (ps.take j))) :: L)) (fun _ i _ => ps.length - (intOf i).toNat)
      case atStart => exact ⟨0, A2, c2, by omega, rfl, rfl, H2⟩
      case round =>
        obtain ⟨j, A', c', hj, rfl, rfl, H3⟩ := hrel
        clear H2
        by_cases hlt : j < ps.length
        · obtain ⟨p, hx⟩ : ∃ p, ps[j]? = some p := ⟨_, List.getElem?_eq_getElem hlt⟩
          have hrp := hp p (List.mem_of_getElem? hx) _ H3.tail
          have hcell : wr.cell? ⟨b, o + j, none⟩ = some (.slice p.1 p.2.2.length p.2.1) := (hr _ H3.tail).at j (by simp [hx])
          have hst := HSTEP.out j p hx
          have hl1 := HLEN.out (j + 1)
          rw [hst, List.length_append] at hl1
          obtain ⟨Ap, cp, xs⟩ := p
          dsimp only at hrp hcell hst hl1
          have HST := Lib.hid hst
          clear hst hx
          generalize catT (ps.take j) = acc at *
          go_wp2_with (first
            | (at_builtin
               refine wpList_append_sl rfl (.tmp 31) (.tmp 32) 22 rfl 9 i0 _ zS 16 Try.underlying22 hi hz0 rfl hz1 hz2 (by simp) zS_like _ acc.length _ rfl H3 Ap xs.length cp (tsC xs) rfl (by simp [tsC]) hrp (tsC_one xs) (tsC_typed xs) (by unfold maxLen; omega) (by omega) ?_
               intro A4 c4 w4 H4))
          have H5 : Sat W w4 (row 9 zS (.slice A4 (catT (ps.take (j + 1))).length c4) (catT (ps.take (j + 1))).length (tsC (catT (ps.take (j + 1)))) :: L) := by
            rw [HST.out, List.length_append, tsC_append]
            exact H4
          exact ⟨⟨j + 1, A4, c4, by omega, by go_num, by rw [HST.out, List.length_append], H5⟩, by simp [intOf]; omega⟩
        · obtain rfl : j = ps.length := by omega
          rw [HTK.out] at H3
          go_wp2
          go_ret
          exact ⟨A', c', by first | rfl | (rw [HTK.out]; rfl), H3⟩

set_option maxRecDepth 100000 in
set_option maxHeartbeats 4000000 in
theorem eUnion_any {W w : World} {L : List SL} (A A' : Option Addr) (c c' : Nat) (a b : List Str) (ha : a.length ≤ 100000000) (hb : b.length ≤ 100000000) (hxa : ∀ x ∈ a, x.length ≤ maxLen) (hxb : ∀ x ∈ b, x.length ≤ maxLen) (hr : RdL W L A (tsC a)) (hr' : RdL W L A' (tsC b)) (H : Sat W w L) :
    Calls Try.prog 23 #[.slice A a.length c, .slice A' b.length c'] w fun e w' => ∃ A2 c2, e = .returned (.slice A2 (unionS a b).length c2) ∧ Sat W w' (seenS 9 (.slice A2 (unionS a b).length c2) (unionS a b).length (tsC (unionS a b)) :: L) := by
  have H1 := H.alloc #[.slice A a.length c, .slice A' b.length c'] 22
  have hcat : catT [(A, c, a), (A', c', b)] = a ++ b := by simp [catT]
  have hcc := eConcat_any (W := W) (w := w.alloc (.cells #[.slice A a.length c, .slice A' b.length c'] 22)) w.heap.size 0 2 [(A, c, a), (A', c', b)] RdL.pt (fun p hp => by
    simp only [List.mem_cons, List.not_mem_nil, or_false] at hp
    rcases hp with rfl | rfl
    · exact RdL.tail hr
    · exact RdL.tail hr') (by simp) (by rw [hcat, List.length_append]; omega) H1
  rw [hcat] at hcc
  have HCC := Lib.hid hcc
  have hso := fun w0 (A0 : Option Addr) (c0 : Nat) (L0 : List SL) (r : Rd w0 A0 (tsC (a ++ b))) (h : Sat W w0 L0) => eSort_sat A0 c0 (a ++ b) (by rw [List.length_append]; omega) (fun x hx => by
    rcases List.mem_append.1 hx with h | h
    · exact hxa x h
    · exact hxb x h) r h
  have HSO := Lib.hid hso
  have hall : ∀ w0, w0 = w.alloc (.cells #[.slice A a.length c, .slice A' b.length c'] 22) → Calls Try.prog 67 #[.slice (some ⟨w.heap.size, 0, none⟩) 2 2] w0 fun e w' => ∃ A2 c2, e = .returned (.slice A2 (unionS a b).length c2) ∧ Sat W w' (seenS 9 (.slice A2 (unionS a b).length c2) (unionS a b).length (tsC (unionS a b)) :: L) := by
    rintro w0 rfl
    clear hso hcc hcat
    unfold unionS
    generalize a ++ b = ab at *
    go_enter Try.func67, Try.ntmps67
    go_wp2_with fail
    refine HCC.out.mono ?_
    rintro e w2 ⟨A2, c2, rfl, H2⟩
    clear HCC
    go_wp2_with fail
    refine (HSO.out _ A2 c2 _ H2.rd H2).mono ?_
    rintro e w3 ⟨A3, c3, rfl, H3⟩
    go_wp2
    go_ret
    exact ⟨A3, c3, rfl, H3.swap.tail.swap.tail⟩
  have HALL := Lib.hid (hall _ rfl)
  clear hall hso hcc HCC HSO
  go_enter Try.func23, Try.ntmps23
  go_wp2_with fail
  refine HALL.out.mono ?_
  rintro e w2 ⟨A2, c2, rfl, H2⟩
  go_wp2
  go_ret
  exact ⟨A2, c2, rfl, H2⟩
end Go.Proofs.Ytnpgjobaibnknaa
