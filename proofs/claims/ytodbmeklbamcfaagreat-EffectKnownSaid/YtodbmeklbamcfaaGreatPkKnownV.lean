/- A pack of texts: KdL -/
import Derived.Test.YtodbmeklbamcfaaGreatPkKnownK
import Derived.Test.YtodbmeklbamcfaaGreatPkKnownD
import Derived.Test.YtodbmeklbamcfaaGreatPkKnownJ
import Derived.RangeFuncNested
import Derived.RangeFuncBound
import Derived.RangeFuncCalls
import Derived.RangeFuncLeaves
import Derived.Shelf.Abstract
import Derived.Shelf.RegionOpen
import Derived.WalkKit
import Derived.TacticsInMore
import Derived.LoopNIn
import Derived.LoopIn
import Derived.Shelf.SlIter.Stops
import Derived.Maps.AppendAt
/- slices.Sorted over an iterator: a new row of texts, its spare room of texts too. -/
namespace Go.Proofs.YtodbmeklbamcfaaGreat
open Go.RowKit Go.Rt Go.Shelf Go.Maps Go.Sort
attribute [local go_sem] Oper.semAt_some

/-- What is known of an iterator over texts. -/
abbrev Gives (m : Nat) (gf : Nat) (lb : Array Value) (S : List Str → Prop) (N : Nat) (w : World) : Prop :=
  ∃ Sp, SeqStopsK Fence.wide m Tryz.prog gf lb (fun x : Str => #[encStr x]) KeepsWalks S Sp N w

set_option maxRecDepth 100000 in
set_option maxHeartbeats 2000000 in
theorem eAppendSeq_in (gf : Nat) (lb : Array Value) (eg : ∀ args w, (callFunc gf args).run Tryz.prog w = .ok (.enter gf args) w) (S : List Str → Prop) (N : Nat) (hN : N ≤ 1000000000) (w : World) (hseq : Gives 2 gf lb S N w) :
    CallsIn Fence.wide 3 Tryz.prog 231 #[.slice none 0 0, .func (.func gf) #[] lb] w fun e w' => ∃ (A : Option Addr) (c : Nat) (ss : List Str), e = .returned (.slice A ss.length c) ∧ S ss ∧ Sat w w' [seenS 9 (.slice A ss.length c) ss.length (tsC ss)] := by
  obtain ⟨Sp, hseq⟩ := hseq
  obtain ⟨i0, hi, hz0, hz1, hz2⟩ := info_parts infoStr
  refine callsIn_of_wp_marks Tryz.func231 rfl trivial ?_ rfl
  simp only [Tryz.ntmps231, List.size_toArray, List.length_cons, List.length_nil, Nat.reduceAdd, Nat.reduceSub, Array.replicate_succ, Array.replicate_zero, List.push_toArray, List.append_toArray, List.nil_append, List.cons_append]
  gi_wp2
  have H0 : Sat w (w.alloc (.cells #[.slice none 0 0] 22)) [pt w.heap.size #[.slice none 0 0] 22] := (Sat.start w).alloc _ _
  obtain ⟨W0, hW0⟩ : ∃ W0, w.alloc (.cells #[.slice none 0 0] 22) = W0 := ⟨_, rfl⟩
  have hs0 : W0.heap.size = w.heap.size + 1 := by rw [← hW0]; simp
  rw [hW0] at H0 ⊢
  refine wpIn_rangeFunc_ownF (n := 3) rfl (by decide) (gf := gf) (lb := lb) rfl trivial eg hseq walksK_t walksK_b H0.bel (fun _ => rfl)
    (fun pre W => ∃ A c, Sat w W [seenS 9 (.slice A pre.length c) pre.length (tsC pre), pt w.heap.size #[.slice A pre.length c] 22]) (fun _ _ _ => False)
    (fun s A B row hs hg hr => by
      obtain ⟨A', c, H⟩ := hs
      exact ⟨A', c, H.turned (by intro X hX; simp at hX; rcases hX with rfl | rfl <;> first | exact Cellish.new _ _ _ _ _ | exact Cellish.pt _ _ _) hg (fun r e => ⟨by have := (hr r e).1; omega, (hr r e).2⟩)⟩)
    (fun _ _ _ _ _ h _ _ => h) ⟨none, 0, H0.new_nil _ _⟩
    (fun x => { tmps := #[.slice none 0 0, .func (.func gf) #[] lb, .pointer (some ⟨w.heap.size, 0, none⟩), undef, .slice none 0 0, encStr x, .func (.func gf) #[] lb, encStr x, undef, undef, undef, undef, undef], defers := [] }) ?assign ?body ?done ?stop
  case assign =>
    intro l x W K hK
    gi_wp2
    exact hK
  case body =>
    rintro l pre x W ⟨A, c, H⟩ hlt
    have hc := H.swap.cell 0
    have hf := H.swap.frz 0
    have H1 := H.alloc #[encStr x] 9
    have hlt2 := H.swap.lt
    gi_wp2_with (first
      | (gi_at_builtin
         refine wpListIn_append_new rfl (.tmp 8) (.tmp 10) 22 rfl 9 i0 _ zS 16 Tryz.underlying22 hi hz0 rfl hz1 hz2 (by simp) _ pre.length (tsC pre) rfl H1.swap ⟨W.heap.size, 0, none⟩ 1 1 [encStr x] rfl rfl (fun j u hu => ⟨W.heap.size, 0, rfl, by rw [Nat.zero_add, H1.cell j]; simpa using hu⟩) (cell_one_new _ _ _) (by simp [Value.oneCell', encStr]) (by unfold maxLen; omega) (by omega) ?_
         intro A' c' w3 H3 hko
         have hc3 := (H3.pull 2).cell 0
         have hf3 := (H3.pull 2).frz 0)
      | gi_in)
    have hko2 : KeepsOthers W (w3.setCell ⟨w.heap.size, 0, none⟩ (.slice A' (pre.length + 1) c')) := (KeepsOthers.alloc W _).trans (hko.trans (KeepsOthers.setCell _ _ _))
    refine ⟨hko2, hko2.walks, A', c', ?_⟩
    have H4 := (((H3.pull 2).setCell 0 (.slice A' (pre.length + 1) c')).swap.pull 2).tail
    rw [List.length_append, tsC_append]
    exact H4
  case done =>
    rintro D xs W hD hS ⟨A, c, H⟩ hK
    have hc := H.swap.cell 0
    gi_wp2
    refine ⟨by simp, .inl ⟨_, _, rfl, run_takeDeferred hK, ?_⟩⟩
    refine ⟨_, results_tmp rfl _ _ _, A, c, xs, rfl, hS, ?_⟩
    exact (H.turned (by intro X hX; simp at hX; rcases hX with rfl | rfl <;> first | exact Cellish.new _ _ _ _ _ | exact Cellish.pt _ _ _) (grownBy_putObj' W D (.deferred none)) (fun r e => by cases e; exact ⟨by omega, _, hK, rfl⟩)).swap.tail
  case stop =>
    rintro D c pre W _ _ h _
    exact h.elim
set_option maxRecDepth 100000 in
set_option maxHeartbeats 2000000 in
theorem eSorted_any (gf : Nat) (lb : Array Value) (eg : ∀ args w, (callFunc gf args).run Tryz.prog w = .ok (.enter gf args) w) (S : List Str → Prop) (N : Nat) (hN : N ≤ 1000000000) (w : World) (hseq : Gives 2 gf lb S N w) (hSN : ∀ ss, S ss → ss.length ≤ 1000000000) :
    Calls Tryz.prog 137 #[.func (.func gf) #[] lb] w fun e w' => ∃ (A : Option Addr) (c : Nat) (ss : List Str), e = .returned (.slice A ss.length c) ∧ S ss ∧ Sat w w' [seenS 9 (.slice A ss.length c) ss.length (tsC (ss.mergeSort leB))] := by
  have hap := callsIn_wide.1 (eAppendSeq_in gf lb eg _ N hN w hseq)
  have HAP := Lib.hid hap
  have hcol : Calls Tryz.prog 191 #[.func (.func gf) #[] lb] w fun e w' => ∃ (A : Option Addr) (c : Nat) (ss : List Str), e = .returned (.slice A ss.length c) ∧ S ss ∧ Sat w w' [seenS 9 (.slice A ss.length c) ss.length (tsC ss)] := by
    clear hseq hap
    go_enter Tryz.func191, Tryz.ntmps191
    go_wp2_with fail
    refine HAP.out.mono ?_
    rintro e w1 ⟨A, c, ss, rfl, hS, H⟩
    go_wp2
    go_ret
    exact ⟨A, c, ss, rfl, hS, H⟩
  have HCOL := Lib.hid hcol
  clear hseq hap HAP hcol
  go_enter Tryz.func137, Tryz.ntmps137
  go_wp2_with fail
  refine HCOL.out.mono ?_
  rintro e w1 ⟨A, c, ss, rfl, hS, H⟩
  have hN2 := hSN ss hS
  have HS := Lib.hid hS
  clear hS HCOL hSN
  obtain ⟨hx, hh⟩ := H.new_owns
  rcases hh with ⟨hv, hn⟩ | ⟨g, cap, cur, hv, hge, hg, h1, h2, h3, h4⟩
  · obtain rfl := List.eq_nil_of_length_eq_zero hn
    obtain ⟨rfl, rfl⟩ : A = none ∧ c = 0 := by injection hv with h1 _ h3; exact ⟨h1, h3⟩
    have hso := AnyM.slices_Sort_string_none Tryz.sort192 none 0 w1
    have HSO := Lib.hid hso
    clear hso hx hn
    go_wp2_with fail
    refine HSO.out.mono ?_
    rintro e w2 ⟨rfl, rfl⟩
    go_wp2
    go_ret
    exact ⟨none, 0, [], rfl, HS.out, by simpa using H⟩
  · cases hv
    have hH : Holds encStr w1 g 0 ss.toArray := holds_of_block hg (by rw [show ss.map encStr = tsC ss from rfl, ← h4]; simp)
    have hso := AnyM.slices_Sort_string Tryz.sort192 g 0 c ss w1 hH (Array.getElem?_eq_some_iff.1 hg).1 (by omega)
    have HSO := Lib.hid hso
    have hfin := fun k os => H.new_sorted (k := k) (os := os) (ts := ss.mergeSort leB) (by simp)
    have HFIN := Lib.hid hfin
    clear hso hx hH hg h4 h3 hfin
    go_wp2_with fail
    refine HSO.out.mono ?_
    rintro e w2 ⟨rfl, k, os, rfl⟩
    go_wp2
    go_ret
    exact ⟨_, c, ss, rfl, HS.out, HFIN.out k os⟩
end Go.Proofs.YtodbmeklbamcfaaGreat
