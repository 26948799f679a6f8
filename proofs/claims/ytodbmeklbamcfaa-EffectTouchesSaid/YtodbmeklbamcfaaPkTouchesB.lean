/- A pack of texts: KdL, KdM, KdD, KdS, KgA, RtP, RtQ, KgS, KpC, KcA, KcB, RtK, KdE, KdF, KdG, RtL, KdH, KdI, KdJ, KgB, KgE, KgF, KgT, KdK, RtN, KfA, KiA, KeA -/
import Derived.Test.YtodbmeklbamcfaaPkTouchesA
import Derived.RangeFuncNested
import Derived.RangeFuncBound
import Derived.RangeFuncCalls
import Derived.RangeFuncLeaves
import Derived.Shelf.Abstract
import Derived.Shelf.RegionOpen
import Derived.WalkKit
import Derived.TacticsInMore
import Derived.LoopNIn
import Derived.LoopIn
import Derived.Shelf.SlIter.Stops
import Derived.Maps.AppendAt
import Derived.Shelf.GgSortFunc.InsertionK
import Derived.Shelf.SlSortCmp.WholeK
import Derived.Lib.AppendZerosOnto
import Derived.Deep.LoopGhost
import Derived.Lib.SliceRun
import Derived.Laws.Cover1
/- slices.Sorted over an iterator: a new row of texts, its spare room of texts too. -/
namespace Go.Proofs.Ytodbmeklbamcfaa
open Go.RowKit Go.Rt Go.Shelf Go.Maps Go.Sort
attribute [local go_sem] Oper.semAt_some

/-- What is known of an iterator over texts. -/
abbrev Gives (m : Nat) (gf : Nat) (lb : Array Value) (S : List Str → Prop) (N : Nat) (w : World) : Prop :=
  ∃ Sp, SeqStopsK Fence.wide m Try.prog gf lb (fun x : Str => #[encStr x]) KeepsWalks S Sp N w

set_option maxRecDepth 100000 in
set_option maxHeartbeats 2000000 in
theorem eAppendSeq_in (gf : Nat) (lb : Array Value) (eg : ∀ args w, (callFunc gf args).run Try.prog w = .ok (.enter gf args) w) (S : List Str → Prop) (N : Nat) (hN : N ≤ 1000000000) (w : World) (hseq : Gives 2 gf lb S N w) :
    CallsIn Fence.wide 3 Try.prog 143 #[.slice none 0 0, .func (.func gf) #[] lb] w fun e w' => ∃ (A : Option Addr) (c : Nat) (ss : List Str), e = .returned (.slice A ss.length c) ∧ S ss ∧ Sat w w' [seenS 9 (.slice A ss.length c) ss.length (tsC ss)] := by
  obtain ⟨Sp, hseq⟩ := hseq
  obtain ⟨i0, hi, hz0, hz1, hz2⟩ := info_parts infoStr
  refine callsIn_of_wp_marks Try.func143 rfl trivial ?_ rfl
  simp only [Try.ntmps143, List.size_toArray, List.length_cons, List.length_nil, Nat.reduceAdd, Nat.reduceSub, Array.replicate_succ, Array.replicate_zero, List.push_toArray, List.append_toArray, List.nil_append, List.cons_append]
  gi_wp2
  have H0 : Sat w (w.alloc (.cells #[.slice none 0 0] 39)) [pt w.heap.size #[.slice none 0 0] 39] := (Sat.start w).alloc _ _
  obtain ⟨W0, hW0⟩ : ∃ W0, w.alloc (.cells #[.slice none 0 0] 39) = W0 := ⟨_, rfl⟩
  have hs0 : W0.heap.size = w.heap.size + 1 := by rw [← hW0]; simp
  rw [hW0] at H0 ⊢
  refine wpIn_rangeFunc_ownF (n := 3) rfl (by decide) (gf := gf) (lb := lb) rfl trivial eg hseq walksK_t walksK_b H0.bel (fun _ => rfl)
    (fun pre W => ∃ A c, Sat w W [seenS 9 (.slice A pre.length c) pre.length (tsC pre), pt w.heap.size #[.slice A pre.length c] 39]) (fun _ _ _ => False)
    (fun s A B row hs hg hr => by
      obtain ⟨A', c, H⟩ := hs
      exact ⟨A', c, H.turned (by intro X hX; simp at hX; rcases hX with rfl | rfl <;> first | exact Cellish.new _ _ _ _ _ | exact Cellish.pt _ _ _) hg (fun r e => ⟨by have := (hr r e).1; omega, (hr r e).2⟩)⟩)
    (fun _ _ _ _ _ h _ _ => h) ⟨none, 0, H0.new_nil _ _⟩
    (fun x => { tmps := #[.slice none 0 0, .func (.func gf) #[] lb, .pointer (some ⟨w.heap.size, 0, none⟩), undef, .slice none 0 0, encStr x, .func (.func gf) #[] lb, encStr x, undef, undef, undef, undef, undef], defers := [] }) ?assign ?body ?done ?stop
  case assign =>
    intro l x W K hK
    gi_wp2
    exact hK
  case body =>
    rintro l pre x W ⟨A, c, H⟩ hlt
    have hc := H.swap.cell 0
    have hf := H.swap.frz 0
    have H1 := H.alloc #[encStr x] 9
    have hlt2 := H.swap.lt
    gi_wp2_with (first
      | (gi_at_builtin
         refine wpListIn_append_new rfl (.tmp 8) (.tmp 10) 39 rfl 9 i0 _ zS 16 Try.underlying39 hi hz0 rfl hz1 hz2 (by simp) _ pre.length (tsC pre) rfl H1.swap ⟨W.heap.size, 0, none⟩ 1 1 [encStr x] rfl rfl (fun j u hu => ⟨W.heap.size, 0, rfl, by rw [Nat.zero_add, H1.cell j]; simpa using hu⟩) (cell_one_new _ _ _) (by simp [Value.oneCell', encStr]) (by unfold maxLen; omega) (by omega) ?_
         intro A' c' w3 H3 hko
         have hc3 := (H3.pull 2).cell 0
         have hf3 := (H3.pull 2).frz 0)
      | gi_in)
    have hko2 : KeepsOthers W (w3.setCell ⟨w.heap.size, 0, none⟩ (.slice A' (pre.length + 1) c')) := (KeepsOthers.alloc W _).trans (hko.trans (KeepsOthers.setCell _ _ _))
    refine ⟨hko2, hko2.walks, A', c', ?_⟩
    have H4 := (((H3.pull 2).setCell 0 (.slice A' (pre.length + 1) c')).swap.pull 2).tail
    rw [List.length_append, tsC_append]
    exact H4
  case done =>
    rintro D xs W hD hS ⟨A, c, H⟩ hK
    have hc := H.swap.cell 0
    gi_wp2
    refine ⟨by simp, .inl ⟨_, _, rfl, run_takeDeferred hK, ?_⟩⟩
    refine ⟨_, results_tmp rfl _ _ _, A, c, xs, rfl, hS, ?_⟩
    exact (H.turned (by intro X hX; simp at hX; rcases hX with rfl | rfl <;> first | exact Cellish.new _ _ _ _ _ | exact Cellish.pt _ _ _) (grownBy_putObj' W D (.deferred none)) (fun r e => by cases e; exact ⟨by omega, _, hK, rfl⟩)).swap.tail
  case stop =>
    rintro D c pre W _ _ h _
    exact h.elim
set_option maxRecDepth 100000 in
set_option maxHeartbeats 2000000 in
theorem eSorted_any (gf : Nat) (lb : Array Value) (eg : ∀ args w, (callFunc gf args).run Try.prog w = .ok (.enter gf args) w) (S : List Str → Prop) (N : Nat) (hN : N ≤ 1000000000) (w : World) (hseq : Gives 2 gf lb S N w) (hSN : ∀ ss, S ss → ss.length ≤ 1000000000) :
    Calls Try.prog 119 #[.func (.func gf) #[] lb] w fun e w' => ∃ (A : Option Addr) (c : Nat) (ss : List Str), e = .returned (.slice A ss.length c) ∧ S ss ∧ Sat w w' [seenS 9 (.slice A ss.length c) ss.length (tsC (ss.mergeSort leB))] := by
  have hap := callsIn_wide.1 (eAppendSeq_in gf lb eg _ N hN w hseq)
  have HAP := Lib.hid hap
  have hcol : Calls Try.prog 131 #[.func (.func gf) #[] lb] w fun e w' => ∃ (A : Option Addr) (c : Nat) (ss : List Str), e = .returned (.slice A ss.length c) ∧ S ss ∧ Sat w w' [seenS 9 (.slice A ss.length c) ss.length (tsC ss)] := by
    clear hseq hap
    go_enter Try.func131, Try.ntmps131
    go_wp2_with fail
    refine HAP.out.mono ?_
    rintro e w1 ⟨A, c, ss, rfl, hS, H⟩
    go_wp2
    go_ret
    exact ⟨A, c, ss, rfl, hS, H⟩
  have HCOL := Lib.hid hcol
  clear hseq hap HAP hcol
  go_enter Try.func119, Try.ntmps119
  go_wp2_with fail
  refine HCOL.out.mono ?_
  rintro e w1 ⟨A, c, ss, rfl, hS, H⟩
  have hN2 := hSN ss hS
  have HS := Lib.hid hS
  clear hS HCOL hSN
  obtain ⟨hx, hh⟩ := H.new_owns
  rcases hh with ⟨hv, hn⟩ | ⟨g, cap, cur, hv, hge, hg, h1, h2, h3, h4⟩
  · obtain rfl := List.eq_nil_of_length_eq_zero hn
    obtain ⟨rfl, rfl⟩ : A = none ∧ c = 0 := by injection hv with h1 _ h3; exact ⟨h1, h3⟩
    have hso := AnyM.slices_Sort_string_none Try.sort132 none 0 w1
    have HSO := Lib.hid hso
    clear hso hx hn
    go_wp2_with fail
    refine HSO.out.mono ?_
    rintro e w2 ⟨rfl, rfl⟩
    go_wp2
    go_ret
    exact ⟨none, 0, [], rfl, HS.out, by simpa using H⟩
  · cases hv
    have hH : Holds encStr w1 g 0 ss.toArray := holds_of_block hg (by rw [show ss.map encStr = tsC ss from rfl, ← h4]; simp)
    have hso := AnyM.slices_Sort_string Try.sort132 g 0 c ss w1 hH (Array.getElem?_eq_some_iff.1 hg).1 (by omega)
    have HSO := Lib.hid hso
    have hfin := fun k os => H.new_sorted (k := k) (os := os) (ts := ss.mergeSort leB) (by simp)
    have HFIN := Lib.hid hfin
    clear hso hx hH hg h4 h3 hfin
    go_wp2_with fail
    refine HSO.out.mono ?_
    rintro e w2 ⟨rfl, k, os, rfl⟩
    go_wp2
    go_ret
    exact ⟨_, c, ss, rfl, HS.out, HFIN.out k os⟩
end Go.Proofs.Ytodbmeklbamcfaa

/- The set of a list of keys: the program's own answer, its spare room of texts too. -/
namespace Go.Proofs.Ytodbmeklbamcfaa
open Go.RowKit Go.Rt Go.Maps Go.Shelf

set_option maxRecDepth 100000 in
set_option maxHeartbeats 4000000 in
theorem eSort_row {w : World} (A : Option Addr) (c : Nat) (l : List Str) (hl : l.length ≤ 1000000000) (hx : ∀ x ∈ l, x.length ≤ maxLen) (hr : Rd w A (tsC l)) :
    Calls Try.prog 100 #[.slice A l.length c] w fun e w' => ∃ A' c', e = .returned (.slice A' (sortS l).length c') ∧ Sat w w' [seenS 9 (.slice A' (sortS l).length c') (sortS l).length (tsC (sortS l))] := by
  have hmm := @run_makeMap Try.prog
  have hkey := fun x hx0 => key_str x (hx x hx0)
  have HKEY := Lib.hid hkey
  have hfin := fun (wc : World) (n : Nat) (h : wc.ownsMap Try.prog 9 (fun _ => some (DataW.nil, [])) w.heap.size n (setD l)) (h1 : Maps.size (setD l) ≤ 1000000000) => eSorted_any 133 #[.pointer (some ⟨wc.heap.size, 0, none⟩)] (enters_of Try.func133 (by kernel_rfl) rfl) _ (Maps.size (setD l)) h1 (wc.alloc (.cells #[.map (some w.heap.size)] 165))
    ⟨_, AnyZ.keys_stops (ρ := Try.ren120) { Try.keys120 with } Fence.wide 2 trivial rfl (by omega) wc.heap.size w.heap.size n (setD l) (R := fun _ => some (DataW.nil, [])) _ (by simp) (by simp) (by
      have hbl := h.lt
      obtain ⟨es, clock, hb, Ft, hs, hD⟩ := h
      exact ⟨es, clock, (Below.heap_alloc _ _ _ hbl).trans hb, Ft, hs, hD⟩)⟩
    (fun ss hS => by have h2 := setD_perm h hS.1; have h3 := congrArg List.length h2; rw [List.length_mergeSort] at h3; have := sortS_len l; omega)
  have hper := fun (wc : World) (n : Nat) (h : wc.ownsMap Try.prog 9 (fun _ => some (DataW.nil, [])) w.heap.size n (setD l)) => @setD_perm _ wc w.heap.size n l h
  have HFIN := Lib.hid hfin
  have HPER := Lib.hid hper
  have H0 := World.ownsMap_made w Try.prog 9 (fun _ => some (DataW.nil (H := Unit), []))
  clear hkey hfin hper hx
  go_enter Try.func100, Try.ntmps100
  go_wp2
  go_loopw [9] (fun i wc => ∃ j : Nat, j ≤ l.length ∧ i = .int .i64 j ∧ wc.ownsMap (H := Unit) Try.prog 9 (fun _ => some (DataW.nil, [])) w.heap.size j (setD (l.take j)) ∧ Below w.heap.size w wc) (fun i _ => l.length - (intOf i).toNat)
  case atStart => exact ⟨0, by omega, rfl, H0, (Below.refl _ _).alloc (Nat.le_refl _) _⟩
  case round =>
    obtain ⟨j, hj, rfl, hown, hB⟩ := hrel
    clear hmm H0
    by_cases hlt : j < l.length
    · obtain ⟨x, hx⟩ : ∃ x, l[j]? = some x := ⟨_, List.getElem?_eq_getElem hlt⟩
      have hk := HKEY.out x (List.mem_of_getElem? hx)
      have htk : l.take (j + 1) = l.take j ++ [x] := by rw [List.take_add_one, hx]; rfl
      have hst : setD (l.take (j + 1)) = (setD (l.take j)).put (.string x) .nil := by rw [htk, setD_snoc]
      have HST := Lib.hid hst
      obtain ⟨b, o, rfl, hc⟩ := ts_at (hr.below hB) j x hx
      clear htk hst hx
      go_wp2_with (first
        | (refine wpList_mapUpdate_own _ rfl _ _ _ 165 rfl 9 166 (string_keyed Try.underlying9) Try.underlying165 _ w.heap.size j (setD (l.take j)) rfl hown (by unfold maxLen; omega) _ _ (.string x) rfl rfl hk .nil [] rfl ?_
           intro w1 hown1 hgrow1))
      refine ⟨⟨j + 1, by omega, by go_num, ?_, hB.grown hgrow1 hB.size (fun k e => by cases e; exact Nat.le_refl _)⟩, by simp [intOf]; omega⟩
      rw [HST.out]
      exact hown1
    · obtain rfl : j = l.length := by omega
      rw [List.take_length] at hown
      have hsz : Maps.size (setD l) ≤ l.length := hown.size_le
      have hf := HFIN.out wr l.length hown (by omega)
      have HF := Lib.hid hf
      have hP := fun ss => HPER.out wr l.length hown (ss := ss)
      have HP := Lib.hid hP
      clear hf hP HFIN HPER HKEY
      go_wp2_with fail
      refine (callsIn_wide.1 (Try.keysA120 (some w.heap.size) wr)).mono ?_
      rintro e w1 ⟨rfl, rfl⟩
      go_wp2_with fail
      refine HF.out.mono ?_
      rintro e w2 ⟨A2, c2, ss, rfl, hS, H2⟩
      clear HF
      have hsort := HP.out ss hS.1
      have hlen : ss.length = (sortS l).length := by rw [← hsort, List.length_mergeSort]
      have hwr := hB.size
      rw [hsort] at H2
      go_wp2
      go_ret
      rw [hlen] at H2
      refine ⟨A2, c2, rfl, ?_⟩
      exact H2.earlier (hB.alloc hB.size _)
end Go.Proofs.Ytodbmeklbamcfaa

/- The laws' helpers on keys: a set in memory of its own, the chapter's examples. -/
namespace Go.Proofs.Ytodbmeklbamcfaa
open Go.RowKit Go.Rt

theorem eSort_sat {W w : World} {L : List SL} (A : Option Addr) (c : Nat) (l : List Str) (hl : l.length ≤ 1000000000) (hx : ∀ x ∈ l, x.length ≤ maxLen) (hr : Rd w A (tsC l)) (H : Sat W w L) :
    Calls Try.prog 100 #[.slice A l.length c] w fun e w' => ∃ A' c', e = .returned (.slice A' (sortS l).length c') ∧ Sat W w' (seenS 9 (.slice A' (sortS l).length c') (sortS l).length (tsC (sortS l)) :: L) := by
  refine (eSort_row A c l hl hx hr).mono ?_
  rintro e w' ⟨A', c', rfl, H2⟩
  exact ⟨A', c', rfl, H.joined H2⟩

end Go.Proofs.Ytodbmeklbamcfaa

/- Spans of keys: is a key in one, in one of some. -/
namespace Go.Proofs.Ytodbmeklbamcfaa
open Go.RowKit Go.Rt

structure Sp where
  lo : Str
  hi : Str
def Sp.cs (s : Sp) : List Value := [.string ⟨s.lo.toArray⟩, .string ⟨s.hi.toArray⟩]
def spC (l : List Sp) : List Value := l.flatMap Sp.cs
def belowB (hi k : Str) : Bool := decide (hi = []) || decide (k < hi)
def inB (s : Sp) (k : Str) : Bool := !decide (k < s.lo) && belowB s.hi k
def hasSp (l : List Sp) (k : Str) : Bool := l.any fun s => inB s k
theorem sp_rd {w : World} {A : Option Addr} {l : List Sp} (h : Rd w A (spC l)) (j : Nat) (s : Sp) (hj : l[j]? = some s) : ∃ b o, A = some ⟨b, o, none⟩ ∧ w.cell? ⟨b, o + j * 2, none⟩ = some (.string ⟨s.lo.toArray⟩) ∧ w.cell? ⟨b, o + j * 2 + 1, none⟩ = some (.string ⟨s.hi.toArray⟩) := by
  obtain ⟨b, o, hA, hr⟩ := rd_elem Sp.cs 2 (by omega) h (fun _ _ => rfl) j s hj
  exact ⟨b, o, hA, hr.at 0 rfl, hr.at 1 rfl⟩

set_option maxRecDepth 100000 in
theorem sbelow_any {W w : World} {L : List SL} (lo hi k : Str) (H : Sat W w L) :
    Calls Try.prog 135 #[.agg #[.string ⟨lo.toArray⟩, .string ⟨hi.toArray⟩], .string ⟨k.toArray⟩] w fun e w' => e = .returned (.bool (belowB hi k)) ∧ Sat W w' L := by
  unfold belowB
  go_enter Try.func135, Try.ntmps135
  by_cases h : hi = []
  · subst h
    go_wp2
    go_ret
    exact ⟨rfl, H.alloc' _⟩
  · have h1 : hi.isEmpty = false := by cases hi with | nil => exact absurd rfl h | cons x l => rfl
    rw [decide_eq_false h]
    by_cases h2 : k < hi
    · have h3 := less_yes h2
      rw [decide_eq_true h2]
      clear h h2
      go_wp2
      go_ret
      exact ⟨rfl, H.alloc' _⟩
    · have h3 := less_no h2
      rw [decide_eq_false h2]
      clear h h2
      go_wp2
      go_ret
      exact ⟨rfl, H.alloc' _⟩

set_option maxRecDepth 100000 in
theorem sIn_any {W w : World} {L : List SL} (lo hi k : Str) (H : Sat W w L) :
    Calls Try.prog 123 #[.agg #[.string ⟨lo.toArray⟩, .string ⟨hi.toArray⟩], .string ⟨k.toArray⟩] w fun e w' => e = .returned (.bool (inB ⟨lo, hi⟩ k)) ∧ Sat W w' L := by
  have HB := Lib.hid (fun w0 (L0 : List SL) (h : Sat W w0 L0) => sbelow_any lo hi k h)
  have H1 := H.alloc #[.string ⟨lo.toArray⟩, .string ⟨hi.toArray⟩] 111
  unfold inB
  dsimp only
  generalize belowB hi k = bb at *
  go_enter Try.func123, Try.ntmps123
  by_cases h : k < lo
  · have h1 := less_yes h
    rw [decide_eq_true h]
    clear h
    go_wp2
    go_ret
    exact ⟨rfl, H1.tail⟩
  · have h1 := less_no h
    rw [decide_eq_false h]
    clear h
    go_wp2_with fail
    refine (HB.out _ _ H1).mono ?_
    rintro e w2 ⟨rfl, H2⟩
    go_wp2
    go_ret
    exact ⟨by simp, H2.tail⟩
set_option maxRecDepth 100000 in
theorem sHas1_any {W w : World} {L : List SL} (q : Nat) (lo hi k : Str) (t : TypeId) (H : Sat W w (pt q #[.string ⟨k.toArray⟩] t :: L)) :
    Calls Try.prog 122 #[.agg #[.string ⟨lo.toArray⟩, .string ⟨hi.toArray⟩], .pointer (some ⟨q, 0, none⟩)] w fun e w' => e = .returned (.bool (inB ⟨lo, hi⟩ k)) ∧ Sat W w' (pt q #[.string ⟨k.toArray⟩] t :: L) := by
  have HI := Lib.hid (fun w0 (L0 : List SL) (h : Sat W w0 L0) => sIn_any lo hi k h)
  have H1 := H.alloc #[.string ⟨lo.toArray⟩, .string ⟨hi.toArray⟩] 111
  have hc : (w.alloc (.cells #[.string ⟨lo.toArray⟩, .string ⟨hi.toArray⟩] 111)).cell? ⟨q, 0, none⟩ = some (.string ⟨k.toArray⟩) := H1.swap.cell 0
  have hc0 : w.cell? ⟨q, 0, none⟩ = some (.string ⟨k.toArray⟩) := H.cell 0
  have hlt := H.lt
  generalize inB ⟨lo, hi⟩ k = bb at *
  go_enter Try.func122, Try.ntmps122
  go_wp2_with fail
  refine (HI.out _ _ H1).mono ?_
  rintro e w2 ⟨rfl, H2⟩
  go_wp2
  go_ret
  exact ⟨rfl, H2.tail⟩
set_option maxRecDepth 100000 in
set_option maxHeartbeats 4000000 in
theorem sIndexFunc_any {W w : World} {L : List SL} (q : Nat) (k : Str) (t : TypeId) (A : Option Addr) (c : Nat) (l : List Sp) (hl : l.length ≤ maxLen) (hr : RdL W (pt q #[.string ⟨k.toArray⟩] t :: L) A (spC l)) (H : Sat W w (pt q #[.string ⟨k.toArray⟩] t :: L)) :
    Calls Try.prog 134 #[.slice A l.length c, .func (.func 122) #[] #[.pointer (some ⟨q, 0, none⟩)]] w fun e w' => ∃ i : Int, e = .returned (.int .i64 i) ∧ decide (0 ≤ i) = hasSp l k ∧ Sat W w' (pt q #[.string ⟨k.toArray⟩] t :: L) := by
  have hl' := hl
  unfold maxLen at hl'
  go_enter Try.func134, Try.ntmps134
  go_wp2
  go_loopw [8] (fun i wc => ∃ j : Nat, j ≤ l.length ∧ i = .int .i64 j ∧ Hid (∀ m s, m < j → l[m]? = some s → inB s k = false) ∧ Sat W wc (pt q #[.string ⟨k.toArray⟩] t :: L)) (fun i _ => l.length - (intOf i).toNat)
  case atStart => exact ⟨0, by omega, rfl, (fun m s h => by omega), H⟩
  case round =>
    obtain ⟨j, hj, rfl, hN, H1⟩ := hrel
    by_cases hlt : j < l.length
    · obtain ⟨s, hs⟩ : ∃ s, l[j]? = some s := ⟨_, List.getElem?_eq_getElem hlt⟩
      obtain ⟨b, o, rfl, c0, c1⟩ := sp_rd (hr _ H1) j s hs
      have HS := Lib.hid hs
      obtain ⟨lo, hi⟩ := s
      dsimp only at c0 c1
      have HI := Lib.hid (sHas1_any (W := W) (w := wr) (L := L) q lo hi k t H1)
      clear hs
      cases hb : inB ⟨lo, hi⟩ k with
      | true =>
        rw [hb] at HI
        have hf : hasSp l k = true := List.any_eq_true.2 ⟨⟨lo, hi⟩, List.mem_of_getElem? HS.out, hb⟩
        have HF := Lib.hid hf
        clear hb hf
        go_wp2_with fail
        refine HI.out.mono ?_
        rintro e w2 ⟨rfl, H2⟩
        go_wp2
        go_ret
        exact ⟨j, rfl, by rw [HF.out]; simp, H2⟩
      | false =>
        rw [hb] at HI
        have HBB := Lib.hid hb
        clear hb
        go_wp2_with fail
        refine HI.out.mono ?_
        rintro e w2 ⟨rfl, H2⟩
        go_wp2
        refine ⟨⟨j + 1, by omega, by go_num, fun m s hm hs => ?_, H2⟩, by simp [intOf]; omega⟩
        rcases Nat.lt_or_ge m j with h | h
        · exact hN.out m s h hs
        · obtain rfl : m = j := by omega
          rw [HS.out] at hs; cases hs; exact HBB.out
    · obtain rfl : j = l.length := by omega
      have hf : hasSp l k = false := by
        unfold hasSp
        rw [List.any_eq_false]
        intro s hs
        obtain ⟨m, hm⟩ := List.getElem?_of_mem hs
        simp [hN.out m s (List.getElem?_eq_some_iff.1 hm).1 hm]
      have HF := Lib.hid hf
      clear hf
      go_wp2
      go_ret
      exact ⟨-1, rfl, by rw [HF.out]; rfl, H1⟩
set_option maxRecDepth 100000 in
set_option maxHeartbeats 4000000 in
theorem sHas_any {W w : World} {L : List SL} (k : Str) (A : Option Addr) (c : Nat) (l : List Sp) (hl : l.length ≤ maxLen) (hr : RdL W L A (spC l)) (H : Sat W w L) :
    Calls Try.prog 102 #[.slice A l.length c, .string ⟨k.toArray⟩] w fun e w' => e = .returned (.bool (hasSp l k)) ∧ Sat W w' L := by
  have H1 := H.alloc #[.string ⟨k.toArray⟩] 9
  have HI := Lib.hid (sIndexFunc_any (W := W) (w := w.alloc (.cells #[.string ⟨k.toArray⟩] 9)) (L := L) w.heap.size k 9 A c l hl (RdL.tail hr) H1)
  have hC : Calls Try.prog 121 #[.slice A l.length c, .func (.func 122) #[] #[.pointer (some ⟨w.heap.size, 0, none⟩)]] (w.alloc (.cells #[.string ⟨k.toArray⟩] 9)) fun e w' => e = .returned (.bool (hasSp l k)) ∧ Sat W w' L := by
    go_enter Try.func121, Try.ntmps121
    go_wp2_with fail
    refine HI.out.mono ?_
    rintro e w2 ⟨i, rfl, hi, H2⟩
    have HI2 := Lib.hid hi
    clear hi HI
    go_wp2
    go_ret
    exact ⟨by rw [← HI2.out]; rfl, H2.tail⟩
  have HC := Lib.hid hC
  clear hC HI
  go_enter Try.func102, Try.ntmps102
  go_wp2_with fail
  refine HC.out.mono ?_
  rintro e w2 ⟨rfl, H2⟩
  go_wp2
  go_ret
  exact ⟨rfl, H2⟩
end Go.Proofs.Ytodbmeklbamcfaa

/- Plain laws on joined spans: what is told hangs on the spans alone that are not empty, sorted by their beginnings in any way. No program in sight. -/
namespace Go.Proofs.Ytodbmeklbamcfaa

instance : DecidableEq Sp := fun a b => decidable_of_iff (a.lo = b.lo ∧ a.hi = b.hi) ⟨fun ⟨h1, h2⟩ => by cases a; cases b; simp_all, fun h => by subst h; exact ⟨rfl, rfl⟩⟩
def emptyB (s : Sp) : Bool := !belowB s.hi s.lo
def greatE (a b : Str) : Str := if a = [] ∨ b = [] then [] else if a < b then b else a
theorem greatE_comm (a b : Str) : greatE a b = greatE b a := by
  unfold greatE
  by_cases ha : a = [] <;> by_cases hb : b = [] <;> simp [ha, hb]
  rcases str_total a b with h | h | h
  · rw [if_pos h, if_neg fun h' => str_irrefl _ (str_trans h h')]
  · rw [h]
  · rw [if_pos h, if_neg fun h' => str_irrefl _ (str_trans h h')]
theorem greatE_nil (a : Str) : greatE [] a = [] ∧ greatE a [] = [] := by unfold greatE; simp
theorem greatE_mk {a b : Str} (ha : a ≠ []) (hb : b ≠ []) : greatE a b = if a < b then b else a := by unfold greatE; rw [if_neg (by simp [ha, hb])]
theorem greatE_ne {a b : Str} (ha : a ≠ []) (hb : b ≠ []) : greatE a b ≠ [] := by rw [greatE_mk ha hb]; split <;> assumption
theorem greatE_assoc (a b c : Str) : greatE (greatE a b) c = greatE a (greatE b c) := by
  by_cases ha : a = []
  · rw [ha, (greatE_nil _).1, (greatE_nil _).1, (greatE_nil _).1]
  by_cases hb : b = []
  · rw [hb, (greatE_nil _).2, (greatE_nil _).1, (greatE_nil _).2]
  by_cases hc : c = []
  · rw [hc, (greatE_nil _).2, (greatE_nil _).2, (greatE_nil _).2]
  rw [greatE_mk (greatE_ne ha hb) hc, greatE_mk ha (greatE_ne hb hc), greatE_mk ha hb, greatE_mk hb hc]
  by_cases h1 : a < b <;> by_cases h2 : b < c <;> simp only [h1, h2, if_true, if_false]
  · rw [if_pos (str_trans h1 h2)]
  · by_cases h3 : a < c
    · exact absurd (by
        rcases str_total b c with h | h | h
        · exact h
        · rw [← h] at h3; exact absurd h3 h1
        · exact absurd (str_trans h3 h) h1) h2
    · rw [if_neg h3]
theorem greatE_right (a b c : Str) : greatE (greatE a b) c = greatE (greatE a c) b := by rw [greatE_assoc, greatE_comm b c, ← greatE_assoc]
/-- An end that is not ahead of a beginning. -/
def reach (hi lo : Str) : Prop := hi = [] ∨ ¬ hi < lo
instance (hi lo : Str) : Decidable (reach hi lo) := by unfold reach; infer_instance
theorem reach_great {a b lo : Str} (h : reach a lo) : reach (greatE a b) lo := by
  unfold reach at h ⊢
  by_cases ha : a = []
  · left; rw [ha, (greatE_nil _).1]
  by_cases hb : b = []
  · left; rw [hb, (greatE_nil _).2]
  right
  have h1 : ¬ a < lo := h.resolve_left ha
  rw [greatE_mk ha hb]
  split
  · rename_i h2
    exact fun h3 => h1 (str_trans h2 h3)
  · exact h1
def stepR (acc : List Sp) (s : Sp) : List Sp := match acc with
  | [] => [s]
  | z :: r => if reach z.hi s.lo then ⟨z.lo, greatE z.hi s.hi⟩ :: r else s :: z :: r
theorem reach_full {s : Sp} (h : emptyB s = false) : reach s.hi s.lo := by
  unfold emptyB belowB at h
  unfold reach
  simp at h
  by_cases h1 : s.hi = []
  · exact .inl h1
  · exact .inr fun h' => str_irrefl _ (str_trans (h h1) h')
theorem step_comm {s t : Sp} (he : s.lo = t.lo) (hs : emptyB s = false) (ht : emptyB t = false) (acc : List Sp) : stepR (stepR acc s) t = stepR (stepR acc t) s := by
  have rs := reach_full hs
  have rt := reach_full ht
  obtain ⟨lo, a⟩ := s
  obtain ⟨lo', b⟩ := t
  dsimp only at he rs rt
  subst he
  cases acc with
  | nil =>
    show (if reach a lo then _ else _) = (if reach b lo then _ else _)
    rw [if_pos rs, if_pos rt]
    show [Sp.mk lo (greatE a b)] = [Sp.mk lo (greatE b a)]
    rw [greatE_comm]
  | cons z r =>
    by_cases h : reach z.hi lo
    · have h1 : stepR (z :: r) ⟨lo, a⟩ = ⟨z.lo, greatE z.hi a⟩ :: r := if_pos h
      have h2 : stepR (z :: r) ⟨lo, b⟩ = ⟨z.lo, greatE z.hi b⟩ :: r := if_pos h
      rw [h1, h2]
      show (if reach (greatE z.hi a) lo then _ else _) = (if reach (greatE z.hi b) lo then _ else _)
      rw [if_pos (reach_great h), if_pos (reach_great h)]
      show Sp.mk z.lo (greatE (greatE z.hi a) b) :: r = Sp.mk z.lo (greatE (greatE z.hi b) a) :: r
      rw [greatE_right]
    · have h1 : stepR (z :: r) ⟨lo, a⟩ = ⟨lo, a⟩ :: z :: r := if_neg h
      have h2 : stepR (z :: r) ⟨lo, b⟩ = ⟨lo, b⟩ :: z :: r := if_neg h
      rw [h1, h2]
      show (if reach a lo then _ else _) = (if reach b lo then _ else _)
      rw [if_pos rs, if_pos rt]
      show Sp.mk lo (greatE a b) :: z :: r = Sp.mk lo (greatE b a) :: z :: r
      rw [greatE_comm]
def SortedLo (l : List Sp) : Prop := l.Pairwise fun a b => ¬ b.lo < a.lo
theorem fold_front {x : Sp} (hx : emptyB x = false) : ∀ (p q : List Sp), (∀ y ∈ p, y.lo = x.lo ∧ emptyB y = false) → ∀ acc, (p ++ x :: q).foldl stepR acc = (x :: (p ++ q)).foldl stepR acc
  | [], _, _, _ => rfl
  | y :: p, q, h, acc => by
    have h1 := h y (List.mem_cons_self ..)
    show (p ++ x :: q).foldl stepR (stepR acc y) = (p ++ q).foldl stepR (stepR (stepR acc x) y)
    rw [fold_front hx p q (fun z hz => h z (List.mem_cons_of_mem _ hz)) (stepR acc y)]
    show (p ++ q).foldl stepR (stepR (stepR acc y) x) = _
    rw [step_comm h1.1 h1.2 hx]
theorem fold_perm : ∀ (l m : List Sp), l.Perm m → SortedLo l → SortedLo m → (∀ s ∈ l, emptyB s = false) → ∀ acc, l.foldl stepR acc = m.foldl stepR acc
  | [], m, hp, _, _, _, _ => by rw [hp.nil_eq]
  | x :: l, m, hp, hl, hm, he, acc => by
    obtain ⟨p, q, rfl⟩ := List.append_of_mem (hp.subset (List.mem_cons_self ..))
    have hp2 : l.Perm (p ++ q) := (hp.trans List.perm_middle).cons_inv
    have hpx : ∀ y ∈ p, y.lo = x.lo ∧ emptyB y = false := fun y hy => by
      have hy2 : y ∈ l := hp2.symm.subset (List.mem_append_left _ hy)
      have h1 : ¬ y.lo < x.lo := (List.pairwise_cons.1 hl).1 y hy2
      have h2 : ¬ x.lo < y.lo := (List.pairwise_append.1 hm).2.2 y hy x (List.mem_cons_self ..)
      refine ⟨?_, he y (List.mem_cons_of_mem _ hy2)⟩
      rcases str_total y.lo x.lo with h | h | h
      · exact absurd h h1
      · exact h
      · exact absurd h h2
    have hm2 : SortedLo (p ++ q) := List.Pairwise.sublist (List.Sublist.append_left (List.sublist_cons_self ..) _) hm
    rw [fold_front (he x (List.mem_cons_self ..)) p q hpx acc]
    exact fold_perm l (p ++ q) hp2 (List.pairwise_cons.1 hl).2 hm2 (fun s hs => he s (List.mem_cons_of_mem _ hs)) (stepR acc x)
/-- The document's way: each span behind those that begin no later. -/
def insLo (s : Sp) (out : List Sp) : List Sp := out.takeWhile (fun z => !decide (s.lo < z.lo)) ++ s :: out.dropWhile (fun z => !decide (s.lo < z.lo))
def insSp (l : List Sp) : List Sp := l.foldl (fun out s => if emptyB s then out else insLo s out) []
theorem insLo_perm (s : Sp) (out : List Sp) : (insLo s out).Perm (s :: out) := by
  unfold insLo
  refine List.perm_middle.trans ?_
  rw [List.takeWhile_append_dropWhile]
theorem insLo_sorted (s : Sp) : ∀ {out : List Sp}, SortedLo out → SortedLo (insLo s out)
  | [], _ => by unfold insLo SortedLo; simp
  | z :: r, h => by
    by_cases hz : s.lo < z.lo
    · have e : insLo s (z :: r) = s :: z :: r := by unfold insLo; simp [hz]
      rw [e]
      refine List.pairwise_cons.2 ⟨fun y hy => ?_, h⟩
      rcases List.mem_cons.1 hy with rfl | hy
      · exact fun h' => str_irrefl _ (str_trans hz h')
      · exact fun h' => (List.pairwise_cons.1 h).1 y hy (str_trans h' hz)
    · have e : insLo s (z :: r) = z :: insLo s r := by unfold insLo; simp [hz]
      rw [e]
      refine List.pairwise_cons.2 ⟨fun y hy => ?_, insLo_sorted s (List.pairwise_cons.1 h).2⟩
      rcases List.mem_cons.1 ((insLo_perm s r).subset hy) with rfl | hy
      · exact hz
      · exact (List.pairwise_cons.1 h).1 y hy
theorem insSp_laws : ∀ (l acc : List Sp), SortedLo acc → SortedLo (l.foldl (fun out s => if emptyB s then out else insLo s out) acc) ∧ (l.foldl (fun out s => if emptyB s then out else insLo s out) acc).Perm (acc ++ l.filter fun s => !emptyB s)
  | [], acc, h => ⟨h, by simp⟩
  | s :: l, acc, h => by
    rw [List.foldl_cons, List.filter_cons]
    cases he : emptyB s with
    | true =>
      have := insSp_laws l acc h
      simpa [he] using this
    | false =>
      have h2 := insSp_laws l (insLo s acc) (insLo_sorted s h)
      simp only [Bool.false_eq_true, if_false, Bool.not_false, if_true]
      refine ⟨h2.1, h2.2.trans ?_⟩
      refine ((insLo_perm s acc).append_right _).trans ?_
      exact List.perm_middle.symm
def joinS (l : List Sp) : List Sp := ((insSp l).foldl stepR []).reverse
theorem join_of {l m : List Sp} (hp : m.Perm (l.filter fun s => !emptyB s)) (hm : SortedLo m) : (m.foldl stepR []).reverse = joinS l := by
  have h : SortedLo (insSp l) ∧ (insSp l).Perm (l.filter fun s => !emptyB s) := insSp_laws l [] List.Pairwise.nil
  unfold joinS
  rw [fold_perm m (insSp l) (hp.trans h.2.symm) hm h.1 (fun s hs => by
    have := hp.subset hs
    simpa using (List.mem_filter.1 this).2) []]
/-- Spans that are joined, and whose ends are short. -/
def spansB (l : List Sp) : Bool := decide (joinS l = l) && l.all fun s => decide (s.lo.length ≤ 64) && decide (s.hi.length ≤ 64)
end Go.Proofs.Ytodbmeklbamcfaa

/- A row of structs, sorted in its place. No program in sight. -/
namespace Go.Rt
open Go.RowKit Go.Proofs Go.Sort

theorem heap_turned {w : World} {g n : Nat} {os : Array Obj} {cur : Array Value} {e : TypeId} {fr : Nat × Nat} (d : Array Value) (hb : w.heap[g]? = some (.cells cur e fr)) :
    (grow (putRow id (Sort.ahead w n) g 0 d) os).heap[g]? = some (.cells (putCells id 0 d cur) e fr) := by
  have hg : g < w.heap.size := (Array.getElem?_eq_some_iff.1 hb).1
  rw [heap_grow_old _ _ (by simpa using hg)]
  simp [putRow, mapBlock, Sort.ahead, Array.getElem?_modify, hb, onCells]
theorem grownBy_turned {w : World} {g n : Nat} {os : Array Obj} (d : Array Value) : w.grownBy (grow (putRow id (Sort.ahead w n) g 0 d) os) (some g) := by
  refine ⟨rfl, rfl, rfl, by simp, fun k hk hne => ?_⟩
  rw [heap_grow_old _ _ (by simpa using hk)]
  have : g ≠ k := fun e => hne (by rw [e])
  simp [putRow, mapBlock, Sort.ahead, Array.getElem?_modify, this]
theorem take_turned (cur F : Array Value) (h : F.size ≤ cur.size) : (putCells id 0 F cur).toList.take F.size = F.toList := by
  apply List.ext_getElem?
  intro j
  by_cases hj : j < F.size
  · rw [List.getElem?_take_of_lt hj, Array.getElem?_toList, Array.getElem?_toList]
    simp [putCells, hj, show j < cur.size by omega]
  · rw [List.getElem?_eq_none (by simp [putCells]; omega), List.getElem?_eq_none (by simpa using hj)]
section
variable {W w : World} {l : List SL} {e : TypeId} {zc : List Value}
theorem typed_turned {cur F : Array Value} (h : Typed zc cur.toList) (hF : Typed zc F.toList) (hs : F.size ≤ cur.size) : Typed zc (putCells id 0 F cur).toList := fun j u hu => by
  by_cases hj : j < F.size
  · refine hF j u ?_
    rw [Array.getElem?_toList] at hu ⊢
    simpa [putCells, hj, show j < cur.size by omega] using hu
  · refine h j u ?_
    rw [Array.getElem?_toList] at hu ⊢
    simpa [putCells, hj] using hu
theorem Sat.row_sorted {g n c k : Nat} {os : Array Obj} {xs : List Value} (F : Array Value) (H : Sat W w (row e zc (.slice (some ⟨g, 0, none⟩) n c) n xs :: l)) (hF : F.size = n * zc.length) (hT : Typed zc F.toList) :
    Sat W (grow (putRow id (Sort.ahead w k) g 0 F) os) (row e zc (.slice (some ⟨g, 0, none⟩) n c) n F.toList :: l) := by
  obtain ⟨_, h0, ⟨a0, r0, d0, rfl, ⟨hx0, hh0⟩, _⟩, hw0⟩ := id H
  have hge : W.heap.size ≤ g := by
    rcases hh0 with ⟨hv, _⟩ | ⟨g', _, _, hv, hg, _⟩
    · cases hv
    · cases hv
      exact (hw0 g _ (join_left hg)).1
  have hgb := grownBy_turned (w := w) (g := g) (n := k) (os := os) F
  refine H.put (H.bel.grown hgb H.bel.size fun j ej => by cases ej; exact hge) fun a ha hown => ?_
  obtain ⟨hx, ha⟩ := ha
  rcases ha with ⟨hv, _⟩ | ⟨g', cap, cur, hv, hg, h1, h2, h3, h4, h5⟩
  · cases hv
  · cases hv
    have hw := (hown g _ hg).1
    have hle : F.size ≤ cur.size := by rw [hF, h3]; exact Nat.mul_le_mul_right _ h1
    refine ⟨fun j => if j = g then some (.cells (putCells id 0 F cur) e (0, 0)) else none, ⟨by simp [hF], .inr ⟨g, c, putCells id 0 F cur, rfl, by simp, h1, h2, by simp [putCells, h3], ?_, typed_turned h5 hT hle⟩⟩, fun j hj => ?_, fun j o ej => ?_, fun j hj hj2 => ?_⟩
    · rw [← hF]
      exact take_turned cur F hle
    · by_cases e1 : j = g
      · subst e1; left; rw [hg]; simp
      · simp [e1] at hj
    · by_cases e1 : j = g
      · subst e1
        simp at ej
        subst ej
        exact ⟨hge, heap_turned _ hw⟩
      · simp [e1] at ej
    · exact hgb.block j hj2 (by intro e1; cases e1; rw [hg] at hj; cases hj)
end
end Go.Rt

/- A row of structs as the library's sort sees it, ahead of it and behind it. No program in sight. -/
namespace Go.Rt
open Go.RowKit Go.Proofs Go.Sort

theorem flatK_list {α : Type} [Inhabited α] (enc : α → List Value) (k : Nat) (hk : 0 < k) (h : ∀ x, (enc x).length = k) (d : Array α) : (flatK enc k d).toList = d.toList.flatMap enc := by
  have hfl : (d.toList.flatMap enc).length = d.size * k := by rw [Go.Rt.flat_len enc k d.toList (fun x _ => h x), Array.length_toList]
  apply List.ext_getElem?
  intro t
  by_cases ht : t < d.size * k
  · have hq : t / k < d.size := Nat.div_lt_of_lt_mul (by rw [Nat.mul_comm]; exact ht)
    have hr : t % k < k := Nat.mod_lt _ hk
    have hd : d.toList[t / k]? = some d[t / k]! := by rw [Array.getElem?_toList]; simp [hq]
    have h1 := Go.Rt.flat_at enc k d.toList (fun x _ => h x) (t / k) _ hd
    have h2 : (d.toList.flatMap enc)[t]? = (enc d[t / k]!)[t % k]? := by
      rw [← h1, List.getElem?_take_of_lt hr, List.getElem?_drop]
      congr 1
      rw [Nat.mul_comm]
      exact (Nat.div_add_mod t k).symm
    rw [h2, Array.getElem?_toList]
    have h3 : t % k < (enc d[t / k]!).length := by rw [h]; exact hr
    simp only [flatK]
    rw [Array.getElem?_map, Array.getElem?_range]
    simp only [ht, if_true, Option.map_some]
    rw [List.getElem?_eq_getElem h3, getElem!_pos (enc d[t / k]!) (t % k) h3]
  · rw [List.getElem?_eq_none (by simp; omega), List.getElem?_eq_none (by rw [hfl]; omega)]
section
variable {W w : World} {l : List SL} {e : TypeId} {zc : List Value}
theorem Sat.row_holds {g n c : Nat} {xs : List Value} (H : Sat W w (row e zc (.slice (some ⟨g, 0, none⟩) n c) n xs :: l)) (F : Array Value) (hF : F.toList = xs) : Holds id w g 0 F ∧ g < w.heap.size := by
  obtain ⟨_, h0, ⟨a0, r0, d0, rfl, ⟨hx0, hh0⟩, _⟩, hw0⟩ := id H
  rcases hh0 with ⟨hv, _⟩ | ⟨g', cap, cur, hv, hg, h1, h2, h3, h4, h5⟩
  · cases hv
  · cases hv
    have hb := (hw0 g _ (join_left hg)).2
    refine ⟨fun j hj => ⟨?_, by simp [World.frozen?, hb]⟩, (Array.getElem?_eq_some_iff.1 hb).1⟩
    have hj2 : j < n * zc.length := by rw [← hx0, ← hF, Array.length_toList]; exact hj
    have h6 : (cur.toList.take (n * zc.length))[j]? = F.toList[j]? := by rw [h4, hF]
    rw [List.getElem?_take_of_lt hj2, Array.getElem?_toList, Array.getElem?_toList] at h6
    simp only [World.cell?, hb, Nat.zero_add]
    simp only [Option.isSome_none, Bool.false_eq_true, if_false]
    rw [h6]
    simp [hj]
/-- Behind the sort: the same row, its things in another order. -/
theorem Sat.row_sortedK {α : Type} [Inhabited α] (enc : α → List Value) (hpos : 0 < zc.length) (hk : ∀ x, (enc x).length = zc.length) {g n c k : Nat} {os : Array Obj} {xs : List Value} (H : Sat W w (row e zc (.slice (some ⟨g, 0, none⟩) n c) n xs :: l)) (d : Array α) (hd : d.size = n) (hT : Typed zc (d.toList.flatMap enc)) :
    Sat W (sortWorldK enc zc.length w g 0 k d os) (row e zc (.slice (some ⟨g, 0, none⟩) n c) n (d.toList.flatMap enc) :: l) := by
  have e1 := flatK_list enc zc.length hpos hk d
  have := H.row_sorted (k := k) (os := os) (flatK enc zc.length d) (by rw [size_flatK, hd]) (by rw [e1]; exact hT)
  rw [e1] at this
  exact this
theorem Sat.row_holdsK {α : Type} [Inhabited α] (enc : α → List Value) (hpos : 0 < zc.length) (hk : ∀ x, (enc x).length = zc.length) {g n c : Nat} (ts : List α) (H : Sat W w (row e zc (.slice (some ⟨g, 0, none⟩) n c) n (ts.flatMap enc) :: l)) : HoldsK enc zc.length w g 0 ts.toArray ∧ g < w.heap.size :=
  H.row_holds _ (flatK_list enc zc.length hpos hk ts.toArray)
end
end Go.Rt

/- The order of spans that span.Join sorts by; what is sorted so is joined as the document says. No program in sight. -/
namespace Go.Proofs.Ytodbmeklbamcfaa
open Go.Sort Go.Shelf

instance : Inhabited Sp := ⟨⟨[], []⟩⟩
def cmpS (a b : Str) : Int := if a < b then -1 else if b < a then 1 else 0
def cmpSp (a b : Sp) : Int := if cmpS a.lo b.lo ≠ 0 then cmpS a.lo b.lo else cmpS a.hi b.hi
theorem cmpS_lt {a b : Str} (h : a < b) : cmpS a b = -1 := if_pos h
theorem cmpS_gt {a b : Str} (h : b < a) : cmpS a b = 1 := by unfold cmpS; rw [if_neg fun h' => str_irrefl _ (str_trans h h'), if_pos h]
theorem cmpS_self (a : Str) : cmpS a a = 0 := by unfold cmpS; rw [if_neg (str_irrefl a), if_neg (str_irrefl a)]
theorem ltSp (a b : Sp) : ltOf cmpSp a b = decide (a.lo < b.lo ∨ (a.lo = b.lo ∧ a.hi < b.hi)) := by
  unfold ltOf cmpSp
  rcases str_total a.lo b.lo with h | h | h
  · rw [cmpS_lt h, if_pos (by decide), decide_eq_true (show (-1 : Int) < 0 by decide), decide_eq_true (.inl h)]
  · rw [h, cmpS_self, if_neg (by simp)]
    rcases str_total a.hi b.hi with h2 | h2 | h2
    · rw [cmpS_lt h2, decide_eq_true (show (-1 : Int) < 0 by decide), decide_eq_true (.inr ⟨rfl, h2⟩)]
    · rw [h2, cmpS_self, decide_eq_false (by decide), decide_eq_false]
      rintro (h3 | h3)
      · exact str_irrefl _ h3
      · exact str_irrefl _ h3.2
    · rw [cmpS_gt h2, decide_eq_false (by decide), decide_eq_false]
      rintro (h3 | h3)
      · exact str_irrefl _ h3
      · exact str_irrefl _ (str_trans h2 h3.2)
  · rw [cmpS_gt h, if_pos (by decide), decide_eq_false (by decide), decide_eq_false]
    rintro (h3 | h3)
    · exact str_irrefl _ (str_trans h h3)
    · rw [h3.1] at h; exact str_irrefl _ h
theorem swoSp : SWO (ltOf cmpSp) where
  irrefl x := by
    rw [ltSp, decide_eq_false]
    rintro (h | h)
    · exact str_irrefl _ h
    · exact str_irrefl _ h.2
  trans x y z h1 h2 := by
    rw [ltSp, decide_eq_true_iff] at *
    rcases h1 with h1 | ⟨e1, h1⟩ <;> rcases h2 with h2 | ⟨e2, h2⟩
    · exact .inl (str_trans h1 h2)
    · rw [← e2]; exact .inl h1
    · rw [e1]; exact .inl h2
    · exact .inr ⟨e1.trans e2, str_trans h1 h2⟩
  ntrans x y z h1 h2 := by
    rw [ltSp, decide_eq_false_iff_not] at *
    rintro (h | ⟨e, h⟩)
    · rcases str_total x.lo y.lo with a | a | a
      · exact h1 (.inl a)
      · rw [a] at h; exact h2 (.inl h)
      · exact h2 (.inl (str_trans a h))
    · rcases str_total x.lo y.lo with a | a | a
      · exact h1 (.inl a)
      · rcases str_total x.hi y.hi with b | b | b
        · exact h1 (.inr ⟨a, b⟩)
        · exact h2 (.inr ⟨a.symm.trans e, by rw [← b]; exact h⟩)
        · exact h2 (.inr ⟨a.symm.trans e, str_trans b h⟩)
      · rw [e] at a; exact h2 (.inl a)
theorem perm_of {d d' : Array Sp} (h : PermIn 0 d.size d d') : d'.toList.Perm d.toList := by
  obtain ⟨h1, _, h3⟩ := h
  rw [show d'.extract 0 d.size = d' by rw [← h1]; simp, show d.extract 0 d.size = d by simp] at h3
  exact h3
theorem sortedLo_of {d : Array Sp} (h : SortedIn (ltOf cmpSp) 0 d.size d) : SortedLo d.toList := by
  unfold SortedLo
  rw [List.pairwise_iff_getElem]
  intro i j hi hj hij h2
  have hi' : i < d.size := by simpa using hi
  have hj' : j < d.size := by simpa using hj
  have h3 := h i j (Nat.zero_le _) hij hj'
  rw [ltSp, decide_eq_false_iff_not, getElem!_pos d j hj', getElem!_pos d i hi'] at h3
  exact h3 (.inl h2)
/-- Spans that are not empty, sorted by the library, are joined as the document says. -/
theorem join_sorted {l : List Sp} {d : Array Sp} (hp : PermIn 0 (l.filter fun s => !emptyB s).toArray.size (l.filter fun s => !emptyB s).toArray d) (hs : SortedIn (ltOf cmpSp) 0 (l.filter fun s => !emptyB s).toArray.size d) : (d.toList.foldl stepR []).reverse = joinS l := by
  have h1 : d.size = (l.filter fun s => !emptyB s).toArray.size := hp.1
  exact join_of (perm_of hp) (sortedLo_of (by rw [h1]; exact hs))
end Go.Proofs.Ytodbmeklbamcfaa

/- Plain laws on two sorted lists gone through together. No program in sight. -/
namespace Go.Proofs.Ytodbmeklbamcfaa

structure WSt (xs ys px mx py my : List Str) : Prop where
  hx : xs = px ++ mx
  hy : ys = py ++ my
  lt : ∀ y ∈ py, ∀ x ∈ mx, y < x
theorem WSt.start (xs ys : List Str) : WSt xs ys [] xs [] ys := ⟨rfl, rfl, fun y h => by cases h⟩
theorem WSt.skip {xs ys px mx py my : List Str} {x y : Str} (hr : Rise xs) (h : WSt xs ys px (x :: mx) py (y :: my)) (hl : y < x) : WSt xs ys px (x :: mx) (py ++ [y]) my := by
  refine ⟨h.hx, by rw [h.hy]; simp, fun z hz x' hx' => ?_⟩
  rcases List.mem_append.1 hz with hz | hz
  · exact h.lt z hz x' hx'
  · simp at hz
    subst hz
    rcases List.mem_cons.1 hx' with rfl | hx'
    · exact hl
    · have h1 : Rise (x :: mx) := by have := hr; rw [h.hx] at this; exact (List.pairwise_append.1 this).2.1
      exact str_trans hl ((List.pairwise_cons.1 h1).1 x' hx')
theorem WSt.step {xs ys px mx py my : List Str} {x : Str} (h : WSt xs ys px (x :: mx) py my) : WSt xs ys (px ++ [x]) mx py my :=
  ⟨by rw [h.hx]; simp, h.hy, fun y hy x' hx' => h.lt y hy x' (by simp [hx'])⟩
theorem WSt.has_none {xs ys px mx py : List Str} {x : Str} (h : WSt xs ys px (x :: mx) py []) : hasK ys x = false := by
  refine decide_eq_false fun hm => ?_
  rw [h.hy, List.append_nil] at hm
  exact str_irrefl x (h.lt x hm x (by simp))
theorem WSt.has_some {xs ys px mx py my : List Str} {x y : Str} (hr : Rise ys) (h : WSt xs ys px (x :: mx) py (y :: my)) (hl : ¬ y < x) : hasK ys x = decide (y = x) := by
  unfold hasK
  rw [decide_eq_decide]
  constructor
  · intro hm
    rw [h.hy] at hm
    rcases List.mem_append.1 hm with hm | hm
    · exact absurd (h.lt x hm x (by simp)) (str_irrefl x)
    · rcases List.mem_cons.1 hm with hm | hm
      · exact hm.symm
      · have h1 : Rise (y :: my) := by have := hr; rw [h.hy] at this; exact (List.pairwise_append.1 this).2.1
        exact absurd ((List.pairwise_cons.1 h1).1 x hm) hl
  · rintro rfl
    rw [h.hy]; simp
theorem WSt.done {xs ys px py my : List Str} (h : WSt xs ys px [] py my) : px = xs := by rw [h.hx, List.append_nil]
theorem filter_snoc (px : List Str) (x : Str) (p : Str → Bool) : (px ++ [x]).filter p = if p x then px.filter p ++ [x] else px.filter p := by
  rw [List.filter_append]
  cases h : p x <;> simp [h]
theorem hasK_sort (b : List Str) (k : Str) : hasK (sortS b) k = hasK b k := by unfold hasK; rw [decide_eq_decide, mem_sortS]
theorem walkS_eq (a b : List Str) (both : Bool) : walkS a b both = (sortS a).filter fun k => hasK (sortS b) k == both := by
  unfold walkS
  refine List.filter_congr fun x _ => ?_
  rw [hasK_sort]
end Go.Proofs.Ytodbmeklbamcfaa

/- Plain laws on states: rising keys and their values; what writes do to them; what leads from one to another one. No program in sight. -/
namespace Go.Proofs.Ytodbmeklbamcfaa

structure Pr where
  k : Str
  v : Str
structure Wt where
  k : Str
  v : Str
  d : Bool
instance : DecidableEq Pr := fun a b => decidable_of_iff (a.k = b.k ∧ a.v = b.v) ⟨fun ⟨h1, h2⟩ => by cases a; cases b; simp_all, fun h => by subst h; exact ⟨rfl, rfl⟩⟩
instance : DecidableEq Wt := fun a b => decidable_of_iff (a.k = b.k ∧ a.v = b.v ∧ a.d = b.d) ⟨fun ⟨h1, h2, h3⟩ => by cases a; cases b; simp_all, fun h => by subst h; exact ⟨rfl, rfl, rfl⟩⟩
def keyB (k : Str) : Bool := decide (1 ≤ k.length) && decide (k.length ≤ 32)
def okP (p : Pr) : Bool := keyB p.k && decide (p.v.length ≤ 64)
def RiseP (l : List Pr) : Prop := Rise (l.map Pr.k)
def goodP (l : List Pr) : Bool := l.all okP && checkK (l.map Pr.k)
def checkS (l : List Pr) : Int := if 65536 < l.length then 3 else if goodP l then 0 else 2
theorem goodP_iff (l : List Pr) : goodP l = true ↔ (∀ p ∈ l, okP p = true) ∧ RiseP l := by
  unfold goodP RiseP
  rw [Bool.and_eq_true, List.all_eq_true, checkK_iff]
theorem checkS_ok (l : List Pr) : checkS l = 0 ↔ l.length ≤ 65536 ∧ goodP l = true := by
  unfold checkS
  split
  · constructor
    · intro h; omega
    · intro h; omega
  · split
    · rename_i h1 h2; exact ⟨fun _ => ⟨by omega, h2⟩, fun _ => rfl⟩
    · rename_i h1 h2; exact ⟨fun h => by omega, fun h => absurd h.2 h2⟩
theorem checkS_rise {l : List Pr} (h : checkS l = 0) : RiseP l := ((goodP_iff l).1 ((checkS_ok l).1 h).2).2
theorem RiseP.cons {p : Pr} {l : List Pr} (h : RiseP (p :: l)) : (∀ q ∈ l, p.k < q.k) ∧ RiseP l := by
  unfold RiseP Rise at h
  rw [List.map_cons, List.pairwise_cons] at h
  exact ⟨fun q hq => h.1 q.k (List.mem_map.2 ⟨q, hq, rfl⟩), h.2⟩
theorem RiseP.mk {p : Pr} {l : List Pr} (h : ∀ q ∈ l, p.k < q.k) (hl : RiseP l) : RiseP (p :: l) := by
  unfold RiseP Rise
  rw [List.map_cons, List.pairwise_cons]
  refine ⟨fun x hx => ?_, hl⟩
  obtain ⟨q, hq, rfl⟩ := List.mem_map.1 hx
  exact h q hq

/-- What a key has. -/
def lookP (l : List Pr) (k : Str) : Option Str := (l.find? fun p => decide (p.k = k)).map Pr.v
theorem look_nil (k : Str) : lookP [] k = none := rfl
theorem look_cons (p : Pr) (l : List Pr) (k : Str) : lookP (p :: l) k = if p.k = k then some p.v else lookP l k := by
  unfold lookP
  by_cases h : p.k = k <;> simp [h]
theorem look_none {l : List Pr} {k : Str} (h : ∀ p ∈ l, p.k ≠ k) : lookP l k = none := by
  induction l with
  | nil => rfl
  | cons p l ih => rw [look_cons, if_neg (h p (by simp)), ih fun q hq => h q (by simp [hq])]
theorem look_mem {l : List Pr} {k v : Str} (h : lookP l k = some v) : ⟨k, v⟩ ∈ l := by
  induction l with
  | nil => cases h
  | cons p l ih =>
    rw [look_cons] at h
    by_cases e : p.k = k
    · rw [if_pos e] at h
      have : p = ⟨k, v⟩ := by cases p; simp at h e; subst h e; rfl
      simp [this]
    · rw [if_neg e] at h
      exact List.mem_cons_of_mem _ (ih h)
theorem mem_look {l : List Pr} (hl : RiseP l) {p : Pr} (h : p ∈ l) : lookP l p.k = some p.v := by
  induction l with
  | nil => cases h
  | cons q l ih =>
    rw [look_cons]
    rcases List.mem_cons.1 h with rfl | h
    · rw [if_pos rfl]
    · rw [if_neg (fun e => str_irrefl p.k (by have := hl.cons.1 p h; rwa [e] at this)), ih hl.cons.2 h]
theorem RiseP.ext {a b : List Pr} (ha : RiseP a) (hb : RiseP b) (h : ∀ k, lookP a k = lookP b k) : a = b := by
  induction a generalizing b with
  | nil =>
    cases b with
    | nil => rfl
    | cons q b => have := h q.k; rw [look_nil, look_cons, if_pos rfl] at this; cases this
  | cons p a ih =>
    cases b with
    | nil => have := h p.k; rw [look_nil, look_cons, if_pos rfl] at this; cases this
    | cons q b =>
      have hp : q.k = p.k := by
        rcases str_total q.k p.k with e | e | e
        · have h1 := h q.k
          rw [look_cons q, if_pos rfl, look_none (l := p :: a)] at h1
          · cases h1
          · intro r hr er
            rcases List.mem_cons.1 hr with rfl | hr
            · exact str_irrefl _ (by rw [er] at e; exact e)
            · have := ha.cons.1 r hr; rw [er] at this; exact str_irrefl _ (str_trans e this)
        · exact e
        · have h1 := h p.k
          rw [look_cons p, if_pos rfl, look_none (l := q :: b)] at h1
          · cases h1
          · intro r hr er
            rcases List.mem_cons.1 hr with rfl | hr
            · exact str_irrefl _ (by rw [er] at e; exact e)
            · have := hb.cons.1 r hr; rw [er] at this; exact str_irrefl _ (str_trans e this)
      have hv : p.v = q.v := by
        have h1 := h p.k
        rw [look_cons, if_pos rfl, look_cons, if_pos hp] at h1
        exact Option.some.inj h1
      have hpq : p = q := by cases p; cases q; simp at hp hv; subst hp hv; rfl
      subst hpq
      congr 1
      refine ih ha.cons.2 hb.cons.2 fun k => ?_
      have h1 := h k
      rw [look_cons, look_cons] at h1
      by_cases e : p.k = k
      · rw [look_none fun r hr er => str_irrefl k (by have := ha.cons.1 r hr; rwa [e, er] at this), look_none fun r hr er => str_irrefl k (by have := hb.cons.1 r hr; rwa [e, er] at this)]
      · rwa [if_neg e, if_neg e] at h1

/-- A state behind a write. -/
def oneP (w : Wt) : List Pr → List Pr
  | [] => if w.d then [] else [⟨w.k, w.v⟩]
  | p :: l => if p.k < w.k then p :: oneP w l else if p.k = w.k then (if w.d then l else ⟨w.k, w.v⟩ :: l) else (if w.d then p :: l else ⟨w.k, w.v⟩ :: p :: l)
def applyP (l : List Pr) (ws : List Wt) : List Pr := ws.foldl (fun l w => oneP w l) l
theorem mem_oneP {w : Wt} {l : List Pr} {p : Pr} (h : p ∈ oneP w l) : p ∈ l ∨ (p = ⟨w.k, w.v⟩ ∧ w.d = false) := by
  induction l with
  | nil =>
    unfold oneP at h
    cases hd : w.d <;> simp [hd] at h
    exact .inr ⟨h, rfl⟩
  | cons q l ih =>
    unfold oneP at h
    by_cases h1 : q.k < w.k
    · rw [if_pos h1] at h
      rcases List.mem_cons.1 h with h | h
      · exact .inl (by simp [h])
      · rcases ih h with h | h
        · exact .inl (by simp [h])
        · exact .inr h
    · rw [if_neg h1] at h
      by_cases h2 : q.k = w.k
      · rw [if_pos h2] at h
        cases hd : w.d <;> simp [hd] at h
        · rcases h with h | h
          · exact .inr ⟨h, rfl⟩
          · exact .inl (by simp [h])
        · exact .inl (by simp [h])
      · rw [if_neg h2] at h
        cases hd : w.d <;> simp [hd] at h
        · rcases h with h | h | h
          · exact .inr ⟨h, rfl⟩
          · exact .inl (by simp [h])
          · exact .inl (by simp [h])
        · rcases h with h | h
          · exact .inl (by simp [h])
          · exact .inl (by simp [h])
theorem rise_oneP (w : Wt) {l : List Pr} (hl : RiseP l) : RiseP (oneP w l) := by
  induction l with
  | nil => unfold oneP; cases w.d <;> simp [RiseP, Rise]
  | cons p l ih =>
    unfold oneP
    by_cases h1 : p.k < w.k
    · rw [if_pos h1]
      refine RiseP.mk (fun q hq => ?_) (ih hl.cons.2)
      rcases mem_oneP hq with h | ⟨rfl, _⟩
      · exact hl.cons.1 q h
      · exact h1
    · rw [if_neg h1]
      by_cases h2 : p.k = w.k
      · rw [if_pos h2]
        cases w.d
        · exact RiseP.mk (fun q hq => by have := hl.cons.1 q hq; rwa [h2] at this) hl.cons.2
        · exact hl.cons.2
      · rw [if_neg h2]
        have h3 : w.k < p.k := by
          rcases str_total w.k p.k with h | h | h
          · exact h
          · exact absurd h.symm h2
          · exact absurd h h1
        cases w.d
        · refine RiseP.mk (fun q hq => ?_) hl
          rcases List.mem_cons.1 hq with rfl | hq
          · exact h3
          · exact str_trans h3 (hl.cons.1 q hq)
        · exact hl
theorem look_oneP (w : Wt) {l : List Pr} (hl : RiseP l) (k : Str) : lookP (oneP w l) k = if w.k = k then (if w.d then none else some w.v) else lookP l k := by
  induction l with
  | nil =>
    unfold oneP
    cases w.d
    · simp only [Bool.false_eq_true, if_false]
      rw [look_cons]
    · simp only [if_true]
      rw [look_nil]
      split <;> rfl
  | cons p l ih =>
    unfold oneP
    by_cases h1 : p.k < w.k
    · rw [if_pos h1, look_cons, ih hl.cons.2, look_cons]
      by_cases e : p.k = k
      · rw [if_pos e, if_pos e, if_neg fun e2 => str_irrefl k (by rwa [e, e2] at h1)]
      · rw [if_neg e, if_neg e]
    · rw [if_neg h1]
      by_cases h2 : p.k = w.k
      · rw [if_pos h2]
        cases w.d
        · simp only [Bool.false_eq_true, if_false]
          rw [look_cons, look_cons, h2]
          by_cases e : w.k = k
          · simp [e]
          · simp [e]
        · simp only [if_true]
          rw [look_cons, h2]
          by_cases e : w.k = k
          · rw [if_pos e]
            exact look_none fun q hq eq => str_irrefl k (by have := hl.cons.1 q hq; rwa [h2, e, eq] at this)
          · rw [if_neg e, if_neg e]
      · rw [if_neg h2]
        have h3 : w.k < p.k := by
          rcases str_total w.k p.k with h | h | h
          · exact h
          · exact absurd h.symm h2
          · exact absurd h h1
        cases w.d
        · simp only [Bool.false_eq_true, if_false]
          rw [look_cons]
        · simp only [if_true]
          by_cases e : w.k = k
          · rw [if_pos e]
            refine look_none fun q hq eq => ?_
            rcases List.mem_cons.1 hq with rfl | hq
            · exact str_irrefl k (by rwa [e, eq] at h3)
            · exact str_irrefl k (by have := str_trans h3 (hl.cons.1 q hq); rwa [e, eq] at this)
          · rw [if_neg e]
theorem rise_applyP {l : List Pr} (hl : RiseP l) (ws : List Wt) : RiseP (applyP l ws) := by
  induction ws generalizing l with
  | nil => exact hl
  | cons w ws ih => exact ih (rise_oneP w hl)
theorem applyP_snoc (l : List Pr) (ws : List Wt) (w : Wt) : applyP l (ws ++ [w]) = oneP w (applyP l ws) := by
  unfold applyP
  rw [List.foldl_append]
  rfl
theorem applyP_append (l : List Pr) (ws vs : List Wt) : applyP l (ws ++ vs) = applyP (applyP l ws) vs := by
  unfold applyP
  rw [List.foldl_append]
/-- May a write be? -/
def mayW (w : Wt) : Bool := keyB w.k && decide (w.v.length ≤ 64) && (!w.d || decide (w.v = []))
theorem ok_oneP {w : Wt} (hw : mayW w = true) {l : List Pr} (hl : ∀ p ∈ l, okP p = true) : ∀ p ∈ oneP w l, okP p = true := fun p hp => by
  rcases mem_oneP hp with h | ⟨rfl, _⟩
  · exact hl p h
  · unfold mayW at hw
    rw [Bool.and_eq_true] at hw
    exact hw.1
theorem ok_applyP {ws : List Wt} (hw : ∀ w ∈ ws, mayW w = true) {l : List Pr} (hl : ∀ p ∈ l, okP p = true) : ∀ p ∈ applyP l ws, okP p = true := by
  induction ws generalizing l with
  | nil => exact hl
  | cons w ws ih => exact ih (fun v hv => hw v (by simp [hv])) (ok_oneP (hw w (by simp)) hl)
theorem len_oneP (w : Wt) (l : List Pr) : (oneP w l).length ≤ l.length + 1 := by
  induction l with
  | nil => unfold oneP; cases w.d <;> simp
  | cons p l ih =>
    unfold oneP
    split
    · simp only [List.length_cons]; omega
    · split
      · cases w.d
        · simp
        · simp only [if_true, List.length_cons]; omega
      · cases w.d <;> simp
theorem len_applyP (l : List Pr) (ws : List Wt) : (applyP l ws).length ≤ l.length + ws.length := by
  induction ws generalizing l with
  | nil => simp [applyP]
  | cons w ws ih =>
    have h1 := ih (oneP w l)
    have h2 := len_oneP w l
    have h3 : applyP l (w :: ws) = applyP (oneP w l) ws := rfl
    rw [h3, List.length_cons]
    omega
/-- What stands behind writes, or just the error. -/
def applyE (l : List Pr) (ws : List Wt) : List Pr × Int :=
  if checkS l = 0 then (if ws.all mayW then (if 65536 < (applyP l ws).length then ([], 3) else (applyP l ws, 0)) else ([], 2)) else ([], checkS l)
theorem applyE_ok {l : List Pr} {ws : List Wt} (h : (applyE l ws).2 = 0) : checkS l = 0 ∧ (∀ w ∈ ws, mayW w = true) ∧ (applyE l ws).1 = applyP l ws ∧ checkS (applyP l ws) = 0 := by
  unfold applyE at h ⊢
  by_cases h1 : checkS l = 0
  · rw [if_pos h1] at h ⊢
    by_cases h2 : ws.all mayW = true
    · rw [if_pos h2] at h ⊢
      by_cases h3 : 65536 < (applyP l ws).length
      · rw [if_pos h3] at h; exact absurd h (by simp)
      · rw [if_neg h3]
        have h4 := (goodP_iff l).1 ((checkS_ok l).1 h1).2
        exact ⟨h1, List.all_eq_true.1 h2, rfl, (checkS_ok _).2 ⟨by omega, (goodP_iff _).2 ⟨ok_applyP (List.all_eq_true.1 h2) h4.1, rise_applyP h4.2 ws⟩⟩⟩
    · rw [if_neg h2] at h; exact absurd h (by simp)
  · rw [if_neg h1] at h; exact absurd h h1
theorem applyE_bad {l : List Pr} {ws : List Wt} (h : (applyE l ws).2 ≠ 0) : (applyE l ws).1 = [] := by
  unfold applyE at h ⊢
  split at h
  · split at h
    · split at h
      · rename_i h1 h2 h3; rw [if_pos h1, if_pos h2, if_pos h3]
      · exact absurd rfl h
    · rename_i h1 h2; rw [if_pos h1, if_neg h2]
  · rename_i h1; rw [if_neg h1]
/-- Where a key stands, or would. -/
def atP (l : List Pr) (k : Str) : Nat := (l.takeWhile fun p => decide (p.k < k)).length
theorem atP_le (l : List Pr) (k : Str) : atP l k ≤ l.length := (List.takeWhile_prefix _).length_le
theorem atP_cons (p : Pr) (l : List Pr) (k : Str) : atP (p :: l) k = if p.k < k then atP l k + 1 else 0 := by
  unfold atP
  by_cases h : p.k < k <;> simp [h]
theorem atP_lt {l : List Pr} {k : Str} {j : Nat} {p : Pr} (hj : j < atP l k) (hp : l[j]? = some p) : p.k < k := by
  induction l generalizing j with
  | nil => cases hp
  | cons q l ih =>
    rw [atP_cons] at hj
    split at hj
    · cases j with
      | zero => simp at hp; subst hp; assumption
      | succ j => exact ih (j := j) (by omega) (by simpa using hp)
    · omega
theorem atP_ge {l : List Pr} (hl : RiseP l) {k : Str} {j : Nat} {p : Pr} (hj : atP l k ≤ j) (hp : l[j]? = some p) : ¬ p.k < k := by
  induction l generalizing j with
  | nil => cases hp
  | cons q l ih =>
    rw [atP_cons] at hj
    split at hj
    · cases j with
      | zero => omega
      | succ j => exact ih hl.cons.2 (j := j) (by omega) (by simpa using hp)
    · rename_i hq
      cases j with
      | zero => simp at hp; subst hp; exact hq
      | succ j =>
        intro h
        have := hl.cons.1 p (List.mem_of_getElem? (by simpa using hp : l[j]? = some p))
        exact hq (str_trans this h)
theorem atP_eq {l : List Pr} {k : Str} {n : Nat} (hn : n ≤ l.length) (h1 : ∀ j p, j < n → l[j]? = some p → p.k < k) (h2 : ∀ p, l[n]? = some p → ¬ p.k < k) : atP l k = n := by
  induction l generalizing n with
  | nil => simp at hn; subst hn; rfl
  | cons q l ih =>
    rw [atP_cons]
    cases n with
    | zero => rw [if_neg (h2 q rfl)]
    | succ n =>
      rw [if_pos (h1 0 q (by omega) rfl)]
      rw [ih (n := n) (by simpa using hn) (fun j p hj hp => h1 (j + 1) p (by omega) (by simpa using hp)) (fun p hp => h2 p (by simpa using hp))]
theorem look_atP {l : List Pr} (hl : RiseP l) (k : Str) : lookP l k = (l[atP l k]?).bind fun p => if p.k = k then some p.v else none := by
  induction l with
  | nil => rfl
  | cons p l ih =>
    rw [look_cons, atP_cons]
    by_cases h : p.k < k
    · rw [if_pos h, if_neg (fun e => str_irrefl k (by rwa [e] at h)), ih hl.cons.2]
      simp
    · rw [if_neg h]
      by_cases e : p.k = k
      · simp [e]
      · rw [if_neg e]
        simp [e]
        refine look_none fun q hq eq => ?_
        have h1 := hl.cons.1 q hq
        rw [eq] at h1
        exact h h1
theorem oneP_atP (w : Wt) : ∀ (l : List Pr), oneP w l = l.take (atP l w.k) ++ (if w.d then [] else [⟨w.k, w.v⟩]) ++ l.drop (atP l w.k + if (l[atP l w.k]?).any (fun p => decide (p.k = w.k)) then 1 else 0)
  | [] => by unfold oneP; cases w.d <;> simp [atP]
  | p :: l => by
    unfold oneP
    rw [atP_cons]
    by_cases h : p.k < w.k
    · rw [if_pos h, if_pos h, oneP_atP w l]
      simp only [List.take_succ_cons, List.cons_append, List.getElem?_cons_succ, List.append_assoc, List.cons.injEq, true_and]
      congr 2
      rw [show atP l w.k + 1 + (if (l[atP l w.k]?).any (fun p => decide (p.k = w.k)) = true then 1 else 0) = (atP l w.k + (if (l[atP l w.k]?).any (fun p => decide (p.k = w.k)) = true then 1 else 0)) + 1 by omega, List.drop_succ_cons]
    · rw [if_neg h, if_neg h]
      by_cases e : p.k = w.k
      · rw [if_pos e]; cases w.d <;> simp [e]
      · rw [if_neg e]; cases w.d <;> simp [e]
end Go.Proofs.Ytodbmeklbamcfaa

/- Plain laws on states: what leads from one to another one; spans that are gone through. No program in sight. -/
namespace Go.Proofs.Ytodbmeklbamcfaa

def diffP : List Pr → List Pr → List Wt
  | [], [] => []
  | p :: a, [] => ⟨p.k, [], true⟩ :: diffP a []
  | [], q :: b => ⟨q.k, q.v, false⟩ :: diffP [] b
  | p :: a, q :: b =>
    if p.k < q.k then ⟨p.k, [], true⟩ :: diffP a (q :: b)
    else if q.k < p.k then ⟨q.k, q.v, false⟩ :: diffP (p :: a) b
    else (if p.v = q.v then [] else [⟨q.k, q.v, false⟩]) ++ diffP a b
termination_by a b => a.length + b.length
def diffE (a b : List Pr) : List Wt := if checkS a = 0 ∧ checkS b = 0 then diffP a b else []
def changedE (a b : List Pr) : List Str := (diffE a b).map Wt.k
/-- What a write says of a key. -/
def Wt.says (w : Wt) : Option Str := if w.d then none else some w.v
theorem diff_mem {a b : List Pr} {w : Wt} (h : w ∈ diffP a b) : (w.d = true ∧ w.v = [] ∧ ∃ p ∈ a, p.k = w.k) ∨ (w.d = false ∧ ⟨w.k, w.v⟩ ∈ b) := by
  fun_induction diffP a b with
  | case1 => cases h
  | case2 p a ih =>
    rcases List.mem_cons.1 h with rfl | h
    · exact .inl ⟨rfl, rfl, p, by simp, rfl⟩
    · rcases ih h with ⟨h1, h2, q, hq, h3⟩ | ⟨h1, h2⟩
      · exact .inl ⟨h1, h2, q, by simp [hq], h3⟩
      · cases h2
  | case3 q b ih =>
    rcases List.mem_cons.1 h with rfl | h
    · exact .inr ⟨rfl, by simp⟩
    · rcases ih h with ⟨_, _, q, hq, _⟩ | ⟨h1, h2⟩
      · cases hq
      · exact .inr ⟨h1, by simp [h2]⟩
  | case4 p a q b hlt ih =>
    rcases List.mem_cons.1 h with rfl | h
    · exact .inl ⟨rfl, rfl, p, by simp, rfl⟩
    · rcases ih h with ⟨h1, h2, q', hq, h3⟩ | ⟨h1, h2⟩
      · exact .inl ⟨h1, h2, q', by simp [hq], h3⟩
      · exact .inr ⟨h1, h2⟩
  | case5 p a q b h1' h2' ih =>
    rcases List.mem_cons.1 h with rfl | h
    · exact .inr ⟨rfl, by simp⟩
    · rcases ih h with ⟨h1, h2, q', hq, h3⟩ | ⟨h1, h2⟩
      · exact .inl ⟨h1, h2, q', hq, h3⟩
      · exact .inr ⟨h1, by simp [h2]⟩
  | case6 p a q b h1' h2' ih =>
    rcases List.mem_append.1 h with h | h
    · split at h
      · cases h
      · simp at h; subst h; exact .inr ⟨rfl, by simp⟩
    · rcases ih h with ⟨h1, h2, q', hq, h3⟩ | ⟨h1, h2⟩
      · exact .inl ⟨h1, h2, q', by simp [hq], h3⟩
      · exact .inr ⟨h1, by simp [h2]⟩
theorem diff_key {a b : List Pr} {w : Wt} (h : w ∈ diffP a b) : (∃ p ∈ a, p.k = w.k) ∨ ∃ p ∈ b, p.k = w.k := by
  rcases diff_mem h with ⟨_, _, h⟩ | ⟨_, h⟩
  · exact .inl h
  · exact .inr ⟨_, h, rfl⟩
theorem not_lt_both {x y : Str} (h1 : ¬ x < y) (h2 : ¬ y < x) : x = y := by
  rcases str_total x y with h | h | h
  · exact absurd h h1
  · exact h
  · exact absurd h h2
theorem diff_rise {a b : List Pr} (ha : RiseP a) (hb : RiseP b) : Rise ((diffP a b).map Wt.k) := by
  fun_induction diffP a b with
  | case1 => exact List.Pairwise.nil
  | case2 p a ih =>
    refine List.pairwise_cons.2 ⟨fun x hx => ?_, ih ha.cons.2 hb⟩
    obtain ⟨w, hw, rfl⟩ := List.mem_map.1 hx
    rcases diff_key hw with ⟨r, hr, e⟩ | ⟨r, hr, e⟩
    · rw [← e]; exact ha.cons.1 r hr
    · cases hr
  | case3 q b ih =>
    refine List.pairwise_cons.2 ⟨fun x hx => ?_, ih ha hb.cons.2⟩
    obtain ⟨w, hw, rfl⟩ := List.mem_map.1 hx
    rcases diff_key hw with ⟨r, hr, e⟩ | ⟨r, hr, e⟩
    · cases hr
    · rw [← e]; exact hb.cons.1 r hr
  | case4 p a q b hlt ih =>
    refine List.pairwise_cons.2 ⟨fun x hx => ?_, ih ha.cons.2 hb⟩
    obtain ⟨w, hw, rfl⟩ := List.mem_map.1 hx
    rcases diff_key hw with ⟨r, hr, e⟩ | ⟨r, hr, e⟩
    · rw [← e]; exact ha.cons.1 r hr
    · rw [← e]
      rcases List.mem_cons.1 hr with rfl | hr
      · exact hlt
      · exact str_trans hlt (hb.cons.1 r hr)
  | case5 p a q b h1 hlt ih =>
    refine List.pairwise_cons.2 ⟨fun x hx => ?_, ih ha hb.cons.2⟩
    obtain ⟨w, hw, rfl⟩ := List.mem_map.1 hx
    rcases diff_key hw with ⟨r, hr, e⟩ | ⟨r, hr, e⟩
    · rw [← e]
      rcases List.mem_cons.1 hr with rfl | hr
      · exact hlt
      · exact str_trans hlt (ha.cons.1 r hr)
    · rw [← e]; exact hb.cons.1 r hr
  | case6 p a q b h1 h2 ih =>
    have ih' := ih ha.cons.2 hb.cons.2
    have hk := not_lt_both h1 h2
    split
    · simpa using ih'
    · rw [List.cons_append, List.nil_append, List.map_cons]
      refine List.pairwise_cons.2 ⟨fun x hx => ?_, ih'⟩
      obtain ⟨w, hw, rfl⟩ := List.mem_map.1 hx
      rcases diff_key hw with ⟨r, hr, e⟩ | ⟨r, hr, e⟩
      · rw [← e]; show q.k < r.k; rw [← hk]; exact ha.cons.1 r hr
      · rw [← e]; exact hb.cons.1 r hr
/-- The writes of unlike keys, gone through: what a key has. -/
theorem look_apply_rise {l : List Pr} (hl : RiseP l) {ws : List Wt} (h : Rise (ws.map Wt.k)) (k : Str) : lookP (applyP l ws) k = match ws.find? (fun w => decide (w.k = k)) with | some w => w.says | none => lookP l k := by
  induction ws generalizing l with
  | nil => rfl
  | cons w ws ih =>
    have h0 := List.pairwise_cons.1 h
    have e1 : applyP l (w :: ws) = applyP (oneP w l) ws := rfl
    rw [e1, ih (rise_oneP w hl) h0.2, List.find?_cons]
    by_cases e : w.k = k
    · have : ws.find? (fun w => decide (w.k = k)) = none := by
        rw [List.find?_eq_none]
        intro x hx ex
        have e2 : x.k = k := of_decide_eq_true ex
        have := h0.1 x.k (List.mem_map.2 ⟨x, hx, rfl⟩)
        rw [e, e2] at this
        exact str_irrefl k this
      rw [this]
      simp only [e, decide_true, look_oneP w hl, if_true]
      rfl
    · simp only [e, decide_false, look_oneP w hl, if_false]
theorem diff_find {a b : List Pr} (ha : RiseP a) (hb : RiseP b) (k : Str) : (diffP a b).find? (fun w => decide (w.k = k)) = if lookP a k = lookP b k then none else some ⟨k, (lookP b k).getD [], (lookP b k).isNone⟩ := by
  fun_induction diffP a b with
  | case1 => simp [look_nil]
  | case2 p a ih =>
    have hn : ∀ q ∈ a, q.k ≠ p.k := fun q hq e => str_irrefl p.k (by have := ha.cons.1 q hq; rwa [e] at this)
    rw [List.find?_cons, ih ha.cons.2 hb, look_cons, look_nil]
    by_cases e : p.k = k
    · simp [e]
    · simp [e]
  | case3 q b ih =>
    rw [List.find?_cons, ih ha hb.cons.2, look_cons, look_nil]
    by_cases e : q.k = k
    · subst e; simp
    · simp [e]
  | case4 p a q b hlt ih =>
    rw [List.find?_cons, ih ha.cons.2 hb, look_cons p]
    by_cases e : p.k = k
    · have hn : lookP (q :: b) k = none := look_none fun r hr er => by
        rcases List.mem_cons.1 hr with rfl | hr
        · exact str_irrefl k (by rwa [e, er] at hlt)
        · exact str_irrefl k (by have := str_trans hlt (hb.cons.1 r hr); rwa [e, er] at this)
      simp [e, hn]
    · simp [e]
  | case5 p a q b h1 hlt ih =>
    rw [List.find?_cons, ih ha hb.cons.2, look_cons q]
    by_cases e : q.k = k
    · have hn : lookP (p :: a) k = none := look_none fun r hr er => by
        rcases List.mem_cons.1 hr with rfl | hr
        · exact str_irrefl k (by rwa [e, er] at hlt)
        · exact str_irrefl k (by have := str_trans hlt (ha.cons.1 r hr); rwa [e, er] at this)
      subst e
      simp [hn]
    · simp [e]
  | case6 p a q b h1 h2 ih =>
    have hk := not_lt_both h1 h2
    rw [List.find?_append, ih ha.cons.2 hb.cons.2, look_cons, look_cons]
    by_cases e : p.k = k
    · have e' : q.k = k := by rw [← hk, e]
      have hna : lookP a k = none := look_none fun r hr er => str_irrefl k (by have := ha.cons.1 r hr; rwa [e, er] at this)
      have hnb : lookP b k = none := look_none fun r hr er => str_irrefl k (by have := hb.cons.1 r hr; rwa [e', er] at this)
      by_cases ev : p.v = q.v
      · simp [e, e', hna, hnb, ev]
      · simp [e, e', ev]
    · have e' : ¬ q.k = k := by rw [← hk]; exact e
      by_cases ev : p.v = q.v
      · simp [e, e', ev]
      · simp [e, e', ev]
/-- What Diff tells leads from the one to the other one. -/
theorem diff_leads {a b : List Pr} (ha : RiseP a) (hb : RiseP b) : applyP a (diffP a b) = b := by
  refine (rise_applyP ha _).ext hb fun k => ?_
  rw [look_apply_rise ha (diff_rise ha hb), diff_find ha hb]
  by_cases e : lookP a k = lookP b k
  · simp [e]
  · rw [if_neg e]
    cases hb2 : lookP b k <;> simp [Wt.says]
theorem diff_has {a b : List Pr} (ha : RiseP a) (hb : RiseP b) (k : Str) : k ∈ (diffP a b).map Wt.k ↔ lookP a k ≠ lookP b k := by
  have h := diff_find ha hb k
  constructor
  · intro hk e
    rw [if_pos e, List.find?_eq_none] at h
    obtain ⟨w, hw, rfl⟩ := List.mem_map.1 hk
    exact h w hw (by simp)
  · intro e
    rw [if_neg e] at h
    have := List.find?_some h
    exact List.mem_map.2 ⟨_, List.mem_of_find?_eq_some h, rfl⟩
theorem diff_nil {a b : List Pr} (ha : RiseP a) (hb : RiseP b) : diffP a b = [] ↔ a = b := by
  constructor
  · intro h
    refine ha.ext hb fun k => ?_
    cases em : decide (lookP a k = lookP b k) with
    | true => exact of_decide_eq_true em
    | false =>
      have := (diff_has ha hb k).2 (of_decide_eq_false em)
      rw [h] at this
      cases this
  · rintro rfl
    cases h : diffP a a with
    | nil => rfl
    | cons w l =>
      have := (diff_has ha hb w.k).1 (by rw [h]; simp)
      exact absurd rfl this
theorem okP_key {p : Pr} (h : okP p = true) : keyB p.k = true ∧ p.v.length ≤ 64 := by
  unfold okP at h
  rw [Bool.and_eq_true, decide_eq_true_eq] at h
  exact h
theorem diff_may {a b : List Pr} (ha : ∀ p ∈ a, okP p = true) (hb : ∀ p ∈ b, okP p = true) : ∀ w ∈ diffP a b, mayW w = true := fun w hw => by
  unfold mayW
  rcases diff_mem hw with ⟨h1, h2, p, hp, h3⟩ | ⟨h1, h2⟩
  · have := okP_key (ha p hp)
    rw [h3] at this
    simp [this.1, h2]
  · have := okP_key (hb _ h2)
    simp [this.1, this.2, h1]
theorem diff_len (a b : List Pr) : (diffP a b).length ≤ a.length + b.length := by
  fun_induction diffP a b with
  | case1 => simp
  | case2 p a ih => simp only [List.length_cons, List.length_nil] at *; omega
  | case3 q b ih => simp only [List.length_cons, List.length_nil] at *; omega
  | case4 p a q b _ ih => simp only [List.length_cons] at *; omega
  | case5 p a q b _ _ ih => simp only [List.length_cons] at *; omega
  | case6 p a q b _ _ ih => split <;> simp only [List.length_cons, List.length_append, List.length_nil] at * <;> omega
/-- What a key has behind writes: what the last one of it says. -/
theorem look_snoc {l : List Pr} (hl : RiseP l) (ws : List Wt) (w : Wt) (k : Str) : lookP (applyP l (ws ++ [w])) k = if w.k = k then w.says else lookP (applyP l ws) k := by
  rw [applyP_snoc, look_oneP w (rise_applyP hl ws)]
  rfl
end Go.Proofs.Ytodbmeklbamcfaa

/- Zero values appended to nil: a new row with room. No program in sight. -/
namespace Go.Rt
open Go.RowKit
section
variable {P : Program} {W w : World} {l : List SL}
set_option maxRecDepth 100000 in
theorem wpList_append_zeros {ops : Array Oper} {rest : List Oper} {o : Oper} {a : Act} {Q : Exit → Act → World → Prop} (hgd : o.guard = none) (s x : Operand) (t tn : TypeId)
    (ho : o.op = .call { callee := .builtin .append, args := #[s, x], argTypes := #[t, tn] })
    (e : TypeId) (i : TypeInfo) (z : Value) (zc : List Value) (kn : IntKind) (ht : P.underlying t = some (.slice e)) (htn : P.underlying tn = some (.int kn)) (hi : P.info? e = some i) (hz : i.zero = some z) (hzc : z.cells = zc.toArray)
    (hsize : i.size = zc.length) (hpos : 0 < zc.length) (hzz : LikeZ zc) (hs : a.eval s = .slice none 0 0) (k : Nat) (hx : a.eval x = .int .i64 k) (h0 : 0 < k) (h63 : k ≤ maxLen) (hbytes : k * i.bytes ≤ 140737488355328) (H : Sat W w l)
    (hK : ∀ g c' w', Sat W w' (row e zc (.slice (some ⟨g, 0, none⟩) 0 c') 0 [] :: l) → k ≤ c' → wpList P ops Q rest (a.put o.dst (.slice (some ⟨g, 0, none⟩) k c')) w') : wpList P ops Q (o :: rest) a w := by
  refine wpList_plain hgd fun K hK' => ?_
  have hold : (Builtin.firstCells i.size 0 (.slice none 0 0)).run P w.drew = .ok #[] w.drew := run_firstCells_none w.drew i.size 0 0 0
  have h63' : ((0 + k : Nat) : Int) ≤ 9223372036854775807 := by unfold maxLen at h63; omega
  have hrun := Lib.run_append_grow_zeros w t tn o.type e i z .i64 kn ht htn hi hz none 0 0 [] hold k h0 (by omega) (by omega) h63' (by omega) (by rw [Nat.zero_add]; exact growslice_fits h0 hbytes)
  have hge := grownCap_ge w (0 + k) 0 e
  have hle := grownCap_le_maxLen w (0 + k) 0 e (by omega)
  rw [Nat.zero_add] at hrun hge hle
  generalize grownCap w k 0 e = G at *
  have hcs : ((#[] : Array Value) ++ Builtin.zeroCells z.cells k ++ Builtin.zeroCells z.cells (G - k)).size = G * zc.length := by
    have h1 : (Builtin.zeroCells z.cells k).size = k * zc.length := by rw [size_zeroCells, hzc]; rfl
    have h2 : (Builtin.zeroCells z.cells (G - k)).size = (G - k) * zc.length := by rw [size_zeroCells, hzc]; rfl
    rw [Array.size_append, Array.size_append, h1, h2, show (#[] : Array Value).size = 0 from rfl, Nat.zero_add, ← Nat.add_mul]
    congr 1
    omega
  have hty : Typed zc ((#[] : Array Value) ++ Builtin.zeroCells z.cells k ++ Builtin.zeroCells z.cells (G - k)).toList := by
    rw [hzc]
    simp only [Array.toList_append, List.nil_append]
    refine Typed.append (Typed.zeros hzz k) (Typed.zeros hzz _) ?_
    rw [Array.length_toList, size_zeroCells]
    simp
  have H2 := (H.drew).made ((#[] : Array Value) ++ Builtin.zeroCells z.cells k ++ Builtin.zeroCells z.cells (G - k)) e zc 0 G (by omega) hle hcs hty
  rw [Nat.zero_mul, List.take_zero] at H2
  unfold Oper.wp execOp
  simp only [ho, resolve, invoke, builtin, Sem.run_bind, Sem.run_pure, Result.andThen_ok, List.map_toArray, List.map_cons, List.map_nil, hs, hx, hrun]
  exact hK' _ _ (hK _ _ _ H2 hge)
end
end Go.Rt

/- Lists of keys, one behind the other; the set of either. -/
namespace Go.Proofs.Ytodbmeklbamcfaa
open Go.RowKit Go.Rt

/-- A list of texts as a slice's value; lists, one behind the other. -/
abbrev tsV (p : Option Addr × Nat × List Str) : Value := .slice p.1 p.2.2.length p.2.1
def catT (ps : List (Option Addr × Nat × List Str)) : List Str := ps.flatMap (·.2.2)
theorem catT_append (a b : List (Option Addr × Nat × List Str)) : catT (a ++ b) = catT a ++ catT b := by simp [catT]

end Go.Proofs.Ytodbmeklbamcfaa

/- Sorted lists gone through from their heads: what is in both, or not. -/
namespace Go.Proofs.Ytodbmeklbamcfaa
open Go.RowKit Go.Rt

set_option maxRecDepth 100000 in
theorem eleft_any (p : Nat) (A : Option Addr) (n c : Nat) (w : World) (hc : w.cell? ⟨p, 0, none⟩ = some (.slice A n c)) :
    Calls Try.prog 115 #[.pointer (some ⟨p, 0, none⟩)] w fun e w' => e = .returned (.bool (decide (0 < n))) ∧ w' = w := by
  go_enter Try.func115, Try.ntmps115
  go_wp2
  go_ret
  exact ⟨by simp, rfl⟩
set_option maxRecDepth 100000 in
theorem ehead_any (p b o : Nat) (n c : Nat) (x : Str) (w : World) (hc : w.cell? ⟨p, 0, none⟩ = some (.slice (some ⟨b, o, none⟩) n c)) (hn : 0 < n) (hx : w.cell? ⟨b, o, none⟩ = some (.string ⟨x.toArray⟩)) :
    Calls Try.prog 117 #[.pointer (some ⟨p, 0, none⟩)] w fun e w' => e = .returned (.string ⟨x.toArray⟩) ∧ w' = w := by
  go_enter Try.func117, Try.ntmps117
  go_wp2
  go_ret
  exact ⟨rfl, rfl⟩
set_option maxRecDepth 100000 in
theorem enext_any {W w : World} {L : List SL} (p : Nat) (A : Option Addr) (n c : Nat) (t : TypeId) (hn : 0 < n) (H : Sat W w (pt p #[.slice A n c] t :: L)) :
    Calls Try.prog 116 #[.pointer (some ⟨p, 0, none⟩)] w fun e w' => e = .returned (.tuple #[]) ∧ Sat W w' (pt p #[.slice (subA A c 1) (n - 1) (c - 1)] t :: L) := by
  obtain ⟨i0, hi, hz0, hz1, hz2⟩ := info_parts infoStr
  have hc : w.cell? ⟨p, 0, none⟩ = some (.slice A n c) := H.cell 0
  have hf := H.frz 0
  have H2 := H.setCell 0 (.slice (subA A c 1) (n - 1) (c - 1))
  go_enter Try.func116, Try.ntmps116
  go_wp2_with (refine wpList_slice_from (by rfl) (.tmp 6) (.const (.int .i64 1)) 39 rfl 9 i0 Try.underlying39 hi hz1 A n c 1 rfl rfl (by omega) ?_)
  go_end0
  exact ⟨rfl, H2⟩
/-- (printed by kdf.py) -/
theorem eleft_is (p : Nat) (A : Option Addr) (n c : Nat) (v : Bool) (hv : decide (0 < n) = v) (w : World) (hc : w.cell? ⟨p, 0, none⟩ = some (.slice A n c)) :
    Calls Try.prog 115 #[.pointer (some ⟨p, 0, none⟩)] w fun e w' => e = .returned (.bool v) ∧ w' = w := by subst hv; exact eleft_any p A n c w hc
theorem cellD {w : World} {a : Addr} {v : Value} (h : w.cell? a = some v) (n : Nat) : (w.drewN n).cell? a = some v := h
theorem RdL.next {W : World} {L : List SL} {A : Option Addr} {c : Nat} {x : Str} {m : List Str} (h : RdL W L A (tsC (x :: m))) (hc : (x :: m).length ≤ c) : RdL W L (subA A c 1) (tsC m) := fun w H => by
  have h1 := subA_rd (h w H) (n := m.length + 1) (by simp [tsC]) hc 1 m.length (by omega)
  have e : ((tsC (x :: m)).drop 1).take m.length = tsC m := by
    show (tsC m).take m.length = _
    rw [List.take_of_length_le (by rw [tsC_len]; exact Nat.le_refl _)]
  rwa [e] at h1
theorem rdl_head {W w : World} {L : List SL} {A : Option Addr} {x : Str} {m : List Str} (h : RdL W L A (tsC (x :: m))) (H : Sat W w L) : ∃ b o, A = some ⟨b, o, none⟩ ∧ ∀ w', Sat W w' L → w'.cell? ⟨b, o, none⟩ = some (.string ⟨x.toArray⟩) := by
  obtain ⟨b, o, rfl, _⟩ := ts_at (h w H) 0 x rfl
  refine ⟨b, o, rfl, fun w' H' => ?_⟩
  have := (h w' H').at 0 (u := encStr x) rfl
  exact this

set_option maxRecDepth 100000 in
theorem eof_any {W w : World} {L : List SL} (A : Option Addr) (c : Nat) (l : List Str) (hl : l.length ≤ 1000000000) (hx : ∀ x ∈ l, x.length ≤ maxLen) (hr : Rd w A (tsC l)) (H : Sat W w L) :
    Calls Try.prog 114 #[.slice A l.length c] w fun e w' => ∃ p A' c', e = .returned (.pointer (some ⟨p, 0, none⟩)) ∧ (sortS l).length ≤ c' ∧ c' ≤ maxLen ∧ Sat W w' (pt p #[.slice A' (sortS l).length c'] 162 :: seenS 9 (.slice A' (sortS l).length c') (sortS l).length (tsC (sortS l)) :: L) := by
  have h := eSort_sat A c l hl hx hr H
  have HH := Lib.hid h
  clear h
  go_enter Try.func114, Try.ntmps114
  go_wp2_with fail
  refine HH.out.mono ?_
  rintro e w1 ⟨A1, c1, rfl, H1⟩
  obtain ⟨_, A2, c2, hv, h1, h2, _⟩ := H1.new_slice
  cases hv
  have H2 := H1.alloc #[.slice A1 (sortS l).length c1] 162
  go_wp2
  go_ret
  exact ⟨_, A1, c1, rfl, h1, h2, H2⟩

set_option maxRecDepth 100000 in
set_option maxHeartbeats 16000000 in
theorem ewalk_any {W w : World} {L : List SL} (A A' : Option Addr) (c c' : Nat) (a b : List Str) (both : Bool) (ha : a.length ≤ 100000000) (hb : b.length ≤ 100000000) (hxa : ∀ x ∈ a, x.length ≤ maxLen) (hxb : ∀ x ∈ b, x.length ≤ maxLen) (hr : RdL W L A (tsC a)) (hr' : RdL W L A' (tsC b)) (H : Sat W w L) :
    Calls Try.prog 98 #[.slice A a.length c, .slice A' b.length c', .bool both] w fun e w' => ∃ A2 c2, e = .returned (.slice A2 (walkS a b both).length c2) ∧ Sat W w' (seenS 9 (.slice A2 (walkS a b both).length c2) (walkS a b both).length (tsC (walkS a b both)) :: L) := by
  obtain ⟨i0, hi, hz0, hz1, hz2⟩ := info_parts infoStr
  have hofa := eof_any (W := W) A c a (by omega) hxa (hr _ H) H
  have hofb := fun w0 (L0 : List SL) (r : Rd w0 A' (tsC b)) (h : Sat W w0 L0) => eof_any (W := W) A' c' b (by omega) hxb r h
  rw [walkS_eq]
  have hra := rise_sortS a
  have hrb := rise_sortS b
  have hla := sortS_len a
  obtain ⟨pb, hpb⟩ : ∃ pb : Str → Bool, (fun k => hasK (sortS b) k == both) = pb := ⟨_, rfl⟩
  rw [hpb]
  have hpb2 : ∀ k, pb k = (hasK (sortS b) k == both) := fun k => by rw [← hpb]
  have hpl : ∀ px : List Str, px.length ≤ a.length → (px.filter pb).length ≤ 1000000000 := fun px h => Nat.le_trans (List.length_filter_le _ _) (by omega)
  have HOA := Lib.hid hofa
  have HOB := Lib.hid hofb
  have HRA := Lib.hid hra
  have HRB := Lib.hid hrb
  have HPB0 := Lib.hid hpb2
  have HPL := Lib.hid hpl
  clear hofa hofb hra hrb hpb hpb2 hpl hxa hxb
  generalize sortS a = xs at *
  generalize sortS b = ys at *
  go_enter Try.func98, Try.ntmps98
  go_wp2_with fail
  refine HOA.out.mono ?_
  rintro e w1 ⟨bx, Ax0, cx0, rfl, hcx0, _, H1⟩
  clear HOA
  go_wp2_with fail
  refine (HOB.out _ _ (hr' _ H1.tail.tail) H1).mono ?_
  rintro e w2 ⟨by_, Ay0, cy0, rfl, hcy0, _, H2⟩
  clear HOB H1
  have H3 : Sat W w2 (seenS 9 (.slice none 0 0) 0 [] :: pt bx #[.slice Ax0 xs.length cx0] 162 :: pt by_ #[.slice Ay0 ys.length cy0] 162 :: seenS 9 (.slice Ay0 ys.length cy0) ys.length (tsC ys) :: seenS 9 (.slice Ax0 xs.length cx0) xs.length (tsC xs) :: L) := (H2.pull 2).new_nil _ _
  clear H2
  obtain ⟨Ls, hLs⟩ : ∃ Ls, (seenS 9 (.slice Ay0 ys.length cy0) ys.length (tsC ys) :: seenS 9 (.slice Ax0 xs.length cx0) xs.length (tsC xs) :: L) = Ls := ⟨_, rfl⟩
  have hry0 : RdL W Ls Ay0 (tsC ys) := by rw [← hLs]; exact RdL.seenS
  have hrx0 : RdL W Ls Ax0 (tsC xs) := by rw [← hLs]; exact RdL.tail RdL.seenS
  rw [hLs] at H3
  have HLS := Lib.hid hLs
  have HRY0 := Lib.hid hry0
  have HRX0 := Lib.hid hrx0
  clear hLs hry0 hrx0
  go_wp2
  go_loopg [7] xs.length (fun g ou wc => ∃ (px mx py my : List Str) (Ao : Option Addr) (co : Nat) (Ax : Option Addr) (cx : Nat) (Ay : Option Addr) (cy : Nat), g = mx.length ∧ Hid (WSt xs ys px mx py my) ∧ ou = .slice Ao (px.filter pb).length co ∧ Hid (RdL W Ls Ax (tsC mx)) ∧ Hid (RdL W Ls Ay (tsC my)) ∧ mx.length ≤ cx ∧ my.length ≤ cy ∧ Sat W wc (seenS 9 (.slice Ao (px.filter pb).length co) (px.filter pb).length (tsC (px.filter pb)) :: pt bx #[.slice Ax mx.length cx] 162 :: pt by_ #[.slice Ay my.length cy] 162 :: Ls))
  case atStart => exact ⟨[], xs, [], ys, none, 0, Ax0, cx0, Ay0, cy0, rfl, WSt.start xs ys, rfl, HRX0, HRY0, hcx0, hcy0, H3⟩
  case round =>
    obtain ⟨px, mx, py, my, Ao, co, Ax, cx, Ay, cy, rfl, HW, rfl, HRX, HRY, hcx, hcy, H4⟩ := hrel
    clear H3
    have cX : wr.cell? ⟨bx, 0, none⟩ = some (.slice Ax mx.length cx) := (H4.pull 1).cell 0
    cases mx with
    | nil =>
      have hdone := HW.out.done
      go_wp2_with fail
      refine (eleft_any bx Ax 0 cx _ cX).mono ?_
      rintro e _ ⟨rfl, rfl⟩
      subst hdone
      rw [← HLS.out] at H4
      go_wp2
      go_ret
      exact ⟨Ao, co, rfl, H4.swap.tail.swap.tail.swap.tail.swap.tail⟩
    | cons x mx =>
      obtain ⟨bX, oX, rfl, hxc0⟩ := rdl_head HRX.out H4.tail.tail.tail
      have HXC := Lib.hid hxc0
      have hlenpx : px.length ≤ a.length := by have h := HW.out.hx; have := congrArg List.length h; rw [List.length_append] at this; omega
      have HLEN := Lib.hid (HPL.out px hlenpx)
      clear hxc0 hlenpx
      go_wp2_with fail
      refine (eleft_any bx _ _ cx _ cX).mono ?_
      rintro e _ ⟨rfl, rfl⟩
      clear cX
      go_wp2
      go_loopg [37] my.length (fun g _ wc => ∃ (py my : List Str) (Ay : Option Addr) (cy : Nat), g = my.length ∧ Hid (WSt xs ys px (x :: mx) py my) ∧ Hid (RdL W Ls Ay (tsC my)) ∧ my.length ≤ cy ∧ Sat W wc (seenS 9 (.slice Ao (px.filter pb).length co) (px.filter pb).length (tsC (px.filter pb)) :: pt bx #[.slice (some ⟨bX, oX, none⟩) (x :: mx).length cx] 162 :: pt by_ #[.slice Ay my.length cy] 162 :: Ls))
      case atStart => exact ⟨py, my, Ay, cy, rfl, HW, HRY, hcy, H4⟩
      case round =>
        clear HW HRY hcy H4
        obtain ⟨py, my, Ay, cy, rfl, HW, HRY, hcy, H9⟩ := hrel
        have cX : wr.cell? ⟨bx, 0, none⟩ = some (.slice (some ⟨bX, oX, none⟩) (x :: mx).length cx) := (H9.pull 1).cell 0
        have cY : wr.cell? ⟨by_, 0, none⟩ = some (.slice Ay my.length cy) := (H9.pull 2).cell 0
        have hxc : wr.cell? ⟨bX, oX, none⟩ = some (.string ⟨x.toArray⟩) := HXC.out wr H9.tail.tail.tail
        cases my with
        | nil =>
          have QL := Lib.hid (fun n => eleft_is by_ _ 0 cy false rfl _ (cellD cY n))
          go_wp2
          go_quiet ((go_at_call 115; with_reducible exact Calls.quiet_of_same (QL.out _)))
          clear QL
          replace H9 := H9.drewN nq
          generalize wr.drewN nq = w8 at H9 ⊢
          clear cX cY hxc
          have cX : w8.cell? ⟨bx, 0, none⟩ = some (.slice (some ⟨bX, oX, none⟩) (x :: mx).length cx) := (H9.pull 1).cell 0
          have cY : w8.cell? ⟨by_, 0, none⟩ = some (.slice Ay ([] : List Str).length cy) := (H9.pull 2).cell 0
          have QL := Lib.hid (fun n => eleft_is by_ _ 0 cy false rfl _ (cellD cY n))
          go_wp2
          go_quiet ((go_at_call 115; with_reducible exact Calls.quiet_of_same (QL.out _)))
          clear QL
          replace H9 := H9.drewN nq
          generalize w8.drewN nq = w9 at H9 ⊢
          clear cX cY
          have HHAS : hasK ys x = false := HW.out.has_none
          cases both
          · have hpx : pb x = true := by rw [HPB0.out x, HHAS]; rfl
            have hfs : (px ++ [x]).filter pb = px.filter pb ++ [x] := by rw [filter_snoc, hpx]; rfl
            have HFS := Lib.hid hfs
            clear hfs hpx
            have cX2 : w9.cell? ⟨bx, 0, none⟩ = some (.slice (some ⟨bX, oX, none⟩) (x :: mx).length cx) := (H9.pull 1).cell 0
            have hxc2 : w9.cell? ⟨bX, oX, none⟩ = some (.string ⟨x.toArray⟩) := HXC.out w9 H9.tail.tail.tail
            generalize hacc : px.filter pb = acc at *
            have hal : acc.length ≤ 1000000000 := HLEN.out
            clear hacc
            go_wp2_with fail
            refine (ehead_any bx bX oX _ cx x _ cX2 (by simp) hxc2).mono ?_
            rintro e w9 ⟨rfl, rfl⟩
            have H10 := H9.alloc #[.string ⟨x.toArray⟩] 9
            have hrd : Rd _ (some ⟨w9.heap.size, 0, none⟩) [.string ⟨x.toArray⟩] := RdL.pt _ H10
            go_wp2_with (refine wpList_append_new rfl (.tmp 60) (.tmp 65) 39 rfl 9 i0 _ zS 16 Try.underlying39 hi hz0 rfl hz1 hz2 (by simp) _ acc.length _ rfl H10.swap (some ⟨w9.heap.size, 0, none⟩) 1 1 [.string ⟨x.toArray⟩] rfl rfl hrd (by simp [Value.oneCell']) (by unfold maxLen; omega) (by omega) ?_
                         intro A11 c11 w11 H11)
            have H12 := (H11.swap.tail).swap
            refine (enext_any bx _ _ cx 162 (by simp) H12).mono ?_
            rintro e w13 ⟨rfl, H13⟩
            go_wp2
            go_roundg mx.length
            case measure => simp
            case rel =>
              refine ⟨px ++ [x], mx, py, [], A11, c11, _, cx - 1, _, cy, rfl, HW.out.step, ?_, RdL.next HRX.out hcx, HRY, ?_, hcy, ?_⟩
              · rw [HFS.out, List.length_append]; rfl
              · simp only [List.length_cons] at hcx; omega
              · rw [HFS.out, List.length_append, tsC_append]; exact H13.swap
          · have hpx : pb x = false := by rw [HPB0.out x, HHAS]; rfl
            have hfs : (px ++ [x]).filter pb = px.filter pb := by rw [filter_snoc, hpx]; rfl
            have HFS := Lib.hid hfs
            clear hfs hpx
            go_wp2_with fail
            have H12 := H9.swap
            refine (enext_any bx _ _ cx 162 (by simp) H12).mono ?_
            rintro e w13 ⟨rfl, H13⟩
            go_wp2
            go_roundg mx.length
            case measure => simp
            case rel =>
              refine ⟨px ++ [x], mx, py, [], Ao, co, _, cx - 1, _, cy, rfl, HW.out.step, ?_, RdL.next HRX.out hcx, HRY, ?_, hcy, ?_⟩
              · rw [HFS.out]
              · simp only [List.length_cons] at hcx; omega
              · rw [HFS.out]; exact H13.swap
        | cons y my =>
          obtain ⟨bY, oY, rfl, hyc0⟩ := rdl_head HRY.out H9.tail.tail.tail
          have HYC := Lib.hid hyc0
          clear hyc0
          have hyc : wr.cell? ⟨bY, oY, none⟩ = some (.string ⟨y.toArray⟩) := HYC.out wr H9.tail.tail.tail
          by_cases hlt : y < x
          · have hl1 : Op.bytesLess y x = true := less_yes hlt
            have HLT := Lib.hid hlt
            clear hlt
            have QL := Lib.hid (fun n => eleft_is by_ _ _ cy true (by simp) _ (cellD cY n))
            have QY := Lib.hid (fun n => ehead_any by_ bY oY _ cy y _ (cellD cY n) (by simp) (cellD hyc n))
            have QX := Lib.hid (fun n => ehead_any bx bX oX _ cx x _ (cellD cX n) (by simp) (cellD hxc n))
            go_wp2
            go_quiet ((first | (go_at_call 115; with_reducible exact Calls.quiet_of_same (QL.out _)) | (go_at_call 117; first | with_reducible exact Calls.quiet_of_same (QY.out _) | with_reducible exact Calls.quiet_of_same (QX.out _))))
            clear QL QY QX
            replace H9 := H9.drewN nq
            generalize wr.drewN nq = w8 at H9 ⊢
            clear cX cY hxc hyc
            go_wp2_with fail
            refine (enext_any by_ _ _ cy 162 (by simp) (H9.pull 2)).mono ?_
            rintro e w9 ⟨rfl, H10⟩
            go_wp2
            go_roundg my.length
            case measure => simp
            case rel => exact ⟨py ++ [y], my, _, cy - 1, rfl, HW.out.skip HRA.out HLT.out, RdL.next HRY.out hcy, by simp only [List.length_cons] at hcy; omega, (H10.swap.pull 2).swap⟩
          · have hl1 : Op.bytesLess y x = false := less_no hlt
            have hhas := HW.out.has_some HRB.out hlt
            clear hlt
            have QL := Lib.hid (fun n => eleft_is by_ _ _ cy true (by simp) _ (cellD cY n))
            have QY := Lib.hid (fun n => ehead_any by_ bY oY _ cy y _ (cellD cY n) (by simp) (cellD hyc n))
            have QX := Lib.hid (fun n => ehead_any bx bX oX _ cx x _ (cellD cX n) (by simp) (cellD hxc n))
            go_wp2
            go_quiet ((first | (go_at_call 115; with_reducible exact Calls.quiet_of_same (QL.out _)) | (go_at_call 117; first | with_reducible exact Calls.quiet_of_same (QY.out _) | with_reducible exact Calls.quiet_of_same (QX.out _))))
            clear QL QY QX
            replace H9 := H9.drewN nq
            generalize wr.drewN nq = w8 at H9 ⊢
            clear cX cY hxc hyc
            have cX : w8.cell? ⟨bx, 0, none⟩ = some (.slice (some ⟨bX, oX, none⟩) (x :: mx).length cx) := (H9.pull 1).cell 0
            have cY : w8.cell? ⟨by_, 0, none⟩ = some (.slice (some ⟨bY, oY, none⟩) (y :: my).length cy) := (H9.pull 2).cell 0
            have hxc : w8.cell? ⟨bX, oX, none⟩ = some (.string ⟨x.toArray⟩) := HXC.out w8 H9.tail.tail.tail
            have hyc : w8.cell? ⟨bY, oY, none⟩ = some (.string ⟨y.toArray⟩) := HYC.out w8 H9.tail.tail.tail
            by_cases hyx : y = x
            · have hl2 : (y == x) = true := beq_yes hyx
              have HHAS : hasK ys x = true := by rw [hhas]; exact decide_eq_true hyx
              clear hyx hhas
              have QL := Lib.hid (fun n => eleft_is by_ _ _ cy true (by simp) _ (cellD cY n))
              have QY := Lib.hid (fun n => ehead_any by_ bY oY _ cy y _ (cellD cY n) (by simp) (cellD hyc n))
              have QX := Lib.hid (fun n => ehead_any bx bX oX _ cx x _ (cellD cX n) (by simp) (cellD hxc n))
              go_wp2
              go_quiet ((first | (go_at_call 115; with_reducible exact Calls.quiet_of_same (QL.out _)) | (go_at_call 117; first | with_reducible exact Calls.quiet_of_same (QY.out _) | with_reducible exact Calls.quiet_of_same (QX.out _))))
              clear QL QY QX
              replace H9 := H9.drewN nq
              generalize w8.drewN nq = w9 at H9 ⊢
              clear cX cY hxc hyc hl1 hl2
              cases both
              · have hpx : pb x = false := by rw [HPB0.out x, HHAS]; rfl
                have hfs : (px ++ [x]).filter pb = px.filter pb := by rw [filter_snoc, hpx]; rfl
                have HFS := Lib.hid hfs
                clear hfs hpx
                go_wp2_with fail
                have H12 := H9.swap
                refine (enext_any bx _ _ cx 162 (by simp) H12).mono ?_
                rintro e w13 ⟨rfl, H13⟩
                go_wp2
                go_roundg mx.length
                case measure => simp
                case rel =>
                  refine ⟨px ++ [x], mx, py, y :: my, Ao, co, _, cx - 1, _, cy, rfl, HW.out.step, ?_, RdL.next HRX.out hcx, HRY, ?_, hcy, ?_⟩
                  · rw [HFS.out]
                  · simp only [List.length_cons] at hcx; omega
                  · rw [HFS.out]; exact H13.swap
              · have hpx : pb x = true := by rw [HPB0.out x, HHAS]; rfl
                have hfs : (px ++ [x]).filter pb = px.filter pb ++ [x] := by rw [filter_snoc, hpx]; rfl
                have HFS := Lib.hid hfs
                clear hfs hpx
                have cX2 : w9.cell? ⟨bx, 0, none⟩ = some (.slice (some ⟨bX, oX, none⟩) (x :: mx).length cx) := (H9.pull 1).cell 0
                have hxc2 : w9.cell? ⟨bX, oX, none⟩ = some (.string ⟨x.toArray⟩) := HXC.out w9 H9.tail.tail.tail
                generalize hacc : px.filter pb = acc at *
                have hal : acc.length ≤ 1000000000 := HLEN.out
                clear hacc
                go_wp2_with fail
                refine (ehead_any bx bX oX _ cx x _ cX2 (by simp) hxc2).mono ?_
                rintro e w9 ⟨rfl, rfl⟩
                have H10 := H9.alloc #[.string ⟨x.toArray⟩] 9
                have hrd : Rd _ (some ⟨w9.heap.size, 0, none⟩) [.string ⟨x.toArray⟩] := RdL.pt _ H10
                go_wp2_with (refine wpList_append_new rfl (.tmp 60) (.tmp 65) 39 rfl 9 i0 _ zS 16 Try.underlying39 hi hz0 rfl hz1 hz2 (by simp) _ acc.length _ rfl H10.swap (some ⟨w9.heap.size, 0, none⟩) 1 1 [.string ⟨x.toArray⟩] rfl rfl hrd (by simp [Value.oneCell']) (by unfold maxLen; omega) (by omega) ?_
                             intro A11 c11 w11 H11)
                have H12 := (H11.swap.tail).swap
                refine (enext_any bx _ _ cx 162 (by simp) H12).mono ?_
                rintro e w13 ⟨rfl, H13⟩
                go_wp2
                go_roundg mx.length
                case measure => simp
                case rel =>
                  refine ⟨px ++ [x], mx, py, y :: my, A11, c11, _, cx - 1, _, cy, rfl, HW.out.step, ?_, RdL.next HRX.out hcx, HRY, ?_, hcy, ?_⟩
                  · rw [HFS.out, List.length_append]; rfl
                  · simp only [List.length_cons] at hcx; omega
                  · rw [HFS.out, List.length_append, tsC_append]; exact H13.swap
            · have hl2 : (y == x) = false := beq_no hyx
              have HHAS : hasK ys x = false := by rw [hhas]; exact decide_eq_false hyx
              clear hyx hhas
              have QL := Lib.hid (fun n => eleft_is by_ _ _ cy true (by simp) _ (cellD cY n))
              have QY := Lib.hid (fun n => ehead_any by_ bY oY _ cy y _ (cellD cY n) (by simp) (cellD hyc n))
              have QX := Lib.hid (fun n => ehead_any bx bX oX _ cx x _ (cellD cX n) (by simp) (cellD hxc n))
              go_wp2
              go_quiet ((first | (go_at_call 115; with_reducible exact Calls.quiet_of_same (QL.out _)) | (go_at_call 117; first | with_reducible exact Calls.quiet_of_same (QY.out _) | with_reducible exact Calls.quiet_of_same (QX.out _))))
              clear QL QY QX
              replace H9 := H9.drewN nq
              generalize w8.drewN nq = w9 at H9 ⊢
              clear cX cY hxc hyc hl1 hl2
              cases both
              · have hpx : pb x = true := by rw [HPB0.out x, HHAS]; rfl
                have hfs : (px ++ [x]).filter pb = px.filter pb ++ [x] := by rw [filter_snoc, hpx]; rfl
                have HFS := Lib.hid hfs
                clear hfs hpx
                have cX2 : w9.cell? ⟨bx, 0, none⟩ = some (.slice (some ⟨bX, oX, none⟩) (x :: mx).length cx) := (H9.pull 1).cell 0
                have hxc2 : w9.cell? ⟨bX, oX, none⟩ = some (.string ⟨x.toArray⟩) := HXC.out w9 H9.tail.tail.tail
                generalize hacc : px.filter pb = acc at *
                have hal : acc.length ≤ 1000000000 := HLEN.out
                clear hacc
                go_wp2_with fail
                refine (ehead_any bx bX oX _ cx x _ cX2 (by simp) hxc2).mono ?_
                rintro e w9 ⟨rfl, rfl⟩
                have H10 := H9.alloc #[.string ⟨x.toArray⟩] 9
                have hrd : Rd _ (some ⟨w9.heap.size, 0, none⟩) [.string ⟨x.toArray⟩] := RdL.pt _ H10
                go_wp2_with (refine wpList_append_new rfl (.tmp 60) (.tmp 65) 39 rfl 9 i0 _ zS 16 Try.underlying39 hi hz0 rfl hz1 hz2 (by simp) _ acc.length _ rfl H10.swap (some ⟨w9.heap.size, 0, none⟩) 1 1 [.string ⟨x.toArray⟩] rfl rfl hrd (by simp [Value.oneCell']) (by unfold maxLen; omega) (by omega) ?_
                             intro A11 c11 w11 H11)
                have H12 := (H11.swap.tail).swap
                refine (enext_any bx _ _ cx 162 (by simp) H12).mono ?_
                rintro e w13 ⟨rfl, H13⟩
                go_wp2
                go_roundg mx.length
                case measure => simp
                case rel =>
                  refine ⟨px ++ [x], mx, py, y :: my, A11, c11, _, cx - 1, _, cy, rfl, HW.out.step, ?_, RdL.next HRX.out hcx, HRY, ?_, hcy, ?_⟩
                  · rw [HFS.out, List.length_append]; rfl
                  · simp only [List.length_cons] at hcx; omega
                  · rw [HFS.out, List.length_append, tsC_append]; exact H13.swap
              · have hpx : pb x = false := by rw [HPB0.out x, HHAS]; rfl
                have hfs : (px ++ [x]).filter pb = px.filter pb := by rw [filter_snoc, hpx]; rfl
                have HFS := Lib.hid hfs
                clear hfs hpx
                go_wp2_with fail
                have H12 := H9.swap
                refine (enext_any bx _ _ cx 162 (by simp) H12).mono ?_
                rintro e w13 ⟨rfl, H13⟩
                go_wp2
                go_roundg mx.length
                case measure => simp
                case rel =>
                  refine ⟨px ++ [x], mx, py, y :: my, Ao, co, _, cx - 1, _, cy, rfl, HW.out.step, ?_, RdL.next HRX.out hcx, HRY, ?_, hcy, ?_⟩
                  · rw [HFS.out]
                  · simp only [List.length_cons] at hcx; omega
                  · rw [HFS.out]; exact H13.swap
end Go.Proofs.Ytodbmeklbamcfaa

/- What two lists of keys have in common, or not: the program's own answer. -/
namespace Go.Proofs.Ytodbmeklbamcfaa
open Go.RowKit Go.Rt

set_option maxRecDepth 100000 in
theorem eBoth_any {W w : World} {L : List SL} (A A' : Option Addr) (c c' : Nat) (a b : List Str) (ha : a.length ≤ 100000000) (hb : b.length ≤ 100000000) (hxa : ∀ x ∈ a, x.length ≤ maxLen) (hxb : ∀ x ∈ b, x.length ≤ maxLen) (hr : RdL W L A (tsC a)) (hr' : RdL W L A' (tsC b)) (H : Sat W w L) :
    Calls Try.prog 77 #[.slice A a.length c, .slice A' b.length c'] w fun e w' => ∃ A2 c2, e = .returned (.slice A2 (bothS a b).length c2) ∧ Sat W w' (seenS 9 (.slice A2 (bothS a b).length c2) (bothS a b).length (tsC (bothS a b)) :: L) := by
  have h := ewalk_any A A' c c' a b true ha hb hxa hxb hr hr' H
  have HH := Lib.hid h
  clear h
  go_enter Try.func77, Try.ntmps77
  go_wp2_with fail
  refine HH.out.mono ?_
  rintro e w1 ⟨A1, c1, rfl, H1⟩
  go_wp2
  go_ret
  exact ⟨A1, c1, rfl, H1⟩
end Go.Proofs.Ytodbmeklbamcfaa

/- A new slice of texts, written at a place; its tail cleared. No program in sight. -/
namespace Go.Rt
open Go.RowKit
section
variable {P : Program} {W w : World} {l : List SL} {e : TypeId} {g c n : Nat} {xs : List Value}
theorem Sat.seen_set (H : Sat W w (seenS e (.slice (some ⟨g, 0, none⟩) n c) n xs :: l)) (j : Nat) (hj : j < n) (u : Value) : Sat W (w.setCell ⟨g, j, none⟩ u) (seenS e (.slice (some ⟨g, 0, none⟩) n c) n (xs.set j u) :: l) := by
  obtain ⟨cur, hg, h1, h2, h3, h4, h5⟩ := H.new_blk
  simp only [List.length_cons, List.length_nil, Nat.zero_add, Nat.mul_one] at h3 h4 h5
  rw [setCell_eq_setRow w g j cur e (0, 0) u hg]
  have := H.new_setRow (cur.setIfInBounds j u) n h1 (by simpa using h3) (by
    simp only [List.length_cons, List.length_nil, Nat.zero_add, Nat.mul_one]
    rw [Array.toList_setIfInBounds, List.drop_set_of_lt hj]
    exact h5)
  simp only [List.length_cons, List.length_nil, Nat.zero_add, Nat.mul_one] at this
  rwa [Array.toList_setIfInBounds, List.take_set, h4] at this
theorem Sat.seen_frz (H : Sat W w (seenS e (.slice (some ⟨g, 0, none⟩) n c) n xs :: l)) (j : Nat) : w.frozen? ⟨g, j, none⟩ = false := by
  obtain ⟨cur, hg, _⟩ := H.new_blk
  simp [World.frozen?, hg]
theorem Sat.seen_at (H : Sat W w (seenS e (.slice (some ⟨g, 0, none⟩) n c) n xs :: l)) (j : Nat) {u : Value} (hu : xs[j]? = some u) : w.cell? ⟨g, j, none⟩ = some u := by
  have := H.new_rd.at j hu
  rwa [Nat.zero_add] at this

set_option maxRecDepth 100000 in
theorem wpList_clear_seen {ops : Array Oper} {rest : List Oper} {o : Oper} {a : Act} {Q : Exit → Act → World → Prop} (hg : o.guard = none) (hdst : o.dst = none) (x : Operand) (t : TypeId) (hop : o.op = Op.call { callee := Callee.builtin Builtin.clear, args := #[x], argTypes := #[t] })
    (ht : P.underlying t = some (.slice e)) (hv : ∀ w, (zeroValue e).run P w = .ok (.string ⟨#[]⟩) w) (i : Nat) (hi : i < n) (hx : a.eval x = .slice (subA (some ⟨g, 0, none⟩) c i) (n - i) (c - i))
    (H : Sat W w (seenS e (.slice (some ⟨g, 0, none⟩) n c) n xs :: l)) (hK : ∀ w', Sat W w' (seenS e (.slice (some ⟨g, 0, none⟩) i c) i (xs.take i) :: l) → wpList P ops Q rest a w') : wpList P ops Q (o :: rest) a w := by
  refine wpList_plain hg fun K hK' => ?_
  obtain ⟨cur, hgg, h1, h2, h3, h4, h5⟩ := H.new_blk
  simp only [List.length_cons, List.length_nil, Nat.zero_add, Nat.mul_one] at h3 h4 h5
  have hA : subA (some (⟨g, 0, none⟩ : Addr)) c i = some ⟨g, i, none⟩ := by
    unfold subA
    rw [if_neg (by omega)]
    simp only [Option.map_some, Option.some.injEq]
    unfold Addr.add
    split
    · rename_i h0; subst h0; rfl
    · simp
  rw [hA] at hx
  have hzc : (Builtin.zeroCells (Value.string ⟨#[]⟩).cells (n - i)).toList = List.replicate (n - i) (Value.string ⟨#[]⟩) := by
    simp [Builtin.zeroCells, Value.cells]
    apply List.ext_getElem
    · simp
    · intro i h1 h2
      simp [Nat.mod_one]
  have hst := run_storeCells_at P g i e (List.replicate (n - i) (Value.string ⟨#[]⟩)) 0 cur w hgg (by simp; omega) (by intro v hv'; rw [List.eq_of_mem_replicate hv']; rfl)
  simp only [Nat.add_zero, List.length_replicate] at hst
  have hcl : cur.toList.length = c := by simpa using h3
  have hti : (cur.toList.take i).length = i := by rw [List.length_take]; omega
  have H2 := H.new_setRow (cur.toList.take i ++ List.replicate (n - i) (Value.string ⟨#[]⟩) ++ cur.toList.drop (i + (n - i))).toArray i (by omega) (by simp only [List.size_toArray, List.length_append, List.length_take, List.length_replicate, List.length_drop, hcl]; simp only [List.length_cons, List.length_nil, Nat.zero_add, Nat.mul_one]; omega) (by
    simp only [List.length_cons, List.length_nil, Nat.zero_add, Nat.mul_one]
    rw [List.append_assoc, List.drop_append_of_le_length (by omega), List.drop_of_length_le (by omega), List.nil_append]
    refine Zeros.append (fun j u hu => ?_) (by rw [show i + (n - i) = n by omega]; exact h5) (by simp [Nat.mod_one])
    rw [List.eq_of_mem_replicate (List.mem_of_getElem? hu)]
    simp [Nat.mod_one])
  simp only [List.length_cons, List.length_nil, Nat.zero_add, Nat.mul_one] at H2
  have e9 : (cur.toList.take i ++ List.replicate (n - i) (Value.string ⟨#[]⟩) ++ cur.toList.drop (i + (n - i))).take i = xs.take i := by
    rw [List.append_assoc, List.take_append_of_le_length (by omega), List.take_take, Nat.min_self, ← h4, List.take_take, Nat.min_eq_left (by omega)]
  rw [e9] at H2
  have hrun : ∀ ty, (Builtin.clear_ #[t] ty #[.slice (some ⟨g, i, none⟩) (n - i) (c - i)]).run P w = .ok (.tuple #[]) (w.setRow g (cur.toList.take i ++ List.replicate (n - i) (Value.string ⟨#[]⟩) ++ cur.toList.drop (i + (n - i))).toArray) := fun ty => by
    obtain ⟨m, hm⟩ : ∃ m, n - i = m + 1 := ⟨n - i - 1, by omega⟩
    rw [hm] at hzc hst ⊢
    simp [Builtin.clear_, run_underlying ht, hv, hzc, hst]
  unfold Oper.wp
  simp [execOp, hop, resolve, invoke, builtin, hx, hrun, Result.andThen]
  refine hK' _ _ ?_
  rw [hdst]
  exact hK _ (by simpa using H2)
end
end Go.Rt

/- The keys that are in spans; whether some are among others, or in spans. -/
namespace Go.Proofs.Ytodbmeklbamcfaa
open Go.RowKit Go.Rt

set_option maxRecDepth 100000 in
theorem eAmong1_any {W w : World} {L : List SL} (q : Nat) (A : Option Addr) (c : Nat) (s : List Sp) (k : Str) (hs : s.length ≤ maxLen) (hr : RdL W L A (spC s)) (hq : ∀ w', Sat W w' L → w'.cell? ⟨q, 0, none⟩ = some (.slice A s.length c)) (H : Sat W w L) :
    Calls Try.prog 101 #[.string ⟨k.toArray⟩, .pointer (some ⟨q, 0, none⟩)] w fun e w' => e = .returned (.bool (!hasSp s k)) ∧ Sat W w' L := by
  have h := sHas_any k A c s hs hr H
  have HH := Lib.hid h
  have hc := hq w H
  clear h hq
  generalize hasSp s k = bb at *
  go_enter Try.func101, Try.ntmps101
  go_wp2_with fail
  refine HH.out.mono ?_
  rintro e w2 ⟨rfl, H2⟩
  go_wp2
  go_ret
  exact ⟨rfl, H2⟩

set_option maxRecDepth 100000 in
set_option maxHeartbeats 4000000 in
theorem eIndexFunc_any {W w : World} {L : List SL} (q : Nat) (A A' : Option Addr) (c c' : Nat) (s : List Sp) (l : List Str) (hl : l.length ≤ maxLen) (hs : s.length ≤ maxLen) (hr : RdL W L A (spC s)) (hq : ∀ w', Sat W w' L → w'.cell? ⟨q, 0, none⟩ = some (.slice A s.length c)) (hx : RdL W L A' (tsC l)) (H : Sat W w L) :
    Calls Try.prog 118 #[.slice A' l.length c', .func (.func 101) #[] #[.pointer (some ⟨q, 0, none⟩)]] w fun e w' => ((e = .returned (.int .i64 (-1)) ∧ l.filter (hasSp s) = l) ∨ ∃ j : Nat, e = .returned (.int .i64 j) ∧ j < l.length ∧ (l.take (j + 1)).filter (hasSp s) = l.take j) ∧ Sat W w' L := by
  have hl' := hl
  unfold maxLen at hl'
  have HA := Lib.hid (fun (w0 : World) (k : Str) (h : Sat W w0 L) => eAmong1_any (W := W) (w := w0) (L := L) q A c s k hs hr hq h)
  have HX := Lib.hid hx
  clear hq hr hs hx
  go_enter Try.func118, Try.ntmps118
  go_wp2
  go_loopw [8] (fun i wc => ∃ j : Nat, j ≤ l.length ∧ i = .int .i64 j ∧ Hid ((l.take j).filter (hasSp s) = l.take j) ∧ Sat W wc L) (fun i _ => l.length - (intOf i).toNat)
  case atStart => exact ⟨0, by omega, rfl, Lib.hid rfl, H⟩
  case round =>
    obtain ⟨j, hj, rfl, hN, H1⟩ := hrel
    by_cases hlt : j < l.length
    · obtain ⟨x, hs⟩ : ∃ s, l[j]? = some s := ⟨_, List.getElem?_eq_getElem hlt⟩
      obtain ⟨b, o, rfl, c0⟩ := ts_at (HX.out _ H1) j x hs
      have HI := Lib.hid (HA.out wr x H1)
      have htk : l.take (j + 1) = l.take j ++ [x] := by rw [List.take_add_one, hs]; rfl
      have HTK := Lib.hid htk
      clear hs htk
      cases hb : hasSp s x with
      | true =>
        rw [hb] at HI
        have hN2 : (l.take (j + 1)).filter (hasSp s) = l.take (j + 1) := by rw [HTK.out, List.filter_append, hN.out]; simp [hb]
        have HN2 := Lib.hid hN2
        clear hb hN2
        go_wp2_with fail
        refine HI.out.mono ?_
        rintro e w2 ⟨rfl, H2⟩
        go_wp2
        exact ⟨⟨j + 1, by omega, by go_num, HN2, H2⟩, by simp [intOf]; omega⟩
      | false =>
        rw [hb] at HI
        have hN2 : (l.take (j + 1)).filter (hasSp s) = l.take j := by rw [HTK.out, List.filter_append, hN.out]; simp [hb]
        have HN2 := Lib.hid hN2
        clear hb hN2
        go_wp2_with fail
        refine HI.out.mono ?_
        rintro e w2 ⟨rfl, H2⟩
        go_wp2
        go_ret
        exact ⟨.inr ⟨j, rfl, hlt, HN2.out⟩, H2⟩
    · obtain rfl : j = l.length := by omega
      have hf : l.filter (hasSp s) = l := by have := hN.out; rwa [List.take_length] at this
      have HF := Lib.hid hf
      clear hf
      go_wp2
      go_ret
      exact ⟨.inl ⟨rfl, HF.out⟩, H1⟩
end Go.Proofs.Ytodbmeklbamcfaa

/- The keys that are in spans; whether some are among others, or in spans. -/
namespace Go.Proofs.Ytodbmeklbamcfaa
open Go.RowKit Go.Rt

structure DelSt (xs : List Str) (p : Str → Bool) (i j : Nat) (ys : List Str) : Prop where
  hj : j ≤ xs.length
  hij : i < j
  len : ys.length = xs.length
  fst : ys.take i = (xs.take j).filter p
  rst : ys.drop j = xs.drop j
theorem DelSt.start {xs : List Str} {p : Str → Bool} {j : Nat} (hj : j < xs.length) (h : (xs.take (j + 1)).filter p = xs.take j) : DelSt xs p j (j + 1) xs := ⟨hj, by omega, rfl, h.symm, rfl⟩
theorem DelSt.at {xs ys : List Str} {p : Str → Bool} {i j : Nat} (h : DelSt xs p i j ys) : ys[j]? = xs[j]? := by
  have e := congrArg (fun l => l[0]?) h.rst
  simpa using e
theorem DelSt.keep {xs ys : List Str} {p : Str → Bool} {i j : Nat} {x : Str} (h : DelSt xs p i j ys) (hx : xs[j]? = some x) (hp : p x = true) : DelSt xs p (i + 1) (j + 1) (ys.set i x) := by
  have hj := (List.getElem?_eq_some_iff.1 hx).1
  have hl := h.len
  have hi := h.hij
  refine ⟨hj, by omega, by simpa using h.len, ?_, ?_⟩
  · rw [List.take_add_one (l := xs), hx, List.filter_append, ← h.fst, List.take_add_one, List.take_set, List.getElem?_set_self (by omega)]
    congr 1
    · exact List.set_eq_of_length_le (by rw [List.length_take]; omega)
    · simp [hp]
  · rw [List.drop_set_of_lt (by omega), ← List.drop_drop, h.rst, List.drop_drop]
theorem DelSt.skip {xs ys : List Str} {p : Str → Bool} {i j : Nat} {x : Str} (h : DelSt xs p i j ys) (hx : xs[j]? = some x) (hp : p x = false) : DelSt xs p i (j + 1) ys := by
  have hj := (List.getElem?_eq_some_iff.1 hx).1
  have hi := h.hij
  refine ⟨hj, by omega, h.len, ?_, ?_⟩
  · rw [List.take_add_one (l := xs), hx, List.filter_append, ← h.fst]; simp [hp]
  · rw [← List.drop_drop, h.rst, List.drop_drop]
theorem tsC_set (l : List Str) (i : Nat) (x : Str) : (tsC l).set i (.string ⟨x.toArray⟩) = tsC (l.set i x) := by
  unfold tsC
  rw [List.map_set]
theorem tsC_take (l : List Str) (i : Nat) : (tsC l).take i = tsC (l.take i) := by
  unfold tsC
  rw [List.map_take]

set_option maxRecDepth 100000 in
set_option maxHeartbeats 4000000 in
theorem eDeleteFunc_any {W w : World} {L : List SL} (q : Nat) (A A' : Option Addr) (c c' : Nat) (s : List Sp) (l : List Str) (hl : l.length ≤ 1000000000) (hs : s.length ≤ maxLen) (hr : RdL W L A (spC s)) (hq : ∀ w', Sat W w' L → w'.cell? ⟨q, 0, none⟩ = some (.slice A s.length c)) (H : Sat W w (seenS 9 (.slice A' l.length c') l.length (tsC l) :: L)) :
    Calls Try.prog 99 #[.slice A' l.length c', .func (.func 101) #[] #[.pointer (some ⟨q, 0, none⟩)]] w fun e w' => ∃ A2, e = .returned (.slice A2 (l.filter (hasSp s)).length c') ∧ Sat W w' (seenS 9 (.slice A2 (l.filter (hasSp s)).length c') (l.filter (hasSp s)).length (tsC (l.filter (hasSp s))) :: L) := by
  have HI := Lib.hid (eIndexFunc_any q A A' c c' s l (by unfold maxLen; omega) hs hr.tail (fun w' h => hq w' h.tail) RdL.seenS H)
  have HA := Lib.hid (fun (w0 : World) (k : Str) (ys : List Str) (n : Nat) (h : Sat W w0 (seenS 9 (.slice A' n c') n (tsC ys) :: L)) => eAmong1_any (W := W) (w := w0) (L := seenS 9 (.slice A' n c') n (tsC ys) :: L) q A c s k hs hr.tail (fun w' h => hq w' h.tail) h)
  clear hr hq hs
  go_enter Try.func99, Try.ntmps99
  go_wp2_with fail
  refine HI.out.mono ?_
  rintro e w1 ⟨h | h, H1⟩
  · obtain ⟨rfl, hf⟩ := h
    have HF := Lib.hid hf
    clear HI HA hf
    go_wp2
    go_ret
    rw [HF.out]
    exact ⟨_, rfl, H1⟩
  · obtain ⟨j0, rfl, hj0, hf⟩ := h
    have hst := Lib.hid (DelSt.start hj0 hf)
    obtain ⟨g, rfl⟩ := H1.new_some (by omega)
    have hne : ((j0 : Int) == -1) = false := by simp
    clear HI hf H
    go_wp2
    go_loopw [5, 6] (fun i j wc => ∃ (i' j' : Nat) (ys : List Str), i = .int .i64 i' ∧ j = .int .i64 j' ∧ Hid (DelSt l (hasSp s) i' j' ys) ∧ Sat W wc (seenS 9 (.slice (some ⟨g, 0, none⟩) l.length c') l.length (tsC ys) :: L)) (fun _ j _ => l.length - (intOf j).toNat)
    case atStart => exact ⟨j0, j0 + 1, l, rfl, by go_num, hst, H1⟩
    case round =>
      obtain ⟨i, j, ys, rfl, rfl, hd, H2⟩ := hrel
      have hj := hd.out.hj
      have hij := hd.out.hij
      clear H1 hst
      by_cases hlt : j < l.length
      · obtain ⟨x, hx⟩ : ∃ x, l[j]? = some x := ⟨_, List.getElem?_eq_getElem hlt⟩
        have hy : (tsC ys)[j]? = some (.string ⟨x.toArray⟩) := by
          unfold tsC
          rw [List.getElem?_map, hd.out.at, hx]; rfl
        have hc := H2.seen_at j hy
        have HB := Lib.hid (HA.out wr x ys _ H2)
        cases hb : hasSp s x with
        | true =>
          rw [hb] at HB
          have hd2 := Lib.hid (hd.out.keep hx hb)
          have HS := Lib.hid (fun w0 (h : Sat W w0 (seenS 9 (.slice (some ⟨g, 0, none⟩) l.length c') l.length (tsC ys) :: L)) => h.seen_set i (by omega) (.string ⟨x.toArray⟩))
          have hyi : ∃ u, (tsC ys)[i]? = some u := ⟨_, List.getElem?_eq_getElem (by rw [tsC_len, hd.out.len]; omega)⟩
          obtain ⟨u, hyi⟩ := hyi
          have HYI := Lib.hid hyi
          clear hb hx hy HA hyi
          go_wp2_with fail
          refine HB.out.mono ?_
          rintro e w2 ⟨rfl, H3⟩
          have hci := H3.seen_at i HYI.out
          have hfz := H3.seen_frz i
          clear HB H2
          go_wp2
          refine ⟨⟨i + 1, j + 1, _, by go_num, by go_num, hd2, ?_⟩, by simp [intOf]; omega⟩
          rw [← tsC_set]
          exact HS.out _ H3
        | false =>
          rw [hb] at HB
          have hd2 := Lib.hid (hd.out.skip hx hb)
          clear hb hx hy HA
          go_wp2_with fail
          refine HB.out.mono ?_
          rintro e w2 ⟨rfl, H3⟩
          clear HB H2
          go_wp2
          exact ⟨⟨i, j + 1, _, rfl, by go_num, hd2, H3⟩, by simp [intOf]; omega⟩
      · obtain rfl : j = l.length := by omega
        have hf : ys.take i = l.filter (hasSp s) := by rw [hd.out.fst, List.take_length]
        have hn : (l.filter (hasSp s)).length = i := by rw [← hf, List.length_take, hd.out.len]; omega
        have HF := Lib.hid hf
        have HN := Lib.hid hn
        have hlc : l.length ≤ c' := by obtain ⟨_, _, h, _⟩ := H2.new_blk; exact h
        obtain ⟨i0, hi, hz0, hz1, hz2⟩ := info_parts infoStr
        clear hf hn HA
        go_wp2_with (first
          | (refine wpList_slice_from (by rfl) (.tmp 36) (.tmp 37) 39 rfl 9 i0 Try.underlying39 hi hz1 _ l.length c' i rfl rfl (by omega) ?_)
          | (refine wpList_clear_seen (e := 9) rfl rfl (.tmp 38) 39 rfl Try.underlying39 (fun w => rfl) i (by omega) rfl H2 ?_
             intro w3 H3)
          | (refine wpList_slice_to (by rfl) (.tmp 39) (.tmp 40) 39 rfl 9 i0 Try.underlying39 hi _ l.length c' i rfl rfl (by omega) ?_))
        go_ret
        rw [HN.out]
        refine ⟨_, rfl, ?_⟩
        rw [← HF.out, ← tsC_take]
        have e0 : subA (some (⟨g, 0, none⟩ : Addr)) c' 0 = some ⟨g, 0, none⟩ := by
          unfold subA
          rw [if_neg (by omega)]
          rfl
        rw [e0]
        exact H3
end Go.Proofs.Ytodbmeklbamcfaa

/- keys.Among, keys.Meets: the program's own answers. -/
namespace Go.Proofs.Ytodbmeklbamcfaa
open Go.RowKit Go.Rt

def amongS (l : List Str) (s : List Sp) : List Str := (sortS l).filter (hasSp s)
def meetsB (l some : List Str) (s : List Sp) : Bool := decide (0 < (bothS l some).length) || decide (0 < (amongS l s).length)
theorem among_len (l : List Str) (s : List Sp) : (amongS l s).length ≤ l.length := Nat.le_trans (List.length_filter_le _ _) (sortS_len l)

set_option maxRecDepth 100000 in
set_option maxHeartbeats 4000000 in
theorem eAmong_any {W w : World} {L : List SL} (A A' : Option Addr) (c c' : Nat) (l : List Str) (s : List Sp) (hl : l.length ≤ 1000000000) (hxl : ∀ x ∈ l, x.length ≤ maxLen) (hs : s.length ≤ maxLen) (hr : RdL W L A (tsC l)) (hr' : RdL W L A' (spC s)) (H : Sat W w L) :
    Calls Try.prog 78 #[.slice A l.length c, .slice A' s.length c'] w fun e w' => ∃ A2 c2, e = .returned (.slice A2 (amongS l s).length c2) ∧ Sat W w' (seenS 9 (.slice A2 (amongS l s).length c2) (amongS l s).length (tsC (amongS l s)) :: L) := by
  have H1 := H.alloc #[.slice A' s.length c'] 40
  have HS := Lib.hid (eSort_sat A c l hl hxl (hr.tail _ H1) H1)
  have HD := Lib.hid (fun (w1 : World) (A1 : Option Addr) (c1 : Nat) (h : Sat W w1 (seenS 9 (.slice A1 (sortS l).length c1) (sortS l).length (tsC (sortS l)) :: pt w.heap.size #[.slice A' s.length c'] 40 :: L)) => eDeleteFunc_any (W := W) (w := w1) w.heap.size A' A1 c' c1 s (sortS l) (by have := sortS_len l; omega) hs hr'.tail (fun w' h => h.cell 0) h)
  unfold amongS
  clear hr hr' hl hs hxl
  go_enter Try.func78, Try.ntmps78
  go_wp2_with fail
  refine HS.out.mono ?_
  rintro e w1 ⟨A1, c1, rfl, H2⟩
  clear HS
  go_wp2_with fail
  refine (HD.out _ _ _ H2).mono ?_
  rintro e w2 ⟨A2, rfl, H3⟩
  clear HD
  go_wp2
  go_ret
  exact ⟨A2, c1, rfl, H3.swap.tail⟩

set_option maxRecDepth 100000 in
set_option maxHeartbeats 4000000 in
theorem eMeets_any {W w : World} {L : List SL} (A A' A'' : Option Addr) (c c' c'' : Nat) (l some : List Str) (s : List Sp) (hl : l.length ≤ 100000000) (hxl : ∀ x ∈ l, x.length ≤ maxLen) (ho : some.length ≤ 100000000) (hxo : ∀ x ∈ some, x.length ≤ maxLen) (hs : s.length ≤ maxLen) (hr : RdL W L A (tsC l)) (hr' : RdL W L A' (tsC some)) (hr'' : RdL W L A'' (spC s)) (H : Sat W w L) :
    Calls Try.prog 49 #[.slice A l.length c, .slice A' some.length c', .slice A'' s.length c''] w fun e w' => e = .returned (.bool (meetsB l some s)) ∧ Sat W w' L := by
  have HB := Lib.hid (eBoth_any A A' c c' l some hl ho hxl hxo hr hr' H)
  have HA := Lib.hid (fun (w1 : World) (L1 : List SL) (h1 : RdL W L1 A (tsC l)) (h2 : RdL W L1 A'' (spC s)) (h : Sat W w1 L1) => eAmong_any (W := W) (w := w1) (L := L1) A A'' c c'' l s (by omega) hxl hs h1 h2 h)
  unfold meetsB
  clear hl ho hs hxl hxo
  generalize amongS l s = am at *
  go_enter Try.func49, Try.ntmps49
  by_cases hb : 0 < (bothS l some).length
  · have hb1 : (0 : Int) < ((bothS l some).length : Int) := by omega
    rw [decide_eq_true hb]
    go_wp2_with fail
    refine HB.out.mono ?_
    rintro e w1 ⟨A1, c1, rfl, H2⟩
    clear HB HA hb
    generalize (bothS l some).length = n at *
    go_wp2
    go_ret
    exact ⟨rfl, H2.tail⟩
  · have hb1 : (bothS l some).length = 0 := by omega
    rw [decide_eq_false hb]
    rw [hb1] at HB
    go_wp2_with fail
    refine HB.out.mono ?_
    rintro e w1 ⟨A1, c1, rfl, H2⟩
    have HA1 := Lib.hid (HA.out w1 _ hr.tail hr''.tail H2)
    clear HB HA hb hr hr' hr'' hb1
    go_wp2_with fail
    refine HA1.out.mono ?_
    rintro e w2 ⟨A2, c2, rfl, H3⟩
    clear HA1
    go_wp2
    go_ret
    refine ⟨?_, H3.tail.tail⟩
    simp
end Go.Proofs.Ytodbmeklbamcfaa

/- Plain laws on effects: which may be, which keys they meet. No program in sight. -/
namespace Go.Proofs.Ytodbmeklbamcfaa

structure Ef where
  why : Int
  steps : Int
  rs : List Str
  ss : List Sp
  ws : List Wt
def Ef.keys (x : Ef) : List Str := x.ws.map Wt.k
def fineX (x : Ef) : Bool := decide (0 ≤ x.why ∧ x.why ≤ 3) && (decide (0 ≤ x.steps ∧ x.steps ≤ 200) && (checkK x.rs && (checkK x.keys && (spansB x.ss && (x.rs.all keyB && (x.ws.all mayW && (decide (x.why = 0) || x.ws.isEmpty)))))))
def checkX (x : Ef) : Int := if 60 < x.rs.length + x.ss.length + x.ws.length then 3 else if fineX x then 0 else 2
def meetsX (x : Ef) (l : List Str) : Bool := meetsB l x.rs x.ss

theorem meets_any (l o : List Str) (s : List Sp) : meetsB l o s = l.any fun k => hasK o k || hasSp s k := by
  unfold meetsB
  rw [Bool.eq_iff_iff, Bool.or_eq_true, decide_eq_true_iff, decide_eq_true_iff, List.length_pos_iff_exists_mem, List.length_pos_iff_exists_mem, List.any_eq_true]
  constructor
  · rintro (⟨k, h⟩ | ⟨k, h⟩)
    · unfold bothS walkS at h
      obtain ⟨h1, h2⟩ := List.mem_filter.1 h
      exact ⟨k, (mem_sortS l k).1 h1, by simp only [beq_iff_eq] at h2; rw [h2]; rfl⟩
    · unfold amongS at h
      obtain ⟨h1, h2⟩ := List.mem_filter.1 h
      exact ⟨k, (mem_sortS l k).1 h1, by rw [h2, Bool.or_true]⟩
  · rintro ⟨k, h, hk⟩
    rcases Bool.or_eq_true _ _ ▸ hk with h2 | h2
    · exact .inl ⟨k, List.mem_filter.2 ⟨(mem_sortS l k).2 h, by rw [h2]; rfl⟩⟩
    · exact .inr ⟨k, List.mem_filter.2 ⟨(mem_sortS l k).2 h, h2⟩⟩
theorem meetsX_single (x : Ef) (l : List Str) : meetsX x l = l.any fun k => meetsX x [k] := by
  unfold meetsX
  rw [meets_any]
  simp only [meets_any, List.any_cons, List.any_nil, Bool.or_false]
theorem meetsX_more (x : Ef) (l : List Str) (more : Str) (h : meetsX x l = true) : meetsX { x with rs := x.rs ++ [more] } l = true := by
  unfold meetsX at h ⊢
  rw [meets_any, List.any_eq_true] at h ⊢
  obtain ⟨k, hk, h2⟩ := h
  refine ⟨k, hk, ?_⟩
  dsimp only
  unfold hasK at h2 ⊢
  simp only [Bool.or_eq_true, decide_eq_true_eq, List.mem_append] at h2 ⊢
  rcases h2 with h2 | h2
  · exact .inl (.inl h2)
  · exact .inr h2
theorem meetsX_new (x : Ef) (more : Str) : meetsX { x with rs := x.rs ++ [more] } [more] = true := by
  unfold meetsX
  rw [meets_any]
  simp [hasK]
theorem meetsX_nil (x : Ef) : meetsX x [] = false := by
  unfold meetsX
  rw [meets_any]
  rfl
end Go.Proofs.Ytodbmeklbamcfaa

/- Plain laws on lists that are read one by one: with a stop at the first fault, or without. No program in sight. -/
namespace Go.Proofs.Ytodbmeklbamcfaa

/-- A reader: its place, its fault and where that is. -/
structure RS where
  pl : Nat
  fe : Int
  fa : Int
section
variable {α : Type} (one : RS → α × RS)
def rAcc (s : RS) : Nat → List α × RS
  | 0 => ([], s)
  | n + 1 => if (rAcc s n).2.fe ≠ 0 then rAcc s n else ((rAcc s n).1 ++ [(one (rAcc s n).2).1], (one (rAcc s n).2).2)
def rAll (s : RS) : Nat → List α × RS
  | 0 => ([], s)
  | n + 1 => ((rAll s n).1 ++ [(one (rAll s n).2).1], (one (rAll s n).2).2)
variable {one}
theorem rAcc_stuck {s : RS} {j : Nat} (h : (rAcc one s j).2.fe ≠ 0) : ∀ k, rAcc one s (j + k) = rAcc one s j
  | 0 => rfl
  | k + 1 => by
    show (if (rAcc one s (j + k)).2.fe ≠ 0 then rAcc one s (j + k) else _) = _
    rw [rAcc_stuck h k, if_pos h]
theorem rAcc_to {s : RS} {j n : Nat} (hj : j ≤ n) (h : j = n ∨ (rAcc one s j).2.fe ≠ 0) : rAcc one s n = rAcc one s j := by
  rcases h with rfl | h
  · rfl
  · obtain ⟨k, rfl⟩ : ∃ k, n = j + k := ⟨n - j, by omega⟩
    exact rAcc_stuck h k
theorem rAcc_more {s : RS} {j : Nat} (h : (rAcc one s j).2.fe = 0) : rAcc one s (j + 1) = ((rAcc one s j).1 ++ [(one (rAcc one s j).2).1], (one (rAcc one s j).2).2) := by
  show (if (rAcc one s j).2.fe ≠ 0 then _ else _) = _
  rw [if_neg (by simpa using h)]
theorem rAll_len (s : RS) : ∀ n, (rAll one s n).1.length = n
  | 0 => rfl
  | n + 1 => by show ((rAll one s n).1 ++ [_]).length = _; rw [List.length_append, rAll_len s n]; rfl
theorem rAcc_len (s : RS) : ∀ n, (rAcc one s n).1.length ≤ n
  | 0 => Nat.le_refl _
  | n + 1 => by
    have := rAcc_len s n
    show (if (rAcc one s n).2.fe ≠ 0 then rAcc one s n else _).1.length ≤ _
    split
    · omega
    · rw [List.length_append]; simp; exact this
/-- With and without the stop the reader comes to the same, and so does what is read, if there is no fault. -/
theorem rAcc_all (hs : ∀ s, s.fe ≠ 0 → (one s).2 = s) (s : RS) : ∀ n, (rAcc one s n).2 = (rAll one s n).2 ∧ ((rAll one s n).2.fe = 0 → rAcc one s n = rAll one s n)
  | 0 => ⟨rfl, fun _ => rfl⟩
  | n + 1 => by
    obtain ⟨h1, h2⟩ := rAcc_all hs s n
    by_cases h : (rAcc one s n).2.fe ≠ 0
    · have e1 : rAcc one s (n + 1) = rAcc one s n := if_pos h
      have h' : (rAll one s n).2.fe ≠ 0 := by rw [← h1]; exact h
      have e2 : (rAll one s (n + 1)).2 = (rAll one s n).2 := hs _ h'
      rw [e1, e2]
      exact ⟨h1, fun h3 => absurd h3 h'⟩
    · have h3 : (rAcc one s n).2.fe = 0 := by simpa using h
      have h4 := h2 (by rw [← h1]; exact h3)
      rw [rAcc_more h3, h4]
      exact ⟨rfl, fun _ => rfl⟩
theorem rAcc_keeps {p : RS → Prop} (hp : ∀ s, p s → p (one s).2) {s : RS} (h : p s) : ∀ n, p (rAcc one s n).2
  | 0 => h
  | n + 1 => by
    have := rAcc_keeps hp h n
    show p (if (rAcc one s n).2.fe ≠ 0 then rAcc one s n else _).2
    split
    · exact this
    · exact hp _ this
theorem rAll_keeps {p : RS → Prop} (hp : ∀ s, p s → p (one s).2) {s : RS} (h : p s) : ∀ n, p (rAll one s n).2
  | 0 => h
  | n + 1 => hp _ (rAll_keeps hp h n)
theorem rAcc_mem {q : α → Prop} (hq : ∀ s, q (one s).1) (s : RS) : ∀ n, ∀ x ∈ (rAcc one s n).1, q x
  | 0, _, hx => by cases hx
  | n + 1, x, hx => by
    have hx' : x ∈ (if (rAcc one s n).2.fe ≠ 0 then rAcc one s n else ((rAcc one s n).1 ++ [(one (rAcc one s n).2).1], (one (rAcc one s n).2).2)).1 := hx
    split at hx'
    · exact rAcc_mem hq s n x hx'
    · rcases List.mem_append.1 hx' with h | h
      · exact rAcc_mem hq s n x h
      · rw [List.mem_singleton.1 h]; exact hq _
end
end Go.Proofs.Ytodbmeklbamcfaa

/- Plain laws on lists that are read one by one: where a list was written it is read; what was read was written so. No program in sight. -/
namespace Go.Proofs.Ytodbmeklbamcfaa

theorem split_at {α : Type} {l : List α} {j : Nat} {x : α} (h : l[j]? = some x) : l = l.take j ++ x :: l.drop (j + 1) := by
  obtain ⟨hj, rfl⟩ := List.getElem?_eq_some_iff.1 h
  rw [List.getElem_cons_drop, List.take_append_drop]
theorem take_succ_of {α : Type} {l : List α} {j : Nat} {x : α} (h : l[j]? = some x) : l.take (j + 1) = l.take j ++ [x] := by rw [List.take_add_one, h]; rfl
theorem rAcc_here {α : Type} {one : List UInt8 → RS → α × RS} {enc : α → List UInt8} (l : List α) (h : ∀ x ∈ l, ∀ pre rest : List UInt8, one (pre ++ (enc x ++ rest)) ⟨pre.length, 0, 0⟩ = (x, ⟨pre.length + (enc x).length, 0, 0⟩)) (pre rest : List UInt8) :
    ∀ j, j ≤ l.length → rAcc (one (pre ++ (l.flatMap enc ++ rest))) ⟨pre.length, 0, 0⟩ j = (l.take j, ⟨pre.length + ((l.take j).flatMap enc).length, 0, 0⟩)
  | 0, _ => by simp [rAcc]
  | j + 1, hj => by
    have ih := rAcc_here l h pre rest j (by omega)
    obtain ⟨x, hx⟩ : ∃ x, l[j]? = some x := ⟨_, List.getElem?_eq_getElem (by omega)⟩
    have e : pre ++ (l.flatMap enc ++ rest) = (pre ++ (l.take j).flatMap enc) ++ (enc x ++ ((l.drop (j + 1)).flatMap enc ++ rest)) := by
      have e1 : l.flatMap enc = (l.take j).flatMap enc ++ (enc x ++ (l.drop (j + 1)).flatMap enc) := by
        conv => lhs; rw [split_at hx]
        rw [List.flatMap_append, List.flatMap_cons]
      rw [e1]
      simp only [List.append_assoc]
    have h1 := h x (List.mem_of_getElem? hx) (pre ++ (l.take j).flatMap enc) ((l.drop (j + 1)).flatMap enc ++ rest)
    rw [← e, List.length_append] at h1
    rw [rAcc_more (by rw [ih]), ih]
    dsimp only
    rw [h1, take_succ_of hx, List.flatMap_append, List.length_append]
    simp [Nat.add_assoc]
theorem rAcc_back {α : Type} {one : RS → α × RS} {enc : α → List UInt8} {bs : List UInt8} (hB : ∀ s : RS, s.pl ≤ bs.length → s.fe = 0 → s.fa = 0 → (one s).2.fe = 0 → bs.take (one s).2.pl = bs.take s.pl ++ enc (one s).1 ∧ (one s).2.pl ≤ bs.length ∧ (one s).2.fa = 0) (s : RS) (hp : s.pl ≤ bs.length) (h0 : s.fa = 0) :
    ∀ n, (rAcc one s n).2.fe = 0 → bs.take (rAcc one s n).2.pl = bs.take s.pl ++ (rAcc one s n).1.flatMap enc ∧ (rAcc one s n).2.pl ≤ bs.length ∧ (rAcc one s n).2.fa = 0 ∧ (rAcc one s n).1.length = n
  | 0, _ => ⟨by simp [rAcc], hp, h0, rfl⟩
  | n + 1, h => by
    by_cases h1 : (rAcc one s n).2.fe = 0
    · obtain ⟨e1, e2, e3, e4⟩ := rAcc_back hB s hp h0 n h1
      rw [rAcc_more h1] at h ⊢
      obtain ⟨f1, f2, f3⟩ := hB _ e2 h1 e3 h
      refine ⟨?_, f2, f3, by simp [e4]⟩
      dsimp only
      rw [f1, e1, List.flatMap_append, List.append_assoc]
      simp
    · have e : rAcc one s (n + 1) = rAcc one s n := if_pos h1
      rw [e] at h
      exact absurd h h1
end Go.Proofs.Ytodbmeklbamcfaa

/- Joined spans, step by step, as the loops go. No program in sight. -/
namespace Go.Proofs.Ytodbmeklbamcfaa

def joinAcc (l : List Sp) (j : Nat) : List Sp := ((l.take j).foldl stepR []).reverse
theorem joinAcc_zero (l : List Sp) : joinAcc l 0 = [] := rfl
theorem joinAcc_fold {l : List Sp} {j : Nat} {s : Sp} (h : l[j]? = some s) : joinAcc l (j + 1) = (stepR (joinAcc l j).reverse s).reverse := by
  unfold joinAcc
  rw [take_succ_of h, List.foldl_append, List.reverse_reverse]
  rfl
theorem joinAcc_first {l : List Sp} {j : Nat} {s : Sp} (h : l[j]? = some s) (h0 : joinAcc l j = []) : joinAcc l (j + 1) = [s] := by
  rw [joinAcc_fold h, h0]
  rfl
theorem joinAcc_in {l : List Sp} {j : Nat} {s z : Sp} {p : List Sp} (h : l[j]? = some s) (h0 : joinAcc l j = p ++ [z]) (hr : reach z.hi s.lo) : joinAcc l (j + 1) = p ++ [⟨z.lo, greatE z.hi s.hi⟩] := by
  rw [joinAcc_fold h, h0, List.reverse_append]
  show (if reach z.hi s.lo then _ else _ : List Sp).reverse = _
  rw [if_pos hr]
  simp
theorem joinAcc_out {l : List Sp} {j : Nat} {s z : Sp} {p : List Sp} (h : l[j]? = some s) (h0 : joinAcc l j = p ++ [z]) (hr : ¬ reach z.hi s.lo) : joinAcc l (j + 1) = p ++ [z] ++ [s] := by
  rw [joinAcc_fold h, h0, List.reverse_append]
  show (if reach z.hi s.lo then _ else _ : List Sp).reverse = _
  rw [if_neg hr]
  simp
theorem joinAcc_len (l : List Sp) : ∀ j, (joinAcc l j).length ≤ j
  | 0 => Nat.le_refl _
  | j + 1 => by
    cases hx : l[j]? with
    | none =>
      have e : joinAcc l (j + 1) = joinAcc l j := by unfold joinAcc; rw [List.take_add_one, hx, Option.toList, List.append_nil]
      rw [e]
      have := joinAcc_len l j
      omega
    | some s =>
      have ih := joinAcc_len l j
      rcases List.eq_nil_or_concat (joinAcc l j) with h0 | ⟨p, z, h0⟩
      · rw [joinAcc_first hx h0]; simp
      · rw [List.concat_eq_append] at h0
        rw [h0, List.length_append] at ih
        by_cases hr : reach z.hi s.lo
        · rw [joinAcc_in hx h0 hr, List.length_append]; simp at ih ⊢; omega
        · rw [joinAcc_out hx h0 hr, List.length_append, List.length_append]; simp at ih ⊢; omega
theorem joinAcc_all (l : List Sp) : joinAcc l l.length = (l.foldl stepR []).reverse := by unfold joinAcc; rw [List.take_length]
theorem greatE_take {a b : Str} (ha : a ≠ []) (h : b = [] ∨ a < b) : greatE a b = b := by
  by_cases hb : b = []
  · rw [hb]; exact (greatE_nil _).2
  · rw [greatE_mk ha hb, if_pos (h.resolve_left hb)]
theorem greatE_keep {a b : Str} (h : a = [] ∨ (b ≠ [] ∧ ¬ a < b)) : greatE a b = a := by
  by_cases ha : a = []
  · rw [ha]; exact (greatE_nil _).1
  · obtain ⟨h1, h2⟩ := h.resolve_left ha
    rw [greatE_mk ha h1, if_neg h2]
/-- The document's sorted spans, step by step. -/
def sortAcc (l : List Sp) (j : Nat) : List Sp := insSp (l.take j)
theorem sortAcc_skip {l : List Sp} {j : Nat} {s : Sp} (h : l[j]? = some s) (he : emptyB s = true) : sortAcc l (j + 1) = sortAcc l j := by
  unfold sortAcc insSp
  rw [take_succ_of h, List.foldl_append]
  show (if emptyB s = true then _ else _) = _
  rw [if_pos he]
theorem sortAcc_ins {l : List Sp} {j : Nat} {s : Sp} (h : l[j]? = some s) (he : emptyB s = false) : sortAcc l (j + 1) = insLo s (sortAcc l j) := by
  unfold sortAcc insSp
  rw [take_succ_of h, List.foldl_append]
  show (if emptyB s = true then _ else _) = _
  rw [if_neg (by simp [he])]
/-- Where a span is laid in: behind all that begin no later. -/
theorem insLo_at {s : Sp} {out : List Sp} {k : Nat} (hk : k ≤ out.length) (h1 : ∀ j z, j < k → out[j]? = some z → ¬ s.lo < z.lo) (h2 : ∀ z, out[k]? = some z → s.lo < z.lo) : insLo s out = out.take k ++ [s] ++ out.drop k := by
  have e : (out.takeWhile fun z => !decide (s.lo < z.lo)) = out.take k ∧ (out.dropWhile fun z => !decide (s.lo < z.lo)) = out.drop k := by
    induction out generalizing k with
    | nil => simp
    | cons y r ih =>
      cases k with
      | zero =>
        have := h2 y rfl
        simp [this]
      | succ k =>
        have hy : ¬ s.lo < y.lo := h1 0 y (Nat.succ_pos _) rfl
        have := ih (k := k) (by simpa using hk) (fun j z hj hz => h1 (j + 1) z (by omega) hz) (fun z hz => h2 z hz)
        simp [hy, this.1, this.2]
  unfold insLo
  rw [e.1, e.2]
  simp
end Go.Proofs.Ytodbmeklbamcfaa

/- Spans that are too long or too many. -/
namespace Go.Proofs.Ytodbmeklbamcfaa
open Go.RowKit Go.Rt

def bigSp (s : Sp) : Bool := decide (100 < s.lo.length) || decide (100 < s.hi.length)
def longS (l : List Sp) (n : Nat) : Bool := decide (n < l.length) || (l.take (n + 1)).any bigSp
theorem longS_no {l : List Sp} {n : Nat} (h : longS l n = false) : l.length ≤ n ∧ ∀ x ∈ l, bigSp x = false := by
  unfold longS at h
  rw [Bool.or_eq_false_iff, decide_eq_false_iff_not] at h
  refine ⟨by omega, fun x hx => ?_⟩
  have h2 := h.2
  rw [List.any_eq_false, List.take_of_length_le (by omega)] at h2
  have := h2 x hx
  simpa using this

set_option maxRecDepth 100000 in
set_option maxHeartbeats 1000000 in
theorem LongSpans_any {w : World} (A : Option Addr) (c : Nat) (l : List Sp) (n : Nat) (hn : n ≤ 1000000) (hl : l.length ≤ maxLen) (hr : Rd w A (spC l)) :
    Calls Try.prog 47 #[.slice A l.length c, .int .i64 n] w fun e w' => e = .returned (.bool (longS l n)) ∧ w = w' := by
  have hl' := hl
  unfold maxLen at hl'
  go_enter Try.func47, Try.ntmps47
  go_wp2
  go_loop [5] (fun i => ∃ j : Nat, j ≤ l.length ∧ j ≤ n + 1 ∧ i = .int .i64 j ∧ Hid (∀ k x, k < j → l[k]? = some x → bigSp x = false)) (fun i => n + 1 - (intOf i).toNat)
  case atStart => exact ⟨0, by omega, by omega, rfl, fun k x hk => by omega⟩
  case round =>
    obtain ⟨j, hj, hjn, rfl, hN⟩ := hrel
    by_cases hlt : j < l.length
    · by_cases hj2 : j ≤ n
      · obtain ⟨x, hx⟩ : ∃ x, l[j]? = some x := ⟨_, List.getElem?_eq_getElem hlt⟩
        obtain ⟨b, o, rfl, c0, c1⟩ := sp_rd hr j x hx
        have hf : bigSp x = true → longS l n = true := fun hq => by
          unfold longS
          rw [Bool.or_eq_true, List.any_eq_true]
          right
          exact ⟨x, List.mem_of_getElem? (by rw [List.getElem?_take, if_pos (show j < n + 1 by omega)]; exact hx), hq⟩
        have HF := Lib.hid hf
        have HX := Lib.hid hx
        obtain ⟨lo, hi⟩ := x
        dsimp only at c0 c1
        clear hx hf
        by_cases hq : 100 < lo.length
        · have HG := Lib.hid (HF.out (by unfold bigSp; simp [hq]))
          have hq2 : (100 : Int) < (lo.length : Int) := by omega
          go_wp2
          go_ret
          exact ⟨by rw [HG.out]; rfl, rfl⟩
        · have hq2 : ¬ (100 : Int) < (lo.length : Int) := by omega
          by_cases hp : 100 < hi.length
          · have HG := Lib.hid (HF.out (by unfold bigSp; simp [hp]))
            have hp2 : (100 : Int) < (hi.length : Int) := by omega
            go_wp2
            go_ret
            exact ⟨by rw [HG.out]; rfl, rfl⟩
          · have hp2 : ¬ (100 : Int) < (hi.length : Int) := by omega
            have HG := Lib.hid (show bigSp ⟨lo, hi⟩ = false by unfold bigSp; simp [hq, hp])
            clear hq hp
            go_wp2
            refine ⟨⟨j + 1, by omega, by omega, by go_num, fun k y hk hy => ?_⟩, by simp [intOf]; omega⟩
            rcases Nat.lt_or_ge k j with h | h
            · exact hN.out k y h hy
            · obtain rfl : k = j := by omega
              rw [HX.out] at hy; cases hy; exact HG.out
      · have hf : longS l n = true := by unfold longS; rw [Bool.or_eq_true]; left; simp; omega
        have HF := Lib.hid hf
        clear hf
        have hq3 : (n : Int) < (l.length : Int) := by omega
        go_wp2
        go_ret
        exact ⟨by rw [HF.out]; rfl, rfl⟩
    · obtain rfl : j = l.length := by omega
      have hf : longS l n = decide (n < l.length) := by
        unfold longS
        have : (l.take (n + 1)).any bigSp = false := by
          rw [List.any_eq_false]
          intro x hx
          obtain ⟨k, hk⟩ := List.getElem?_of_mem (List.mem_of_mem_take hx)
          have := hN.out k x (List.getElem?_eq_some_iff.1 hk).1 hk
          simp [this]
        rw [this, Bool.or_false]
      have HF := Lib.hid hf
      clear hf
      by_cases h9 : n < l.length
      · go_wp2
        go_ret
        exact ⟨by rw [HF.out]; simp [h9], rfl⟩
      · go_wp2
        go_ret
        exact ⟨by rw [HF.out]; simp [h9], rfl⟩
end Go.Proofs.Ytodbmeklbamcfaa

/- Parts of slices whose elements have several cells; in regions that draw their order, too. No program in sight. -/
namespace Go.Rt
open Go.RowKit

def subZ (sz : Nat) (A : Option Addr) (c l : Nat) : Option Addr := if c = l then A else A.map (·.add (l * sz))
theorem subZ_rd {w : World} {sz : Nat} {A : Option Addr} {n c : Nat} {xs : List Value} (h : Rd w A xs) (hn : xs.length = n * sz) (hc : n ≤ c) (l m : Nat) (hl : l + m ≤ n) : Rd w (subZ sz A c l) ((xs.drop (l * sz)).take (m * sz)) := by
  unfold subZ
  by_cases hcl : c = l
  · obtain rfl : m = 0 := by omega
    rw [if_pos hcl, Nat.zero_mul, List.take_zero]
    exact Rd.nil _ _
  · rw [if_neg hcl]
    by_cases hx : xs = []
    · subst hx; simp only [List.drop_nil, List.take_nil]; exact Rd.nil _ _
    · obtain ⟨b, o, rfl⟩ := h.open hx
      have e : (some (⟨b, o, none⟩ : Addr)).map (·.add (l * sz)) = some ⟨b, o + l * sz, none⟩ := by
        simp only [Option.map_some, Option.some.injEq]
        unfold Addr.add
        split
        · rename_i h0; rw [h0]; rfl
        · rfl
      rw [e]
      exact (h.drop _).take _
theorem subZ_zero (sz : Nat) (A : Option Addr) (c : Nat) : subZ sz A c 0 = A := by
  unfold subZ
  split
  · rfl
  · cases A with
    | none => rfl
    | some a => simp [Addr.add]
section
variable {P : Program} {w : World}
theorem run_slice_partZ (t e : TypeId) (i : TypeInfo) (sz : Nat) (hu : P.underlying t = some (.slice e)) (hi : P.info? e = some i) (hs : i.size = sz) (A : Option Addr) (n c l h : Nat) (hl : l ≤ h) (hh : h ≤ c) :
    (Instr.slice t (.slice A n c) (some (.int .i64 l)) (some (.int .i64 h)) none).run P w = .ok (.slice (subZ sz A c l) (h - l) (c - l)) w := by
  have h1 := run_sliceBound (P := P) (w := w) .i64 (h : Int) c .sliceAcap (by omega) (by omega)
  have h2 := run_sliceBound (P := P) (w := w) .i64 (l : Int) h .sliceB (by omega) (by omega)
  simp only [Int.toNat_natCast] at h1 h2
  simp [Instr.slice, run_underlying hu, Instr.sliceBounds, h1, h2, sizeOf, typeInfo, hi, hs, Result.andThen, subZ]
theorem run_slice_fromZ (t e : TypeId) (i : TypeInfo) (sz : Nat) (hu : P.underlying t = some (.slice e)) (hi : P.info? e = some i) (hs : i.size = sz) (A : Option Addr) (n c l : Nat) (hl : l ≤ n) :
    (Instr.slice t (.slice A n c) (some (.int .i64 l)) none none).run P w = .ok (.slice (subZ sz A c l) (n - l) (c - l)) w := by
  have h2 := run_sliceBound (P := P) (w := w) .i64 (l : Int) n .sliceB (by omega) (by omega)
  simp only [Int.toNat_natCast] at h2
  simp [Instr.slice, run_underlying hu, Instr.sliceBounds, h2, sizeOf, typeInfo, hi, hs, Result.andThen, subZ]
theorem run_slice_toZ (t e : TypeId) (i : TypeInfo) (hu : P.underlying t = some (.slice e)) (hi : P.info? e = some i) (A : Option Addr) (n c h : Nat) (hh : h ≤ c) :
    (Instr.slice t (.slice A n c) none (some (.int .i64 h)) none).run P w = .ok (.slice A h c) w := by
  have h1 := run_sliceBound (P := P) (w := w) .i64 (h : Int) c .sliceAcap (by omega) (by omega)
  simp only [Int.toNat_natCast] at h1
  have h2 := subZ_zero i.size A c
  unfold subZ at h2
  simp only [Nat.zero_mul] at h2
  simp [Instr.slice, run_underlying hu, Instr.sliceBounds, h1, sizeOf, typeInfo, hi, Result.andThen, h2]

theorem wpList_slice_fromZ {ops : Array Oper} {rest : List Oper} {o : Oper} {a : Act} {Q : Exit → Act → World → Prop} (hw : Region.wanted o (yielded ops a.tmps) = true) (x lo : Operand) (t : TypeId) (hop : o.op = Op.slice t x (some lo) none none)
    (e : TypeId) (i : TypeInfo) (sz : Nat) (hu : P.underlying t = some (.slice e)) (hi : P.info? e = some i) (hs : i.size = sz) (A : Option Addr) (n c l : Nat) (hx : a.eval x = .slice A n c) (hlo : a.eval lo = .int .i64 l) (hl : l ≤ n)
    (hK : wpList P ops Q rest (a.put o.dst (.slice (subZ sz A c l) (n - l) (c - l))) w) : wpList P ops Q (o :: rest) a w := by
  refine BigFrame.wpList_want hw fun K hK' => ?_
  have hrun := run_slice_fromZ (P := P) (w := w) t e i sz hu hi hs A n c l hl
  unfold Oper.wp
  simp [execOp, hop, hx, hlo, Instr.sliceAt, run_underlying hu, hrun, Result.andThen]
  exact hK' _ _ hK
theorem wpList_slice_partZ {ops : Array Oper} {rest : List Oper} {o : Oper} {a : Act} {Q : Exit → Act → World → Prop} (hw : Region.wanted o (yielded ops a.tmps) = true) (x lo hi' : Operand) (t : TypeId) (hop : o.op = Op.slice t x (some lo) (some hi') none)
    (e : TypeId) (i : TypeInfo) (sz : Nat) (hu : P.underlying t = some (.slice e)) (hi : P.info? e = some i) (hs : i.size = sz) (A : Option Addr) (n c l h : Nat) (hx : a.eval x = .slice A n c) (hlo : a.eval lo = .int .i64 l) (hhi : a.eval hi' = .int .i64 h) (hl : l ≤ h) (hh : h ≤ c)
    (hK : wpList P ops Q rest (a.put o.dst (.slice (subZ sz A c l) (h - l) (c - l))) w) : wpList P ops Q (o :: rest) a w := by
  refine BigFrame.wpList_want hw fun K hK' => ?_
  have hrun := run_slice_partZ (P := P) (w := w) t e i sz hu hi hs A n c l h hl hh
  unfold Oper.wp
  simp [execOp, hop, hx, hlo, hhi, Instr.sliceAt, run_underlying hu, hrun, Result.andThen]
  exact hK' _ _ hK
theorem wpList_slice_toZ {ops : Array Oper} {rest : List Oper} {o : Oper} {a : Act} {Q : Exit → Act → World → Prop} (hw : Region.wanted o (yielded ops a.tmps) = true) (x hi' : Operand) (t : TypeId) (hop : o.op = Op.slice t x none (some hi') none)
    (e : TypeId) (i : TypeInfo) (hu : P.underlying t = some (.slice e)) (hi : P.info? e = some i) (A : Option Addr) (n c h : Nat) (hx : a.eval x = .slice A n c) (hhi : a.eval hi' = .int .i64 h) (hh : h ≤ c)
    (hK : wpList P ops Q rest (a.put o.dst (.slice A h c)) w) : wpList P ops Q (o :: rest) a w := by
  refine BigFrame.wpList_want hw fun K hK' => ?_
  have hrun := run_slice_toZ (P := P) (w := w) t e i hu hi A n c h hh
  unfold Oper.wp
  simp [execOp, hop, hx, hhi, Instr.sliceAt, run_underlying hu, hrun, Result.andThen]
  exact hK' _ _ hK
theorem step_slice_fromZ {ops : Array Oper} {o : Oper} {a : Act} {K : Act → World → Prop} {Q : Exit → Act → World → Prop} {E : Prop} (hgd : o.guard = none) (x lo : Operand) (t : TypeId) (hop : o.op = Op.slice t x (some lo) none none)
    (e : TypeId) (i : TypeInfo) (sz : Nat) (hu : P.underlying t = some (.slice e)) (hi : P.info? e = some i) (hs : i.size = sz) (A : Option Addr) (n c l : Nat) (hx : a.eval x = .slice A n c) (hlo : a.eval lo = .int .i64 l) (hl : l ≤ n)
    (hK : K (a.put o.dst (.slice (subZ sz A c l) (n - l) (c - l))) w) : if Region.wanted o (yielded ops a.tmps) = true then Oper.wp P o a w K Q else E := by
  have hw : Region.wanted o (yielded ops a.tmps) = true := by simp [Region.wanted, hgd]
  rw [if_pos hw]
  have hrun := run_slice_fromZ (P := P) (w := w) t e i sz hu hi hs A n c l hl
  unfold Oper.wp
  simp [execOp, hop, hx, hlo, Instr.sliceAt, run_underlying hu, hrun, Result.andThen]
  exact hK
theorem step_slice_toZ {ops : Array Oper} {o : Oper} {a : Act} {K : Act → World → Prop} {Q : Exit → Act → World → Prop} {E : Prop} (hgd : o.guard = none) (x hi' : Operand) (t : TypeId) (hop : o.op = Op.slice t x none (some hi') none)
    (e : TypeId) (i : TypeInfo) (hu : P.underlying t = some (.slice e)) (hi : P.info? e = some i) (A : Option Addr) (n c h : Nat) (hx : a.eval x = .slice A n c) (hhi : a.eval hi' = .int .i64 h) (hh : h ≤ c)
    (hK : K (a.put o.dst (.slice A h c)) w) : if Region.wanted o (yielded ops a.tmps) = true then Oper.wp P o a w K Q else E := by
  have hw : Region.wanted o (yielded ops a.tmps) = true := by simp [Region.wanted, hgd]
  rw [if_pos hw]
  have hrun := run_slice_toZ (P := P) (w := w) t e i hu hi A n c h hh
  unfold Oper.wp
  simp [execOp, hop, hx, hhi, Instr.sliceAt, run_underlying hu, hrun, Result.andThen]
  exact hK
end
section
variable {W w : World} {l : List SL}
theorem Sat.new_made (H : Sat W w l) (e : TypeId) (zc : List Value) : Sat W (w.alloc (.cells #[] e)) (newS e zc (.slice (some ⟨w.heap.size, 0, none⟩) 0 0) 0 [] :: l) :=
  (H.alloc #[] e).head fun h hh => ⟨by simp, .inr ⟨w.heap.size, 0, #[], rfl, hh, Nat.le_refl _, by simp [maxLen], by simp, by simp, by simpa using Zeros.nil _⟩⟩
end
end Go.Rt

/- The document's answers on keys and spans, that only read. -/
namespace Go.Proofs.Ytodbmeklbamcfaa
open Go.RowKit Go.Rt

end Go.Proofs.Ytodbmeklbamcfaa

/- Whether a span is empty: the package's and the document's way. -/
namespace Go.Proofs.Ytodbmeklbamcfaa
open Go.RowKit Go.Rt

set_option maxRecDepth 100000 in
set_option maxHeartbeats 4000000 in
theorem spEmpty_any {W w : World} {L : List SL} (lo hi : Str) (H : Sat W w L) :
    Calls Try.prog 138 #[.agg #[.string ⟨lo.toArray⟩, .string ⟨hi.toArray⟩]] w fun e w' => e = .returned (.bool (emptyB ⟨lo, hi⟩)) ∧ Sat W w' L := by
  have H1 := H.alloc #[.string ⟨lo.toArray⟩, .string ⟨hi.toArray⟩] 111
  have HB := Lib.hid (sbelow_any lo hi lo H1)
  unfold emptyB
  dsimp only
  generalize belowB hi lo = bb at *
  go_enter Try.func138, Try.ntmps138
  go_wp2_with fail
  refine (HB.out).mono ?_
  rintro e w2 ⟨rfl, H2⟩
  go_wp2
  go_ret
  exact ⟨rfl, H2.tail⟩
end Go.Proofs.Ytodbmeklbamcfaa

/- Lists of pairs: their cells; copied, held against each other, written over, too long. -/
namespace Go.Proofs.Ytodbmeklbamcfaa
open Go.RowKit Go.Rt

def Pr.cs (x : Pr) : List Value := [.string ⟨x.k.toArray⟩, .string ⟨x.v.toArray⟩]
def prC (l : List Pr) : List Value := l.flatMap Pr.cs
abbrev zPr : List Value := [.string ⟨#[]⟩, .string ⟨#[]⟩]
theorem prC_len (l : List Pr) : (prC l).length = l.length * 2 := flat_len Pr.cs 2 l fun _ _ => rfl
theorem prC_append (l m : List Pr) : prC (l ++ m) = prC l ++ prC m := by simp [prC]
theorem prC_single (x : Pr) : prC [x] = x.cs := by simp [prC]
theorem prC_nil : prC [] = [] := rfl
theorem zPr_like : LikeZ zPr := by
  intro j u h
  match j, h with
  | 0, h | 1, h => simp at h; subst h; rfl
  | j + 2, h => simp at h
theorem pr_typed (x : Pr) : Typed zPr x.cs := by
  intro j u h
  match j, h with
  | 0, h | 1, h => simp [Pr.cs] at h; subst h; rfl
  | j + 2, h => simp [Pr.cs] at h
theorem pr_one (x : Pr) : ∀ u ∈ x.cs, u.oneCell' = true := by
  intro u hu
  simp only [Pr.cs, List.mem_cons, List.not_mem_nil, or_false] at hu
  rcases hu with rfl | rfl <;> rfl
theorem prC_one (l : List Pr) : ∀ u ∈ prC l, u.oneCell' = true := by
  intro u hu
  obtain ⟨x, _, h⟩ := List.mem_flatMap.1 hu
  exact pr_one x u h
theorem prC_typed (l : List Pr) : Typed zPr (prC l) := by
  induction l with
  | nil => exact Typed.nil _
  | cons x l ih => exact Typed.append (pr_typed x) ih (show 2 % 2 = 0 from rfl)
theorem pr_cells {w : World} {A : Option Addr} {l : List Pr} (h : Rd w A (prC l)) (j : Nat) (x : Pr) (hj : l[j]? = some x) : ∃ b o, A = some ⟨b, o, none⟩ ∧ w.cell? ⟨b, o + j * 2, none⟩ = some (.string ⟨x.k.toArray⟩) ∧ w.cell? ⟨b, o + j * 2 + 1, none⟩ = some (.string ⟨x.v.toArray⟩) ∧ Rd w (some ⟨b, o + j * 2, none⟩) x.cs := by
  obtain ⟨b, o, hA, hr⟩ := rd_elem Pr.cs 2 (by omega) h (fun _ _ => rfl) j x hj
  exact ⟨b, o, hA, hr.at 0 rfl, hr.at 1 rfl, hr⟩

theorem pr_ext {l m : List Pr} (hl : l.length = m.length) (h : ∀ k, k < l.length → l[k]? = m[k]?) : l = m := by
  refine List.ext_getElem hl fun k h1 h2 => ?_
  have := h k h1
  simpa [h1, h2] using this

def bigPr (s : Pr) : Bool := decide (100 < s.k.length) || decide (100 < s.v.length)
def longPr (l : List Pr) (n : Nat) : Bool := decide (n < l.length) || (l.take (n + 1)).any bigPr
theorem longPr_no {l : List Pr} {n : Nat} (h : longPr l n = false) : l.length ≤ n ∧ ∀ x ∈ l, x.k.length ≤ 100 ∧ x.v.length ≤ 100 := by
  unfold longPr at h
  rw [Bool.or_eq_false_iff, decide_eq_false_iff_not] at h
  refine ⟨by omega, fun x hx => ?_⟩
  have h2 := h.2
  rw [List.any_eq_false, List.take_of_length_le (by omega)] at h2
  have h3 := h2 x hx
  unfold bigPr at h3
  rw [Bool.or_eq_true, decide_eq_true_iff, decide_eq_true_iff, not_or] at h3
  omega

end Go.Proofs.Ytodbmeklbamcfaa
