/- A pack of texts: KdM, KdD, KdS, KgA -/
import Derived.Test.YtodbmeklbamcfaaGreatPkKnownU
import Derived.Test.YtodbmeklbamcfaaGreatPkKnownV
import Derived.Test.YtodbmeklbamcfaaGreatPkKnownE
/- The set of a list of keys: the program's own answer, its spare room of texts too. -/
namespace Go.Proofs.YtodbmeklbamcfaaGreat
open Go.RowKit Go.Rt Go.Maps Go.Shelf

set_option maxRecDepth 100000 in
set_option maxHeartbeats 4000000 in
theorem eSort_row {w : World} (A : Option Addr) (c : Nat) (l : List Str) (hl : l.length ≤ 1000000000) (hx : ∀ x ∈ l, x.length ≤ maxLen) (hr : Rd w A (tsC l)) :
    Calls Tryz.prog 101 #[.slice A l.length c] w fun e w' => ∃ A' c', e = .returned (.slice A' (sortS l).length c') ∧ Sat w w' [seenS 9 (.slice A' (sortS l).length c') (sortS l).length (tsC (sortS l))] := by
  have hmm := @run_makeMap Tryz.prog
  have hkey := fun x hx0 => key_str x (hx x hx0)
  have HKEY := Lib.hid hkey
  have hfin := fun (wc : World) (n : Nat) (h : wc.ownsMap Tryz.prog 9 (fun _ => some (DataW.nil, [])) w.heap.size n (setD l)) (h1 : Maps.size (setD l) ≤ 1000000000) => eSorted_any 193 #[.pointer (some ⟨wc.heap.size, 0, none⟩)] (enters_of Tryz.func193 (by kernel_rfl) rfl) _ (Maps.size (setD l)) h1 (wc.alloc (.cells #[.map (some w.heap.size)] 177))
    ⟨_, AnyZ.keys_stops (ρ := Tryz.ren138) { Tryz.keys138 with } Fence.wide 2 trivial rfl (by omega) wc.heap.size w.heap.size n (setD l) (R := fun _ => some (DataW.nil, [])) _ (by simp) (by simp) (by
      have hbl := h.lt
      obtain ⟨es, clock, hb, Ft, hs, hD⟩ := h
      exact ⟨es, clock, (Below.heap_alloc _ _ _ hbl).trans hb, Ft, hs, hD⟩)⟩
    (fun ss hS => by have h2 := setD_perm h hS.1; have h3 := congrArg List.length h2; rw [List.length_mergeSort] at h3; have := sortS_len l; omega)
  have hper := fun (wc : World) (n : Nat) (h : wc.ownsMap Tryz.prog 9 (fun _ => some (DataW.nil, [])) w.heap.size n (setD l)) => @setD_perm _ wc w.heap.size n l h
  have HFIN := Lib.hid hfin
  have HPER := Lib.hid hper
  have H0 := World.ownsMap_made w Tryz.prog 9 (fun _ => some (DataW.nil (H := Unit), []))
  clear hkey hfin hper hx
  go_enter Tryz.func101, Tryz.ntmps101
  go_wp2
  go_loopw [9] (fun i wc => ∃ j : Nat, j ≤ l.length ∧ i = .int .i64 j ∧ wc.ownsMap (H := Unit) Tryz.prog 9 (fun _ => some (DataW.nil, [])) w.heap.size j (setD (l.take j)) ∧ Below w.heap.size w wc) (fun i _ => l.length - (intOf i).toNat)
  case atStart => exact ⟨0, by omega, rfl, H0, (Below.refl _ _).alloc (Nat.le_refl _) _⟩
  case round =>
    obtain ⟨j, hj, rfl, hown, hB⟩ := hrel
    clear hmm H0
    by_cases hlt : j < l.length
    · obtain ⟨x, hx⟩ : ∃ x, l[j]? = some x := ⟨_, List.getElem?_eq_getElem hlt⟩
      have hk := HKEY.out x (List.mem_of_getElem? hx)
      have htk : l.take (j + 1) = l.take j ++ [x] := by rw [List.take_add_one, hx]; rfl
      have hst : setD (l.take (j + 1)) = (setD (l.take j)).put (.string x) .nil := by rw [htk, setD_snoc]
      have HST := Lib.hid hst
      obtain ⟨b, o, rfl, hc⟩ := ts_at (hr.below hB) j x hx
      clear htk hst hx
      go_wp2_with (first
        | (refine wpList_mapUpdate_own _ rfl _ _ _ 177 rfl 9 178 (string_keyed Tryz.underlying9) Tryz.underlying177 _ w.heap.size j (setD (l.take j)) rfl hown (by unfold maxLen; omega) _ _ (.string x) rfl rfl hk .nil [] rfl ?_
           intro w1 hown1 hgrow1))
      refine ⟨⟨j + 1, by omega, by go_num, ?_, hB.grown hgrow1 hB.size (fun k e => by cases e; exact Nat.le_refl _)⟩, by simp [intOf]; omega⟩
      rw [HST.out]
      exact hown1
    · obtain rfl : j = l.length := by omega
      rw [List.take_length] at hown
      have hsz : Maps.size (setD l) ≤ l.length := hown.size_le
      have hf := HFIN.out wr l.length hown (by omega)
      have HF := Lib.hid hf
      have hP := fun ss => HPER.out wr l.length hown (ss := ss)
      have HP := Lib.hid hP
      clear hf hP HFIN HPER HKEY
      go_wp2_with fail
      refine (callsIn_wide.1 (Tryz.keysA138 (some w.heap.size) wr)).mono ?_
      rintro e w1 ⟨rfl, rfl⟩
      go_wp2_with fail
      refine HF.out.mono ?_
      rintro e w2 ⟨A2, c2, ss, rfl, hS, H2⟩
      clear HF
      have hsort := HP.out ss hS.1
      have hlen : ss.length = (sortS l).length := by rw [← hsort, List.length_mergeSort]
      have hwr := hB.size
      rw [hsort] at H2
      go_wp2
      go_ret
      rw [hlen] at H2
      refine ⟨A2, c2, rfl, ?_⟩
      exact H2.earlier (hB.alloc hB.size _)
end Go.Proofs.YtodbmeklbamcfaaGreat

/- The laws' helpers on keys: a set in memory of its own, the chapter's examples. -/
namespace Go.Proofs.YtodbmeklbamcfaaGreat
open Go.RowKit Go.Rt

theorem eSort_sat {W w : World} {L : List SL} (A : Option Addr) (c : Nat) (l : List Str) (hl : l.length ≤ 1000000000) (hx : ∀ x ∈ l, x.length ≤ maxLen) (hr : Rd w A (tsC l)) (H : Sat W w L) :
    Calls Tryz.prog 101 #[.slice A l.length c] w fun e w' => ∃ A' c', e = .returned (.slice A' (sortS l).length c') ∧ Sat W w' (seenS 9 (.slice A' (sortS l).length c') (sortS l).length (tsC (sortS l)) :: L) := by
  refine (eSort_row A c l hl hx hr).mono ?_
  rintro e w' ⟨A', c', rfl, H2⟩
  exact ⟨A', c', rfl, H.joined H2⟩

end Go.Proofs.YtodbmeklbamcfaaGreat

/- Spans of keys: is a key in one, in one of some. -/
namespace Go.Proofs.YtodbmeklbamcfaaGreat
open Go.RowKit Go.Rt

structure Sp where
  lo : Str
  hi : Str
def Sp.cs (s : Sp) : List Value := [.string ⟨s.lo.toArray⟩, .string ⟨s.hi.toArray⟩]
def spC (l : List Sp) : List Value := l.flatMap Sp.cs
def belowB (hi k : Str) : Bool := decide (hi = []) || decide (k < hi)
def inB (s : Sp) (k : Str) : Bool := !decide (k < s.lo) && belowB s.hi k
def hasSp (l : List Sp) (k : Str) : Bool := l.any fun s => inB s k
theorem sp_rd {w : World} {A : Option Addr} {l : List Sp} (h : Rd w A (spC l)) (j : Nat) (s : Sp) (hj : l[j]? = some s) : ∃ b o, A = some ⟨b, o, none⟩ ∧ w.cell? ⟨b, o + j * 2, none⟩ = some (.string ⟨s.lo.toArray⟩) ∧ w.cell? ⟨b, o + j * 2 + 1, none⟩ = some (.string ⟨s.hi.toArray⟩) := by
  obtain ⟨b, o, hA, hr⟩ := rd_elem Sp.cs 2 (by omega) h (fun _ _ => rfl) j s hj
  exact ⟨b, o, hA, hr.at 0 rfl, hr.at 1 rfl⟩

set_option maxRecDepth 100000 in
theorem sbelow_any {W w : World} {L : List SL} (lo hi k : Str) (H : Sat W w L) :
    Calls Tryz.prog 207 #[.agg #[.string ⟨lo.toArray⟩, .string ⟨hi.toArray⟩], .string ⟨k.toArray⟩] w fun e w' => e = .returned (.bool (belowB hi k)) ∧ Sat W w' L := by
  unfold belowB
  go_enter Tryz.func207, Tryz.ntmps207
  by_cases h : hi = []
  · subst h
    go_wp2
    go_ret
    exact ⟨rfl, H.alloc' _⟩
  · have h1 : hi.isEmpty = false := by cases hi with | nil => exact absurd rfl h | cons x l => rfl
    rw [decide_eq_false h]
    by_cases h2 : k < hi
    · have h3 := less_yes h2
      rw [decide_eq_true h2]
      clear h h2
      go_wp2
      go_ret
      exact ⟨rfl, H.alloc' _⟩
    · have h3 := less_no h2
      rw [decide_eq_false h2]
      clear h h2
      go_wp2
      go_ret
      exact ⟨rfl, H.alloc' _⟩

set_option maxRecDepth 100000 in
theorem sIn_any {W w : World} {L : List SL} (lo hi k : Str) (H : Sat W w L) :
    Calls Tryz.prog 219 #[.agg #[.string ⟨lo.toArray⟩, .string ⟨hi.toArray⟩], .string ⟨k.toArray⟩] w fun e w' => e = .returned (.bool (inB ⟨lo, hi⟩ k)) ∧ Sat W w' L := by
  have HB := Lib.hid (fun w0 (L0 : List SL) (h : Sat W w0 L0) => sbelow_any lo hi k h)
  have H1 := H.alloc #[.string ⟨lo.toArray⟩, .string ⟨hi.toArray⟩] 74
  unfold inB
  dsimp only
  generalize belowB hi k = bb at *
  go_enter Tryz.func219, Tryz.ntmps219
  by_cases h : k < lo
  · have h1 := less_yes h
    rw [decide_eq_true h]
    clear h
    go_wp2
    go_ret
    exact ⟨rfl, H1.tail⟩
  · have h1 := less_no h
    rw [decide_eq_false h]
    clear h
    go_wp2_with fail
    refine (HB.out _ _ H1).mono ?_
    rintro e w2 ⟨rfl, H2⟩
    go_wp2
    go_ret
    exact ⟨by simp, H2.tail⟩
set_option maxRecDepth 100000 in
theorem sHas1_any {W w : World} {L : List SL} (q : Nat) (lo hi k : Str) (t : TypeId) (H : Sat W w (pt q #[.string ⟨k.toArray⟩] t :: L)) :
    Calls Tryz.prog 218 #[.agg #[.string ⟨lo.toArray⟩, .string ⟨hi.toArray⟩], .pointer (some ⟨q, 0, none⟩)] w fun e w' => e = .returned (.bool (inB ⟨lo, hi⟩ k)) ∧ Sat W w' (pt q #[.string ⟨k.toArray⟩] t :: L) := by
  have HI := Lib.hid (fun w0 (L0 : List SL) (h : Sat W w0 L0) => sIn_any lo hi k h)
  have H1 := H.alloc #[.string ⟨lo.toArray⟩, .string ⟨hi.toArray⟩] 74
  have hc : (w.alloc (.cells #[.string ⟨lo.toArray⟩, .string ⟨hi.toArray⟩] 74)).cell? ⟨q, 0, none⟩ = some (.string ⟨k.toArray⟩) := H1.swap.cell 0
  have hc0 : w.cell? ⟨q, 0, none⟩ = some (.string ⟨k.toArray⟩) := H.cell 0
  have hlt := H.lt
  generalize inB ⟨lo, hi⟩ k = bb at *
  go_enter Tryz.func218, Tryz.ntmps218
  go_wp2_with fail
  refine (HI.out _ _ H1).mono ?_
  rintro e w2 ⟨rfl, H2⟩
  go_wp2
  go_ret
  exact ⟨rfl, H2.tail⟩
set_option maxRecDepth 100000 in
set_option maxHeartbeats 4000000 in
theorem sIndexFunc_any {W w : World} {L : List SL} (q : Nat) (k : Str) (t : TypeId) (A : Option Addr) (c : Nat) (l : List Sp) (hl : l.length ≤ maxLen) (hr : RdL W (pt q #[.string ⟨k.toArray⟩] t :: L) A (spC l)) (H : Sat W w (pt q #[.string ⟨k.toArray⟩] t :: L)) :
    Calls Tryz.prog 206 #[.slice A l.length c, .func (.func 218) #[] #[.pointer (some ⟨q, 0, none⟩)]] w fun e w' => ∃ i : Int, e = .returned (.int .i64 i) ∧ decide (0 ≤ i) = hasSp l k ∧ Sat W w' (pt q #[.string ⟨k.toArray⟩] t :: L) := by
  have hl' := hl
  unfold maxLen at hl'
  go_enter Tryz.func206, Tryz.ntmps206
  go_wp2
  go_loopw [8] (fun i wc => ∃ j : Nat, j ≤ l.length ∧ i = .int .i64 j ∧ Hid (∀ m s, m < j → l[m]? = some s → inB s k = false) ∧ Sat W wc (pt q #[.string ⟨k.toArray⟩] t :: L)) (fun i _ => l.length - (intOf i).toNat)
  case atStart => exact ⟨0, by omega, rfl, (fun m s h => by omega), H⟩
  case round =>
    obtain ⟨j, hj, rfl, hN, H1⟩ := hrel
    by_cases hlt : j < l.length
    · obtain ⟨s, hs⟩ : ∃ s, l[j]? = some s := ⟨_, List.getElem?_eq_getElem hlt⟩
      obtain ⟨b, o, rfl, c0, c1⟩ := sp_rd (hr _ H1) j s hs
      have HS := Lib.hid hs
      obtain ⟨lo, hi⟩ := s
      dsimp only at c0 c1
      have HI := Lib.hid (sHas1_any (W := W) (w := wr) (L := L) q lo hi k t H1)
      clear hs
      cases hb : inB ⟨lo, hi⟩ k with
      | true =>
        rw [hb] at HI
        have hf : hasSp l k = true := List.any_eq_true.2 ⟨⟨lo, hi⟩, List.mem_of_getElem? HS.out, hb⟩
        have HF := Lib.hid hf
        clear hb hf
        go_wp2_with fail
        refine HI.out.mono ?_
        rintro e w2 ⟨rfl, H2⟩
        go_wp2
        go_ret
        exact ⟨j, rfl, by rw [HF.out]; simp, H2⟩
      | false =>
        rw [hb] at HI
        have HBB := Lib.hid hb
        clear hb
        go_wp2_with fail
        refine HI.out.mono ?_
        rintro e w2 ⟨rfl, H2⟩
        go_wp2
        refine ⟨⟨j + 1, by omega, by go_num, fun m s hm hs => ?_, H2⟩, by simp [intOf]; omega⟩
        rcases Nat.lt_or_ge m j with h | h
        · exact hN.out m s h hs
        · obtain rfl : m = j := by omega
          rw [HS.out] at hs; cases hs; exact HBB.out
    · obtain rfl : j = l.length := by omega
      have hf : hasSp l k = false := by
        unfold hasSp
        rw [List.any_eq_false]
        intro s hs
        obtain ⟨m, hm⟩ := List.getElem?_of_mem hs
        simp [hN.out m s (List.getElem?_eq_some_iff.1 hm).1 hm]
      have HF := Lib.hid hf
      clear hf
      go_wp2
      go_ret
      exact ⟨-1, rfl, by rw [HF.out]; rfl, H1⟩
set_option maxRecDepth 100000 in
set_option maxHeartbeats 4000000 in
theorem sHas_any {W w : World} {L : List SL} (k : Str) (A : Option Addr) (c : Nat) (l : List Sp) (hl : l.length ≤ maxLen) (hr : RdL W L A (spC l)) (H : Sat W w L) :
    Calls Tryz.prog 162 #[.slice A l.length c, .string ⟨k.toArray⟩] w fun e w' => e = .returned (.bool (hasSp l k)) ∧ Sat W w' L := by
  have H1 := H.alloc #[.string ⟨k.toArray⟩] 9
  have HI := Lib.hid (sIndexFunc_any (W := W) (w := w.alloc (.cells #[.string ⟨k.toArray⟩] 9)) (L := L) w.heap.size k 9 A c l hl (RdL.tail hr) H1)
  have hC : Calls Tryz.prog 217 #[.slice A l.length c, .func (.func 218) #[] #[.pointer (some ⟨w.heap.size, 0, none⟩)]] (w.alloc (.cells #[.string ⟨k.toArray⟩] 9)) fun e w' => e = .returned (.bool (hasSp l k)) ∧ Sat W w' L := by
    go_enter Tryz.func217, Tryz.ntmps217
    go_wp2_with fail
    refine HI.out.mono ?_
    rintro e w2 ⟨i, rfl, hi, H2⟩
    have HI2 := Lib.hid hi
    clear hi HI
    go_wp2
    go_ret
    exact ⟨by rw [← HI2.out]; rfl, H2.tail⟩
  have HC := Lib.hid hC
  clear hC HI
  go_enter Tryz.func162, Tryz.ntmps162
  go_wp2_with fail
  refine HC.out.mono ?_
  rintro e w2 ⟨rfl, H2⟩
  go_wp2
  go_ret
  exact ⟨rfl, H2⟩
end Go.Proofs.YtodbmeklbamcfaaGreat

/- Plain laws on joined spans: what is told hangs on the spans alone that are not empty, sorted by their beginnings in any way. No program in sight. -/
namespace Go.Proofs.YtodbmeklbamcfaaGreat

instance : DecidableEq Sp := fun a b => decidable_of_iff (a.lo = b.lo ∧ a.hi = b.hi) ⟨fun ⟨h1, h2⟩ => by cases a; cases b; simp_all, fun h => by subst h; exact ⟨rfl, rfl⟩⟩
def emptyB (s : Sp) : Bool := !belowB s.hi s.lo
def greatE (a b : Str) : Str := if a = [] ∨ b = [] then [] else if a < b then b else a
theorem greatE_comm (a b : Str) : greatE a b = greatE b a := by
  unfold greatE
  by_cases ha : a = [] <;> by_cases hb : b = [] <;> simp [ha, hb]
  rcases str_total a b with h | h | h
  · rw [if_pos h, if_neg fun h' => str_irrefl _ (str_trans h h')]
  · rw [h]
  · rw [if_pos h, if_neg fun h' => str_irrefl _ (str_trans h h')]
theorem greatE_nil (a : Str) : greatE [] a = [] ∧ greatE a [] = [] := by unfold greatE; simp
theorem greatE_mk {a b : Str} (ha : a ≠ []) (hb : b ≠ []) : greatE a b = if a < b then b else a := by unfold greatE; rw [if_neg (by simp [ha, hb])]
theorem greatE_ne {a b : Str} (ha : a ≠ []) (hb : b ≠ []) : greatE a b ≠ [] := by rw [greatE_mk ha hb]; split <;> assumption
theorem greatE_assoc (a b c : Str) : greatE (greatE a b) c = greatE a (greatE b c) := by
  by_cases ha : a = []
  · rw [ha, (greatE_nil _).1, (greatE_nil _).1, (greatE_nil _).1]
  by_cases hb : b = []
  · rw [hb, (greatE_nil _).2, (greatE_nil _).1, (greatE_nil _).2]
  by_cases hc : c = []
  · rw [hc, (greatE_nil _).2, (greatE_nil _).2, (greatE_nil _).2]
  rw [greatE_mk (greatE_ne ha hb) hc, greatE_mk ha (greatE_ne hb hc), greatE_mk ha hb, greatE_mk hb hc]
  by_cases h1 : a < b <;> by_cases h2 : b < c <;> simp only [h1, h2, if_true, if_false]
  · rw [if_pos (str_trans h1 h2)]
  · by_cases h3 : a < c
    · exact absurd (by
        rcases str_total b c with h | h | h
        · exact h
        · rw [← h] at h3; exact absurd h3 h1
        · exact absurd (str_trans h3 h) h1) h2
    · rw [if_neg h3]
theorem greatE_right (a b c : Str) : greatE (greatE a b) c = greatE (greatE a c) b := by rw [greatE_assoc, greatE_comm b c, ← greatE_assoc]
/-- An end that is not ahead of a beginning. -/
def reach (hi lo : Str) : Prop := hi = [] ∨ ¬ hi < lo
instance (hi lo : Str) : Decidable (reach hi lo) := by unfold reach; infer_instance
theorem reach_great {a b lo : Str} (h : reach a lo) : reach (greatE a b) lo := by
  unfold reach at h ⊢
  by_cases ha : a = []
  · left; rw [ha, (greatE_nil _).1]
  by_cases hb : b = []
  · left; rw [hb, (greatE_nil _).2]
  right
  have h1 : ¬ a < lo := h.resolve_left ha
  rw [greatE_mk ha hb]
  split
  · rename_i h2
    exact fun h3 => h1 (str_trans h2 h3)
  · exact h1
def stepR (acc : List Sp) (s : Sp) : List Sp := match acc with
  | [] => [s]
  | z :: r => if reach z.hi s.lo then ⟨z.lo, greatE z.hi s.hi⟩ :: r else s :: z :: r
theorem reach_full {s : Sp} (h : emptyB s = false) : reach s.hi s.lo := by
  unfold emptyB belowB at h
  unfold reach
  simp at h
  by_cases h1 : s.hi = []
  · exact .inl h1
  · exact .inr fun h' => str_irrefl _ (str_trans (h h1) h')
theorem step_comm {s t : Sp} (he : s.lo = t.lo) (hs : emptyB s = false) (ht : emptyB t = false) (acc : List Sp) : stepR (stepR acc s) t = stepR (stepR acc t) s := by
  have rs := reach_full hs
  have rt := reach_full ht
  obtain ⟨lo, a⟩ := s
  obtain ⟨lo', b⟩ := t
  dsimp only at he rs rt
  subst he
  cases acc with
  | nil =>
    show (if reach a lo then _ else _) = (if reach b lo then _ else _)
    rw [if_pos rs, if_pos rt]
    show [Sp.mk lo (greatE a b)] = [Sp.mk lo (greatE b a)]
    rw [greatE_comm]
  | cons z r =>
    by_cases h : reach z.hi lo
    · have h1 : stepR (z :: r) ⟨lo, a⟩ = ⟨z.lo, greatE z.hi a⟩ :: r := if_pos h
      have h2 : stepR (z :: r) ⟨lo, b⟩ = ⟨z.lo, greatE z.hi b⟩ :: r := if_pos h
      rw [h1, h2]
      show (if reach (greatE z.hi a) lo then _ else _) = (if reach (greatE z.hi b) lo then _ else _)
      rw [if_pos (reach_great h), if_pos (reach_great h)]
      show Sp.mk z.lo (greatE (greatE z.hi a) b) :: r = Sp.mk z.lo (greatE (greatE z.hi b) a) :: r
      rw [greatE_right]
    · have h1 : stepR (z :: r) ⟨lo, a⟩ = ⟨lo, a⟩ :: z :: r := if_neg h
      have h2 : stepR (z :: r) ⟨lo, b⟩ = ⟨lo, b⟩ :: z :: r := if_neg h
      rw [h1, h2]
      show (if reach a lo then _ else _) = (if reach b lo then _ else _)
      rw [if_pos rs, if_pos rt]
      show Sp.mk lo (greatE a b) :: z :: r = Sp.mk lo (greatE b a) :: z :: r
      rw [greatE_comm]
def SortedLo (l : List Sp) : Prop := l.Pairwise fun a b => ¬ b.lo < a.lo
theorem fold_front {x : Sp} (hx : emptyB x = false) : ∀ (p q : List Sp), (∀ y ∈ p, y.lo = x.lo ∧ emptyB y = false) → ∀ acc, (p ++ x :: q).foldl stepR acc = (x :: (p ++ q)).foldl stepR acc
  | [], _, _, _ => rfl
  | y :: p, q, h, acc => by
    have h1 := h y (List.mem_cons_self ..)
    show (p ++ x :: q).foldl stepR (stepR acc y) = (p ++ q).foldl stepR (stepR (stepR acc x) y)
    rw [fold_front hx p q (fun z hz => h z (List.mem_cons_of_mem _ hz)) (stepR acc y)]
    show (p ++ q).foldl stepR (stepR (stepR acc y) x) = _
    rw [step_comm h1.1 h1.2 hx]
theorem fold_perm : ∀ (l m : List Sp), l.Perm m → SortedLo l → SortedLo m → (∀ s ∈ l, emptyB s = false) → ∀ acc, l.foldl stepR acc = m.foldl stepR acc
  | [], m, hp, _, _, _, _ => by rw [hp.nil_eq]
  | x :: l, m, hp, hl, hm, he, acc => by
    obtain ⟨p, q, rfl⟩ := List.append_of_mem (hp.subset (List.mem_cons_self ..))
    have hp2 : l.Perm (p ++ q) := (hp.trans List.perm_middle).cons_inv
    have hpx : ∀ y ∈ p, y.lo = x.lo ∧ emptyB y = false := fun y hy => by
      have hy2 : y ∈ l := hp2.symm.subset (List.mem_append_left _ hy)
      have h1 : ¬ y.lo < x.lo := (List.pairwise_cons.1 hl).1 y hy2
      have h2 : ¬ x.lo < y.lo := (List.pairwise_append.1 hm).2.2 y hy x (List.mem_cons_self ..)
      refine ⟨?_, he y (List.mem_cons_of_mem _ hy2)⟩
      rcases str_total y.lo x.lo with h | h | h
      · exact absurd h h1
      · exact h
      · exact absurd h h2
    have hm2 : SortedLo (p ++ q) := List.Pairwise.sublist (List.Sublist.append_left (List.sublist_cons_self ..) _) hm
    rw [fold_front (he x (List.mem_cons_self ..)) p q hpx acc]
    exact fold_perm l (p ++ q) hp2 (List.pairwise_cons.1 hl).2 hm2 (fun s hs => he s (List.mem_cons_of_mem _ hs)) (stepR acc x)
/-- The document's way: each span behind those that begin no later. -/
def insLo (s : Sp) (out : List Sp) : List Sp := out.takeWhile (fun z => !decide (s.lo < z.lo)) ++ s :: out.dropWhile (fun z => !decide (s.lo < z.lo))
def insSp (l : List Sp) : List Sp := l.foldl (fun out s => if emptyB s then out else insLo s out) []
theorem insLo_perm (s : Sp) (out : List Sp) : (insLo s out).Perm (s :: out) := by
  unfold insLo
  refine List.perm_middle.trans ?_
  rw [List.takeWhile_append_dropWhile]
theorem insLo_sorted (s : Sp) : ∀ {out : List Sp}, SortedLo out → SortedLo (insLo s out)
  | [], _ => by unfold insLo SortedLo; simp
  | z :: r, h => by
    by_cases hz : s.lo < z.lo
    · have e : insLo s (z :: r) = s :: z :: r := by unfold insLo; simp [hz]
      rw [e]
      refine List.pairwise_cons.2 ⟨fun y hy => ?_, h⟩
      rcases List.mem_cons.1 hy with rfl | hy
      · exact fun h' => str_irrefl _ (str_trans hz h')
      · exact fun h' => (List.pairwise_cons.1 h).1 y hy (str_trans h' hz)
    · have e : insLo s (z :: r) = z :: insLo s r := by unfold insLo; simp [hz]
      rw [e]
      refine List.pairwise_cons.2 ⟨fun y hy => ?_, insLo_sorted s (List.pairwise_cons.1 h).2⟩
      rcases List.mem_cons.1 ((insLo_perm s r).subset hy) with rfl | hy
      · exact hz
      · exact (List.pairwise_cons.1 h).1 y hy
theorem insSp_laws : ∀ (l acc : List Sp), SortedLo acc → SortedLo (l.foldl (fun out s => if emptyB s then out else insLo s out) acc) ∧ (l.foldl (fun out s => if emptyB s then out else insLo s out) acc).Perm (acc ++ l.filter fun s => !emptyB s)
  | [], acc, h => ⟨h, by simp⟩
  | s :: l, acc, h => by
    rw [List.foldl_cons, List.filter_cons]
    cases he : emptyB s with
    | true =>
      have := insSp_laws l acc h
      simpa [he] using this
    | false =>
      have h2 := insSp_laws l (insLo s acc) (insLo_sorted s h)
      simp only [Bool.false_eq_true, if_false, Bool.not_false, if_true]
      refine ⟨h2.1, h2.2.trans ?_⟩
      refine ((insLo_perm s acc).append_right _).trans ?_
      exact List.perm_middle.symm
def joinS (l : List Sp) : List Sp := ((insSp l).foldl stepR []).reverse
theorem join_of {l m : List Sp} (hp : m.Perm (l.filter fun s => !emptyB s)) (hm : SortedLo m) : (m.foldl stepR []).reverse = joinS l := by
  have h : SortedLo (insSp l) ∧ (insSp l).Perm (l.filter fun s => !emptyB s) := insSp_laws l [] List.Pairwise.nil
  unfold joinS
  rw [fold_perm m (insSp l) (hp.trans h.2.symm) hm h.1 (fun s hs => by
    have := hp.subset hs
    simpa using (List.mem_filter.1 this).2) []]
/-- Spans that are joined, and whose ends are short. -/
def spansB (l : List Sp) : Bool := decide (joinS l = l) && l.all fun s => decide (s.lo.length ≤ 64) && decide (s.hi.length ≤ 64)
end Go.Proofs.YtodbmeklbamcfaaGreat
