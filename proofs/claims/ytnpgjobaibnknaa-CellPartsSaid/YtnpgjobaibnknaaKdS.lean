/- Spans of keys: is a key in one, in one of some. -/
import Derived.Test.YtnpgjobaibnknaaKdD
import Derived.Test.YtnpgjobaibnknaaRtC
namespace Go.Proofs.Ytnpgjobaibnknaa
open Go.RowKit Go.Rt

structure Sp where
  lo : Str
  hi : Str
def Sp.cs (s : Sp) : List Value := [.string ⟨s.lo.toArray⟩, .string ⟨s.hi.toArray⟩]
def spC (l : List Sp) : List Value := l.flatMap Sp.cs
def belowB (hi k : Str) : Bool := decide (hi = []) || decide (k < hi)
def inB (s : Sp) (k : Str) : Bool := !decide (k < s.lo) && belowB s.hi k
def hasSp (l : List Sp) (k : Str) : Bool := l.any fun s => inB s k
theorem sp_rd {w : World} {A : Option Addr} {l : List Sp} (h : Rd w A (spC l)) (j : Nat) (s : Sp) (hj : l[j]? = some s) : ∃ b o, A = some ⟨b, o, none⟩ ∧ w.cell? ⟨b, o + j * 2, none⟩ = some (.string ⟨s.lo.toArray⟩) ∧ w.cell? ⟨b, o + j * 2 + 1, none⟩ = some (.string ⟨s.hi.toArray⟩) := by
  obtain ⟨b, o, hA, hr⟩ := rd_elem Sp.cs 2 (by omega) h (fun _ _ => rfl) j s hj
  exact ⟨b, o, hA, hr.at 0 rfl, hr.at 1 rfl⟩

set_option maxRecDepth 100000 in
theorem sbelow_any {W w : World} {L : List SL} (lo hi k : Str) (H : Sat W w L) :
    Calls Try.prog 80 #[.agg #[.string ⟨lo.toArray⟩, .string ⟨hi.toArray⟩], .string ⟨k.toArray⟩] w fun e w' => e = .returned (.bool (belowB hi k)) ∧ Sat W w' L := by
  unfold belowB
  go_enter Try.func80, Try.ntmps80
  by_cases h : hi = []
  · subst h
    go_wp2
    go_ret
    exact ⟨rfl, H.alloc' _⟩
  · have h1 : hi.isEmpty = false := by cases hi with | nil => exact absurd rfl h | cons x l => rfl
    rw [decide_eq_false h]
    by_cases h2 : k < hi
    · have h3 := less_yes h2
      rw [decide_eq_true h2]
      clear h h2
      go_wp2
      go_ret
      exact ⟨rfl, H.alloc' _⟩
    · have h3 := less_no h2
      rw [decide_eq_false h2]
      clear h h2
      go_wp2
      go_ret
      exact ⟨rfl, H.alloc' _⟩

set_option maxRecDepth 100000 in
theorem sIn_any {W w : World} {L : List SL} (lo hi k : Str) (H : Sat W w L) :
    Calls Try.prog 54 #[.agg #[.string ⟨lo.toArray⟩, .string ⟨hi.toArray⟩], .string ⟨k.toArray⟩] w fun e w' => e = .returned (.bool (inB ⟨lo, hi⟩ k)) ∧ Sat W w' L := by
  have HB := Lib.hid (fun w0 (L0 : List SL) (h : Sat W w0 L0) => sbelow_any lo hi k h)
  have H1 := H.alloc #[.string ⟨lo.toArray⟩, .string ⟨hi.toArray⟩] 54
  unfold inB
  dsimp only
  generalize belowB hi k = bb at *
  go_enter Try.func54, Try.ntmps54
  by_cases h : k < lo
  · have h1 := less_yes h
    rw [decide_eq_true h]
    clear h
    go_wp2
    go_ret
    exact ⟨rfl, H1.tail⟩
  · have h1 := less_no h
    rw [decide_eq_false h]
    clear h
    go_wp2_with fail
    refine (HB.out _ _ H1).mono ?_
    rintro e w2 ⟨rfl, H2⟩
    go_wp2
    go_ret
    exact ⟨by simp, H2.tail⟩
set_option maxRecDepth 100000 in
theorem sHas1_any {W w : World} {L : List SL} (q : Nat) (lo hi k : Str) (t : TypeId) (H : Sat W w (pt q #[.string ⟨k.toArray⟩] t :: L)) :
    Calls Try.prog 73 #[.agg #[.string ⟨lo.toArray⟩, .string ⟨hi.toArray⟩], .pointer (some ⟨q, 0, none⟩)] w fun e w' => e = .returned (.bool (inB ⟨lo, hi⟩ k)) ∧ Sat W w' (pt q #[.string ⟨k.toArray⟩] t :: L) := by
  have HI := Lib.hid (fun w0 (L0 : List SL) (h : Sat W w0 L0) => sIn_any lo hi k h)
  have H1 := H.alloc #[.string ⟨lo.toArray⟩, .string ⟨hi.toArray⟩] 54
  have hc : (w.alloc (.cells #[.string ⟨lo.toArray⟩, .string ⟨hi.toArray⟩] 54)).cell? ⟨q, 0, none⟩ = some (.string ⟨k.toArray⟩) := H1.swap.cell 0
  have hc0 : w.cell? ⟨q, 0, none⟩ = some (.string ⟨k.toArray⟩) := H.cell 0
  have hlt := H.lt
  generalize inB ⟨lo, hi⟩ k = bb at *
  go_enter Try.func73, Try.ntmps73
  go_wp2_with fail
  refine (HI.out _ _ H1).mono ?_
  rintro e w2 ⟨rfl, H2⟩
  go_wp2
  go_ret
  exact ⟨rfl, H2.tail⟩
set_option maxRecDepth 100000 in
set_option maxHeartbeats 4000000 in
theorem sIndexFunc_any {W w : World} {L : List SL} (q : Nat) (k : Str) (t : TypeId) (A : Option Addr) (c : Nat) (l : List Sp) (hl : l.length ≤ maxLen) (hr : RdL W (pt q #[.string ⟨k.toArray⟩] t :: L) A (spC l)) (H : Sat W w (pt q #[.string ⟨k.toArray⟩] t :: L)) :
    Calls Try.prog 94 #[.slice A l.length c, .func (.func 73) #[] #[.pointer (some ⟨q, 0, none⟩)]] w fun e w' => ∃ i : Int, e = .returned (.int .i64 i) ∧ decide (0 ≤ i) = hasSp l k ∧ Sat W w' (pt q #[.string ⟨k.toArray⟩] t :: L) := by
  have hl' := hl
  unfold maxLen at hl'
  go_enter Try.func94, Try.ntmps94
  go_wp2
  go_loopw [8] (fun i wc => ∃ j : Nat, j ≤ l.length ∧ i = .int .i64 j ∧ Hid (∀ m s, m < j → l[m]? = some s → inB s k = false) ∧ Sat W wc (pt q #[.string ⟨k.toArray⟩] t :: L)) (fun i _ => l.length - (intOf i).toNat)
  case atStart => exact ⟨0, by omega, rfl, (fun m s h => by omega), H⟩
  case round =>
    obtain ⟨j, hj, rfl, hN, H1⟩ := hrel
    by_cases hlt : j < l.length
    · obtain ⟨s, hs⟩ : ∃ s, l[j]? = some s := ⟨_, List.getElem?_eq_getElem hlt⟩
      obtain ⟨b, o, rfl, c0, c1⟩ := sp_rd (hr _ H1) j s hs
      have HS := Lib.hid hs
      obtain ⟨lo, hi⟩ := s
      dsimp only at c0 c1
      have HI := Lib.hid (sHas1_any (W := W) (w := wr) (L := L) q lo hi k t H1)
      clear hs
      cases hb : inB ⟨lo, hi⟩ k with
      | true =>
        rw [hb] at HI
        have hf : hasSp l k = true := List.any_eq_true.2 ⟨⟨lo, hi⟩, List.mem_of_getElem? HS.out, hb⟩
        have HF := Lib.hid hf
        clear hb hf
        go_wp2_with fail
        refine HI.out.mono ?_
        rintro e w2 ⟨rfl, H2⟩
        go_wp2
        go_ret
        exact ⟨j, rfl, by rw [HF.out]; simp, H2⟩
      | false =>
        rw [hb] at HI
        have HBB := Lib.hid hb
        clear hb
        go_wp2_with fail
        refine HI.out.mono ?_
        rintro e w2 ⟨rfl, H2⟩
        go_wp2
        refine ⟨⟨j + 1, by omega, by go_num, fun m s hm hs => ?_, H2⟩, by simp [intOf]; omega⟩
        rcases Nat.lt_or_ge m j with h | h
        · exact hN.out m s h hs
        · obtain rfl : m = j := by omega
          rw [HS.out] at hs; cases hs; exact HBB.out
    · obtain rfl : j = l.length := by omega
      have hf : hasSp l k = false := by
        unfold hasSp
        rw [List.any_eq_false]
        intro s hs
        obtain ⟨m, hm⟩ := List.getElem?_of_mem hs
        simp [hN.out m s (List.getElem?_eq_some_iff.1 hm).1 hm]
      have HF := Lib.hid hf
      clear hf
      go_wp2
      go_ret
      exact ⟨-1, rfl, by rw [HF.out]; rfl, H1⟩
set_option maxRecDepth 100000 in
set_option maxHeartbeats 4000000 in
theorem sHas_any {W w : World} {L : List SL} (k : Str) (A : Option Addr) (c : Nat) (l : List Sp) (hl : l.length ≤ maxLen) (hr : RdL W L A (spC l)) (H : Sat W w L) :
    Calls Try.prog 38 #[.slice A l.length c, .string ⟨k.toArray⟩] w fun e w' => e = .returned (.bool (hasSp l k)) ∧ Sat W w' L := by
  have H1 := H.alloc #[.string ⟨k.toArray⟩] 9
  have HI := Lib.hid (sIndexFunc_any (W := W) (w := w.alloc (.cells #[.string ⟨k.toArray⟩] 9)) (L := L) w.heap.size k 9 A c l hl (RdL.tail hr) H1)
  have hC : Calls Try.prog 72 #[.slice A l.length c, .func (.func 73) #[] #[.pointer (some ⟨w.heap.size, 0, none⟩)]] (w.alloc (.cells #[.string ⟨k.toArray⟩] 9)) fun e w' => e = .returned (.bool (hasSp l k)) ∧ Sat W w' L := by
    go_enter Try.func72, Try.ntmps72
    go_wp2_with fail
    refine HI.out.mono ?_
    rintro e w2 ⟨i, rfl, hi, H2⟩
    have HI2 := Lib.hid hi
    clear hi HI
    go_wp2
    go_ret
    exact ⟨by rw [← HI2.out]; rfl, H2.tail⟩
  have HC := Lib.hid hC
  clear hC HI
  go_enter Try.func38, Try.ntmps38
  go_wp2_with fail
  refine HC.out.mono ?_
  rintro e w2 ⟨rfl, H2⟩
  go_wp2
  go_ret
  exact ⟨rfl, H2⟩
end Go.Proofs.Ytnpgjobaibnknaa
