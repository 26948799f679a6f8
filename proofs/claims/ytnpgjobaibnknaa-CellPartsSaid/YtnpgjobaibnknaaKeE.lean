/- Where a key stands: the program's binary search, the document's walk. -/
import Derived.Test.YtnpgjobaibnknaaKeD
namespace Go.Proofs.Ytnpgjobaibnknaa
open Go.RowKit Go.Rt

/-- On which side of a pair a key lies. -/
def sideI (p : Pr) (k : Str) : Int := if k < p.k then -1 else if p.k < k then 1 else 0
theorem look_some {l : List Pr} (hl : RiseP l) (k : Str) : (lookP l k).isSome = match l[atP l k]? with
    | some p => decide (p.k = k)
    | none => false := by
  rw [look_atP hl]
  cases h : l[atP l k]? with
  | none => rfl
  | some p => by_cases e : p.k = k <;> simp [e]

set_option maxRecDepth 100000 in
set_option maxHeartbeats 4000000 in
theorem cside_any {W w : World} {L : List SL} (A : Option Addr) (c : Nat) (l : List Pr) (k : Str) (j : Nat) (p : Pr) (hp : l[j]? = some p) (_hl : l.length ≤ 65536) (hr : RdL W L A (prC l)) (H : Sat W w L) :
    Calls Try.prog 97 #[.agg #[.slice A l.length c, .string ⟨k.toArray⟩], .int .i64 j] w fun e w' => e = .returned (.int .i64 (sideI p k)) ∧ Sat W w' L := by
  have hj := (List.getElem?_eq_some_iff.1 hp).1
  have H2 := H.alloc #[.slice A l.length c, .string ⟨k.toArray⟩] 112
  obtain ⟨b, o, rfl, c0, c1, _⟩ := pr_cells (hr.tail _ H2) j p hp
  generalize hw0 : w.alloc (.cells #[.slice (some ⟨b, o, none⟩) l.length c, .string ⟨k.toArray⟩] 112) = w0 at H2 c0 c1
  have d0 : w0.cell? ⟨w.heap.size, 0, none⟩ = some (.slice (some ⟨b, o, none⟩) l.length c) := H2.cell 0
  have d1 : w0.cell? ⟨w.heap.size, 1, none⟩ = some (.string ⟨k.toArray⟩) := H2.cell 1
  unfold sideI
  obtain ⟨pk, pv⟩ := p
  dsimp only at c0 c1 ⊢
  clear hp
  go_enter Try.func97, Try.ntmps97
  by_cases h : k < pk
  · have h1 : Op.bytesLess k pk = true := less_yes h
    rw [if_pos h]
    clear h
    go_wp2
    go_quiet (fail)
    go_wp2
    go_ret
    exact ⟨rfl, (H2.drewN _).tail⟩
  · have h1 : Op.bytesLess k pk = false := less_no h
    have h0 := h
    rw [if_neg h]
    clear h
    by_cases h : pk < k
    · have h2 : Op.bytesLess pk k = true := less_yes h
      have h3 : (k == pk) = false := beq_no fun e => str_irrefl k (by rw [← e] at h; exact h)
      rw [if_pos h]
      clear h h0
      go_wp2
      go_quiet (fail)
      go_wp2
      go_quiet (fail)
      go_wp2
      go_ret
      exact ⟨rfl, ((H2.drewN _).drewN _).tail⟩
    · have h2 : Op.bytesLess pk k = false := less_no h
      have h3 : (k == pk) = true := beq_yes (not_lt_both h0 h)
      rw [if_neg h]
      clear h h0
      go_wp2
      go_quiet (fail)
      go_wp2
      go_quiet (fail)
      go_wp2
      go_ret
      exact ⟨rfl, ((H2.drewN _).drewN _).tail⟩

set_option maxRecDepth 100000 in
set_option maxHeartbeats 4000000 in
theorem sortFind_any {W w : World} {L : List SL} (A : Option Addr) (c : Nat) (l : List Pr) (k : Str) (hl : l.length ≤ 65536) (hr : RdL W L A (prC l)) (hs : RiseP l) (H : Sat W w L) :
    Calls Try.prog 96 #[.int .i64 l.length, .func (.func 97) #[.agg #[.slice A l.length c, .string ⟨k.toArray⟩]] #[]] w fun e w' => e = .returned (.tuple #[.int .i64 (atP l k), .bool ((lookP l k).isSome)]) ∧ Sat W w' L := by
  have HSI := Lib.hid (fun (w0 : World) (j : Nat) (p : Pr) (hp : l[j]? = some p) (h : Sat W w0 L) => cside_any A c l k j p hp hl hr h)
  have hls := look_some hs k
  have hat := atP_le l k
  have HLT := Lib.hid (fun j p (hj : j < atP l k) (hp : l[j]? = some p) => atP_lt hj hp)
  have HGE := Lib.hid (fun j p (hj : atP l k ≤ j) (hp : l[j]? = some p) => atP_ge hs hj hp)
  generalize lookP l k = lk at *
  generalize atP l k = at_ at *
  have HLS := Lib.hid (hls)
  clear hls hr hs
  go_enter Try.func96, Try.ntmps96
  go_wp2
  go_loopw [4, 6] (fun i j wc => ∃ a b : Nat, a ≤ at_ ∧ at_ ≤ b ∧ b ≤ l.length ∧ i = .int .i64 a ∧ j = .int .i64 b ∧ Sat W wc L) (fun i j _ => (intOf j).toNat - (intOf i).toNat)
  case atStart => exact ⟨0, l.length, by omega, by omega, by omega, rfl, rfl, H⟩
  case round =>
    clear H
    obtain ⟨a, b, ha, hb, hbl, rfl, rfl, H⟩ := hrel
    by_cases hab : a < b
    · have hq : (a : Int) < (b : Int) := by omega
      obtain ⟨m, hm⟩ : ∃ m : Nat, ((a : Int) + (b : Int)) / 2 = (m : Int) := ⟨(a + b) / 2, by omega⟩
      have hma : a ≤ m := by omega
      have hmb : m < b := by omega
      obtain ⟨p, hp⟩ : ∃ p, l[m]? = some p := ⟨_, List.getElem?_eq_getElem (by omega)⟩
      have hsi := HSI.out wr m p hp H
      by_cases hpk : p.k < k
      · have e1 : sideI p k = 1 := by unfold sideI; rw [if_neg (fun h => str_irrefl k (str_trans h hpk)), if_pos hpk]
        have hlt : m < at_ := by
          rcases Nat.lt_or_ge m at_ with h | h
          · exact h
          · exact absurd hpk (HGE.out m p h hp)
        rw [e1] at hsi
        have HS := Lib.hid (hsi)
        clear hsi e1 hpk hp
        go_wp2_with fail
        refine (HS.out).mono ?_
        rintro e w2 ⟨rfl, H2⟩
        go_wp2
        exact ⟨⟨m + 1, b, by omega, by omega, by omega, by go_num, by go_num, H2⟩, by simp [intOf]; omega⟩
      · have e1 : decide (0 < sideI p k) = false := decide_eq_false (by unfold sideI; rw [if_neg hpk]; split <;> omega)
        have hge : at_ ≤ m := by
          rcases Nat.lt_or_ge m at_ with h | h
          · exact absurd (HLT.out m p h hp) hpk
          · exact h
        generalize sideI p k = si at *
        have HS := Lib.hid (hsi)
        clear hsi hpk hp
        go_wp2_with fail
        refine (HS.out).mono ?_
        rintro e w2 ⟨rfl, H2⟩
        go_wp2
        exact ⟨⟨a, m, by omega, by omega, by omega, by go_num, by go_num, H2⟩, by simp [intOf]; omega⟩
    · have hq : ¬ (a : Int) < (b : Int) := by omega
      obtain rfl : a = at_ := by omega
      clear HLT HGE hb hbl hab ha
      by_cases hal : a < l.length
      · have hal2 : (a : Int) < (l.length : Int) := by omega
        obtain ⟨p, hp⟩ : ∃ p, l[a]? = some p := ⟨_, List.getElem?_eq_getElem hal⟩
        have hsi := HSI.out wr a p hp H
        have hls := HLS.out
        rw [hp] at hls
        have e1 : (sideI p k == 0) = lk.isSome := by
          rw [hls, Bool.eq_iff_iff, beq_iff_eq]
          simp only [decide_eq_true_eq]
          unfold sideI
          constructor
          · intro h
            by_cases h1 : k < p.k
            · rw [if_pos h1] at h; omega
            · rw [if_neg h1] at h
              by_cases h2 : p.k < k
              · rw [if_pos h2] at h; omega
              · exact not_lt_both h2 h1
          · intro h
            rw [if_neg (fun h1 => str_irrefl k (by rw [h] at h1; exact h1)), if_neg (fun h1 => str_irrefl k (by rw [h] at h1; exact h1))]
        generalize sideI p k = si at *
        have HS := Lib.hid (hsi)
        clear hsi hp hls HLS
        go_wp2_with fail
        refine (HS.out).mono ?_
        rintro e w2 ⟨rfl, H2⟩
        go_wp2
        go_ret2
        exact ⟨by simp, H2⟩
      · have hal2 : ¬ (a : Int) < (l.length : Int) := by omega
        have hls := HLS.out
        rw [List.getElem?_eq_none (by omega)] at hls
        have HL2 := Lib.hid (hls)
        clear hls HLS
        go_wp2
        go_ret2
        exact ⟨by rw [HL2.out]; rfl, H⟩
set_option maxRecDepth 100000 in
set_option maxHeartbeats 4000000 in
theorem cfind_any {W w : World} {L : List SL} (A : Option Addr) (c : Nat) (l : List Pr) (k : Str) (hl : l.length ≤ 65536) (hr : RdL W L A (prC l)) (hs : RiseP l) (H : Sat W w L) :
    Calls Try.prog 77 #[.slice A l.length c, .string ⟨k.toArray⟩] w fun e w' => e = .returned (.tuple #[.int .i64 (atP l k), .bool ((lookP l k).isSome)]) ∧ Sat W w' L := by
  have HF := Lib.hid (sortFind_any A c l k hl hr hs H)
  clear hr hs
  generalize (lookP l k).isSome = ls at *
  generalize atP l k = at_ at *
  go_enter Try.func77, Try.ntmps77
  go_wp2_with fail
  refine (HF.out).mono ?_
  rintro e w2 ⟨rfl, H2⟩
  go_wp2
  go_ret2
  exact ⟨rfl, H2⟩
set_option maxRecDepth 100000 in
set_option maxHeartbeats 4000000 in
theorem qat_any {W w : World} {L : List SL} (A : Option Addr) (c : Nat) (l : List Pr) (k : Str) (hl : l.length ≤ maxLen) (hr : RdL W L A (prC l)) (H : Sat W w L) :
    Calls Try.prog 78 #[.slice A l.length c, .string ⟨k.toArray⟩] w fun e w' => e = .returned (.int .i64 (atP l k)) ∧ Sat W w' L := by
  have hl' := hl
  unfold maxLen at hl'
  have HEQ := Lib.hid (fun n (hn : n ≤ l.length) h1 h2 => atP_eq (l := l) (k := k) (n := n) hn h1 h2)
  generalize atP l k = at_ at *
  go_enter Try.func78, Try.ntmps78
  go_wp2
  go_loopw [5] (fun i wc => ∃ j : Nat, j ≤ l.length ∧ i = .int .i64 j ∧ Hid (∀ m p, m < j → l[m]? = some p → p.k < k) ∧ Sat W wc L) (fun i _ => l.length - (intOf i).toNat)
  case atStart => exact ⟨0, by omega, rfl, (fun m p h => by omega), H⟩
  case round =>
    clear H
    obtain ⟨j, hj, rfl, hN, H⟩ := hrel
    by_cases hlt : j < l.length
    · obtain ⟨x, hx⟩ : ∃ x, l[j]? = some x := ⟨_, List.getElem?_eq_getElem (by omega)⟩
      obtain ⟨b, o, rfl, c0, c1, _⟩ := pr_cells (hr _ H) j x hx
      have HX := Lib.hid (hx)
      obtain ⟨xk, xv⟩ := x
      dsimp only at c0 c1
      clear hx
      have hlt2 : (j : Int) < (l.length : Int) := by omega
      by_cases hq : xk < k
      · have h1 : Op.bytesLess xk k = true := less_yes hq
        have HQ := Lib.hid (hq)
        clear hq
        go_wp2
        refine ⟨⟨j + 1, by omega, by go_num, fun m p hm hp => ?_, H⟩, by simp [intOf]; omega⟩
        rcases Nat.lt_or_ge m j with h | h
        · exact hN.out m p h hp
        · obtain rfl : m = j := by omega
          rw [HX.out] at hp; cases hp; exact HQ.out
      · have h1 : Op.bytesLess xk k = false := less_no hq
        have e1 : at_ = j := HEQ.out j (by omega) hN.out (fun p hp => by rw [HX.out] at hp; cases hp; exact hq)
        clear hq HEQ
        go_wp2
        go_ret
        exact ⟨by first | rfl | (rw [e1]; rfl), H⟩
    · have e1 : at_ = j := HEQ.out j (by omega) hN.out (fun p hp => by rw [List.getElem?_eq_none (by omega)] at hp; cases hp)
      have hlt2 : ¬ (j : Int) < (l.length : Int) := by omega
      clear HEQ
      go_wp2
      go_ret
      exact ⟨by first | rfl | (rw [e1]; rfl), H⟩
end Go.Proofs.Ytnpgjobaibnknaa
