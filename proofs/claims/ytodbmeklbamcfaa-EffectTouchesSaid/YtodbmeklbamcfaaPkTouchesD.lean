/- The row WrEffectTouches: for every input the law answers true, and the input reads as it did; ahead of it the texts KiH, KiI, WdB, WdC, KiK, KoZ, KoD, KlETouches, RtR. -/
import Derived.Test.YtodbmeklbamcfaaPkTouchesC
import Derived.Lib.Strings
import Derived.Test.YtodbmeklbamcfaaRows
import Derived.Test.YtodbmeklbamcfaaPkTouchesA
import Derived.ProofKit
import Derived.SizedLaws
import Derived.Deep.Slices
import Derived.OpenShut
import Derived.Test.YtodbmeklbamcfaaPkTouchesB
import Derived.Deep.RegionHeld3
/- effect.Bytes: its fields' writers, its lists'. -/
namespace Go.Proofs.Ytodbmeklbamcfaa
open Go.RowKit Go.Rt

theorem txtE_len (s : Str) (h : s.length ≤ 64) : (txtE s).length ≤ 73 := by
  unfold txtE
  have := sevF_len 9 s.length
  rw [List.length_append]
  show (sevF 9 s.length).length + s.length ≤ 73
  omega
theorem text_written (bs : List UInt8) (s : Str) : bs ++ sev (⟨s.toArray⟩ : ByteArray).size ++ (⟨s.toArray⟩ : ByteArray).data.toList = bs ++ txtE s := by
  have h1 : (⟨s.toArray⟩ : ByteArray).size = s.length := by show s.toArray.size = _; simp
  have h2 : (⟨s.toArray⟩ : ByteArray).data.toList = s := rfl
  rw [h1, h2, txtE, List.append_assoc]
theorem wTextS_any {W w : World} {l : List SL} {p : Nat} {bs : List UInt8} {bad : Bool} (s : Str) (hn : s.length ≤ 1000000) (hb : bs.length ≤ 900000000) (H : Sat W w (wr p bs bad :: l)) :
    Calls Try.prog 61 #[.pointer (some ⟨p, 0, none⟩), .string ⟨s.toArray⟩] w fun e w' => e = .returned (.tuple #[]) ∧ Sat W w' (wr p (bs ++ txtE s) bad :: l) := by
  have h := wText_any ⟨s.toArray⟩ (by show s.toArray.size ≤ _; simp; omega) hb H
  rwa [text_written] at h

set_option maxRecDepth 100000 in
set_option maxHeartbeats 4000000 in
theorem efwSpan_any {W w : World} {L : List SL} {p : Nat} {bs : List UInt8} (s : Sp) (h1 : s.lo.length ≤ 64) (h2 : s.hi.length ≤ 64) (hb : bs.length ≤ 800000000) (H : Sat W w (wr p bs false :: L)) :
    Calls Try.prog 74 #[.agg #[.pointer (some ⟨p, 0, none⟩)], .agg #[.string ⟨s.lo.toArray⟩, .string ⟨s.hi.toArray⟩]] w fun e w' => e = .returned (.tuple #[]) ∧ Sat W w' (wr p (bs ++ spE s) false :: L) := by
  obtain ⟨lo, hi⟩ := s
  dsimp only at h1 h2
  have e : bs ++ spE ⟨lo, hi⟩ = (bs ++ txtE lo) ++ txtE hi := by rw [List.append_assoc]; rfl
  rw [e]
  have hl := txtE_len lo h1
  have H1 := H.alloc #[.pointer (some ⟨p, 0, none⟩)] 107
  have H2 := H1.alloc #[.string ⟨lo.toArray⟩, .string ⟨hi.toArray⟩] 111
  rw [World.size_alloc] at H2
  have c0 := H2.cell 0
  have d0 := H2.swap.cell 0
  have HT1 := Lib.hid (wTextS_any (bad := false) lo (by omega) (by omega) (H2.pull 2))
  go_enter Try.func74, Try.ntmps74
  go_wp2_with fail
  refine (HT1.out).mono ?_
  rintro e w3 ⟨rfl, H3⟩
  have c1 := (H3.pull 1).cell 1
  have d1 := (H3.pull 2).cell 0
  have HT2 := Lib.hid (wTextS_any (bad := false) hi (by omega) (by rw [List.length_append]; omega) H3)
  go_wp2_with fail
  refine (HT2.out).mono ?_
  rintro e w4 ⟨rfl, H4⟩
  go_wp2
  go_end0
  exact ⟨rfl, (H4.swap.tail).swap.tail⟩

set_option maxRecDepth 100000 in
set_option maxHeartbeats 4000000 in
theorem efwWrite_any {W w : World} {L : List SL} {p : Nat} {bs : List UInt8} (x : Wt) (h1 : x.k.length ≤ 64) (h2 : x.v.length ≤ 64) (hb : bs.length ≤ 800000000) (H : Sat W w (wr p bs false :: L)) :
    Calls Try.prog 76 #[.agg #[.pointer (some ⟨p, 0, none⟩)], .agg #[.string ⟨x.k.toArray⟩, .string ⟨x.v.toArray⟩, .bool x.d]] w fun e w' => e = .returned (.tuple #[]) ∧ Sat W w' (wr p (bs ++ wtE x) false :: L) := by
  obtain ⟨k, v, d⟩ := x
  dsimp only at h1 h2
  have hl := txtE_len k h1
  have H1 := H.alloc #[.pointer (some ⟨p, 0, none⟩)] 107
  have H2 := H1.alloc #[.string ⟨k.toArray⟩, .string ⟨v.toArray⟩, .bool d] 115
  rw [World.size_alloc] at H2
  have c0 := H2.cell 0
  have d0 := H2.swap.cell 0
  have HT1 := Lib.hid (wTextS_any (bad := false) k (by omega) (by omega) (H2.pull 2))
  have hs := fun n => sevF_len 9 n
  cases d with
  | true =>
    have e : bs ++ wtE ⟨k, v, true⟩ = (bs ++ txtE k) ++ sev 1 := by rw [List.append_assoc]; rfl
    rw [e]
    go_enter Try.func76, Try.ntmps76
    go_wp2_with fail
    refine (HT1.out).mono ?_
    rintro e w3 ⟨rfl, H3⟩
    have c2 := (H3.pull 1).cell 2
    have d1 := (H3.pull 2).cell 0
    have HT2 := Lib.hid (wInt_any (bad := false) 1 (by omega) (by rw [List.length_append]; omega) H3)
    go_wp2_with fail
    refine (HT2.out).mono ?_
    rintro e w4 ⟨rfl, H4⟩
    go_wp2
    (try simp only [Exit.inBlock, Exit.then]); refine bodyPost_ret (results_none rfl _ _ _) rfl ?_
    exact ⟨rfl, (H4.swap.tail).swap.tail⟩
  | false =>
    have e : bs ++ wtE ⟨k, v, false⟩ = ((bs ++ txtE k) ++ sev 0) ++ txtE v := by rw [List.append_assoc, List.append_assoc]; rfl
    rw [e]
    go_enter Try.func76, Try.ntmps76
    go_wp2_with fail
    refine (HT1.out).mono ?_
    rintro e w3 ⟨rfl, H3⟩
    have c2 := (H3.pull 1).cell 2
    have d1 := (H3.pull 2).cell 0
    have HT2 := Lib.hid (wInt_any (bad := false) 0 (by omega) (by rw [List.length_append]; omega) H3)
    go_wp2_with fail
    refine (HT2.out).mono ?_
    rintro e w4 ⟨rfl, H4⟩
    have c3 := (H4.pull 1).cell 1
    have d2 := (H4.pull 2).cell 0
    have hl0 : (sev 0).length ≤ 9 := hs 0
    have HT3 := Lib.hid (wTextS_any (bad := false) v (by omega) (by rw [List.length_append, List.length_append]; omega) H4)
    go_wp2_with fail
    refine (HT3.out).mono ?_
    rintro e w5 ⟨rfl, H5⟩
    go_wp2
    go_end0
    exact ⟨rfl, (H5.swap.tail).swap.tail⟩

theorem spE_len (s : Sp) (h1 : s.lo.length ≤ 64) (h2 : s.hi.length ≤ 64) : (spE s).length ≤ 150 := by
  have := txtE_len _ h1
  have := txtE_len _ h2
  unfold spE; rw [List.length_append]; omega
theorem wtE_len (s : Wt) (h1 : s.k.length ≤ 64) (h2 : s.v.length ≤ 64) : (wtE s).length ≤ 160 := by
  have := txtE_len _ h1
  have := txtE_len _ h2
  have h3 : ∀ n, (sev n).length ≤ 9 := fun n => sevF_len 9 n
  have := h3 0
  have := h3 1
  unfold wtE; rw [List.length_append]
  split
  · omega
  · rw [List.length_append]; omega
theorem flat_take {α : Type} (f : α → List UInt8) (l : List α) (j : Nat) (x : α) (h : l[j]? = some x) : (l.take (j + 1)).flatMap f = (l.take j).flatMap f ++ f x := by
  rw [List.take_add_one, h, List.flatMap_append]; simp
theorem flat_le {α : Type} (f : α → List UInt8) (m : Nat) : ∀ (l : List α), (∀ x ∈ l, (f x).length ≤ m) → (l.flatMap f).length ≤ l.length * m
  | [], _ => by simp
  | x :: l, h => by
    have h1 := h x (by simp)
    have h2 := flat_le f m l fun y hy => h y (by simp [hy])
    rw [List.flatMap_cons, List.length_append, List.length_cons, Nat.succ_mul]; omega

set_option maxRecDepth 100000 in
set_option maxHeartbeats 4000000 in
theorem efputT_any {W w : World} {L : List SL} {p : Nat} {bs : List UInt8} (A : Option Addr) (c : Nat) (l : List Str) (hl : l.length ≤ 60) (h1 : ∀ x ∈ l, x.length ≤ 64) (hb : bs.length ≤ 100000000) (hr : RdL W L A (tsC l)) (H : Sat W w (wr p bs false :: L)) :
    Calls Try.prog 72 #[.agg #[.pointer (some ⟨p, 0, none⟩)], .slice A l.length c, .func (.func 61) #[.pointer (some ⟨p, 0, none⟩)] #[]] w fun e w' => e = .returned (.tuple #[]) ∧ Sat W w' (wr p (bs ++ (sev l.length ++ l.flatMap txtE)) false :: L) := by
  have hacc : ∀ j, (bs ++ (sev l.length ++ (l.take j).flatMap txtE)).length ≤ 800000000 := fun j => by
    have h9 : (sev l.length).length ≤ 9 := sevF_len 9 _
    have h8 := flat_le txtE 160 (l.take j) (fun x hx => Nat.le_trans (txtE_len _ (h1 _ (List.mem_of_mem_take hx))) (by omega))
    rw [List.length_take] at h8
    rw [List.length_append, List.length_append]
    have : min j l.length * 160 ≤ 60 * 160 := Nat.mul_le_mul_right _ (by omega)
    omega
  have HACC := Lib.hid (hacc)
  have H1 := H.alloc #[.pointer (some ⟨p, 0, none⟩)] 107
  have c0 := H1.cell 0
  have HI := Lib.hid (wInt_any (bad := false) l.length (by omega) (by omega) H1.swap)
  clear hacc
  go_enter Try.func72, Try.ntmps72
  go_wp2_with fail
  refine (HI.out).mono ?_
  rintro e w3 ⟨rfl, H3⟩
  clear c0 H1 H
  go_wp2
  go_loopw [15] (fun i wc => ∃ j : Nat, j ≤ l.length ∧ i = .int .i64 j ∧ Sat W wc (wr p (bs ++ (sev l.length ++ (l.take j).flatMap txtE)) false :: pt w.heap.size #[.pointer (some ⟨p, 0, none⟩)] 107 :: L)) (fun i _ => l.length - (intOf i).toNat)
  case atStart => exact ⟨0, by omega, rfl, by simpa using H3⟩
  case round =>
    clear H3
    obtain ⟨j, hj, rfl, H⟩ := hrel
    by_cases hlt : j < l.length
    · obtain ⟨x, hx⟩ : ∃ x, l[j]? = some x := ⟨_, List.getElem?_eq_getElem (by omega)⟩
      have hm := List.mem_of_getElem? hx
      have hjl := HACC.out j
      have hst := flat_take txtE l j x hx
      obtain ⟨b, o, rfl, c1⟩ := ts_at (hr _ H.tail.tail) j x hx
      have HT := Lib.hid (wTextS_any (bad := false) x (by have := h1 x hm; omega) (by omega) H)
      have HST := Lib.hid (hst)
      clear hx hm hjl hst hr
      go_wp2_with fail
      refine (HT.out).mono ?_
      rintro e w5 ⟨rfl, H5⟩
      go_wp2
      refine ⟨⟨j + 1, by omega, by go_num, ?_⟩, by simp [intOf]; omega⟩
      rw [HST.out, ← List.append_assoc (sev _), ← List.append_assoc bs]
      exact H5
    · obtain rfl : j = l.length := by omega
      rw [List.take_length] at H
      go_wp2
      go_end0
      exact ⟨rfl, H.swap.tail⟩

set_option maxRecDepth 100000 in
set_option maxHeartbeats 4000000 in
theorem efputS_any {W w : World} {L : List SL} {p : Nat} {bs : List UInt8} (A : Option Addr) (c : Nat) (l : List Sp) (hl : l.length ≤ 60) (h1 : ∀ x ∈ l, x.lo.length ≤ 64 ∧ x.hi.length ≤ 64) (hb : bs.length ≤ 100000000) (hr : RdL W L A (spC l)) (H : Sat W w (wr p bs false :: L)) :
    Calls Try.prog 73 #[.agg #[.pointer (some ⟨p, 0, none⟩)], .slice A l.length c, .func (.func 74) #[.agg #[.pointer (some ⟨p, 0, none⟩)]] #[]] w fun e w' => e = .returned (.tuple #[]) ∧ Sat W w' (wr p (bs ++ (sev l.length ++ l.flatMap spE)) false :: L) := by
  have hacc : ∀ j, (bs ++ (sev l.length ++ (l.take j).flatMap spE)).length ≤ 800000000 := fun j => by
    have h9 : (sev l.length).length ≤ 9 := sevF_len 9 _
    have h8 := flat_le spE 160 (l.take j) (fun x hx => Nat.le_trans (spE_len _ (h1 _ (List.mem_of_mem_take hx)).1 (h1 _ (List.mem_of_mem_take hx)).2) (by omega))
    rw [List.length_take] at h8
    rw [List.length_append, List.length_append]
    have : min j l.length * 160 ≤ 60 * 160 := Nat.mul_le_mul_right _ (by omega)
    omega
  have HACC := Lib.hid (hacc)
  have H1 := H.alloc #[.pointer (some ⟨p, 0, none⟩)] 107
  have c0 := H1.cell 0
  have HI := Lib.hid (wInt_any (bad := false) l.length (by omega) (by omega) H1.swap)
  clear hacc
  go_enter Try.func73, Try.ntmps73
  go_wp2_with fail
  refine (HI.out).mono ?_
  rintro e w3 ⟨rfl, H3⟩
  clear c0 H1 H
  go_wp2
  go_loopw [15] (fun i wc => ∃ j : Nat, j ≤ l.length ∧ i = .int .i64 j ∧ Sat W wc (wr p (bs ++ (sev l.length ++ (l.take j).flatMap spE)) false :: pt w.heap.size #[.pointer (some ⟨p, 0, none⟩)] 107 :: L)) (fun i _ => l.length - (intOf i).toNat)
  case atStart => exact ⟨0, by omega, rfl, by simpa using H3⟩
  case round =>
    clear H3
    obtain ⟨j, hj, rfl, H⟩ := hrel
    by_cases hlt : j < l.length
    · obtain ⟨x, hx⟩ : ∃ x, l[j]? = some x := ⟨_, List.getElem?_eq_getElem (by omega)⟩
      have hm := List.mem_of_getElem? hx
      have hjl := HACC.out j
      have hst := flat_take spE l j x hx
      obtain ⟨b, o, rfl, c1, c2, _⟩ := sp_cells (hr _ H.tail.tail) j x hx
      obtain ⟨h2, h3⟩ := h1 x hm
      have H4 := (H.alloc #[.string ⟨x.lo.toArray⟩, .string ⟨x.hi.toArray⟩] 111)
      have e0 := H4.cell 0
      have e1 := H4.cell 1
      have HT := Lib.hid (efwSpan_any x h2 h3 (by omega) H4.swap)
      have HST := Lib.hid (hst)
      obtain ⟨lo, hi'⟩ := x
      dsimp only at c1 c2 e0 e1 HT h2 h3
      clear hx hm hjl hst hr
      go_wp2_with fail
      refine (HT.out).mono ?_
      rintro e w5 ⟨rfl, H5⟩
      go_wp2
      refine ⟨⟨j + 1, by omega, by go_num, ?_⟩, by simp [intOf]; omega⟩
      rw [HST.out, ← List.append_assoc (sev _), ← List.append_assoc bs]
      exact H5.swap.tail
    · obtain rfl : j = l.length := by omega
      rw [List.take_length] at H
      go_wp2
      go_end0
      exact ⟨rfl, H.swap.tail⟩

set_option maxRecDepth 100000 in
set_option maxHeartbeats 4000000 in
theorem efputW_any {W w : World} {L : List SL} {p : Nat} {bs : List UInt8} (A : Option Addr) (c : Nat) (l : List Wt) (hl : l.length ≤ 60) (h1 : ∀ x ∈ l, x.k.length ≤ 64 ∧ x.v.length ≤ 64) (hb : bs.length ≤ 100000000) (hr : RdL W L A (wtC l)) (H : Sat W w (wr p bs false :: L)) :
    Calls Try.prog 75 #[.agg #[.pointer (some ⟨p, 0, none⟩)], .slice A l.length c, .func (.func 76) #[.agg #[.pointer (some ⟨p, 0, none⟩)]] #[]] w fun e w' => e = .returned (.tuple #[]) ∧ Sat W w' (wr p (bs ++ (sev l.length ++ l.flatMap wtE)) false :: L) := by
  have hacc : ∀ j, (bs ++ (sev l.length ++ (l.take j).flatMap wtE)).length ≤ 800000000 := fun j => by
    have h9 : (sev l.length).length ≤ 9 := sevF_len 9 _
    have h8 := flat_le wtE 160 (l.take j) (fun x hx => Nat.le_trans (wtE_len _ (h1 _ (List.mem_of_mem_take hx)).1 (h1 _ (List.mem_of_mem_take hx)).2) (by omega))
    rw [List.length_take] at h8
    rw [List.length_append, List.length_append]
    have : min j l.length * 160 ≤ 60 * 160 := Nat.mul_le_mul_right _ (by omega)
    omega
  have HACC := Lib.hid (hacc)
  have H1 := H.alloc #[.pointer (some ⟨p, 0, none⟩)] 107
  have c0 := H1.cell 0
  have HI := Lib.hid (wInt_any (bad := false) l.length (by omega) (by omega) H1.swap)
  clear hacc
  go_enter Try.func75, Try.ntmps75
  go_wp2_with fail
  refine (HI.out).mono ?_
  rintro e w3 ⟨rfl, H3⟩
  clear c0 H1 H
  go_wp2
  go_loopw [15] (fun i wc => ∃ j : Nat, j ≤ l.length ∧ i = .int .i64 j ∧ Sat W wc (wr p (bs ++ (sev l.length ++ (l.take j).flatMap wtE)) false :: pt w.heap.size #[.pointer (some ⟨p, 0, none⟩)] 107 :: L)) (fun i _ => l.length - (intOf i).toNat)
  case atStart => exact ⟨0, by omega, rfl, by simpa using H3⟩
  case round =>
    clear H3
    obtain ⟨j, hj, rfl, H⟩ := hrel
    by_cases hlt : j < l.length
    · obtain ⟨x, hx⟩ : ∃ x, l[j]? = some x := ⟨_, List.getElem?_eq_getElem (by omega)⟩
      have hm := List.mem_of_getElem? hx
      have hjl := HACC.out j
      have hst := flat_take wtE l j x hx
      obtain ⟨b, o, rfl, c1, c2, c3, _⟩ := wt_cells (hr _ H.tail.tail) j x hx
      obtain ⟨h2, h3⟩ := h1 x hm
      have H4 := (H.alloc #[.string ⟨x.k.toArray⟩, .string ⟨x.v.toArray⟩, .bool x.d] 115)
      have e0 := H4.cell 0
      have e1 := H4.cell 1
      have e2 := H4.cell 2
      have HT := Lib.hid (efwWrite_any x h2 h3 (by omega) H4.swap)
      have HST := Lib.hid (hst)
      obtain ⟨k, v, d⟩ := x
      dsimp only at c1 c2 c3 e0 e1 e2 HT h2 h3
      clear hx hm hjl hst hr
      go_wp2_with fail
      refine (HT.out).mono ?_
      rintro e w5 ⟨rfl, H5⟩
      go_wp2
      refine ⟨⟨j + 1, by omega, by go_num, ?_⟩, by simp [intOf]; omega⟩
      rw [HST.out, ← List.append_assoc (sev _), ← List.append_assoc bs]
      exact H5.swap.tail
    · obtain rfl : j = l.length := by omega
      rw [List.take_length] at H
      go_wp2
      go_end0
      exact ⟨rfl, H.swap.tail⟩
end Go.Proofs.Ytodbmeklbamcfaa

/- effect.Bytes. -/
namespace Go.Proofs.Ytodbmeklbamcfaa
open Go.RowKit Go.Rt

theorem keyB_len' {k : Str} (h : keyB k = true) : 1 ≤ k.length ∧ k.length ≤ 32 := by unfold keyB at h; simpa using h
theorem mayW_iff' (w : Wt) : mayW w = true ↔ keyB w.k = true ∧ w.v.length ≤ 64 ∧ (w.d = true → w.v = []) := by
  unfold mayW
  cases w.d <;> simp [and_assoc]
/-- What an effect that may be is made of. -/
theorem fine_parts {x : Ef} (h : checkX x = 0) : x.rs.length ≤ 60 ∧ x.ss.length ≤ 60 ∧ x.ws.length ≤ 60 ∧ (0 ≤ x.why ∧ x.why ≤ 3) ∧ (0 ≤ x.steps ∧ x.steps ≤ 200) ∧ (∀ t ∈ x.rs, t.length ≤ 64) ∧ (∀ s ∈ x.ss, s.lo.length ≤ 64 ∧ s.hi.length ≤ 64) ∧ ∀ w ∈ x.ws, w.k.length ≤ 64 ∧ w.v.length ≤ 64 := by
  unfold checkX at h
  split at h
  · omega
  · rename_i hl
    split at h
    · rename_i hf
      unfold fineX spansB at hf
      simp only [Bool.and_eq_true, decide_eq_true_eq, List.all_eq_true] at hf
      obtain ⟨h1, h2, _, _, ⟨_, h3⟩, h4, h5, _⟩ := hf
      refine ⟨by omega, by omega, by omega, h1, h2, fun t ht => ?_, h3, fun w hw => ?_⟩
      · have := (keyB_len' (h4 t ht)).2; omega
      · have := (mayW_iff' w).1 (h5 w hw)
        have := (keyB_len' this.1).2
        omega
    · omega
theorem checkX_cases (x : Ef) : checkX x = 0 ∨ checkX x = 2 ∨ checkX x = 3 := by
  unfold checkX
  split
  · simp
  · split <;> simp

set_option maxRecDepth 100000 in
set_option maxHeartbeats 16000000 in
theorem efBytes_any {W w : World} {L : List SL} (x : Ef) (p : EfAt) (hx : EfOk x) (hr : EfRd W L x p) (H : Sat W w L) :
    Calls Try.prog 45 #[x.v p] w fun e w' => ∃ A' c', e = .returned (.tuple #[.slice A' (bytesE x).1.length c', .int .i64 (bytesE x).2]) ∧ Sat W w' (row 5 zB (.slice A' (bytesE x).1.length c') (bytesE x).1.length ((bytesE x).1.map B) :: L) := by
  have hck : ∀ (w0 : World) (L0 : List SL), EfRd W L0 x p → Sat W w0 L0 → Calls Try.prog 71 #[x.v p] w0 fun e w' => e = .returned (.int .i64 (checkX x)) ∧ Sat W w' L0 := fun w0 L0 h1 h2 => efChk_any x p hx h1 h2
  have hbe : bytesE x = if checkX x = 0 then (bytesX x, 0) else ([], checkX x) := rfl
  have hpa := fun h => fine_parts (x := x) h
  have hcs := checkX_cases x
  have hbx : bytesX x = sev x.why.toNat ++ (sev x.steps.toNat ++ (sev x.rs.length ++ (x.rs.flatMap txtE ++ (sev x.ss.length ++ (x.ss.flatMap spE ++ (sev x.ws.length ++ x.ws.flatMap wtE)))))) := rfl
  have hv : x.v p = .agg (x.cs p).toArray := rfl
  generalize bytesE x = be at *
  generalize bytesX x = bx at *
  generalize checkX x = ck at *
  have r1 := hr.r
  have r2 := hr.r'
  have r3 := hr.r''
  have hrd := fun (B : SL) => hr.tail (B := B)
  obtain ⟨why, steps, rs, ss, ws⟩ := x
  obtain ⟨A, c, A', c', A'', c''⟩ := p
  dsimp only [Ef.cs] at r1 r2 r3 hv hpa hbx
  rw [hv] at hck ⊢
  have H1 := H.alloc #[.int .i64 why, .int .i64 steps, .slice A rs.length c, .slice A' ss.length c', .slice A'' ws.length c''] 43
  have i0 := H1.cell 0
  have i1 := H1.cell 1
  have i2 := H1.cell 2
  have i3 := H1.cell 3
  have i4 := H1.cell 4
  have HCK := Lib.hid (hck _ _ (hrd _) H1)
  clear hck hrd hv hr hx H
  by_cases h0 : ck = 0
  · subst h0
    rw [if_pos rfl] at hbe
    subst hbe
    obtain ⟨l1, l2, l3, ⟨q1, q2⟩, ⟨q3, q4⟩, t1, t2, t3⟩ := hpa rfl
    obtain ⟨wn, rfl⟩ : ∃ n : Nat, why = n := ⟨why.toNat, by omega⟩
    obtain ⟨sn, rfl⟩ : ∃ n : Nat, steps = n := ⟨steps.toNat, by omega⟩
    have hse : ∀ n, (sev n).length ≤ 9 := fun n => sevF_len 9 n
    have f1 := flat_le txtE 160 rs (fun t h => Nat.le_trans (txtE_len t (t1 t h)) (by omega))
    have f2 := flat_le spE 160 ss (fun t h => Nat.le_trans (spE_len t (t2 t h).1 (t2 t h).2) (by omega))
    have f3 := flat_le wtE 160 ws (fun t h => Nat.le_trans (wtE_len t (t3 t h).1 (t3 t h).2) (by omega))
    have g1 : rs.length * 160 ≤ 60 * 160 := Nat.mul_le_mul_right _ l1
    have g2 : ss.length * 160 ≤ 60 * 160 := Nat.mul_le_mul_right _ l2
    have g3 : ws.length * 160 ≤ 60 * 160 := Nat.mul_le_mul_right _ l3
    have la : ∀ a b : List UInt8, (a ++ b).length = a.length + b.length := fun _ _ => List.length_append
    have hb1 : ((([] : List UInt8) ++ sev wn) ++ sev sn).length ≤ 1000 := by have := hse wn; have := hse sn; simp only [List.length_append, List.nil_append]; omega
    have hb2 : (((([] : List UInt8) ++ sev wn) ++ sev sn) ++ (sev rs.length ++ rs.flatMap txtE)).length ≤ 20000 := by have := hse rs.length; rw [la _ (sev rs.length ++ rs.flatMap txtE), la (sev rs.length)]; omega
    have hb3 : ((((([] : List UInt8) ++ sev wn) ++ sev sn) ++ (sev rs.length ++ rs.flatMap txtE)) ++ (sev ss.length ++ ss.flatMap spE)).length ≤ 40000 := by have := hse ss.length; rw [la _ (sev ss.length ++ ss.flatMap spE), la (sev ss.length)]; omega
    have hb4 : (((((([] : List UInt8) ++ sev wn) ++ sev sn) ++ (sev rs.length ++ rs.flatMap txtE)) ++ (sev ss.length ++ ss.flatMap spE)) ++ (sev ws.length ++ ws.flatMap wtE)).length ≤ 60000 := by have := hse ws.length; rw [la _ (sev ws.length ++ ws.flatMap wtE), la (sev ws.length)]; omega
    have hbb : bx = ((((([] : List UInt8) ++ sev wn) ++ sev sn) ++ (sev rs.length ++ rs.flatMap txtE)) ++ (sev ss.length ++ ss.flatMap spE)) ++ (sev ws.length ++ ws.flatMap wtE) := by rw [hbx]; simp
    rw [← hbb] at hb4
    have HBB := Lib.hid (hbb)
    have HT1 := Lib.hid (fun t (h : t ∈ rs) => t1 t h)
    clear hbx hbb hcs hpa f1 f2 f3 g1 g2 g3
    go_enter Try.func45, Try.ntmps45
    go_wp2_with fail
    refine (HCK.out).mono ?_
    rintro e w2 ⟨rfl, H2⟩
    have H3 := H2
    have HN := Lib.hid (new_any H3)
    clear i0 i1 i2 i3 i4 HCK
    go_wp2_with fail
    refine (HN.out).mono ?_
    rintro e w3 ⟨rfl, H4⟩
    have H5 := H4.alloc #[.pointer (some ⟨w2.heap.size, 0, none⟩)] 107
    have d0 := H5.cell 0
    have i0 := (H5.pull 2).cell 0
    have HI1 := Lib.hid (wInt_any (bad := false) wn (by omega) (by simp) H5.swap)
    go_wp2_with fail
    refine (HI1.out).mono ?_
    rintro e w4 ⟨rfl, H6⟩
    clear d0 i0 HI1 HN
    have d0 := (H6.pull 1).cell 0
    have i0 := (H6.pull 2).cell 1
    have HI2 := Lib.hid (wInt_any (bad := false) sn (by omega) (by have := hse wn; simp only [List.nil_append]; omega) H6)
    go_wp2_with fail
    refine (HI2.out).mono ?_
    rintro e w5 ⟨rfl, H7⟩
    clear d0 i0 HI2
    have d0 := (H7.pull 1).cell 0
    have i0 := (H7.pull 2).cell 2
    have HI3 := Lib.hid (efputT_any A c rs l1 t1 (by omega) r1.tail.tail H7)
    go_wp2_with fail
    refine (HI3.out).mono ?_
    rintro e w6 ⟨rfl, H8⟩
    clear d0 i0 HI3
    have d0 := (H8.pull 1).cell 0
    have i0 := (H8.pull 2).cell 3
    have HI4 := Lib.hid (efputS_any A' c' ss l2 t2 (by omega) r2.tail.tail H8)
    go_wp2_with fail
    refine (HI4.out).mono ?_
    rintro e w7 ⟨rfl, H9⟩
    clear d0 i0 HI4
    have d0 := (H9.pull 1).cell 0
    have i0 := (H9.pull 2).cell 4
    have HI5 := Lib.hid (efputW_any A'' c'' ws l3 t3 (by omega) r3.tail.tail H9)
    go_wp2_with fail
    refine (HI5.out).mono ?_
    rintro e w8 ⟨rfl, H10⟩
    clear d0 i0 HI5
    rw [← HBB.out] at H10
    have d0 := (H10.pull 1).cell 0
    have HI6 := Lib.hid (wOut_any (by omega) H10)
    go_wp2_with fail
    refine (HI6.out).mono ?_
    rintro e w9 ⟨A9, c9, rfl, H11⟩
    go_wp2
    go_ret2
    exact ⟨A9, c9, rfl, ((H11.swap.tail).swap.tail).swap.tail⟩
  · rw [if_neg h0] at hbe
    subst hbe
    have e1 : (ck != 0) = true := bne_iff_ne.2 h0
    have HE := Lib.hid (e1)
    clear h0 hpa hcs hbx r1 r2 r3
    go_enter Try.func45, Try.ntmps45
    go_wp2_with fail
    refine (HCK.out).mono ?_
    rintro e w2 ⟨rfl, H2⟩
    go_wp2
    go_ret2
    exact ⟨none, 0, rfl, (H2.tail).nil _ _⟩
end Go.Proofs.Ytodbmeklbamcfaa

/- The document's writer and the numbers' sizes, function by function. -/
namespace Go.Proofs.Ytodbmeklbamcfaa
open Go.RowKit Go.Rt

theorem set_last {α : Type} (xs : List α) (a b : α) (n : Nat) (h : n = xs.length) : (xs ++ [a]).set n b = xs ++ [b] := by
  subst h; simp

set_option maxRecDepth 100000 in
theorem sevens_neg (n : Int) (hn : n < 0) (w : World) : Calls Try.prog 40 #[.int .i64 n] w fun e w' => e = .returned (.slice none 0 0) ∧ w = w' := by
  go_enter Try.func40, Try.ntmps40
  go_wp2
  go_ret
  exact ⟨rfl, rfl⟩

set_option maxRecDepth 100000 in
theorem sevens_any {W w : World} {l : List SL} (n : Nat) (hn : n < 9223372036854775808) (H : Sat W w l) :
    Calls Try.prog 40 #[.int .i64 n] w fun e w' => ∃ A c, e = .returned (.slice A (sev n).length c) ∧ Sat W w' (row 5 zB (.slice A (sev n).length c) (sev n).length ((sev n).map B) :: l) := by
  obtain ⟨i0, hi, hz0, hz1, hz2⟩ := info_parts infoU8
  go_enter Try.func40, Try.ntmps40
  have hH : Sat W (w.alloc (.cells #[.int .u8 ((n : Int) % 128)] 5)) _ := H.made #[.int .u8 ((n : Int) % 128)] 5 zB 1 1 (by omega) (by unfold maxLen; omega) rfl (Typed.one _)
  have hneg : decide ((n : Int) < 0) = false := by simp
  go_wp2
  go_loopw [0, 3] (fun x v wc => ∃ (m d k : Nat) (pre : List UInt8) (A : Option Addr) (c : Nat), x = .int .i64 m ∧ v = .slice A (pre.length + 1) c ∧ m < 128 ^ k ∧ k ≤ 8 ∧ d < 128 ∧ pre.length + k ≤ 8 ∧ Hid (sev n = pre ++ sevF (k + 1) (m * 128 + d)) ∧
      Sat W wc (row 5 zB (.slice A (pre.length + 1) c) (pre.length + 1) (pre.map B ++ [.int .u8 (d : Int)]) :: l)) (fun x _ _ => (intOf x).toNat)
  case atStart =>
    refine ⟨n / 128, n % 128, 8, [], _, _, rfl, rfl, by omega, by omega, by omega, by simp, ?_, by simpa using hH⟩
    show _ = _
    rw [Nat.div_add_mod']
    rfl
  case round =>
    obtain ⟨m, d, k, pre, A, c, rfl, rfl, hm, hk, hd, hpk, HS, H'⟩ := hrel
    obtain ⟨g, rfl⟩ := H'.row_some (by omega)
    clear hH
    have hmb : (m : Int) ≤ 72057594037927936 := by
      have h1 : (128 : Nat) ^ k ≤ 128 ^ 8 := Nat.pow_le_pow_right (by omega) hk
      have h2 : (128 : Nat) ^ 8 = 72057594037927936 := by decide
      omega
    by_cases hm0 : (0 : Int) < (m : Int)
    · have hc := H'.row_cell pre.length (u := .int .u8 (d : Int)) (by simp)
      have hf := H'.row_frz pre.length
      have e1 : (pre.map B ++ [Value.int .u8 (d : Int)]).set pre.length (.int .u8 ((d : Int) + 128)) = (pre ++ [UInt8.ofNat (d + 128)]).map B := by
        rw [set_last _ _ _ _ (by simp), List.map_append]
        simp only [List.map_cons, List.map_nil, B, UInt8.toNat_ofNat']
        congr 4
        omega
      have H1 := H'.row_set pre.length (.int .u8 ((d : Int) + 128)) (zB_at _ _)
      rw [e1] at H1
      have E1 := Lib.hid e1
      clear e1
      go_wp2_with (at_builtin
                   refine wpList_append_sl rfl (.tmp 28) (.tmp 32) 29 rfl 5 i0 (.int .u8 0) zB 1 Try.underlying29 hi hz0 rfl hz1 hz2 (by simp) zB_like _ (pre.length + 1) _ rfl (H1.alloc' _) (some ⟨wr.heap.size, 0, none⟩) 1 1 [.int .u8 ((m : Int) % 128)] rfl rfl (by simpa using Rd.new (wr.setCell ⟨g, pre.length, none⟩ (.int .u8 ((d : Int) + 128))) #[.int .u8 ((m : Int) % 128)] 5) (by simp [Value.oneCell']) (Typed.one _) (by unfold maxLen; omega) (by omega) ?_
                   intro A2 c2 w2 H2)
      obtain ⟨k', rfl⟩ : ∃ k', k = k' + 1 := ⟨k - 1, by cases k with | zero => simp at hm; omega | succ k => omega⟩
      refine ⟨⟨m / 128, m % 128, k', pre ++ [UInt8.ofNat (d + 128)], A2, c2, rfl, by simp, ?_, by omega, by omega, by simp; omega, ?_, by simpa using H2⟩, by simp [intOf]; omega⟩
      · rw [Nat.pow_succ] at hm; omega
      · show _ = _
        rw [HS.out, sevF_more _ _ (by omega), Nat.div_add_mod', show (m * 128 + d) % 128 = d from by omega, show (m * 128 + d) / 128 = m from by omega]
        simp
    · have hm00 : m = 0 := by omega
      subst hm00
      go_wp2
      go_ret
      have hs : sev n = pre ++ [UInt8.ofNat d] := by rw [HS.out, Nat.zero_mul, Nat.zero_add, sevF_last _ _ hd]
      refine ⟨some ⟨g, 0, none⟩, c, ?_, ?_⟩
      · rw [hs]; simp
      · rw [hs, List.map_append, List.length_append]
        rw [byte_last d hd] at H'
        exact H'

set_option maxRecDepth 100000 in
theorem size_neg (n : Int) (hn : n < 0) (w : World) : Calls Try.prog 29 #[.int .i64 n] w fun e w' => e = .returned (.int .i64 0) ∧ w = w' := by
  go_enter Try.func29, Try.ntmps29
  go_wp2
  go_ret
  exact ⟨rfl, rfl⟩

theorem sev_len (n : Nat) : (sev n).length ≤ 9 := sevF_len 9 n

set_option maxRecDepth 100000 in
/-- How many bytes a number has. -/
theorem xsize_any (n : Nat) (hn : n < 9223372036854775808) (w : World) : Calls Try.prog 32 #[.int .i64 n] w fun e w' => e = .returned (.int .i64 (sev n).length) ∧ Below w.heap.size w w' := by
  go_enter Try.func32, Try.ntmps32
  go_wp2_with (go_at_call 40; refine (sevens_any n hn (Sat.start w)).mono ?_; rintro e w1 ⟨A, c, rfl, H1⟩)
  go_ret
  exact ⟨rfl, H1.bel⟩
set_option maxRecDepth 100000 in
theorem xsize_neg (n : Int) (hn : n < 0) (w : World) : Calls Try.prog 32 #[.int .i64 n] w fun e w' => e = .returned (.int .i64 0) ∧ w = w' := by
  go_enter Try.func32, Try.ntmps32
  go_wp2_with (go_at_call 40; refine (sevens_neg n hn _).mono ?_; rintro e w1 ⟨rfl, rfl⟩)
  go_ret
  exact ⟨rfl, rfl⟩

theorem sevF_one (k n : Nat) (h : n < 128) : (sevF (k + 1) n).length = 1 := by rw [sevF_last _ _ h]; rfl
theorem sevF_step (k n : Nat) (h : 128 ≤ n) : (sevF (k + 1) n).length = (sevF k (n / 128)).length + 1 := by rw [sevF_more _ _ h]; rfl

set_option maxRecDepth 100000 in
theorem size_any (n : Nat) (hn : n < 9223372036854775808) (w : World) : Calls Try.prog 29 #[.int .i64 n] w fun e w' => e = .returned (.int .i64 (sev n).length) ∧ w = w' := by
  have hneg : decide ((n : Int) < 0) = false := by simp
  go_enter Try.func29, Try.ntmps29
  go_wp2
  go_loop [0, 3] (fun x v => ∃ (m j k : Nat), x = .int .i64 m ∧ v = .int .i64 (j : Int) ∧ m < 128 ^ k ∧ j + k ≤ 9 ∧ Hid ((sev n).length = j + (if m = 0 then 0 else (sevF k m).length))) (fun x _ => (intOf x).toNat)
  case atStart =>
    refine ⟨n / 128, 1, 8, rfl, rfl, by omega, by omega, ?_⟩
    show _ = _
    unfold sev
    by_cases h : n < 128
    · rw [sevF_one _ _ h, if_pos (by omega)]
    · rw [sevF_step _ _ (by omega), if_neg (by omega)]; omega
  case round =>
    obtain ⟨m, j, k, rfl, rfl, hm, hj, HS⟩ := hrel
    have hmb : (m : Int) ≤ 9223372036854775807 := by
      have h1 : (128 : Nat) ^ k ≤ 128 ^ 9 := Nat.pow_le_pow_right (by omega) (by omega)
      have h2 : (128 : Nat) ^ 9 = 9223372036854775808 := by decide
      omega
    by_cases hm0 : (0 : Int) < (m : Int)
    · go_wp2
      obtain ⟨k', rfl⟩ : ∃ k', k = k' + 1 := ⟨k - 1, by cases k with | zero => simp at hm; omega | succ k => omega⟩
      refine ⟨⟨m / 128, j + 1, k', by simp, by go_num, by rw [Nat.pow_succ] at hm; omega, by omega, ?_⟩, by simp [intOf]; omega⟩
      show _ = _
      rw [HS.out, if_neg (by omega)]
      by_cases h : m < 128
      · rw [sevF_one _ _ h, if_pos (by omega)]
      · rw [sevF_step _ _ (by omega), if_neg (by omega)]; omega
    · go_wp2
      go_ret
      refine ⟨?_, rfl⟩
      rw [HS.out, if_pos (by omega)]
      simp

/-- The document's writer: its block, its bytes, whether a number below 0 was to be written. -/
def xr (p : Nat) (bs : List UInt8) (bad : Bool) : SL := ex fun Ac : Option Addr × Nat =>
  sep (pt p #[.slice Ac.1 bs.length Ac.2, .bool bad] 94) (row 5 zB (.slice Ac.1 bs.length Ac.2) bs.length (bs.map B))
theorem xr_open {W w : World} {l : List SL} {p : Nat} {bs : List UInt8} {bad : Bool} (H : Sat W w (xr p bs bad :: l)) :
    ∃ A c, Sat W w (pt p #[.slice A bs.length c, .bool bad] 94 :: row 5 zB (.slice A bs.length c) bs.length (bs.map B) :: l) :=
  let ⟨Ac, h⟩ := Sat.ex H; ⟨Ac.1, Ac.2, h.sep⟩
theorem xr_shut {W w : World} {l : List SL} {p : Nat} {bs : List UInt8} {bad : Bool} {A : Option Addr} {c : Nat}
    (H : Sat W w (pt p #[.slice A bs.length c, .bool bad] 94 :: row 5 zB (.slice A bs.length c) bs.length (bs.map B) :: l)) : Sat W w (xr p bs bad :: l) :=
  Sat.unex (A := fun Ac : Option Addr × Nat => sep (pt p #[.slice Ac.1 bs.length Ac.2, .bool bad] 94) (row 5 zB (.slice Ac.1 bs.length Ac.2) bs.length (bs.map B))) (A, c) H.unsep

set_option maxRecDepth 100000 in
theorem xInt_any {W w : World} {l : List SL} {p : Nat} {bs : List UInt8} {bad : Bool} (n : Nat) (hn : n < 9223372036854775808) (hb : bs.length ≤ 1000000000) (H : Sat W w (xr p bs bad :: l)) :
    Calls Try.prog 62 #[.pointer (some ⟨p, 0, none⟩), .int .i64 n] w fun e w' => e = .returned (.tuple #[]) ∧ Sat W w' (xr p (bs ++ sev n) bad :: l) := by
  obtain ⟨i0, hi, hz0, hz1, hz2⟩ := info_parts infoU8
  obtain ⟨A, c, H⟩ := xr_open H
  have hc0 : w.cell? ⟨p, 0, none⟩ = some (.slice A bs.length c) := H.cell 0
  have hc1 : w.cell? ⟨p, 1, none⟩ = some (.bool bad) := H.cell 1
  have hf0 := H.frz 0
  have hf1 := H.frz 1
  have hneg : decide ((n : Int) < 0) = false := by simp
  go_enter Try.func62, Try.ntmps62
  have H4 := H.setCell 1 (.bool bad)
  cases bad
  all_goals
    go_wp2
    generalize hwo : w.setCell ⟨p, 1, none⟩ _ = wo at H4 ⊢
    clear hwo hc0 hc1 hf0 hf1
    have hc0 : wo.cell? ⟨p, 0, none⟩ = some (.slice A bs.length c) := H4.cell 0
    go_region_law (first
      | (refine step_append_sl rfl (.tmp 19) (.tmp 21) 29 rfl 5 i0 (.int .u8 0) zB 1 Try.underlying29 hi hz0 rfl hz1 hz2 (by simp) zB_like _ bs.length _ (by simp [Act.eval]) (H5.pull 2) A' (sev n).length c' ((sev n).map B) (by simp [Act.eval]) (by simp) H5.rd (B_one _) (Typed.bytes _) (by unfold maxLen; omega) (by omega) ?_
         intro A2 c2 w2 H2
         have hc2 : w2.cell? ⟨p, 0, none⟩ = some (.slice A bs.length c) := (H2.pull 2).cell 0
         have hf2 := (H2.pull 2).frz 0)
      | (go_simp; go_at_call 40; refine (sevens_any n hn H4.drew).mono ?_
         rintro e w1 ⟨A', c', rfl, H5⟩
         have hc5 : w1.cell? ⟨p, 0, none⟩ = some (.slice A bs.length c) := H5.swap.cell 0
         have hl9 := sev_len n))
  all_goals
    go_wp2
    go_end0
    refine ⟨rfl, xr_shut (A := A2) (c := c2) ?_⟩
    rw [List.length_append, List.map_append]
    simpa [Go.Rt.pull] using (((H2.swap.tail).swap.setCell 0 (.slice A2 (bs.length + (sev n).length) c2)))

set_option maxRecDepth 100000 in
theorem xInt_neg {W w : World} {l : List SL} {p : Nat} {bs : List UInt8} {bad : Bool} (n : Int) (hn : n < 0) (hb : bs.length ≤ 1000000000) (H : Sat W w (xr p bs bad :: l)) :
    Calls Try.prog 62 #[.pointer (some ⟨p, 0, none⟩), .int .i64 n] w fun e w' => e = .returned (.tuple #[]) ∧ Sat W w' (xr p bs true :: l) := by
  obtain ⟨i0, hi, hz0, hz1, hz2⟩ := info_parts infoU8
  obtain ⟨A, c, H⟩ := xr_open H
  have hc0 : w.cell? ⟨p, 0, none⟩ = some (.slice A bs.length c) := H.cell 0
  have hc1 : w.cell? ⟨p, 1, none⟩ = some (.bool bad) := H.cell 1
  have hf0 := H.frz 0
  have hf1 := H.frz 1
  have hneg : decide (n < 0) = true := by simpa using hn
  go_enter Try.func62, Try.ntmps62
  have H4 := H.setCell 1 (.bool true)
  cases bad
  all_goals
    go_wp2
    generalize hwo : w.setCell ⟨p, 1, none⟩ _ = wo at H4 ⊢
    clear hwo hc0 hc1 hf0 hf1
    have hc0 : wo.cell? ⟨p, 0, none⟩ = some (.slice A bs.length c) := H4.cell 0
    go_region_law (first
      | (refine step_append_sl rfl (.tmp 19) (.tmp 21) 29 rfl 5 i0 (.int .u8 0) zB 1 Try.underlying29 hi hz0 rfl hz1 hz2 (by simp) zB_like _ bs.length _ (by simp [Act.eval]) H4.drew.swap none 0 0 [] (by simp [Act.eval]) rfl (Rd.nil _ _) (by simp) (Typed.nil _) (by unfold maxLen; omega) (by omega) ?_
         intro A2 c2 w2 H2
         have hc2 : w2.cell? ⟨p, 0, none⟩ = some (.slice A bs.length c) := H2.swap.cell 0
         have hf2 := H2.swap.frz 0)
      | (go_simp; go_at_call 40; refine (sevens_neg n hn _).mono ?_
         rintro e w1 ⟨rfl, rfl⟩))
  all_goals
    go_wp2
    go_end0
    refine ⟨rfl, xr_shut (A := A2) (c := c2) ?_⟩
    simpa [Go.Rt.pull] using (H2.swap.setCell 0 (.slice A2 bs.length c2))

theorem xInt_all {W w : World} {l : List SL} {p : Nat} {bs : List UInt8} {bad : Bool} (n : Int) (hn : n ≤ 9223372036854775807) (hb : bs.length ≤ 1000000000) (H : Sat W w (xr p bs bad :: l)) :
    Calls Try.prog 62 #[.pointer (some ⟨p, 0, none⟩), .int .i64 n] w fun e w' => e = .returned (.tuple #[]) ∧ Sat W w' (xr p (wrInt n bs) (bad || decide (n < 0)) :: l) := by
  by_cases h : n < 0
  · refine (xInt_neg n h hb H).mono ?_
    rintro e w' ⟨rfl, h'⟩
    refine ⟨rfl, ?_⟩
    simpa [wrInt, h] using h'
  · obtain ⟨m, rfl⟩ : ∃ m : Nat, n = m := ⟨n.toNat, by omega⟩
    refine (xInt_any m (by omega) hb H).mono ?_
    rintro e w' ⟨rfl, h'⟩
    refine ⟨rfl, ?_⟩
    simpa [wrInt, h] using h'

set_option maxRecDepth 100000 in
theorem xText_any {W w : World} {l : List SL} {p : Nat} {bs : List UInt8} {bad : Bool} (s : ByteArray) (hn : s.size ≤ 1000000000) (hb : bs.length ≤ 900000000) (H : Sat W w (xr p bs bad :: l)) :
    Calls Try.prog 63 #[.pointer (some ⟨p, 0, none⟩), .string s] w fun e w' => e = .returned (.tuple #[]) ∧ Sat W w' (xr p (bs ++ sev s.size ++ s.data.toList) bad :: l) := by
  obtain ⟨i0, hi, hz0, hz1, hz2⟩ := info_parts infoU8
  obtain ⟨A, c, H4⟩ := xr_open H
  have hc0 : w.cell? ⟨p, 0, none⟩ = some (.slice A bs.length c) := H4.cell 0
  go_enter Try.func63, Try.ntmps63
  have hl9 := sev_len s.size
  go_region_law (first
      | (refine step_append_sl rfl (.tmp 8) (.tmp 11) 29 rfl 5 i0 (.int .u8 0) zB 1 Try.underlying29 hi hz0 rfl hz1 hz2 (by simp) zB_like _ bs.length _ (by simp [Act.eval]) (H5.pull 2) A' (sev s.size).length c' ((sev s.size).map B) (by simp [Act.eval]) (by simp) H5.rd (B_one _) (Typed.bytes _) (by unfold maxLen; omega) (by omega) ?_
         intro A2 c2 w2 H2
         have hc2 : w2.cell? ⟨p, 0, none⟩ = some (.slice A bs.length c) := (H2.pull 2).cell 0
         have hf2 := (H2.pull 2).frz 0)
      | (refine step_append_str rfl (.tmp 12) (.tmp 13) 29 9 rfl 5 i0 Try.underlying29 Try.underlying9 hi hz0 hz1 hz2 _ (bs.length + (sev s.size).length) _ (by simp [Act.eval]) H2 s (by simp [Act.eval]) (by unfold maxLen; omega) (by omega) ?_
         intro A3 c3 w3 H3
         have hc3 : w3.cell? ⟨p, 0, none⟩ = some (.slice A bs.length c) := (H3.pull 2).cell 0
         have hf3 := (H3.pull 2).frz 0)
      | (go_simp; go_at_call 40; refine (sevens_any s.size (by omega) H4.drew).mono ?_
         rintro e w1 ⟨A', c', rfl, H5⟩
         have hc5 : w1.cell? ⟨p, 0, none⟩ = some (.slice A bs.length c) := H5.swap.cell 0))
  all_goals
    go_end0
    refine ⟨rfl, xr_shut (A := A3) (c := c3) ?_⟩
    have := (H3.swap.tail).swap.setCell 0 (.slice A3 (bs.length + (sev s.size).length + s.size) c3)
    have e1 : (bs ++ sev s.size ++ s.data.toList).length = bs.length + (sev s.size).length + s.size := by simp only [List.length_append, strC_len]
    have e2 : (bs ++ sev s.size ++ s.data.toList).map B = bs.map B ++ (sev s.size).map B ++ strC s := by simp only [List.map_append]; rfl
    rw [e1, e2]
    exact this

set_option maxRecDepth 100000 in
theorem xOut_any {W w : World} {l : List SL} {p : Nat} {bs : List UInt8} (hb : bs.length ≤ 1000000000) (H : Sat W w (xr p bs false :: l)) :
    Calls Try.prog 64 #[.pointer (some ⟨p, 0, none⟩)] w fun e w' => ∃ A c, e = .returned (.tuple #[.slice A bs.length c, .int .i64 0]) ∧ Sat W w' (row 5 zB (.slice A bs.length c) bs.length (bs.map B) :: xr p bs false :: l) := by
  obtain ⟨i0, hi, hz0, hz1, hz2⟩ := info_parts infoU8
  obtain ⟨A, c, H⟩ := xr_open H
  have hc0 : w.cell? ⟨p, 0, none⟩ = some (.slice A bs.length c) := H.cell 0
  have hc1 : w.cell? ⟨p, 1, none⟩ = some (.bool false) := H.cell 1
  have hlt := H.lt
  have hr : Rd w A (bs.map B) := H.swap.rd
  go_enter Try.func64, Try.ntmps64
  go_wp2_with (first
    | (at_builtin
       refine wpList_append_sl rfl (.tmp 8) (.tmp 12) 29 rfl 5 i0 (.int .u8 0) zB 1 Try.underlying29 hi hz0 rfl hz1 hz2 (by simp) zB_like _ 0 [] rfl (H.made #[] 5 zB 0 0 (by omega) (by unfold maxLen; omega) rfl (Typed.nil _)) A bs.length c (bs.map B) rfl (by simp) (hr.below ((Below.refl _ _).alloc (Nat.le_refl _) _)) (B_one bs) (Typed.bytes bs) (by unfold maxLen; omega) (by omega) ?_
       intro A2 c2 w2 H2))
  go_ret2
  refine ⟨A2, c2, by simp, ?_⟩
  have := xr_shut ((H2.pull 2).pull 2)
  simpa [Go.Rt.pull] using this.swap

set_option maxRecDepth 100000 in
theorem xOut_bad {W w : World} {l : List SL} {p : Nat} {bs : List UInt8} (H : Sat W w (xr p bs true :: l)) :
    Calls Try.prog 64 #[.pointer (some ⟨p, 0, none⟩)] w fun e w' => e = .returned (.tuple #[.slice none 0 0, .int .i64 5]) ∧ w = w' := by
  obtain ⟨A, c, H⟩ := xr_open H
  have hc1 : w.cell? ⟨p, 1, none⟩ = some (.bool true) := H.cell 1
  go_enter Try.func64, Try.ntmps64
  go_wp2
  go_ret2
  exact ⟨rfl, rfl⟩
end Go.Proofs.Ytodbmeklbamcfaa

/- Registers as numbers and numbers as registers; bytes that are copied, compared, lent, written over. -/
namespace Go.Proofs.Ytodbmeklbamcfaa
open Go.RowKit Go.Rt

theorem bytesWorld_below (w : World) (e : TypeId) (s : ByteArray) : Below w.heap.size w (Lib.bytesWorld w e s) := by
  refine ⟨?_, ?_, ?_, by rw [Lib.bytesWorld_size]; omega, fun k hk => Lib.bytesWorld_at_old w e s k hk⟩ <;> simp [Lib.bytesWorld, World.freeze, World.alloc, World.drew, -World.alloc_eq, -World.drew_eq]

/-- The number that bytes say, the highest first. -/
def numL (bs : List UInt8) : Nat := bs.foldl (fun n c => n * 256 + c.toNat) 0
theorem numL_snoc (bs : List UInt8) (c : UInt8) : numL (bs ++ [c]) = numL bs * 256 + c.toNat := by simp [numL]
theorem foldl_num (b : List UInt8) : ∀ n, b.foldl (fun n c => n * 256 + c.toNat) n = n * 256 ^ b.length + numL b := by
  induction b with
  | nil => intro n; simp [numL]
  | cons c b ih =>
    intro n
    have h := ih (0 * 256 + c.toNat)
    simp only [List.foldl_cons, List.length_cons, numL] at h ⊢
    rw [h, ih, Nat.pow_succ, Nat.zero_mul, Nat.zero_add, Nat.add_mul, Nat.mul_assoc, Nat.mul_comm 256]
    unfold numL
    omega
theorem numL_append (a b : List UInt8) : numL (a ++ b) = numL a * 256 ^ b.length + numL b := by
  unfold numL; rw [List.foldl_append, foldl_num]; rfl
theorem numL_lt (b : List UInt8) : numL b < 256 ^ b.length := by
  rw [← List.reverse_reverse b]
  induction b.reverse with
  | nil => simp [numL]
  | cons c l ih =>
    rw [List.reverse_cons, numL_snoc, List.length_append, List.length_singleton, Nat.pow_succ]
    have := c.toNat_lt
    omega
/-- What a register says: its last eight bytes. -/
def num8 (bs : List UInt8) : Nat := numL (bs.drop (bs.length - 8))
theorem num8_mod (bs : List UInt8) : num8 bs = numL bs % 18446744073709551616 := by
  have h : numL bs = numL (bs.take (bs.length - 8)) * 256 ^ (bs.drop (bs.length - 8)).length + numL (bs.drop (bs.length - 8)) := by
    rw [← numL_append, List.take_append_drop]
  have hl : (bs.drop (bs.length - 8)).length = bs.length - (bs.length - 8) := List.length_drop
  have hlt := numL_lt (bs.drop (bs.length - 8))
  unfold num8
  by_cases h8 : 8 ≤ bs.length
  · rw [h]
    rw [show (bs.drop (bs.length - 8)).length = 8 by omega] at hlt ⊢
    rw [show (256 : Nat) ^ 8 = 18446744073709551616 by decide] at hlt ⊢
    omega
  · have h0 : bs.length - 8 = 0 := by omega
    rw [h0, List.drop_zero] at hlt ⊢
    have : (256 : Nat) ^ bs.length ≤ 256 ^ 8 := Nat.pow_le_pow_right (by omega) (by omega)
    rw [show (256 : Nat) ^ 8 = 18446744073709551616 by decide] at this
    rw [Nat.mod_eq_of_lt (by omega)]

theorem or_u64 (N : Nat) (c : UInt8) (hN : N < 72057594037927936) : bits BinOp.or IntKind.u64 ((N : Int) * 256) (c.toNat : Int) = ((N * 256 + c.toNat : Nat) : Int) := by
  have hc := c.toNat_lt
  have e1 : (BitVec.ofInt 64 ((N : Int) * 256)).toNat = N * 256 := by
    rw [show (N : Int) * 256 = ((N * 256 : Nat) : Int) by omega, BitVec.ofInt_natCast, BitVec.toNat_ofNat]; exact Nat.mod_eq_of_lt (by omega)
  have e2 : (BitVec.ofInt 64 (c.toNat : Int)).toNat = c.toNat := by
    rw [BitVec.ofInt_natCast, BitVec.toNat_ofNat]; exact Nat.mod_eq_of_lt (by omega)
  have e3 : N * 256 ||| c.toNat = N * 256 + c.toNat := by
    have := Nat.two_pow_add_eq_or_of_lt (i := 8) (b := c.toNat) (by omega) N
    rw [show (2 : Nat) ^ 8 = 256 by decide, Nat.mul_comm 256 N] at this
    exact this.symm
  show IntKind.u64.wrap ((BitVec.ofInt 64 ((N : Int) * 256) ||| BitVec.ofInt 64 (c.toNat : Int)).toNat : Int) = _
  rw [BitVec.toNat_or, e1, e2, e3, IntKind.wrap_u64]
  omega
theorem num_step (t : ByteArray) (j : Nat) (h : j < t.size) : numL (t.data.toList.take (j + 1)) = numL (t.data.toList.take j) * 256 + (t.data.toList.getD j 0).toNat := by
  rw [List.take_succ_eq_append_getElem (by simpa [strC_len] using h), numL_snoc]
  simp [List.getD, h]

theorem ba_append (a b : List UInt8) : (⟨a.toArray⟩ ++ ⟨b.toArray⟩ : ByteArray) = ⟨(a ++ b).toArray⟩ := by
  apply ByteArray.ext
  simp
/-- A number's last i bytes, the highest first. -/
def bF : Nat → Nat → List UInt8
  | 0, _ => []
  | i + 1, n => UInt8.ofNat (n / 256 ^ i) :: bF i n
theorem bF_len (i n : Nat) : (bF i n).length = i := by induction i with | zero => rfl | succ i ih => simp [bF, ih]

/-- The cells of Val's array behind j rounds. -/
def arrF (n j : Nat) : Array Value := ((List.range 8).map fun k => if k < j then B (UInt8.ofNat (n / 256 ^ (7 - k))) else .int .u8 0).toArray
theorem arrF_step (n j : Nat) (hj : j < 8) : (arrF n j).setIfInBounds j (B (UInt8.ofNat (n / 256 ^ (7 - j)))) = arrF n (j + 1) := by
  have : j = 0 ∨ j = 1 ∨ j = 2 ∨ j = 3 ∨ j = 4 ∨ j = 5 ∨ j = 6 ∨ j = 7 := by omega
  rcases this with rfl | rfl | rfl | rfl | rfl | rfl | rfl | rfl <;> rfl
theorem byte_shift (n j : Nat) (hj : j < 8) : Value.int .u8 ((n : Int) / 2 ^ (56 - 8 * j) % 256) = B (UInt8.ofNat (n / 256 ^ (7 - j))) := by
  unfold B
  rw [UInt8.toNat_ofNat']
  congr 1
  have : j = 0 ∨ j = 1 ∨ j = 2 ∨ j = 3 ∨ j = 4 ∨ j = 5 ∨ j = 6 ∨ j = 7 := by omega
  rcases this with rfl | rfl | rfl | rfl | rfl | rfl | rfl | rfl <;> simp
theorem arrF_end (n : Nat) : (arrF n 8).toList = (bF 8 n).map B := by simp [arrF, bF, List.range_succ]

set_option maxRecDepth 100000 in
/-- Bytes that are compared as texts. -/
theorem same_any (A A' : Option Addr) (c c' : Nat) (xs ys : List UInt8) (w : World) (hx : Rd w A (xs.map B)) (hy : Rd w A' (ys.map B)) :
    Calls Try.prog 14 #[.slice A xs.length c, .slice A' ys.length c'] w fun e w' => e = .returned (.bool (xs == ys)) ∧ w = w' := by
  have h1 := run_str (P := Try.prog) (w := w) 29 9 5 Try.underlying29 Try.underlying5 Try.underlying9 A xs.length c xs rfl hx
  have h2 := run_str (P := Try.prog) (w := w) 29 9 5 Try.underlying29 Try.underlying5 Try.underlying9 A' ys.length c' ys rfl hy
  go_enter Try.func14, Try.ntmps14
  go_wp2
  go_ret
  exact ⟨rfl, rfl⟩

set_option maxRecDepth 100000 in
/-- Every byte of a list is written over, the spare room too: what it is made of stays bytes. -/
theorem over_any {W w : World} {l : List SL} (A : Option Addr) (c : Nat) (xs : List UInt8) (H : Sat W w (row 5 zB (.slice A xs.length c) xs.length (xs.map B) :: l)) :
    Calls Try.prog 17 #[.slice A xs.length c] w fun e w' => e = .returned (.tuple #[]) ∧ ∃ ys, Sat W w' (row 5 zB (.slice A xs.length c) xs.length ys :: l) := by
  go_enter Try.func17, Try.ntmps17
  obtain ⟨_, A0, c0, hv, hnc, hcm, hA0, _⟩ := H.slice
  cases hv
  unfold maxLen at hcm
  go_wp2
  go_loopw [3] (fun i wc => ∃ (j : Nat) (ys : List Value), j ≤ c ∧ i = .int .i64 j ∧ Sat W wc (row 5 zB (.slice A xs.length c) xs.length ys :: l)) (fun i _ => c - (intOf i).toNat)
  case atStart => exact ⟨0, _, by omega, rfl, H⟩
  case round =>
    obtain ⟨j, ys, hj, rfl, H'⟩ := hrel
    by_cases hlt : j < c
    · cases A with
      | none => have := (hA0 rfl).1; omega
      | some ad =>
        obtain ⟨_, A1, c1, hv, _, _, _, hA1⟩ := H'.slice
        cases hv
        obtain ⟨h0, hsp, _, _⟩ := hA1 ad rfl
        obtain ⟨g, off, sp⟩ := ad
        dsimp only at h0 hsp
        subst h0 hsp
        obtain ⟨u, hu, hk⟩ := H'.row_at j (by simpa using hlt)
        have hf := H'.row_frz j
        obtain ⟨x, rfl⟩ : ∃ x, u = .int .u8 x := by
          cases u <;> simp [like, Nat.mod_one] at hk
          subst hk; exact ⟨_, rfl⟩
        clear hA0 hA1 hk
        go_wp2
        exact ⟨⟨j + 1, _, by omega, by go_num, H'.row_set j _ (zB_at _ _)⟩, by simp [intOf]; omega⟩
    · go_wp2
      go_end0
      exact ⟨rfl, ys, H'⟩
end Go.Proofs.Ytodbmeklbamcfaa

/- An effect written over; the chapter's effect; what the document's examples say. -/
namespace Go.Proofs.Ytodbmeklbamcfaa
open Go.RowKit Go.Rt

/-- An effect's lists, its own, the texts new ones. -/
def efN (x : Ef) (q : EfAt) (L : List SL) : List SL := row 115 zWt (.slice q.A'' x.ws.length q.c'') x.ws.length (wtC x.ws) :: row 111 zSp (.slice q.A' x.ss.length q.c') x.ss.length (spC x.ss) :: seenS 9 (.slice q.A x.rs.length q.c) x.rs.length (tsC x.rs) :: L
theorem _root_.Go.Rt.Sat.bslN {W w : World} {l : List SL} {e : TypeId} {zc : List Value} {A : Option Addr} {n c : Nat} {xs : List Value} (H : Sat W w (newS e zc (.slice A n c) n xs :: l)) : Bsl A n c := by
  obtain ⟨_, A', c', hv, h1, h2, h3, _⟩ := H.new_slice
  cases hv
  exact ⟨h1, fun h => (h3 h).1, h2⟩
theorem efN_rd {W w : World} {L : List SL} {x : Ef} {q : EfAt} (H : Sat W w (efN x q L)) : EfRd W (efN x q L) x q :=
  ⟨H.tail.tail.bslN, H.tail.bsl, H.bsl, RdL.tail (RdL.tail RdL.newS), RdL.tail RdL.row, RdL.row⟩
/-- The chapter's effect. -/
def smpX : Ef := ⟨0, 3, [[98]], [⟨[99], [100]⟩], [⟨[98], [50], false⟩]⟩
theorem smp_bytes : bytesE smpX = ([0, 3, 1, 1, 98, 1, 1, 99, 1, 100, 1, 1, 98, 0, 1, 50], 0) := by decide +kernel
theorem smp_meets : meetsX smpX [[99, 50]] = true := by decide +kernel
theorem smp_ok : EfOk smpX := ⟨by decide, by decide, by decide, by decide, by decide, by decide⟩
/-- The lists of an effect that is laid as a literal. -/
def smpL (b1 b2 b3 : Nat) (L : List SL) : List SL := pt b3 (wtC smpX.ws).toArray 115 :: pt b2 (spC smpX.ss).toArray 111 :: pt b1 (tsC smpX.rs).toArray 9 :: L
def smpP (b1 b2 b3 : Nat) : EfAt := ⟨some ⟨b1, 0, none⟩, 1, some ⟨b2, 0, none⟩, 1, some ⟨b3, 0, none⟩, 1⟩
theorem smp_rd {W : World} {L : List SL} (b1 b2 b3 : Nat) : EfRd W (smpL b1 b2 b3 L) smpX (smpP b1 b2 b3) :=
  ⟨⟨Nat.le_refl _, nofun, by simp [smpP, maxLen]⟩, ⟨Nat.le_refl _, nofun, by simp [smpP, maxLen]⟩, ⟨Nat.le_refl _, nofun, by simp [smpP, maxLen]⟩, RdL.tail (RdL.tail RdL.pt), RdL.tail RdL.pt, RdL.pt⟩
set_option maxRecDepth 100000 in
set_option maxHeartbeats 4000000 in
theorem efsample_any {W w : World} {L : List SL} (H : Sat W w L) :
    Calls Try.prog 46 #[] w fun e w' => ∃ b1 b2 b3, e = .returned (smpX.v (smpP b1 b2 b3)) ∧ Sat W w' (smpL b1 b2 b3 L) := by
  have H1 := (((H.alloc #[.int .i64 0, .int .i64 0, .slice none 0 0, .slice none 0 0, .slice none 0 0] 43).alloc (tsC smpX.rs).toArray 9).alloc (spC smpX.ss).toArray 111).alloc (wtC smpX.ws).toArray 115
  simp only [World.size_alloc] at H1
  go_enter Try.func46, Try.ntmps46
  go_wp2_with (first
    | (go_loud ((refine wpList_store_pt rfl rfl (.tmp 0) (.tmp 6) 43 rfl w.heap.size #[.int .i64 0, .int .i64 0, .slice none 0 0, .slice none 0 0, .slice none 0 0] 43 [.int .i64 0, .int .i64 3, .slice (some ⟨w.heap.size + 1, 0, none⟩) 1 1, .slice (some ⟨w.heap.size + 1 + 1, 0, none⟩) 1 1, .slice (some ⟨w.heap.size + 1 + 1 + 1, 0, none⟩) 1 1] ef_size rfl rfl rfl (ef_one smpX (smpP (w.heap.size + 1) (w.heap.size + 1 + 1) (w.heap.size + 1 + 1 + 1))) (H1.pull 3) ?_); intro w9 H9)))
  exact bodyPost_ret (v := .agg #[.int .i64 0, .int .i64 3, .slice (some ⟨w.heap.size + 1, 0, none⟩) 1 1, .slice (some ⟨w.heap.size + 1 + 1, 0, none⟩) 1 1, .slice (some ⟨w.heap.size + 1 + 1 + 1, 0, none⟩) 1 1]) (results_cell_row Try.results46 _ w9 w.heap.size 43 #[.int .i64 0, .int .i64 3, .slice (some ⟨w.heap.size + 1, 0, none⟩) 1 1, .slice (some ⟨w.heap.size + 1 + 1, 0, none⟩) 1 1, .slice (some ⟨w.heap.size + 1 + 1 + 1, 0, none⟩) 1 1] (0, 0) _ rfl H9.heap Try.underlying43 rfl ef_size) rfl ⟨_, _, _, rfl, H9.tail⟩
set_option maxRecDepth 100000 in
set_option maxHeartbeats 4000000 in
theorem efawake_any {W w : World} {L : List SL} (H : Sat W w L) :
    Calls Try.prog 19 #[] w fun e w' => e = .returned (.bool true) ∧ Sat W w' L := by
  have HS := Lib.hid (fun (w0 : World) (L0 : List SL) (h : Sat W w0 L0) => efsample_any h)
  have HB := Lib.hid (fun (w0 : World) (L0 : List SL) (p : EfAt) (hr : EfRd W L0 smpX p) (h : Sat W w0 L0) => (by have := efBytes_any smpX p smp_ok hr h; rw [smp_bytes] at this; exact this : Calls Try.prog 45 #[smpX.v p] w0 fun e w' => ∃ A' c', e = .returned (.tuple #[.slice A' 16 c', .int .i64 0]) ∧ Sat W w' (row 5 zB (.slice A' 16 c') 16 (([0, 3, 1, 1, 98, 1, 1, 99, 1, 100, 1, 1, 98, 0, 1, 50] : List UInt8).map B) :: L0)))
  have HM := Lib.hid (fun (w0 : World) (L0 : List SL) (p : EfAt) (b : Nat) (hr : EfRd W L0 smpX p) (hb : RdL W L0 (some ⟨b, 0, none⟩) (tsC [[99, 50]])) (h : Sat W w0 L0) => (by have := efMeets_any smpX p smp_ok hr (some ⟨b, 0, none⟩) 1 [[99, 50]] (by simp) (by simp) hb h; rw [smp_meets] at this; exact this : Calls Try.prog 22 #[smpX.v p, .slice (some ⟨b, 0, none⟩) 1 1] w0 fun e w' => e = .returned (.bool true) ∧ Sat W w' L0))
  go_enter Try.func19, Try.ntmps19
  go_wp2_with fail
  refine (HS.out _ _ H).mono ?_
  rintro e w2 ⟨b1, b2, b3, rfl, H2⟩
  go_wp2_with fail
  refine (HB.out _ _ _ (smp_rd b1 b2 b3) H2).mono ?_
  rintro e w3 ⟨A3, c3, rfl, H3⟩
  have H4 := H3.alloc (([0, 3, 1, 1, 98, 1, 1, 99, 1, 100, 1, 1, 98, 0, 1, 50] : List UInt8).map B).toArray 5
  have hq := same_any A3 (some ⟨w3.heap.size, 0, none⟩) c3 16 [0, 3, 1, 1, 98, 1, 1, 99, 1, 100, 1, 1, 98, 0, 1, 50] [0, 3, 1, 1, 98, 1, 1, 99, 1, 100, 1, 1, 98, 0, 1, 50] _ H4.swap.rd (RdL.pt _ H4)
  rw [beq_self_eq_true] at hq
  have HQ := Lib.hid (hq)
  clear hq
  go_wp2_with fail
  refine (HQ.out).mono ?_
  rintro e w4 ⟨rfl, rfl⟩
  go_wp2_with fail
  refine (HS.out _ _ H4).mono ?_
  rintro e w5 ⟨b4, b5, b6, rfl, H5⟩
  have H6 := H5.alloc (tsC [[99, 50]]).toArray 9
  go_wp2_with fail
  refine (HM.out _ _ _ w5.heap.size (smp_rd b4 b5 b6).tail RdL.pt H6).mono ?_
  rintro e w6 ⟨rfl, H7⟩
  go_wp2
  go_ret
  exact ⟨rfl, Sat.drops [_, _, _, _, _, _, _, _, _] H7⟩
end Go.Proofs.Ytodbmeklbamcfaa

/- KoZ, in one text: OpM, KoA, OpN, KoB, KoC. -/
namespace Go.Proofs.Ytodbmeklbamcfaa
open Go.ChangeShapes Go.WideShapes Go.RowKit Go.Rt Go.Deep

theorem rd_of_cells2 {w : World} (a : Addr) (xs : List Value) (h : ∀ j u, xs[j]? = some u → w.cell? (a.add j) = some u) : Rd w (some a) xs := by
  intro j u hu
  have h0 : ∃ u0, xs[0]? = some u0 := by
    cases xs with
    | nil => simp at hu
    | cons x xs => exact ⟨x, rfl⟩
  obtain ⟨u0, h0⟩ := h0
  have h1 := h 0 u0 h0
  have hs : a.spot = none := by
    have e : a.add 0 = a := by simp [Addr.add]
    rw [e] at h1
    cases hsp : a.spot with
    | none => rfl
    | some k =>
      exfalso
      unfold World.cell? at h1
      split at h1
      · simp [hsp] at h1
      · cases h1
  obtain ⟨b, o, s⟩ := a
  dsimp only at hs
  subst hs
  refine ⟨b, o, rfl, ?_⟩
  have := h j u hu
  rwa [Addr.add_lit] at this
section
variable {H : Type} {enc : TypeId × Value → H} {w : World} {base : Nat} {spare : Nat → Bool} {held : Bool}
theorem wf_i64' {m : Int} (h : (Lit.int .i64 m).wf = true) : -9223372036854775808 ≤ m ∧ m ≤ 9223372036854775807 := by
  have e1 : IntKind.i64.min = -9223372036854775808 := rfl
  have e2 : IntKind.i64.max = 9223372036854775807 := rfl
  simp only [Lit.wf, Bool.and_eq_true, decide_eq_true_eq] at h
  omega
theorem mem_weightsAll2 {P : Program} {e : TypeId} {n : Nat} {d : DataW H} : ∀ {l : List (DataW H)}, d ∈ l → n ∈ d.weights P e → n ∈ DataW.weightsAll P e l
  | [], h, _ => by cases h
  | x :: l, h, hn => by
    simp only [DataW.weightsAll, List.mem_append]
    rcases List.mem_cons.1 h with rfl | h
    · exact .inl hn
    · exact .inr (mem_weightsAll2 h hn)
/-- Each element opened, so is the slice: what its cells are. -/
theorem open_list2 {α : Type} {tS tE : TypeId} (cs : α → List Value) (sz : Nat) (ok : α → Prop) (x0 : α) (wt : α → Nat) (ht : Try.prog.underlying tS = some (.slice tE)) (hc : Try.prog.cellsOf tE = sz) (hlen : ∀ x, ok x → (cs x).length = sz)
    (hel : ∀ {n : Nat} {c : List Value} {y : DataW H × List MemPlace}, DataW.trod enc Try.prog w base spare held n tE c = some y → ∃ x, ok x ∧ c = cs x ∧ wt x ∈ y.1.weights Try.prog tE)
    {fuel : Nat} {v : Value} {y : DataW H × List MemPlace} (h : DataW.trod enc Try.prog w base spare held fuel tS [v] = some y) :
    ∃ (A : Option Addr) (c : Nat) (ts : List α), v = .slice A ts.length c ∧ Bsl A ts.length c ∧ (∀ x ∈ ts, ok x) ∧ Rd w A (ts.flatMap cs) ∧ ∀ x ∈ ts, wt x ∈ y.1.weights Try.prog tS := by
  rcases open_slice ht h with ⟨h1, _⟩ | ⟨a, len, cap, m, n, D, Pl, h1, _, hl, hcap, hm, hy, hi⟩
  · exact ⟨none, 0, [], by simpa using h1, ⟨Nat.le_refl _, fun _ => rfl, by unfold maxLen; omega⟩, by simp, Rd.nil _ _, by simp⟩
  · have hlm : len ≤ m := by rw [hm]; split <;> omega
    have hx : ∀ i, ∃ x : α, i < len → ok x ∧ w.cells? base (a.add (i * sz)) sz = some (cs x) ∧ wt x ∈ (D i).weights Try.prog tE := fun i => by
      by_cases hil : i < len
      · obtain ⟨cs', hc', ht'⟩ := hi i (by omega)
        rw [hc] at hc'
        obtain ⟨x, h2, rfl, h4⟩ := hel ht'
        exact ⟨x, fun _ => ⟨h2, hc', h4⟩⟩
      · exact ⟨x0, fun h => absurd h hil⟩
    obtain ⟨f, hf⟩ := Classical.axiomOfChoice hx
    have hC : ∀ x ∈ (List.range len).map f, ok x := fun x hx => by
      simp only [List.mem_map, List.mem_range] at hx
      obtain ⟨i, hil, rfl⟩ := hx
      exact (hf i hil).1
    have hL : ((List.range len).map f).length = len := by simp
    refine ⟨some a, cap, (List.range len).map f, by rw [hL]; simpa using h1, ⟨by rw [hL]; exact hl, nofun, hcap⟩, hC, rd_of_cells2 a _ fun j u hu => ?_, fun x hx => ?_⟩
    rotate_left
    · simp only [List.mem_map, List.mem_range] at hx
      obtain ⟨i, hil, rfl⟩ := hx
      rw [hy]
      simp only [DataW.weights, ht]
      exact List.mem_cons_of_mem _ (List.mem_append_left _ (mem_weightsAll2 (List.mem_map.2 ⟨i, List.mem_range.2 hil, rfl⟩) (hf i hil).2.2))
    have hflen := flat_len cs sz ((List.range len).map f) fun x hx => hlen x (hC x hx)
    rw [hL] at hflen
    have hj : j < len * sz := by have := (List.getElem?_eq_some_iff.1 hu).1; omega
    have hsz : 0 < sz := by
      rcases Nat.eq_zero_or_pos sz with h | h
      · rw [h] at hj; omega
      · exact h
    have hq : j / sz < len := Nat.div_lt_of_lt_mul (by rw [Nat.mul_comm]; exact hj)
    have hr : j % sz < sz := Nat.mod_lt _ hsz
    have hd : j / sz * sz + j % sz = j := by rw [Nat.mul_comm]; exact Nat.div_add_mod j sz
    have hat := flat_at cs sz ((List.range len).map f) (fun x hx => hlen x (hC x hx)) (j / sz) (f (j / sz)) (by simp [hq])
    obtain ⟨_, _, hce⟩ := World.cells?_some (hf (j / sz) hq).2.1
    have h5 := hce (j % sz) hr
    have h6 : (cs (f (j / sz)))[j % sz]? = some u := by
      rw [← hat, List.getElem?_take, if_pos hr, List.getElem?_drop, hd, hu]
    rw [h6, add_add, hd] at h5
    exact h5
end
end Go.Proofs.Ytodbmeklbamcfaa

/- A list of texts that came in, opened. -/
namespace Go.Proofs.Ytodbmeklbamcfaa
open Go.ChangeShapes Go.WideShapes Go.RowKit Go.Rt Go.Deep

section
variable {H : Type} {enc : TypeId × Value → H} {w : World} {base : Nat} {spare : Nat → Bool} {held : Bool}
theorem str_of_trod {fuel : Nat} {cs : List Value} {y : DataW H × List MemPlace} (h : DataW.trod enc Try.prog w base spare held fuel 9 cs = some y) : ∃ x : Str, x.length ≤ maxLen ∧ cs = [encStr x] ∧ x.length ∈ y.1.weights Try.prog 9 := by
  obtain ⟨s, e, z, hw⟩ := DataW.trod_string Try.underlying9 h
  refine ⟨s.data.toList, by rw [Array.length_toList]; exact hw, e, ?_⟩
  rw [z]
  simp [DataW.weights]
theorem flat_encStr (l : List Str) : l.flatMap (fun x => [encStr x]) = tsC l := by
  induction l with
  | nil => rfl
  | cons x l ih => rw [List.flatMap_cons, ih]; rfl
theorem open_texts {fuel : Nat} {v : Value} {y : DataW H × List MemPlace} (h : DataW.trod enc Try.prog w base spare held fuel 39 [v] = some y) :
    ∃ (A : Option Addr) (c : Nat) (ts : List Str), v = .slice A ts.length c ∧ Bsl A ts.length c ∧ (∀ x ∈ ts, x.length ≤ maxLen) ∧ Rd w A (tsC ts) := by
  obtain ⟨A, c, ts, hv, hb, hx, hr, _⟩ := open_list2 (fun x => [encStr x]) 1 (fun x : Str => x.length ≤ maxLen) [] (fun x => x.length) Try.underlying39 (by kernel_rfl) (fun _ _ => rfl) str_of_trod h
  rw [flat_encStr] at hr
  exact ⟨A, c, ts, hv, hb, hx, hr⟩
end
end Go.Proofs.Ytodbmeklbamcfaa

/- A slice that came in, opened element by element, no weights told (no package's own types in sight). -/
namespace Go.Proofs.Ytodbmeklbamcfaa
open Go.ChangeShapes Go.WideShapes Go.RowKit Go.Rt Go.Deep
section
variable {H : Type} {enc : TypeId × Value → H} {w : World} {base : Nat} {spare : Nat → Bool} {held : Bool}
/-- Each element opened, so is the slice: what its cells are. -/
theorem open_list3 {α : Type} {tS tE : TypeId} (cs : α → List Value) (sz : Nat) (ok : α → Prop) (x0 : α) (ht : Try.prog.underlying tS = some (.slice tE)) (hc : Try.prog.cellsOf tE = sz) (hlen : ∀ x, ok x → (cs x).length = sz)
    (hel : ∀ {n : Nat} {c : List Value} {y : DataW H × List MemPlace}, DataW.trod enc Try.prog w base spare held n tE c = some y → ∃ x, ok x ∧ c = cs x)
    {fuel : Nat} {v : Value} {y : DataW H × List MemPlace} (h : DataW.trod enc Try.prog w base spare held fuel tS [v] = some y) :
    ∃ (A : Option Addr) (c : Nat) (ts : List α), v = .slice A ts.length c ∧ Bsl A ts.length c ∧ (∀ x ∈ ts, ok x) ∧ Rd w A (ts.flatMap cs) := by
  rcases open_slice ht h with ⟨h1, _⟩ | ⟨a, len, cap, m, n, D, Pl, h1, _, hl, hcap, hm, hy, hi⟩
  · exact ⟨none, 0, [], by simpa using h1, ⟨Nat.le_refl _, fun _ => rfl, by unfold maxLen; omega⟩, by simp, Rd.nil _ _⟩
  · have hlm : len ≤ m := by rw [hm]; split <;> omega
    have hx : ∀ i, ∃ x : α, i < len → ok x ∧ w.cells? base (a.add (i * sz)) sz = some (cs x) := fun i => by
      by_cases hil : i < len
      · obtain ⟨cs', hc', ht'⟩ := hi i (by omega)
        rw [hc] at hc'
        obtain ⟨x, h2, rfl⟩ := hel ht'
        exact ⟨x, fun _ => ⟨h2, hc'⟩⟩
      · exact ⟨x0, fun h => absurd h hil⟩
    obtain ⟨f, hf⟩ := Classical.axiomOfChoice hx
    have hC : ∀ x ∈ (List.range len).map f, ok x := fun x hx => by
      simp only [List.mem_map, List.mem_range] at hx
      obtain ⟨i, hil, rfl⟩ := hx
      exact (hf i hil).1
    have hL : ((List.range len).map f).length = len := by simp
    refine ⟨some a, cap, (List.range len).map f, by rw [hL]; simpa using h1, ⟨by rw [hL]; exact hl, nofun, hcap⟩, hC, rd_of_cells2 a _ fun j u hu => ?_⟩
    have hflen := flat_len cs sz ((List.range len).map f) fun x hx => hlen x (hC x hx)
    rw [hL] at hflen
    have hj : j < len * sz := by have := (List.getElem?_eq_some_iff.1 hu).1; omega
    have hsz : 0 < sz := by
      rcases Nat.eq_zero_or_pos sz with h | h
      · rw [h] at hj; omega
      · exact h
    have hq : j / sz < len := Nat.div_lt_of_lt_mul (by rw [Nat.mul_comm]; exact hj)
    have hr : j % sz < sz := Nat.mod_lt _ hsz
    have hd : j / sz * sz + j % sz = j := by rw [Nat.mul_comm]; exact Nat.div_add_mod j sz
    have hat := flat_at cs sz ((List.range len).map f) (fun x hx => hlen x (hC x hx)) (j / sz) (f (j / sz)) (by simp [hq])
    obtain ⟨_, _, hce⟩ := World.cells?_some (hf (j / sz) hq).2
    have h5 := hce (j % sz) hr
    have h6 : (cs (f (j / sz)))[j % sz]? = some u := by
      rw [← hat, List.getElem?_take, if_pos hr, List.getElem?_drop, hd, hu]
    rw [h6, add_add, hd] at h5
    exact h5
end
end Go.Proofs.Ytodbmeklbamcfaa

/- A list of spans that came in, opened. -/
namespace Go.Proofs.Ytodbmeklbamcfaa
open Go.ChangeShapes Go.WideShapes Go.RowKit Go.Rt Go.Deep

section
variable {H : Type} {enc : TypeId × Value → H} {w : World} {base : Nat} {spare : Nat → Bool} {held : Bool}
def OkSp (s : Sp) : Prop := s.lo.length ≤ maxLen ∧ s.hi.length ≤ maxLen
set_option maxRecDepth 100000 in
theorem sp_of_trod {fuel : Nat} {cs : List Value} {y : DataW H × List MemPlace} (h : DataW.trod enc Try.prog w base spare held fuel 111 cs = some y) : ∃ s : Sp, OkSp s ∧ cs = s.cs := by
  have c2 : Try.prog.cellsOf 111 = 2 := by kernel_rfl
  have c9 : Try.prog.cellsOf 9 = 1 := by kernel_rfl
  obtain ⟨xs, n, rfl, hy, hlen, hxl, hf⟩ := DataW.trod_struct Try.underlying111 h
  rw [c2] at hlen
  match cs, hlen with
  | [a, b], _ =>
    match xs, hxl with
    | [y0, y1], _ =>
      have f0 : DataW.trod enc Try.prog w base spare held n 9 (([a, b].drop 0).take (Try.prog.cellsOf 9)) = some y0 := hf 0 _ rfl
      have f1 : DataW.trod enc Try.prog w base spare held n 9 (([a, b].drop 1).take (Try.prog.cellsOf 9)) = some y1 := hf 1 _ rfl
      rw [c9] at f0 f1
      obtain ⟨s, e0, z0, w0⟩ := DataW.trod_string Try.underlying9 f0
      obtain ⟨t, e1, z1, w1⟩ := DataW.trod_string Try.underlying9 f1
      simp at e0 e1
      refine ⟨⟨s.data.toList, t.data.toList⟩, ⟨?_, ?_⟩, by rw [e0, e1]; rfl⟩
      · show s.data.toList.length ≤ maxLen
        rw [Array.length_toList]
        exact w0
      · show t.data.toList.length ≤ maxLen
        rw [Array.length_toList]
        exact w1
theorem open_spans {fuel : Nat} {v : Value} {y : DataW H × List MemPlace} (h : DataW.trod enc Try.prog w base spare held fuel 40 [v] = some y) :
    ∃ (A : Option Addr) (c : Nat) (ts : List Sp), v = .slice A ts.length c ∧ Bsl A ts.length c ∧ (∀ x ∈ ts, OkSp x) ∧ Rd w A (spC ts) :=
  open_list3 Sp.cs 2 OkSp ⟨[], []⟩ Try.underlying40 (by kernel_rfl) (fun _ _ => rfl) sp_of_trod h
end
end Go.Proofs.Ytodbmeklbamcfaa

/- Lists of pairs and of writes, and a span, that came in, opened. -/
namespace Go.Proofs.Ytodbmeklbamcfaa
open Go.ChangeShapes Go.WideShapes Go.RowKit Go.Rt Go.Deep

section
variable {H : Type} {enc : TypeId × Value → H} {w : World} {base : Nat} {spare : Nat → Bool} {held : Bool}
def OkPr (s : Pr) : Prop := s.k.length ≤ maxLen ∧ s.v.length ≤ maxLen
def OkWt (s : Wt) : Prop := s.k.length ≤ maxLen ∧ s.v.length ≤ maxLen
set_option maxRecDepth 100000 in
theorem wt_of_trod {fuel : Nat} {cs : List Value} {y : DataW H × List MemPlace} (h : DataW.trod enc Try.prog w base spare held fuel 115 cs = some y) : ∃ s : Wt, OkWt s ∧ cs = s.cs := by
  have c2 : Try.prog.cellsOf 115 = 3 := by kernel_rfl
  have c9 : Try.prog.cellsOf 9 = 1 := by kernel_rfl
  have c4 : Try.prog.cellsOf 4 = 1 := by kernel_rfl
  obtain ⟨xs, n, rfl, hy, hlen, hxl, hf⟩ := DataW.trod_struct Try.underlying115 h
  rw [c2] at hlen
  match cs, hlen with
  | [a, b, c], _ =>
    match xs, hxl with
    | [y0, y1, y2], _ =>
      have f0 : DataW.trod enc Try.prog w base spare held n 9 (([a, b, c].drop 0).take (Try.prog.cellsOf 9)) = some y0 := hf 0 _ rfl
      have f1 : DataW.trod enc Try.prog w base spare held n 9 (([a, b, c].drop 1).take (Try.prog.cellsOf 9)) = some y1 := hf 1 _ rfl
      have f2 : DataW.trod enc Try.prog w base spare held n 4 (([a, b, c].drop 2).take (Try.prog.cellsOf 4)) = some y2 := hf 2 _ rfl
      rw [c9] at f0 f1
      rw [c4] at f2
      obtain ⟨s, e0, z0, w0⟩ := DataW.trod_string Try.underlying9 f0
      obtain ⟨t, e1, z1, w1⟩ := DataW.trod_string Try.underlying9 f1
      obtain ⟨d, e2, z2⟩ := DataW.trod_bool Try.underlying4 f2
      simp at e0 e1 e2
      refine ⟨⟨s.data.toList, t.data.toList, d⟩, ⟨?_, ?_⟩, by rw [e0, e1, e2]; rfl⟩
      · show s.data.toList.length ≤ maxLen
        rw [Array.length_toList]
        exact w0
      · show t.data.toList.length ≤ maxLen
        rw [Array.length_toList]
        exact w1
theorem open_writes {fuel : Nat} {v : Value} {y : DataW H × List MemPlace} (h : DataW.trod enc Try.prog w base spare held fuel 41 [v] = some y) :
    ∃ (A : Option Addr) (c : Nat) (ts : List Wt), v = .slice A ts.length c ∧ Bsl A ts.length c ∧ (∀ x ∈ ts, OkWt x) ∧ Rd w A (wtC ts) :=
  open_list3 Wt.cs 3 OkWt ⟨[], [], false⟩ Try.underlying41 (by kernel_rfl) (fun _ _ => rfl) wt_of_trod h
end
end Go.Proofs.Ytodbmeklbamcfaa

/- An effect that came in, opened. -/
namespace Go.Proofs.Ytodbmeklbamcfaa
open Go.ChangeShapes Go.WideShapes Go.RowKit Go.Rt Go.Deep

section
variable {H : Type} {enc : TypeId × Value → H} {w : World} {base : Nat} {spare : Nat → Bool} {held : Bool}
/-- What is known of an effect that came in: its lists read, and lie in their room. -/
structure EfIn (w : World) (x : Ef) (p : EfAt) : Prop where
  why : -9223372036854775808 ≤ x.why ∧ x.why ≤ 9223372036854775807
  steps : -9223372036854775808 ≤ x.steps ∧ x.steps ≤ 9223372036854775807
  b : Bsl p.A x.rs.length p.c
  b' : Bsl p.A' x.ss.length p.c'
  b'' : Bsl p.A'' x.ws.length p.c''
  r : Rd w p.A (tsC x.rs)
  r' : Rd w p.A' (spC x.ss)
  r'' : Rd w p.A'' (wtC x.ws)
set_option maxRecDepth 100000 in
theorem ef_of_trod {fuel : Nat} {cs : List Value} {y : DataW H × List MemPlace} (h : DataW.trod enc Try.prog w base spare held fuel 43 cs = some y) : ∃ (x : Ef) (p : EfAt), EfIn w x p ∧ cs = x.cs p := by
  have c5 : Try.prog.cellsOf 43 = 5 := by kernel_rfl
  have ci : Try.prog.cellsOf 3 = 1 := by kernel_rfl
  have ct : Try.prog.cellsOf 39 = 1 := by kernel_rfl
  have cp : Try.prog.cellsOf 40 = 1 := by kernel_rfl
  have cw : Try.prog.cellsOf 41 = 1 := by kernel_rfl
  obtain ⟨xs, n, rfl, hy, hlen, hxl, hf⟩ := DataW.trod_struct Try.underlying43 h
  rw [c5] at hlen
  match cs, hlen with
  | [a, b, c, d, e], _ =>
    match xs, hxl with
    | [y0, y1, y2, y3, y4], _ =>
      have f0 : DataW.trod enc Try.prog w base spare held n 3 (([a, b, c, d, e].drop 0).take (Try.prog.cellsOf 3)) = some y0 := hf 0 _ rfl
      have f1 : DataW.trod enc Try.prog w base spare held n 3 (([a, b, c, d, e].drop 1).take (Try.prog.cellsOf 3)) = some y1 := hf 1 _ rfl
      have f2 : DataW.trod enc Try.prog w base spare held n 39 (([a, b, c, d, e].drop 2).take (Try.prog.cellsOf 39)) = some y2 := hf 2 _ rfl
      have f3 : DataW.trod enc Try.prog w base spare held n 40 (([a, b, c, d, e].drop 3).take (Try.prog.cellsOf 40)) = some y3 := hf 3 _ rfl
      have f4 : DataW.trod enc Try.prog w base spare held n 41 (([a, b, c, d, e].drop 4).take (Try.prog.cellsOf 41)) = some y4 := hf 4 _ rfl
      rw [ci] at f0 f1
      rw [ct] at f2
      rw [cp] at f3
      rw [cw] at f4
      obtain ⟨i, e0, _, w0⟩ := DataW.trod_int Try.underlying3 f0
      obtain ⟨j, e1, _, w1⟩ := DataW.trod_int Try.underlying3 f1
      obtain ⟨A2, k2, rs, v2, b2, _, r2⟩ := open_texts f2
      obtain ⟨A3, k3, ss, v3, b3, _, r3⟩ := open_spans f3
      obtain ⟨A4, k4, ws, v4, b4, _, r4⟩ := open_writes f4
      simp at e0 e1
      exact ⟨⟨i, j, rs, ss, ws⟩, ⟨A2, k2, A3, k3, A4, k4⟩, ⟨wf_i64' w0, wf_i64' w1, b2, b3, b4, r2, r3, r4⟩, by rw [e0, e1]; show [_, _, c, d, e] = _; rw [v2, v3, v4]; rfl⟩
end
end Go.Proofs.Ytodbmeklbamcfaa

/- EffectTouches, whatever comes in. -/
namespace Go.Proofs.Ytodbmeklbamcfaa
open Go.RowKit Go.Rt

theorem meets_one (x : Ef) (l : List Str) (j : Nat) (k : Str) (h : l[j]? = some k) : (l.take (j + 1)).any (fun k => meetsX x [k]) = ((l.take j).any (fun k => meetsX x [k]) || meetsX x [k]) := by
  rw [List.take_add_one, h]; simp [List.any_append]
theorem EfIn.rd {W : World} {L : List SL} {x : Ef} {p : EfAt} (h : EfIn W x p) : EfRd W L x p := ⟨h.b, h.b', h.b'', RdL.old h.r, RdL.old h.r', RdL.old h.r''⟩

theorem touch_rd {W w : World} {x : Ef} {q : EfAt} {more : Str} {A7 : Option Addr} {c7 b b2 : Nat} {a a2 : Array Value} {t t2 : TypeId} {L : List SL} (H : Sat W w (pt b a t :: row 9 zS (.slice A7 (x.rs.length + 1) c7) (x.rs.length + 1) (tsC x.rs ++ [.string ⟨more.toArray⟩]) :: pt b2 a2 t2 :: row 115 zWt (.slice q.A'' x.ws.length q.c'') x.ws.length (wtC x.ws) :: row 111 zSp (.slice q.A' x.ss.length q.c') x.ss.length (spC x.ss) :: L)) :
    EfRd W (pt b a t :: row 9 zS (.slice A7 (x.rs.length + 1) c7) (x.rs.length + 1) (tsC x.rs ++ [.string ⟨more.toArray⟩]) :: pt b2 a2 t2 :: row 115 zWt (.slice q.A'' x.ws.length q.c'') x.ws.length (wtC x.ws) :: row 111 zSp (.slice q.A' x.ss.length q.c') x.ss.length (spC x.ss) :: L) { x with rs := x.rs ++ [more] } ⟨A7, c7, q.A', q.c', q.A'', q.c''⟩ := by
  have hyl : (x.rs ++ [more]).length = x.rs.length + 1 := by simp
  have hts : tsC (x.rs ++ [more]) = tsC x.rs ++ [.string ⟨more.toArray⟩] := by rw [tsC_append]; rfl
  refine ⟨?_, (H.pull 4).bsl, (H.pull 3).bsl, ?_, RdL.tail (RdL.tail (RdL.tail (RdL.tail RdL.row))), RdL.tail (RdL.tail (RdL.tail RdL.row))⟩
  · show Bsl A7 (x.rs ++ [more]).length c7
    rw [hyl]; exact H.tail.bsl
  · show RdL W _ A7 (tsC (x.rs ++ [more]))
    rw [hts]; exact RdL.tail RdL.row
set_option maxRecDepth 100000 in
set_option maxHeartbeats 16000000 in
theorem lawEffectTouches_any {W : World} (x : Ef) (p : EfAt) (hI : EfIn W x p) (A : Option Addr) (c : Nat) (l : List Str) (hA : Bsl A l.length c) (hrl : Rd W A (tsC l)) (more : Str) :
    Calls Try.prog 4 #[x.v p, .slice A l.length c, .string ⟨more.toArray⟩] W fun e w' => e = .returned (.bool true) ∧ Sat W w' [] := by
  have hr := fun (L : List SL) => hI.rd (L := L)
  have hrl' := fun (L : List SL) => RdL.old (l := L) hrl
  have hlm := Nat.le_trans hA.le hA.max
  have hle := hA.le
  have hcm := hA.max
  unfold maxLen at hcm
  have hv : x.v p = .agg (x.cs p).toArray := rfl
  have hcs : x.cs p = [.int .i64 x.why, .int .i64 x.steps, .slice p.A x.rs.length p.c, .slice p.A' x.ss.length p.c', .slice p.A'' x.ws.length p.c''] := rfl
  have HW := Lib.hid (fun (w0 : World) (L0 : List SL) (h : Sat W w0 L0) => efawake_any h)
  have HLX := Lib.hid (fun (w0 : World) (L0 : List SL) (h : Sat W w0 L0) => (show Calls Try.prog 20 #[.agg #[.int .i64 x.why, .int .i64 x.steps, .slice p.A x.rs.length p.c, .slice p.A' x.ss.length p.c', .slice p.A'' x.ws.length p.c''], .int .i64 70] w0 fun e w' => e = .returned (.bool (longX x 70)) ∧ Sat W w' L0 from LongEffect_any x p (hr L0) h))
  have HLK := Lib.hid (fun (w0 : World) (L0 : List SL) (h : Sat W w0 L0) => LongKeys_any A c l 70 (by omega) hlm (hrl' L0 _ h))
  have H1 := (Sat.start W).alloc (x.cs p).toArray 43
  by_cases hq : longX x 70 = true ∨ longK l 70 = true ∨ 100 < more.length
  · -- let go
    rw [hv]
    rw [hcs] at *
    have hqq : (longX x 70 = true) ∨ (longX x 70 = false ∧ longK l 70 = true) ∨ (longX x 70 = false ∧ longK l 70 = false ∧ 100 < more.length) := by
      cases h1 : longX x 70
      · cases h2 : longK l 70
        · rw [h1, h2] at hq; simp at hq; exact .inr (.inr ⟨rfl, rfl, hq⟩)
        · exact .inr (.inl ⟨rfl, rfl⟩)
      · exact .inl rfl
    generalize longX x 70 = q1 at *
    generalize longK l 70 = q2 at *
    clear hq hr hrl hrl' hI hv hcs hA
    go_enter Try.func4, Try.ntmps4
    go_wp2_with fail
    refine (HW.out _ _ H1).mono ?_
    rintro e w2 ⟨rfl, H2⟩
    have i0 := H2.cell 0
    have i1 := H2.cell 1
    have i2 := H2.cell 2
    have i3 := H2.cell 3
    have i4 := H2.cell 4
    go_wp2_with fail
    refine (HLX.out _ _ H2).mono ?_
    rintro e w3 ⟨rfl, H3⟩
    rcases hqq with rfl | ⟨rfl, rfl⟩ | ⟨rfl, rfl, hm⟩
    · go_wp2
      go_ret
      exact ⟨rfl, H3.tail⟩
    · go_wp2_with fail
      refine (HLK.out _ _ H3).mono ?_
      rintro e w4 ⟨rfl, rfl⟩
      go_wp2
      go_ret
      exact ⟨rfl, H3.tail⟩
    · have e1 : (100 : Int) < (more.length : Int) := by omega
      go_wp2_with fail
      refine (HLK.out _ _ H3).mono ?_
      rintro e w4 ⟨rfl, rfl⟩
      go_wp2
      go_ret
      exact ⟨rfl, H3.tail⟩
  · have h1 : longX x 70 = false := by cases h : longX x 70 <;> simp_all
    have h2 : longK l 70 = false := by cases h : longK l 70 <;> simp_all
    have h3 : more.length ≤ 100 := by omega
    have hx := longX_ok h1
    have hxl : x.rs.length ≤ 70 := by
      unfold longX at h1
      rw [Bool.or_eq_false_iff] at h1
      exact (longK_no h1.1).1
    have hll := (longK_no h2).1
    have hlt : ∀ t ∈ l, t.length ≤ 1000000 := fun t ht => by have := (longK_no h2).2 t ht; omega
    rw [h1] at HLX
    rw [h2] at HLK
    have HM := Lib.hid (fun (w0 : World) (L0 : List SL) (B : Option Addr) (cb : Nat) (m : List Str) (hm : m.length ≤ 100000) (hmt : ∀ t ∈ m, t.length ≤ 1000000) (hrm : RdL W L0 B (tsC m)) (h : Sat W w0 L0) => (show Calls Try.prog 22 #[.agg #[.int .i64 x.why, .int .i64 x.steps, .slice p.A x.rs.length p.c, .slice p.A' x.ss.length p.c', .slice p.A'' x.ws.length p.c''], .slice B m.length cb] w0 fun e w' => e = .returned (.bool (meetsX x m)) ∧ Sat W w' L0 from efMeets_any x p hx (hr L0) B cb m hm hmt hrm h))
    have HCP := Lib.hid (fun (w0 : World) (L0 : List SL) (h : Sat W w0 L0) => (show Calls Try.prog 23 #[.agg #[.int .i64 x.why, .int .i64 x.steps, .slice p.A x.rs.length p.c, .slice p.A' x.ss.length p.c', .slice p.A'' x.ws.length p.c'']] w0 fun e w' => ∃ q : EfAt, e = .returned (.agg #[.int .i64 x.why, .int .i64 x.steps, .slice q.A x.rs.length q.c, .slice q.A' x.ss.length q.c', .slice q.A'' x.ws.length q.c'']) ∧ Sat W w' (efL x q L0) from CopyEffect_any x p hx (hr L0) h))
    have HST := Lib.hid (fun (j : Nat) (k : Str) (h : l[j]? = some k) => meets_one x l j k h)
    have HLT := Lib.hid (hlt)
    have HRL := Lib.hid (hrl')
    have HRL0 := Lib.hid (hrl)
    have HX := Lib.hid (hx)
    rw [hv] at *
    rw [hcs] at *
    have e1 : ¬ (100 : Int) < (more.length : Int) := by omega
    go_enter Try.func4, Try.ntmps4
    go_wp2_with fail
    refine (HW.out _ _ H1).mono ?_
    rintro e w2 ⟨rfl, H2⟩
    have i0 := H2.cell 0
    have i1 := H2.cell 1
    have i2 := H2.cell 2
    have i3 := H2.cell 3
    have i4 := H2.cell 4
    go_wp2_with fail
    refine (HLX.out _ _ H2).mono ?_
    rintro e w3 ⟨rfl, H3⟩
    go_wp2_with fail
    refine (HLK.out _ _ H3).mono ?_
    rintro e w4 ⟨rfl, rfl⟩
    clear H1 H2 i0 i1 i2 i3 i4 HLX HLK HW h1 h2 hq hlt hrl' hrl hr hx hI
    go_wp2
    go_loopw [8, 9] (fun s8 s9 wc => ∃ j : Nat, j ≤ l.length ∧ s9 = .int .i64 j ∧ s8 = .bool ((l.take j).any fun k => meetsX x [k]) ∧ Sat W wc (pt W.heap.size #[.int .i64 x.why, .int .i64 x.steps, .slice p.A x.rs.length p.c, .slice p.A' x.ss.length p.c', .slice p.A'' x.ws.length p.c''] 43 :: [])) (fun _ s9 _ => l.length - (intOf s9).toNat)
    case atStart => exact ⟨0, by omega, rfl, by simp, H3⟩
    case round =>
      clear H3
      obtain ⟨j, hj, rfl, rfl, H⟩ := hrel
      by_cases hlt2 : j < l.length
      · obtain ⟨k, hk⟩ : ∃ x, l[j]? = some x := ⟨_, List.getElem?_eq_getElem (by omega)⟩
        have hst := HST.out j k hk
        generalize ((l.take j).any fun k => meetsX x [k]) = sm at *
        cases sm with
        | true =>
          rw [Bool.true_or] at hst
          have HS := Lib.hid (hst)
          clear hst hk
          go_wp2
          go_quiet (fail)
          go_wp2
          exact ⟨⟨j + 1, by omega, by go_num, by rw [HS.out], H.drewN nq⟩, by simp [intOf]; omega⟩
        | false =>
          rw [Bool.false_or] at hst
          have HS := Lib.hid (hst)
          obtain ⟨b, o, rfl, ck⟩ := ts_at (HRL.out _ _ H) j k hk
          have HK := Lib.hid (hk)
          have i0 := H.cell 0
          have i1 := H.cell 1
          have i2 := H.cell 2
          have i3 := H.cell 3
          have i4 := H.cell 4
          have g1 : (0 : Int) ≤ (j : Int) := by omega
          have g2 : (j : Int) ≤ (j : Int) + 1 := by omega
          have g3 : (j : Int) + 1 ≤ (c : Int) := by omega
          have hcj : ¬ c = j := by omega
          have g4 : IntKind.i64.wrap ((j : Int) + 1) = (j : Int) + 1 := IntWalk.i64_in _ (by omega)
          have hrk : Rd W (some ⟨b, o + j, none⟩) (tsC [k]) := by
            have h9 := ((HRL0.out).drop j).take 1
            have h10 : ((tsC l).drop j).take 1 = tsC [k] := by
              unfold tsC
              rw [← List.map_drop, ← List.map_take, List.drop_eq_getElem_cons hlt2, List.take_succ_cons, List.take_zero]
              congr 2
              exact Option.some.inj ((List.getElem?_eq_getElem hlt2).symm.trans hk)
            rw [h10] at h9; exact h9
          have hkl : k.length ≤ 1000000 := HLT.out k (List.mem_of_getElem? hk)
          have HRK := Lib.hid (hrk)
          clear hst hk hrk
          have H8 := H.drew
          have d0 := H8.cell 0
          have d1 := H8.cell 1
          have d2 := H8.cell 2
          have d3 := H8.cell 3
          have d4 := H8.cell 4
          go_wp2
          go_region_held3 (fun w' => w'.cell? ⟨W.heap.size, 0, none⟩ = some (.int .i64 x.why) ∧ w'.cell? ⟨W.heap.size, 1, none⟩ = some (.int .i64 x.steps) ∧ w'.cell? ⟨W.heap.size, 2, none⟩ = some (.slice p.A x.rs.length p.c) ∧ w'.cell? ⟨W.heap.size, 3, none⟩ = some (.slice p.A' x.ss.length p.c') ∧ w'.cell? ⟨W.heap.size, 4, none⟩ = some (.slice p.A'' x.ws.length p.c'')) (exact ⟨by assumption, by assumption, by assumption, by assumption, by assumption⟩) (first
            | (go_at_call 22; refine (HM.out _ _ _ _ [k] (by simp) (by simpa using hkl) (RdL.old HRK.out) H8).mono ?_; rintro e w5 ⟨rfl, H9⟩
               have q0 := H9.cell 0
               have q1 := H9.cell 1
               have q2 := H9.cell 2
               have q3 := H9.cell 3
               have q4 := H9.cell 4))
          go_wp2
          exact ⟨⟨j + 1, by omega, by go_num, by rw [HS.out], H9⟩, by simp [intOf]; omega⟩
      · obtain rfl : j = l.length := by omega
        rw [List.take_length]
        have hM := meetsX_single x l
        have hmore := fun h => meetsX_more x l more h
        have hnew := meetsX_new x more
        have hnil := meetsX_nil x
        rw [← hM]
        obtain ⟨i0, hi, hz0, hz1, hz2⟩ := info_parts infoStr
        have hy : EfOk { x with rs := x.rs ++ [more] } := by
          have h := HX.out
          refine ⟨by rw [List.length_append]; show x.rs.length + 1 ≤ _; omega, h.ss, h.ws, fun t ht => ?_, h.sp, h.wt⟩
          rcases List.mem_append.1 ht with ht | ht
          · exact h.ts t ht
          · obtain rfl : t = more := by simpa using ht
            omega
        have hyl : (x.rs ++ [more]).length = x.rs.length + 1 := by simp
        have hmy : ∀ (w0 : World) (L0 : List SL) (q' : EfAt) (B : Option Addr) (cb : Nat) (m : List Str), EfRd W L0 { x with rs := x.rs ++ [more] } q' → m.length ≤ 100000 → (∀ t ∈ m, t.length ≤ 1000000) → RdL W L0 B (tsC m) → Sat W w0 L0 → Calls Try.prog 22 #[.agg #[.int .i64 x.why, .int .i64 x.steps, .slice q'.A (x.rs.length + 1) q'.c, .slice q'.A' x.ss.length q'.c', .slice q'.A'' x.ws.length q'.c''], .slice B m.length cb] w0 fun e w' => e = .returned (.bool (meetsX { x with rs := x.rs ++ [more] } m)) ∧ Sat W w' L0 := by
          intro w0 L0 q' B cb m h1 h2 h3 h4 h5
          have h := efMeets_any { x with rs := x.rs ++ [more] } q' hy h1 B cb m h2 h3 h4 h5
          have e : Ef.v { x with rs := x.rs ++ [more] } q' = .agg #[.int .i64 x.why, .int .i64 x.steps, .slice q'.A (x.rs.length + 1) q'.c, .slice q'.A' x.ss.length q'.c', .slice q'.A'' x.ws.length q'.c''] := by
            show Value.agg #[.int .i64 x.why, .int .i64 x.steps, .slice q'.A (x.rs ++ [more]).length q'.c, .slice q'.A' x.ss.length q'.c', .slice q'.A'' x.ws.length q'.c''] = _
            rw [hyl]
          rw [e] at h; exact h
        have HMY := Lib.hid (hmy)
        have HMORE := Lib.hid (hmore)
        have k0 := H.cell 0
        have k1 := H.cell 1
        have k2 := H.cell 2
        have k3 := H.cell 3
        have k4 := H.cell 4
        have HMX := Lib.hid (hM)
        clear hmy hmore hM hy hyl HST
        go_wp2_with fail
        refine (HCP.out _ _ H).mono ?_
        rintro e w5 ⟨q, rfl, H5⟩
        clear k0 k1 k2 k3 k4 HCP
        have H6 := H5.alloc #[.int .i64 x.why, .int .i64 x.steps, .slice q.A x.rs.length q.c, .slice q.A' x.ss.length q.c', .slice q.A'' x.ws.length q.c''] 43
        have m2 := H6.cell 2
        have H7 := H6.alloc #[.string ⟨more.toArray⟩] 9
        rw [World.size_alloc] at H7
        go_upto_region 11 with (first
          | (at_builtin
             go_loud ((refine wpList_append_sl rfl (.tmp 43) (.tmp 45) 39 rfl 9 i0 _ zS 16 Try.underlying39 hi hz0 rfl hz1 hz2 (by simp) zS_like _ x.rs.length _ rfl (H7.pull 4) (some ⟨w5.heap.size + 1, 0, none⟩) 1 1 [.string ⟨more.toArray⟩] rfl rfl (RdL.pt _ H7) (by simp [Value.oneCell']) (tsC_typed [more]) (by unfold maxLen; omega) (by omega) ?_); intro A7 c7 w7 H8; (have n2 := (H8.pull 2).cell 2); (have nf := (H8.pull 2).frz 2); (have H9 := (H8.pull 2).setCell 2 (.slice A7 (x.rs.length + 1) c7)); (generalize hw9 : w7.setCell ⟨w5.heap.size, 2, none⟩ (.slice A7 (x.rs.length + 1) c7) = w9 at H9))))
        have HR9 := touch_rd H9
        have HML := fun (w0 : World) (L0 : List SL) (h : Sat W w0 L0) => HM.out w0 L0 A c l (by omega) HLT.out (HRL.out _) h
        have HMN := fun (w0 : World) (L0 : List SL) (h : Sat W w0 L0) => HM.out w0 L0 none 0 [] (by simp) (by simp) (fun w _ => Rd.nil _ _) h
        rw [hnil] at HMN
        have HY1 := fun (w0 : World) (L0 : List SL) (hr : EfRd W L0 { x with rs := x.rs ++ [more] } ⟨A7, c7, q.A', q.c', q.A'', q.c''⟩) (h : Sat W w0 L0) => HMY.out w0 L0 ⟨A7, c7, q.A', q.c', q.A'', q.c''⟩ A c l hr (by omega) HLT.out (HRL.out _) h
        have HY2 := fun (w0 : World) (L0 : List SL) (b : Nat) (hr : EfRd W L0 { x with rs := x.rs ++ [more] } ⟨A7, c7, q.A', q.c', q.A'', q.c''⟩) (hb : RdL W L0 (some ⟨b, 0, none⟩) (tsC [more])) (h : Sat W w0 L0) => HMY.out w0 L0 ⟨A7, c7, q.A', q.c', q.A'', q.c''⟩ (some ⟨b, 0, none⟩) 1 [more] hr (by simp) (fun t ht => by rw [List.mem_singleton.1 ht]; omega) hb h
        rw [hnew] at HY2
        have hmo := HMORE.out
        clear hnil hnew HMY HMORE HM HMX m2 n2 nf hw9 H6 H7 H8 H hz0 hz1 hz2 hi
        have j0 := (H9.pull 5).cell 0
        have j1 := (H9.pull 5).cell 1
        have j2 := (H9.pull 5).cell 2
        have j3 := (H9.pull 5).cell 3
        have j4 := (H9.pull 5).cell 4
        generalize meetsX x l = M at *
        have HML' := Lib.hid (HML)
        have HMN' := Lib.hid (HMN)
        have HY2' := Lib.hid (HY2)
        clear HML HMN HY2
        cases M with
        | false =>
          clear hmo HY1
          go_wp2_with fail
          refine (HML'.out _ _ H9).mono ?_
          rintro e w10 ⟨rfl, H10⟩
          have y0 : w10.cell? ⟨w5.heap.size, 0, none⟩ = some (.int .i64 x.why) := H10.cell 0
          have y1 : w10.cell? ⟨w5.heap.size, 1, none⟩ = some (.int .i64 x.steps) := H10.cell 1
          have y2 : w10.cell? ⟨w5.heap.size, 2, none⟩ = some (.slice A7 (x.rs.length + 1) c7) := H10.cell 2
          have y3 : w10.cell? ⟨w5.heap.size, 3, none⟩ = some (.slice q.A' x.ss.length q.c') := H10.cell 3
          have y4 : w10.cell? ⟨w5.heap.size, 4, none⟩ = some (.slice q.A'' x.ws.length q.c'') := H10.cell 4
          have H11 := H10.alloc #[.string ⟨more.toArray⟩] 9
          go_wp2_with fail
          refine (HY2'.out _ _ _ HR9.tail RdL.pt H11).mono ?_
          rintro e w12 ⟨rfl, H12⟩
          have u0 := (H12.pull 6).cell 0
          have u1 := (H12.pull 6).cell 1
          have u2 := (H12.pull 6).cell 2
          have u3 := (H12.pull 6).cell 3
          have u4 := (H12.pull 6).cell 4
          go_wp2_with fail
          refine (HMN'.out _ _ H12).mono ?_
          rintro e w13 ⟨rfl, H13⟩
          go_wp2
          go_ret
          exact ⟨rfl, Sat.drops [_, _, _, _, _, _, _] H13⟩
        | true =>
          rw [hmo rfl] at HY1
          have HY1' := Lib.hid (HY1)
          clear hmo HY1
          go_wp2_with fail
          refine (HML'.out _ _ H9).mono ?_
          rintro e w10 ⟨rfl, H10⟩
          have y0 : w10.cell? ⟨w5.heap.size, 0, none⟩ = some (.int .i64 x.why) := H10.cell 0
          have y1 : w10.cell? ⟨w5.heap.size, 1, none⟩ = some (.int .i64 x.steps) := H10.cell 1
          have y2 : w10.cell? ⟨w5.heap.size, 2, none⟩ = some (.slice A7 (x.rs.length + 1) c7) := H10.cell 2
          have y3 : w10.cell? ⟨w5.heap.size, 3, none⟩ = some (.slice q.A' x.ss.length q.c') := H10.cell 3
          have y4 : w10.cell? ⟨w5.heap.size, 4, none⟩ = some (.slice q.A'' x.ws.length q.c'') := H10.cell 4
          go_wp2_with fail
          refine (HY1'.out _ _ HR9 H10).mono ?_
          rintro e w11 ⟨rfl, H10b⟩
          clear y0 y1 y2 y3 y4
          have y0 : w11.cell? ⟨w5.heap.size, 0, none⟩ = some (.int .i64 x.why) := H10b.cell 0
          have y1 : w11.cell? ⟨w5.heap.size, 1, none⟩ = some (.int .i64 x.steps) := H10b.cell 1
          have y2 : w11.cell? ⟨w5.heap.size, 2, none⟩ = some (.slice A7 (x.rs.length + 1) c7) := H10b.cell 2
          have y3 : w11.cell? ⟨w5.heap.size, 3, none⟩ = some (.slice q.A' x.ss.length q.c') := H10b.cell 3
          have y4 : w11.cell? ⟨w5.heap.size, 4, none⟩ = some (.slice q.A'' x.ws.length q.c'') := H10b.cell 4
          have H11 := H10b.alloc #[.string ⟨more.toArray⟩] 9
          go_wp2_with fail
          refine (HY2'.out _ _ _ HR9.tail RdL.pt H11).mono ?_
          rintro e w12 ⟨rfl, H12⟩
          have u0 := (H12.pull 6).cell 0
          have u1 := (H12.pull 6).cell 1
          have u2 := (H12.pull 6).cell 2
          have u3 := (H12.pull 6).cell 3
          have u4 := (H12.pull 6).cell 4
          go_wp2_with fail
          refine (HMN'.out _ _ H12).mono ?_
          rintro e w13 ⟨rfl, H13⟩
          go_wp2
          go_ret
          exact ⟨rfl, Sat.drops [_, _, _, _, _, _, _] H13⟩
end Go.Proofs.Ytodbmeklbamcfaa

/- The last step of a row whose law answers true and leaves all that was handed in as it was. No program in sight. -/
namespace Go.Rt
open Go.RowKit Go.ChangeShapes Go.WideShapes
variable {H : Type} {enc : TypeId × Value → H} {P : Program}

/-- All arguments read as before, where below the heap's old size nothing has turned. -/
theorem trodAll_kept (hl : laidOutB P = true) {W W' : World} (hb : Below W.heap.size W W') {sp : Nat → Bool} :
    ∀ {ts : List TypeId} {vs : List Value} {ds : List (DataW H)} {ps : List MemPlace}, (∀ t ∈ ts, P.readableRec t = true ∧ t < P.types.size) →
      DataW.TrodAll enc P W 0 (fun _ => true) true ts vs ds ps → (∀ p ∈ ps, p.block < W.heap.size) → (∀ p ∈ ps, sp p.block = true) → DataW.TrodAll enc P W' 0 sp true ts vs ds ps
  | [], [], [], _, _, h, _, _ => h
  | [], [], _ :: _, _, _, h, _, _ => h.elim
  | [], _ :: _, _, _, _, h, _, _ => h.elim
  | _ :: _, [], _, _, _, h, _, _ => h.elim
  | _ :: _, _ :: _, [], _, _, h, _, _ => h.elim
  | t :: ts, v :: vs, d :: ds, ps, hr, h, hlt, hs => by
    obtain ⟨p, q, h1, h2, rfl⟩ := h
    have ht := hr t (by simp)
    exact ⟨p, q, WideElems.Trod_stays hl ht.1 ht.2 h1 (fun x hx => hb.same (hlt x (by simp [hx]))) (fun x hx => hs x (by simp [hx])),
      trodAll_kept hl hb (fun u hu => hr u (by simp [hu])) h2 (fun x hx => hlt x (by simp [hx])) (fun x hx => hs x (by simp [hx])), rfl⟩

theorem agg_of_cells {v : Value} {cs : List Value} (h : v.cells.toList = cs) (hl : cs.length ≠ 1) : v = .agg cs.toArray := by
  subst h
  cases v <;> first | rfl | (exfalso; exact hl rfl)
theorem trodAll_five {w : World} {base : Nat} {spare : Nat → Bool} {held : Bool} {t0 t1 t2 t3 t4 : TypeId} {args : Array Value} {ds : List (DataW H)} {ps : List MemPlace} (h : DataW.TrodAll enc P w base spare held [t0, t1, t2, t3, t4] args.toList ds ps) :
    ∃ v0 v1 v2 v3 v4 d0 d1 d2 d3 d4 p0 p1 p2 p3 p4, args = #[v0, v1, v2, v3, v4] ∧ ds = [d0, d1, d2, d3, d4] ∧ ps = p0 ++ (p1 ++ (p2 ++ (p3 ++ p4))) ∧ DataW.Trod enc P w base spare held t0 v0 d0 p0 ∧ DataW.Trod enc P w base spare held t1 v1 d1 p1 ∧ DataW.Trod enc P w base spare held t2 v2 d2 p2 ∧ DataW.Trod enc P w base spare held t3 v3 d3 p3 ∧ DataW.Trod enc P w base spare held t4 v4 d4 p4 := by
  obtain ⟨v0, vs0, d0, ds0, p0, q0, ha, rfl, rfl, h0, r0⟩ := trodAll_cons h
  obtain ⟨v1, vs1, d1, ds1, p1, q1, rfl, rfl, rfl, h1, r1⟩ := trodAll_cons r0
  obtain ⟨v2, vs2, d2, ds2, p2, q2, rfl, rfl, rfl, h2, r2⟩ := trodAll_cons r1
  obtain ⟨v3, vs3, d3, ds3, p3, q3, rfl, rfl, rfl, h3, r3⟩ := trodAll_cons r2
  obtain ⟨v4, vs4, d4, ds4, p4, q4, rfl, rfl, rfl, h4, r4⟩ := trodAll_cons r3
  obtain ⟨rfl, rfl, rfl⟩ := trodAll_nil r4
  exact ⟨v0, v1, v2, v3, v4, d0, d1, d2, d3, d4, p0, p1, p2, p3, p4, by apply Array.toList_inj.1; rw [ha], rfl, by simp, h0, h1, h2, h3, h4⟩

theorem post_law {f : Func} {s : ChangeSpec} {apart fresh handsOn again : Bool} {W W' : World} {args : Array Value} {ds : List (DataW H)} {before : List MemPlace} {tB : TypeId}
    (hW : DataW.Whole enc P f.params.toList s.vars apart W args.toList ds [] before) (hsv : s.vars = []) (hfn : s.fn H (ds ++ []) = { results := [.lit (.bool true)], args := ds })
    (hrt : f.resultTypes = #[tB]) (htb : P.underlying tB = some .bool) (hl : laidOutB P = true) (hts : ∀ t ∈ f.params.toList, P.readableRec t = true ∧ t < P.types.size)
    (hb : Below W.heap.size W W') : s.post enc P f apart fresh handsOn again W args (.bool true) W' := by
  have hlt : ∀ p ∈ before, p.block < W.heap.size := fun p hp => hW.lt p hp
  have hW' := hW
  obtain ⟨pa, pv, hA, hV, hps, hz, hn⟩ := hW'
  rw [hsv] at hV
  have hpv : pv = [] := hV
  subst hpv
  rw [List.append_nil] at hps
  subst hps
  have hres : ∀ (b : Nat) (sp : Nat → Bool) (hd : Bool), DataW.TrodAll enc P W' b sp hd f.resultTypes.toList ((Value.bool true).resultList f.resultTypes.size) (s.fn H (ds ++ [])).results [] := fun b sp hd => by
    rw [hrt, hfn]
    exact trodAll_mk1 (shut_bool htb true)
  have hargs : ∀ sp : Nat → Bool, (∀ p ∈ before, sp p.block = true) → DataW.TrodAll enc P W' 0 sp true f.params.toList args.toList (s.fn H (ds ++ [])).args before := fun sp hs => by rw [hfn]; exact trodAll_kept hl hb hts hA hlt hs
  have hvars : ∀ sp : Nat → Bool, DataW.TrodVars enc P W' sp s.vars (s.fn H (ds ++ [])).vars [] := fun sp => by rw [hsv, hfn]; rfl
  have hold : ∀ p ∈ before, (fun b => decide (b < W.heap.size)) p.block = true := fun p hp => by simpa using hlt p hp
  refine ⟨ds, [], before, [], before, [], hW, hres _ _ _, hargs _ hold, hvars _, World.keptBut_mono (fun p hp => ⟨hp, Or.inr (Or.inl hp)⟩) (hb.frame (· ∈ before)), fun _ => ?_⟩
  refine ⟨ok_one hrt rfl (okWide_bool_mk htb true), _, _, ([] ++ before) ++ [], ⟨[] ++ before, [], trodAll_append (hargs _ (fun _ _ => rfl)) (hres _ _ _), hvars _, rfl, ?_, ?_⟩, ?_⟩
  · intro b off hp
    have hin : MemPlace.cell b off ∈ before := by simpa using hp
    rw [hb.frozen (hlt _ hin)]
    exact hz b off hin
  · intro ha
    simpa using hn ha
  · intro p hp _
    simpa using hp
end Go.Rt

/- The row of EffectTouches: for every input it answers true, and the input reads as it did. -/
namespace Go.Proofs.Ytodbmeklbamcfaa
open Go.ChangeShapes Go.WideShapes Go.ChangeMaps Go.RowKit Go.Rt

theorem effectTouches_own : ownKnob Try.prog.godebug = none := by kernel_rfl
theorem effectTouches_laid : laidOutB Try.prog = true := by kernel_rfl

set_option maxRecDepth 100000 in
theorem effectTouches_lifted (os : Os) (started : os.Started) (H : Type) (enc : TypeId × Value → H) :
    ReturnsInHanded {} Try.checked os 4 .any (Rows.effectTouchesSpec.pre6 enc Try.prog Try.f4 Rows.effectTouchesRow.domain false) (Rows.effectTouchesSpec.post enc Try.prog Try.f4 false true false false) := by
  refine returnsInHanded_of_change (C := Try.checked) effectTouches_own started (by kernel_rfl) Try.func4
    (ChangeSpec.witness6 (enc := enc) (C := Try.checked) false ⟨#[], #[.agg #[.int .i64 0, .int .i64 0, .slice none 0 0, .slice none 0 0, .slice none 0 0], .slice none 0 0, .string ⟨#[]⟩], []⟩ 8 (by kernel_rfl) (by kernel_rfl) (by kernel_rfl) (by kernel_rfl)) ?_
  intro W base args ds gs before hval0 hW _ _
  have hval : ∀ (j : Nat) t v, Try.f4.params[j]? = some t → args[j]? = some v → Value.okWide Try.prog W .any base t v := hval0
  have hW' := hW
  obtain ⟨p, q, hA0, hV, rfl, _, _⟩ := hW
  have hA : DataW.TrodAll enc Try.prog W 0 (fun _ => true) true Try.f4.params.toList args.toList ds p := hA0
  rw [Try.params4] at hA hval
  obtain ⟨rfl, rfl⟩ := trodVars_none hV
  obtain ⟨v0, v1, v2, d0, d1, d2, p0, p1, p2, rfl, rfl, rfl, h0, h1, h2⟩ := trodAll_three hA
  obtain ⟨f0, hf0⟩ := h0
  obtain ⟨x0, P0, I0, hv0⟩ := ef_of_trod hf0
  replace hv0 := agg_of_cells hv0 (by simp [Ef.cs])
  obtain ⟨a1, l1, c1, rfl⟩ := okWide_slice Try.underlying39 (hval 1 39 v1 rfl rfl)
  obtain ⟨f1, hf1⟩ := h1
  obtain ⟨A1, k1, x1, hv1, hc1, hq1, hr1⟩ := open_texts hf1
  obtain ⟨s2, rfl, rfl, rfl, w2⟩ := open_string Try.underlying9 (hval 2 9 v2 rfl rfl) h2
  obtain ⟨x2, rfl⟩ : ∃ L : List UInt8, s2 = ⟨L.toArray⟩ := ⟨s2.data.toList, rfl⟩
  have z2 : x2.length ≤ maxLen := by simpa [ByteArray.size] using w2
  rw [hv0, hv1] at hW' ⊢
  refine (lawEffectTouches_any x0 P0 I0 A1 k1 x1 hc1 hr1 x2).mono fun e W' ⟨he, hw⟩ => ?_
  subst he
  exact ⟨_, rfl, post_law (tB := 4) hW' rfl rfl (by kernel_rfl) Try.underlying4 effectTouches_laid (by rw [Try.params4]; decide +kernel) hw.bel⟩

theorem effectTouches_holds : Rows.EffectTouchesSaid :=
  OpenClaim.holds_of_wide 4 Try.f4 rfl rfl rfl rfl rfl rfl rfl ⟨rfl, rfl, rfl, rfl, rfl⟩ rfl rfl rfl rfl rfl (by kernel_rfl) Try.func4 (by kernel_rfl)
    (of_decide_eq_true (by kernel_rfl)) (by unfold Func.isWrapper; rw [if_neg (of_decide_eq_false (by kernel_rfl))]; exact ⟨rfl, rfl⟩)
    (fun os started H enc _ => effectTouches_lifted os started H enc)
#print axioms effectTouches_holds
end Go.Proofs.Ytodbmeklbamcfaa
