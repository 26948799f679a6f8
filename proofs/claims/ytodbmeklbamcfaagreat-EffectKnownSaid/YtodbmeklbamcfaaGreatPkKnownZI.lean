/- A pack of texts: KiH, KiI -/
import Derived.Test.YtodbmeklbamcfaaGreatPkKnownZF
import Derived.Test.YtodbmeklbamcfaaGreatPkKnownZG
import Derived.Test.YtodbmeklbamcfaaGreatPkKnownP
/- effect.Bytes: its fields' writers, its lists'. -/
namespace Go.Proofs.YtodbmeklbamcfaaGreat
open Go.RowKit Go.Rt

theorem txtE_len (s : Str) (h : s.length ≤ 64) : (txtE s).length ≤ 73 := by
  unfold txtE
  have := sevF_len 9 s.length
  rw [List.length_append]
  show (sevF 9 s.length).length + s.length ≤ 73
  omega
theorem text_written (bs : List UInt8) (s : Str) : bs ++ sev (⟨s.toArray⟩ : ByteArray).size ++ (⟨s.toArray⟩ : ByteArray).data.toList = bs ++ txtE s := by
  have h1 : (⟨s.toArray⟩ : ByteArray).size = s.length := by show s.toArray.size = _; simp
  have h2 : (⟨s.toArray⟩ : ByteArray).data.toList = s := rfl
  rw [h1, h2, txtE, List.append_assoc]
theorem wTextS_any {W w : World} {l : List SL} {p : Nat} {bs : List UInt8} {bad : Bool} (s : Str) (hn : s.length ≤ 1000000) (hb : bs.length ≤ 900000000) (H : Sat W w (wr p bs bad :: l)) :
    Calls Tryz.prog 66 #[.pointer (some ⟨p, 0, none⟩), .string ⟨s.toArray⟩] w fun e w' => e = .returned (.tuple #[]) ∧ Sat W w' (wr p (bs ++ txtE s) bad :: l) := by
  have h := wText_any ⟨s.toArray⟩ (by show s.toArray.size ≤ _; simp; omega) hb H
  rwa [text_written] at h

set_option maxRecDepth 100000 in
set_option maxHeartbeats 4000000 in
theorem efwSpan_any {W w : World} {L : List SL} {p : Nat} {bs : List UInt8} (s : Sp) (h1 : s.lo.length ≤ 64) (h2 : s.hi.length ≤ 64) (hb : bs.length ≤ 800000000) (H : Sat W w (wr p bs false :: L)) :
    Calls Tryz.prog 68 #[.agg #[.pointer (some ⟨p, 0, none⟩)], .agg #[.string ⟨s.lo.toArray⟩, .string ⟨s.hi.toArray⟩]] w fun e w' => e = .returned (.tuple #[]) ∧ Sat W w' (wr p (bs ++ spE s) false :: L) := by
  obtain ⟨lo, hi⟩ := s
  dsimp only at h1 h2
  have e : bs ++ spE ⟨lo, hi⟩ = (bs ++ txtE lo) ++ txtE hi := by rw [List.append_assoc]; rfl
  rw [e]
  have hl := txtE_len lo h1
  have H1 := H.alloc #[.pointer (some ⟨p, 0, none⟩)] 91
  have H2 := H1.alloc #[.string ⟨lo.toArray⟩, .string ⟨hi.toArray⟩] 74
  rw [World.size_alloc] at H2
  have c0 := H2.cell 0
  have d0 := H2.swap.cell 0
  have HT1 := Lib.hid (wTextS_any (bad := false) lo (by omega) (by omega) (H2.pull 2))
  go_enter Tryz.func68, Tryz.ntmps68
  go_wp2_with fail
  refine (HT1.out).mono ?_
  rintro e w3 ⟨rfl, H3⟩
  have c1 := (H3.pull 1).cell 1
  have d1 := (H3.pull 2).cell 0
  have HT2 := Lib.hid (wTextS_any (bad := false) hi (by omega) (by rw [List.length_append]; omega) H3)
  go_wp2_with fail
  refine (HT2.out).mono ?_
  rintro e w4 ⟨rfl, H4⟩
  go_wp2
  go_end0
  exact ⟨rfl, (H4.swap.tail).swap.tail⟩

set_option maxRecDepth 100000 in
set_option maxHeartbeats 4000000 in
theorem efwWrite_any {W w : World} {L : List SL} {p : Nat} {bs : List UInt8} (x : Wt) (h1 : x.k.length ≤ 64) (h2 : x.v.length ≤ 64) (hb : bs.length ≤ 800000000) (H : Sat W w (wr p bs false :: L)) :
    Calls Tryz.prog 70 #[.agg #[.pointer (some ⟨p, 0, none⟩)], .agg #[.string ⟨x.k.toArray⟩, .string ⟨x.v.toArray⟩, .bool x.d]] w fun e w' => e = .returned (.tuple #[]) ∧ Sat W w' (wr p (bs ++ wtE x) false :: L) := by
  obtain ⟨k, v, d⟩ := x
  dsimp only at h1 h2
  have hl := txtE_len k h1
  have H1 := H.alloc #[.pointer (some ⟨p, 0, none⟩)] 91
  have H2 := H1.alloc #[.string ⟨k.toArray⟩, .string ⟨v.toArray⟩, .bool d] 65
  rw [World.size_alloc] at H2
  have c0 := H2.cell 0
  have d0 := H2.swap.cell 0
  have HT1 := Lib.hid (wTextS_any (bad := false) k (by omega) (by omega) (H2.pull 2))
  have hs := fun n => sevF_len 9 n
  cases d with
  | true =>
    have e : bs ++ wtE ⟨k, v, true⟩ = (bs ++ txtE k) ++ sev 1 := by rw [List.append_assoc]; rfl
    rw [e]
    go_enter Tryz.func70, Tryz.ntmps70
    go_wp2_with fail
    refine (HT1.out).mono ?_
    rintro e w3 ⟨rfl, H3⟩
    have c2 := (H3.pull 1).cell 2
    have d1 := (H3.pull 2).cell 0
    have HT2 := Lib.hid (wInt_any (bad := false) 1 (by omega) (by rw [List.length_append]; omega) H3)
    go_wp2_with fail
    refine (HT2.out).mono ?_
    rintro e w4 ⟨rfl, H4⟩
    go_wp2
    (try simp only [Exit.inBlock, Exit.then]); refine bodyPost_ret (results_none rfl _ _ _) rfl ?_
    exact ⟨rfl, (H4.swap.tail).swap.tail⟩
  | false =>
    have e : bs ++ wtE ⟨k, v, false⟩ = ((bs ++ txtE k) ++ sev 0) ++ txtE v := by rw [List.append_assoc, List.append_assoc]; rfl
    rw [e]
    go_enter Tryz.func70, Tryz.ntmps70
    go_wp2_with fail
    refine (HT1.out).mono ?_
    rintro e w3 ⟨rfl, H3⟩
    have c2 := (H3.pull 1).cell 2
    have d1 := (H3.pull 2).cell 0
    have HT2 := Lib.hid (wInt_any (bad := false) 0 (by omega) (by rw [List.length_append]; omega) H3)
    go_wp2_with fail
    refine (HT2.out).mono ?_
    rintro e w4 ⟨rfl, H4⟩
    have c3 := (H4.pull 1).cell 1
    have d2 := (H4.pull 2).cell 0
    have hl0 : (sev 0).length ≤ 9 := hs 0
    have HT3 := Lib.hid (wTextS_any (bad := false) v (by omega) (by rw [List.length_append, List.length_append]; omega) H4)
    go_wp2_with fail
    refine (HT3.out).mono ?_
    rintro e w5 ⟨rfl, H5⟩
    go_wp2
    go_end0
    exact ⟨rfl, (H5.swap.tail).swap.tail⟩

theorem spE_len (s : Sp) (h1 : s.lo.length ≤ 64) (h2 : s.hi.length ≤ 64) : (spE s).length ≤ 150 := by
  have := txtE_len _ h1
  have := txtE_len _ h2
  unfold spE; rw [List.length_append]; omega
theorem wtE_len (s : Wt) (h1 : s.k.length ≤ 64) (h2 : s.v.length ≤ 64) : (wtE s).length ≤ 160 := by
  have := txtE_len _ h1
  have := txtE_len _ h2
  have h3 : ∀ n, (sev n).length ≤ 9 := fun n => sevF_len 9 n
  have := h3 0
  have := h3 1
  unfold wtE; rw [List.length_append]
  split
  · omega
  · rw [List.length_append]; omega
theorem flat_take {α : Type} (f : α → List UInt8) (l : List α) (j : Nat) (x : α) (h : l[j]? = some x) : (l.take (j + 1)).flatMap f = (l.take j).flatMap f ++ f x := by
  rw [List.take_add_one, h, List.flatMap_append]; simp
theorem flat_le {α : Type} (f : α → List UInt8) (m : Nat) : ∀ (l : List α), (∀ x ∈ l, (f x).length ≤ m) → (l.flatMap f).length ≤ l.length * m
  | [], _ => by simp
  | x :: l, h => by
    have h1 := h x (by simp)
    have h2 := flat_le f m l fun y hy => h y (by simp [hy])
    rw [List.flatMap_cons, List.length_append, List.length_cons, Nat.succ_mul]; omega

set_option maxRecDepth 100000 in
set_option maxHeartbeats 4000000 in
theorem efputT_any {W w : World} {L : List SL} {p : Nat} {bs : List UInt8} (A : Option Addr) (c : Nat) (l : List Str) (hl : l.length ≤ 60) (h1 : ∀ x ∈ l, x.length ≤ 64) (hb : bs.length ≤ 100000000) (hr : RdL W L A (tsC l)) (H : Sat W w (wr p bs false :: L)) :
    Calls Tryz.prog 65 #[.agg #[.pointer (some ⟨p, 0, none⟩)], .slice A l.length c, .func (.func 66) #[.pointer (some ⟨p, 0, none⟩)] #[]] w fun e w' => e = .returned (.tuple #[]) ∧ Sat W w' (wr p (bs ++ (sev l.length ++ l.flatMap txtE)) false :: L) := by
  have hacc : ∀ j, (bs ++ (sev l.length ++ (l.take j).flatMap txtE)).length ≤ 800000000 := fun j => by
    have h9 : (sev l.length).length ≤ 9 := sevF_len 9 _
    have h8 := flat_le txtE 160 (l.take j) (fun x hx => Nat.le_trans (txtE_len _ (h1 _ (List.mem_of_mem_take hx))) (by omega))
    rw [List.length_take] at h8
    rw [List.length_append, List.length_append]
    have : min j l.length * 160 ≤ 60 * 160 := Nat.mul_le_mul_right _ (by omega)
    omega
  have HACC := Lib.hid (hacc)
  have H1 := H.alloc #[.pointer (some ⟨p, 0, none⟩)] 91
  have c0 := H1.cell 0
  have HI := Lib.hid (wInt_any (bad := false) l.length (by omega) (by omega) H1.swap)
  clear hacc
  go_enter Tryz.func65, Tryz.ntmps65
  go_wp2_with fail
  refine (HI.out).mono ?_
  rintro e w3 ⟨rfl, H3⟩
  clear c0 H1 H
  go_wp2
  go_loopw [15] (fun i wc => ∃ j : Nat, j ≤ l.length ∧ i = .int .i64 j ∧ Sat W wc (wr p (bs ++ (sev l.length ++ (l.take j).flatMap txtE)) false :: pt w.heap.size #[.pointer (some ⟨p, 0, none⟩)] 91 :: L)) (fun i _ => l.length - (intOf i).toNat)
  case atStart => exact ⟨0, by omega, rfl, by simpa using H3⟩
  case round =>
    clear H3
    obtain ⟨j, hj, rfl, H⟩ := hrel
    by_cases hlt : j < l.length
    · obtain ⟨x, hx⟩ : ∃ x, l[j]? = some x := ⟨_, List.getElem?_eq_getElem (by omega)⟩
      have hm := List.mem_of_getElem? hx
      have hjl := HACC.out j
      have hst := flat_take txtE l j x hx
      obtain ⟨b, o, rfl, c1⟩ := ts_at (hr _ H.tail.tail) j x hx
      have HT := Lib.hid (wTextS_any (bad := false) x (by have := h1 x hm; omega) (by omega) H)
      have HST := Lib.hid (hst)
      clear hx hm hjl hst hr
      go_wp2_with fail
      refine (HT.out).mono ?_
      rintro e w5 ⟨rfl, H5⟩
      go_wp2
      refine ⟨⟨j + 1, by omega, by go_num, ?_⟩, by simp [intOf]; omega⟩
      rw [HST.out, ← List.append_assoc (sev _), ← List.append_assoc bs]
      exact H5
    · obtain rfl : j = l.length := by omega
      rw [List.take_length] at H
      go_wp2
      go_end0
      exact ⟨rfl, H.swap.tail⟩

set_option maxRecDepth 100000 in
set_option maxHeartbeats 4000000 in
theorem efputS_any {W w : World} {L : List SL} {p : Nat} {bs : List UInt8} (A : Option Addr) (c : Nat) (l : List Sp) (hl : l.length ≤ 60) (h1 : ∀ x ∈ l, x.lo.length ≤ 64 ∧ x.hi.length ≤ 64) (hb : bs.length ≤ 100000000) (hr : RdL W L A (spC l)) (H : Sat W w (wr p bs false :: L)) :
    Calls Tryz.prog 67 #[.agg #[.pointer (some ⟨p, 0, none⟩)], .slice A l.length c, .func (.func 68) #[.agg #[.pointer (some ⟨p, 0, none⟩)]] #[]] w fun e w' => e = .returned (.tuple #[]) ∧ Sat W w' (wr p (bs ++ (sev l.length ++ l.flatMap spE)) false :: L) := by
  have hacc : ∀ j, (bs ++ (sev l.length ++ (l.take j).flatMap spE)).length ≤ 800000000 := fun j => by
    have h9 : (sev l.length).length ≤ 9 := sevF_len 9 _
    have h8 := flat_le spE 160 (l.take j) (fun x hx => Nat.le_trans (spE_len _ (h1 _ (List.mem_of_mem_take hx)).1 (h1 _ (List.mem_of_mem_take hx)).2) (by omega))
    rw [List.length_take] at h8
    rw [List.length_append, List.length_append]
    have : min j l.length * 160 ≤ 60 * 160 := Nat.mul_le_mul_right _ (by omega)
    omega
  have HACC := Lib.hid (hacc)
  have H1 := H.alloc #[.pointer (some ⟨p, 0, none⟩)] 91
  have c0 := H1.cell 0
  have HI := Lib.hid (wInt_any (bad := false) l.length (by omega) (by omega) H1.swap)
  clear hacc
  go_enter Tryz.func67, Tryz.ntmps67
  go_wp2_with fail
  refine (HI.out).mono ?_
  rintro e w3 ⟨rfl, H3⟩
  clear c0 H1 H
  go_wp2
  go_loopw [15] (fun i wc => ∃ j : Nat, j ≤ l.length ∧ i = .int .i64 j ∧ Sat W wc (wr p (bs ++ (sev l.length ++ (l.take j).flatMap spE)) false :: pt w.heap.size #[.pointer (some ⟨p, 0, none⟩)] 91 :: L)) (fun i _ => l.length - (intOf i).toNat)
  case atStart => exact ⟨0, by omega, rfl, by simpa using H3⟩
  case round =>
    clear H3
    obtain ⟨j, hj, rfl, H⟩ := hrel
    by_cases hlt : j < l.length
    · obtain ⟨x, hx⟩ : ∃ x, l[j]? = some x := ⟨_, List.getElem?_eq_getElem (by omega)⟩
      have hm := List.mem_of_getElem? hx
      have hjl := HACC.out j
      have hst := flat_take spE l j x hx
      obtain ⟨b, o, rfl, c1, c2, _⟩ := sp_cells (hr _ H.tail.tail) j x hx
      obtain ⟨h2, h3⟩ := h1 x hm
      have H4 := (H.alloc #[.string ⟨x.lo.toArray⟩, .string ⟨x.hi.toArray⟩] 74)
      have e0 := H4.cell 0
      have e1 := H4.cell 1
      have HT := Lib.hid (efwSpan_any x h2 h3 (by omega) H4.swap)
      have HST := Lib.hid (hst)
      obtain ⟨lo, hi'⟩ := x
      dsimp only at c1 c2 e0 e1 HT h2 h3
      clear hx hm hjl hst hr
      go_wp2_with fail
      refine (HT.out).mono ?_
      rintro e w5 ⟨rfl, H5⟩
      go_wp2
      refine ⟨⟨j + 1, by omega, by go_num, ?_⟩, by simp [intOf]; omega⟩
      rw [HST.out, ← List.append_assoc (sev _), ← List.append_assoc bs]
      exact H5.swap.tail
    · obtain rfl : j = l.length := by omega
      rw [List.take_length] at H
      go_wp2
      go_end0
      exact ⟨rfl, H.swap.tail⟩

set_option maxRecDepth 100000 in
set_option maxHeartbeats 4000000 in
theorem efputW_any {W w : World} {L : List SL} {p : Nat} {bs : List UInt8} (A : Option Addr) (c : Nat) (l : List Wt) (hl : l.length ≤ 60) (h1 : ∀ x ∈ l, x.k.length ≤ 64 ∧ x.v.length ≤ 64) (hb : bs.length ≤ 100000000) (hr : RdL W L A (wtC l)) (H : Sat W w (wr p bs false :: L)) :
    Calls Tryz.prog 69 #[.agg #[.pointer (some ⟨p, 0, none⟩)], .slice A l.length c, .func (.func 70) #[.agg #[.pointer (some ⟨p, 0, none⟩)]] #[]] w fun e w' => e = .returned (.tuple #[]) ∧ Sat W w' (wr p (bs ++ (sev l.length ++ l.flatMap wtE)) false :: L) := by
  have hacc : ∀ j, (bs ++ (sev l.length ++ (l.take j).flatMap wtE)).length ≤ 800000000 := fun j => by
    have h9 : (sev l.length).length ≤ 9 := sevF_len 9 _
    have h8 := flat_le wtE 160 (l.take j) (fun x hx => Nat.le_trans (wtE_len _ (h1 _ (List.mem_of_mem_take hx)).1 (h1 _ (List.mem_of_mem_take hx)).2) (by omega))
    rw [List.length_take] at h8
    rw [List.length_append, List.length_append]
    have : min j l.length * 160 ≤ 60 * 160 := Nat.mul_le_mul_right _ (by omega)
    omega
  have HACC := Lib.hid (hacc)
  have H1 := H.alloc #[.pointer (some ⟨p, 0, none⟩)] 91
  have c0 := H1.cell 0
  have HI := Lib.hid (wInt_any (bad := false) l.length (by omega) (by omega) H1.swap)
  clear hacc
  go_enter Tryz.func69, Tryz.ntmps69
  go_wp2_with fail
  refine (HI.out).mono ?_
  rintro e w3 ⟨rfl, H3⟩
  clear c0 H1 H
  go_wp2
  go_loopw [15] (fun i wc => ∃ j : Nat, j ≤ l.length ∧ i = .int .i64 j ∧ Sat W wc (wr p (bs ++ (sev l.length ++ (l.take j).flatMap wtE)) false :: pt w.heap.size #[.pointer (some ⟨p, 0, none⟩)] 91 :: L)) (fun i _ => l.length - (intOf i).toNat)
  case atStart => exact ⟨0, by omega, rfl, by simpa using H3⟩
  case round =>
    clear H3
    obtain ⟨j, hj, rfl, H⟩ := hrel
    by_cases hlt : j < l.length
    · obtain ⟨x, hx⟩ : ∃ x, l[j]? = some x := ⟨_, List.getElem?_eq_getElem (by omega)⟩
      have hm := List.mem_of_getElem? hx
      have hjl := HACC.out j
      have hst := flat_take wtE l j x hx
      obtain ⟨b, o, rfl, c1, c2, c3, _⟩ := wt_cells (hr _ H.tail.tail) j x hx
      obtain ⟨h2, h3⟩ := h1 x hm
      have H4 := (H.alloc #[.string ⟨x.k.toArray⟩, .string ⟨x.v.toArray⟩, .bool x.d] 65)
      have e0 := H4.cell 0
      have e1 := H4.cell 1
      have e2 := H4.cell 2
      have HT := Lib.hid (efwWrite_any x h2 h3 (by omega) H4.swap)
      have HST := Lib.hid (hst)
      obtain ⟨k, v, d⟩ := x
      dsimp only at c1 c2 c3 e0 e1 e2 HT h2 h3
      clear hx hm hjl hst hr
      go_wp2_with fail
      refine (HT.out).mono ?_
      rintro e w5 ⟨rfl, H5⟩
      go_wp2
      refine ⟨⟨j + 1, by omega, by go_num, ?_⟩, by simp [intOf]; omega⟩
      rw [HST.out, ← List.append_assoc (sev _), ← List.append_assoc bs]
      exact H5.swap.tail
    · obtain rfl : j = l.length := by omega
      rw [List.take_length] at H
      go_wp2
      go_end0
      exact ⟨rfl, H.swap.tail⟩
end Go.Proofs.YtodbmeklbamcfaaGreat

/- effect.Bytes. -/
namespace Go.Proofs.YtodbmeklbamcfaaGreat
open Go.RowKit Go.Rt

theorem keyB_len' {k : Str} (h : keyB k = true) : 1 ≤ k.length ∧ k.length ≤ 32 := by unfold keyB at h; simpa using h
theorem mayW_iff' (w : Wt) : mayW w = true ↔ keyB w.k = true ∧ w.v.length ≤ 64 ∧ (w.d = true → w.v = []) := by
  unfold mayW
  cases w.d <;> simp [and_assoc]
/-- What an effect that may be is made of. -/
theorem fine_parts {x : Ef} (h : checkX x = 0) : x.rs.length ≤ 60 ∧ x.ss.length ≤ 60 ∧ x.ws.length ≤ 60 ∧ (0 ≤ x.why ∧ x.why ≤ 3) ∧ (0 ≤ x.steps ∧ x.steps ≤ 200) ∧ (∀ t ∈ x.rs, t.length ≤ 64) ∧ (∀ s ∈ x.ss, s.lo.length ≤ 64 ∧ s.hi.length ≤ 64) ∧ ∀ w ∈ x.ws, w.k.length ≤ 64 ∧ w.v.length ≤ 64 := by
  unfold checkX at h
  split at h
  · omega
  · rename_i hl
    split at h
    · rename_i hf
      unfold fineX spansB at hf
      simp only [Bool.and_eq_true, decide_eq_true_eq, List.all_eq_true] at hf
      obtain ⟨h1, h2, _, _, ⟨_, h3⟩, h4, h5, _⟩ := hf
      refine ⟨by omega, by omega, by omega, h1, h2, fun t ht => ?_, h3, fun w hw => ?_⟩
      · have := (keyB_len' (h4 t ht)).2; omega
      · have := (mayW_iff' w).1 (h5 w hw)
        have := (keyB_len' this.1).2
        omega
    · omega
theorem checkX_cases (x : Ef) : checkX x = 0 ∨ checkX x = 2 ∨ checkX x = 3 := by
  unfold checkX
  split
  · simp
  · split <;> simp

set_option maxRecDepth 100000 in
set_option maxHeartbeats 16000000 in
theorem efBytes_any {W w : World} {L : List SL} (x : Ef) (p : EfAt) (hx : EfOk x) (hr : EfRd W L x p) (H : Sat W w L) :
    Calls Tryz.prog 16 #[x.v p] w fun e w' => ∃ A' c', e = .returned (.tuple #[.slice A' (bytesE x).1.length c', .int .i64 (bytesE x).2]) ∧ Sat W w' (row 5 zB (.slice A' (bytesE x).1.length c') (bytesE x).1.length ((bytesE x).1.map B) :: L) := by
  have hck : ∀ (w0 : World) (L0 : List SL), EfRd W L0 x p → Sat W w0 L0 → Calls Tryz.prog 27 #[x.v p] w0 fun e w' => e = .returned (.int .i64 (checkX x)) ∧ Sat W w' L0 := fun w0 L0 h1 h2 => efChk_any x p hx h1 h2
  have hbe : bytesE x = if checkX x = 0 then (bytesX x, 0) else ([], checkX x) := rfl
  have hpa := fun h => fine_parts (x := x) h
  have hcs := checkX_cases x
  have hbx : bytesX x = sev x.why.toNat ++ (sev x.steps.toNat ++ (sev x.rs.length ++ (x.rs.flatMap txtE ++ (sev x.ss.length ++ (x.ss.flatMap spE ++ (sev x.ws.length ++ x.ws.flatMap wtE)))))) := rfl
  have hv : x.v p = .agg (x.cs p).toArray := rfl
  generalize bytesE x = be at *
  generalize bytesX x = bx at *
  generalize checkX x = ck at *
  have r1 := hr.r
  have r2 := hr.r'
  have r3 := hr.r''
  have hrd := fun (B : SL) => hr.tail (B := B)
  obtain ⟨why, steps, rs, ss, ws⟩ := x
  obtain ⟨A, c, A', c', A'', c''⟩ := p
  dsimp only [Ef.cs] at r1 r2 r3 hv hpa hbx
  rw [hv] at hck ⊢
  have H1 := H.alloc #[.int .i64 why, .int .i64 steps, .slice A rs.length c, .slice A' ss.length c', .slice A'' ws.length c''] 26
  have i0 := H1.cell 0
  have i1 := H1.cell 1
  have i2 := H1.cell 2
  have i3 := H1.cell 3
  have i4 := H1.cell 4
  have HCK := Lib.hid (hck _ _ (hrd _) H1)
  clear hck hrd hv hr hx H
  by_cases h0 : ck = 0
  · subst h0
    rw [if_pos rfl] at hbe
    subst hbe
    obtain ⟨l1, l2, l3, ⟨q1, q2⟩, ⟨q3, q4⟩, t1, t2, t3⟩ := hpa rfl
    obtain ⟨wn, rfl⟩ : ∃ n : Nat, why = n := ⟨why.toNat, by omega⟩
    obtain ⟨sn, rfl⟩ : ∃ n : Nat, steps = n := ⟨steps.toNat, by omega⟩
    have hse : ∀ n, (sev n).length ≤ 9 := fun n => sevF_len 9 n
    have f1 := flat_le txtE 160 rs (fun t h => Nat.le_trans (txtE_len t (t1 t h)) (by omega))
    have f2 := flat_le spE 160 ss (fun t h => Nat.le_trans (spE_len t (t2 t h).1 (t2 t h).2) (by omega))
    have f3 := flat_le wtE 160 ws (fun t h => Nat.le_trans (wtE_len t (t3 t h).1 (t3 t h).2) (by omega))
    have g1 : rs.length * 160 ≤ 60 * 160 := Nat.mul_le_mul_right _ l1
    have g2 : ss.length * 160 ≤ 60 * 160 := Nat.mul_le_mul_right _ l2
    have g3 : ws.length * 160 ≤ 60 * 160 := Nat.mul_le_mul_right _ l3
    have la : ∀ a b : List UInt8, (a ++ b).length = a.length + b.length := fun _ _ => List.length_append
    have hb1 : ((([] : List UInt8) ++ sev wn) ++ sev sn).length ≤ 1000 := by have := hse wn; have := hse sn; simp only [List.length_append, List.nil_append]; omega
    have hb2 : (((([] : List UInt8) ++ sev wn) ++ sev sn) ++ (sev rs.length ++ rs.flatMap txtE)).length ≤ 20000 := by have := hse rs.length; rw [la _ (sev rs.length ++ rs.flatMap txtE), la (sev rs.length)]; omega
    have hb3 : ((((([] : List UInt8) ++ sev wn) ++ sev sn) ++ (sev rs.length ++ rs.flatMap txtE)) ++ (sev ss.length ++ ss.flatMap spE)).length ≤ 40000 := by have := hse ss.length; rw [la _ (sev ss.length ++ ss.flatMap spE), la (sev ss.length)]; omega
    have hb4 : (((((([] : List UInt8) ++ sev wn) ++ sev sn) ++ (sev rs.length ++ rs.flatMap txtE)) ++ (sev ss.length ++ ss.flatMap spE)) ++ (sev ws.length ++ ws.flatMap wtE)).length ≤ 60000 := by have := hse ws.length; rw [la _ (sev ws.length ++ ws.flatMap wtE), la (sev ws.length)]; omega
    have hbb : bx = ((((([] : List UInt8) ++ sev wn) ++ sev sn) ++ (sev rs.length ++ rs.flatMap txtE)) ++ (sev ss.length ++ ss.flatMap spE)) ++ (sev ws.length ++ ws.flatMap wtE) := by rw [hbx]; simp
    rw [← hbb] at hb4
    have HBB := Lib.hid (hbb)
    have HT1 := Lib.hid (fun t (h : t ∈ rs) => t1 t h)
    clear hbx hbb hcs hpa f1 f2 f3 g1 g2 g3
    go_enter Tryz.func16, Tryz.ntmps16
    go_wp2_with fail
    refine (HCK.out).mono ?_
    rintro e w2 ⟨rfl, H2⟩
    have H3 := H2
    have HN := Lib.hid (new_any H3)
    clear i0 i1 i2 i3 i4 HCK
    go_wp2_with fail
    refine (HN.out).mono ?_
    rintro e w3 ⟨rfl, H4⟩
    have H5 := H4.alloc #[.pointer (some ⟨w2.heap.size, 0, none⟩)] 91
    have d0 := H5.cell 0
    have i0 := (H5.pull 2).cell 0
    have HI1 := Lib.hid (wInt_any (bad := false) wn (by omega) (by simp) H5.swap)
    go_wp2_with fail
    refine (HI1.out).mono ?_
    rintro e w4 ⟨rfl, H6⟩
    clear d0 i0 HI1 HN
    have d0 := (H6.pull 1).cell 0
    have i0 := (H6.pull 2).cell 1
    have HI2 := Lib.hid (wInt_any (bad := false) sn (by omega) (by have := hse wn; simp only [List.nil_append]; omega) H6)
    go_wp2_with fail
    refine (HI2.out).mono ?_
    rintro e w5 ⟨rfl, H7⟩
    clear d0 i0 HI2
    have d0 := (H7.pull 1).cell 0
    have i0 := (H7.pull 2).cell 2
    have HI3 := Lib.hid (efputT_any A c rs l1 t1 (by omega) r1.tail.tail H7)
    go_wp2_with fail
    refine (HI3.out).mono ?_
    rintro e w6 ⟨rfl, H8⟩
    clear d0 i0 HI3
    have d0 := (H8.pull 1).cell 0
    have i0 := (H8.pull 2).cell 3
    have HI4 := Lib.hid (efputS_any A' c' ss l2 t2 (by omega) r2.tail.tail H8)
    go_wp2_with fail
    refine (HI4.out).mono ?_
    rintro e w7 ⟨rfl, H9⟩
    clear d0 i0 HI4
    have d0 := (H9.pull 1).cell 0
    have i0 := (H9.pull 2).cell 4
    have HI5 := Lib.hid (efputW_any A'' c'' ws l3 t3 (by omega) r3.tail.tail H9)
    go_wp2_with fail
    refine (HI5.out).mono ?_
    rintro e w8 ⟨rfl, H10⟩
    clear d0 i0 HI5
    rw [← HBB.out] at H10
    have d0 := (H10.pull 1).cell 0
    have HI6 := Lib.hid (wOut_any (by omega) H10)
    go_wp2_with fail
    refine (HI6.out).mono ?_
    rintro e w9 ⟨A9, c9, rfl, H11⟩
    go_wp2
    go_ret2
    exact ⟨A9, c9, rfl, ((H11.swap.tail).swap.tail).swap.tail⟩
  · rw [if_neg h0] at hbe
    subst hbe
    have e1 : (ck != 0) = true := bne_iff_ne.2 h0
    have HE := Lib.hid (e1)
    clear h0 hpa hcs hbx r1 r2 r3
    go_enter Tryz.func16, Tryz.ntmps16
    go_wp2_with fail
    refine (HCK.out).mono ?_
    rintro e w2 ⟨rfl, H2⟩
    go_wp2
    go_ret2
    exact ⟨none, 0, rfl, (H2.tail).nil _ _⟩
end Go.Proofs.YtodbmeklbamcfaaGreat
