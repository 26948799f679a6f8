/- CellParts answers true. -/
import Derived.Test.YtnpgjobaibnknaaKeQ
namespace Go.Proofs.Ytnpgjobaibnknaa
open Go.RowKit Go.Rt

theorem str_le_lt {x y z : Str} (h1 : ¬ z < y) (h2 : x < y) : x < z := by
  by_cases e : y < z
  · exact str_trans h2 e
  · rw [← not_lt_both e h1]; exact h2
theorem str_snoc_lt (k : Str) : k < k ++ [0] := by
  induction k with
  | nil => exact List.Lex.nil
  | cons x k ih => exact List.Lex.cons ih
theorem inB_iff (lo hi k : Str) : inB ⟨lo, hi⟩ k = true ↔ ¬ k < lo ∧ (hi = [] ∨ k < hi) := by
  unfold inB belowB
  simp only [Bool.and_eq_true, Bool.or_eq_true, decide_eq_true_eq, Bool.not_eq_true', decide_eq_false_iff_not]
theorem parts_filter {l : List Pr} (hl : RiseP l) {lo hi k0 : Str} (hk : k0 ≠ []) (hlo : ¬ k0 < lo) (hhi : hi = [] ∨ k0 < hi) :
    (l.filter fun p => inB ⟨lo, k0⟩ p.k) ++ (l.filter fun p => inB ⟨k0, hi⟩ p.k) = l.filter fun p => inB ⟨lo, hi⟩ p.k := by
  induction l with
  | nil => rfl
  | cons x l ih =>
    by_cases hx : x.k < k0
    · have h1 : inB ⟨lo, k0⟩ x.k = inB ⟨lo, hi⟩ x.k := by
        rw [Bool.eq_iff_iff, inB_iff, inB_iff]
        refine ⟨fun h => ⟨h.1, hhi.imp id fun h2 => str_trans hx h2⟩, fun h => ⟨h.1, .inr hx⟩⟩
      have h2 : inB ⟨k0, hi⟩ x.k = false := inB_lo hx
      have h3 := ih hl.cons.2
      rw [List.filter_cons, List.filter_cons, List.filter_cons, h1, h2]
      cases inB ⟨lo, hi⟩ x.k
      · simpa using h3
      · simpa using h3
    · have hall : ∀ p ∈ x :: l, ¬ p.k < k0 := fun p hp => by
        rcases List.mem_cons.1 hp with rfl | hp
        · exact hx
        · exact fun h => hx (str_trans (hl.cons.1 p hp) h)
      have h1 : ((x :: l).filter fun p => inB ⟨lo, k0⟩ p.k) = [] := List.filter_eq_nil_iff.2 fun p hp h => by
        rcases ((inB_iff _ _ _).1 h).2 with h2 | h2
        · exact hk h2
        · exact hall p hp h2
      rw [h1, List.nil_append]
      refine List.filter_congr fun p hp => ?_
      rw [Bool.eq_iff_iff, inB_iff, inB_iff]
      exact ⟨fun h => ⟨fun h2 => hall p hp (str_le_lt hlo h2), h.2⟩, fun h => ⟨hall p hp, h.2⟩⟩
theorem scan_all {l : List Pr} (h0 : checkS l = 0) (hn : l.length ≤ 1000) (s : Sp) : scanE l s (1000 : Int).toNat = l.filter fun p => inB s p.k := by
  unfold scanE
  rw [if_pos h0]
  exact List.take_of_length_le (Nat.le_trans (List.length_filter_le _ _) hn)
theorem scan_le (l : List Pr) (s : Sp) (n : Nat) : (scanE l s n).length ≤ l.length := by
  unfold scanE
  split
  · exact Nat.le_trans (List.length_take_le' _ _) (List.length_filter_le _ _)
  · simp
theorem scan_parts {l : List Pr} (h0 : checkS l = 0) (hn : l.length ≤ 1000) {lo hi k : Str} (hk : inB ⟨lo, hi⟩ k = true) :
    scanE l (uptoS ⟨lo, hi⟩ k) (1000 : Int).toNat ++ scanE l ⟨(uptoS ⟨lo, hi⟩ k).hi, hi⟩ (1000 : Int).toNat = scanE l ⟨lo, hi⟩ (1000 : Int).toNat := by
  rw [scan_all h0 hn, scan_all h0 hn, scan_all h0 hn]
  unfold uptoS
  cases hb : belowB hi (k ++ [0]) with
  | true =>
    have h1 : hi = [] ∨ k ++ [0] < hi := by unfold belowB at hb; simpa using hb
    exact parts_filter (good_of h0).2 (by simp) (fun h => ((inB_iff _ _ _).1 hk).1 (str_trans (str_snoc_lt k) h)) h1
  | false =>
    have h1 : hi ≠ [] := by unfold belowB at hb; simp at hb; exact hb.1
    show l.filter _ ++ (l.filter fun p => inB ⟨hi, hi⟩ p.k) = l.filter _
    rw [show (l.filter fun p => inB ⟨hi, hi⟩ p.k) = [] from List.filter_eq_nil_iff.2 fun p _ h => by
      obtain ⟨h2, h3⟩ := (inB_iff _ _ _).1 h
      exact h3.elim h1 h2, List.append_nil]
    rfl
theorem scan_some {l : List Pr} (h0 : checkS l = 0) (hn : l.length ≤ 1000) (s : Sp) (n : Nat) : scanE l s n = (scanE l s (1000 : Int).toNat).take n := by
  rw [scan_all h0 hn]
  unfold scanE
  rw [if_pos h0]
theorem scan_ok {l : List Pr} (h0 : checkS l = 0) (hn : l.length ≤ 1000) {s : Sp} {p : Pr} (hp : p ∈ scanE l s (1000 : Int).toNat) : inB s p.k = true ∧ getE l p.k = (p.v, true) := by
  rw [scan_all h0 hn] at hp
  obtain ⟨h1, h2⟩ := List.mem_filter.1 hp
  exact ⟨h2, get_some h0 (mem_look (good_of h0).2 h1)⟩

def pickN (x : Int) (n : Nat) : Nat := if Int.tmod x n < 0 then (Int.tmod x n + n).toNat else (Int.tmod x n).toNat
theorem pickN_lt (x : Int) (n : Nat) (hn : 1 ≤ n) : pickN x n < n := by
  have hb1 : Int.tmod x n < n := Int.tmod_lt_of_pos x (by omega)
  have hb2 : -(n : Int) < Int.tmod x n := Int.lt_tmod_of_pos x (show (0 : Int) < n by omega)
  unfold pickN
  split <;> omega
set_option maxRecDepth 100000 in
set_option maxHeartbeats 4000000 in
theorem Pick_is (x : Int) (n : Nat) (hn : 1 ≤ n ∧ n ≤ 1000000) (w : World) :
    Calls Try.prog 21 #[.int .i64 x, .int .i64 n] w fun e w' => e = .returned (.int .i64 (pickN x n)) ∧ w' = w := by
  have e1 : decide ((n : Int) < 1) = false := by simp; omega
  have hn0 : ¬ (n : Int) = 0 := by omega
  have hb1 : Int.tmod x n < n := Int.tmod_lt_of_pos x (by omega)
  have hb2 : -(n : Int) < Int.tmod x n := Int.lt_tmod_of_pos x (show (0 : Int) < n by omega)
  have hw1 : IntKind.i64.wrap (Int.tmod x n) = Int.tmod x n := IntWalk.i64_in _ (by omega)
  have hw2 : IntKind.i64.wrap (Int.tmod x n + n) = Int.tmod x n + n := IntWalk.i64_in _ (by omega)
  by_cases h : Int.tmod x n < 0
  · have e2 : decide (Int.tmod x n < 0) = true := by simpa using h
    have e3 : (pickN x n : Int) = Int.tmod x n + n := by unfold pickN; rw [if_pos h]; exact Int.toNat_of_nonneg (by omega)
    have E3 := Lib.hid (e3)
    clear h e3
    go_enter Try.func21, Try.ntmps21
    go_wp2
    go_ret
    exact ⟨by rw [E3.out]; rfl, rfl⟩
  · have e2 : decide (Int.tmod x n < 0) = false := by simpa using h
    have e3 : (pickN x n : Int) = Int.tmod x n := by unfold pickN; rw [if_neg h]; exact Int.toNat_of_nonneg (by omega)
    have E3 := Lib.hid (e3)
    clear h e3
    go_enter Try.func21, Try.ntmps21
    go_wp2
    go_ret
    exact ⟨by rw [E3.out]; rfl, rfl⟩

set_option maxRecDepth 100000 in
set_option maxHeartbeats 16000000 in
theorem lawCellParts_any {W : World} (A : Option Addr) (c : Nat) (l : List Pr) (hA : Bsl A l.length c) (hrl : Rd W A (prC l)) (s : Sp) (k : Str) (most : Int) :
    Calls Try.prog 10 #[.slice A l.length c, .agg #[.string ⟨s.lo.toArray⟩, .string ⟨s.hi.toArray⟩], .string ⟨k.toArray⟩, .int .i64 most] W fun e w' => e = .returned (.bool true) ∧ Sat W w' [] := by
  have HLA := Lib.hid (Nat.le_trans hA.le hA.max)
  have hac := hA.le
  clear hA
  have RA : ∀ L, RdL W L A (prC l) := fun L w h => hrl.old h
  have H00 := (Sat.start W).alloc #[.string ⟨s.lo.toArray⟩, .string ⟨s.hi.toArray⟩] 54
  obtain ⟨lo, hb⟩ := s
  dsimp only at H00 ⊢
  go_enter Try.func10, Try.ntmps10
  go_wp2_with fail
  refine (cawake_any H00).mono ?_
  rintro e w0 ⟨rfl, H0⟩
  clear H00
  have HLK := Lib.hid (LongPairs_any A c l 100 (by omega) HLA.out (RA _ _ H0))
  cases hlg : longPr l 100 with
  | true =>
    rw [hlg] at HLK
    go_wp2_with fail
    refine (HLK.out).mono ?_
    rintro e _ ⟨rfl, rfl⟩
    go_wp2
    go_ret
    exact ⟨rfl, H0.tail⟩
  | false =>
  rw [hlg] at HLK
  have hna := (longPr_no hlg).1
  clear hlg
  by_cases hk : 100 < k.length
  · have hk2 : (100 : Int) < (k.length : Int) := by omega
    go_wp2_with fail
    refine (HLK.out).mono ?_
    rintro e _ ⟨rfl, rfl⟩
    go_wp2
    go_ret
    exact ⟨rfl, H0.tail⟩
  have hk2 : decide ((100 : Int) < (k.length : Int)) = false := decide_eq_false (by omega)
  have H1 := H0.alloc #[.string ⟨lo.toArray⟩, .string ⟨hb.toArray⟩] 54
  have hls := LongSpans_any (some ⟨w0.heap.size, 0, none⟩) 1 [⟨lo, hb⟩] 1 (by omega) (by unfold maxLen; simp) (RdL.pt _ H1)
  have HLS := Lib.hid (hls)
  have q0 := H0.cell 0
  have q1 := H0.cell 1
  have HC1 := Lib.hid (cChk_any A c l HLA.out (RA _) H1)
  cases hlg : longS [⟨lo, hb⟩] 1 with
  | true =>
    rw [hlg] at HLS
    go_wp2_with fail
    refine (HLK.out).mono ?_
    rintro e _ ⟨rfl, rfl⟩
    go_wp2_with fail
    refine (HLS.out).mono ?_
    rintro e _ ⟨rfl, rfl⟩
    go_wp2
    go_ret
    exact ⟨rfl, H1.tail.tail⟩
  | false =>
  rw [hlg] at HLS
  clear hlg
  by_cases h0 : checkS l ≠ 0
  · have e1 : (checkS l != 0) = true := by simpa using h0
    generalize checkS l = C at *
    clear h0
    go_wp2_with fail
    refine (HLK.out).mono ?_
    rintro e _ ⟨rfl, rfl⟩
    go_wp2_with fail
    refine (HLS.out).mono ?_
    rintro e _ ⟨rfl, rfl⟩
    go_wp2_with fail
    refine (HC1.out).mono ?_
    rintro e w2 ⟨rfl, H2⟩
    go_wp2
    go_ret
    exact ⟨rfl, H2.tail.tail⟩
  replace h0 : checkS l = 0 := Decidable.not_not.1 h0
  have hc := HC1.out
  rw [h0] at hc
  clear HC1
  have HC1 := Lib.hid (hc)
  have HIN := Lib.hid (fun w0 L (h : Sat W w0 L) => sIn_any lo hb k h)
  cases hin : inB ⟨lo, hb⟩ k with
  | false =>
    rw [hin] at HIN
    go_wp2_with fail
    refine (HLK.out).mono ?_
    rintro e _ ⟨rfl, rfl⟩
    go_wp2_with fail
    refine (HLS.out).mono ?_
    rintro e _ ⟨rfl, rfl⟩
    go_wp2_with fail
    refine (HC1.out).mono ?_
    rintro e w2 ⟨rfl, H2⟩
    clear q0 q1
    have q0 := H2.tail.cell 0
    have q1 := H2.tail.cell 1
    go_wp2_with fail
    refine (HIN.out _ _ H2).mono ?_
    rintro e w3 ⟨rfl, H3⟩
    go_wp2
    go_ret
    exact ⟨rfl, H3.tail.tail⟩
  | true =>
  rw [hin] at HIN
  go_wp2_with fail
  refine (HLK.out).mono ?_
  rintro e _ ⟨rfl, rfl⟩
  go_wp2_with fail
  refine (HLS.out).mono ?_
  rintro e _ ⟨rfl, rfl⟩
  go_wp2_with fail
  refine (HC1.out).mono ?_
  rintro e w2 ⟨rfl, H2⟩
  clear q0 q1 hc hls HLS HLK HC1 H0 H1
  have q0 := H2.tail.cell 0
  have q1 := H2.tail.cell 1
  go_wp2_with fail
  refine (HIN.out _ _ H2).mono ?_
  rintro e w3 ⟨rfl, H3⟩
  replace H3 := H3.tail
  clear q0 q1 H2 HIN
  have q0 := H3.cell 0
  have q1 := H3.cell 1
  obtain ⟨i0, hi, hz0, hz1, hz2⟩ := info_parts infoPr
  have HUP := Lib.hid (fun w0 L (h : Sat W w0 L) => ssUpto_any lo hb k (by omega) h)
  have hpt := scan_parts h0 (by omega) hin
  have hall := fun x (hx : x ∈ scanE l ⟨lo, hb⟩ (1000 : Int).toNat) => scan_ok h0 (by omega) hx
  have hsm := scan_some h0 (by omega) ⟨lo, hb⟩ ((pickN most 120 : Int)).toNat
  have hpl := pickN_lt most 120 (by omega)
  have hl1 := scan_le l ⟨lo, hb⟩ (1000 : Int).toNat
  have hl2 := scan_le l (uptoS ⟨lo, hb⟩ k) (1000 : Int).toNat
  have hl3 := scan_le l ⟨(uptoS ⟨lo, hb⟩ k).hi, hb⟩ (1000 : Int).toNat
  have hs1 := fun w0 L (h : Sat W w0 L) => cScan_any A c l ⟨lo, hb⟩ 1000 HLA.out hac (RA L) h
  have hs2 := fun w0 L (h : Sat W w0 L) => cScan_any A c l (uptoS ⟨lo, hb⟩ k) 1000 HLA.out hac (RA L) h
  have hs3 := fun w0 L (h : Sat W w0 L) => cScan_any A c l ⟨(uptoS ⟨lo, hb⟩ k).hi, hb⟩ 1000 HLA.out hac (RA L) h
  have hs4 := fun w0 L (h : Sat W w0 L) => cScan_any A c l ⟨lo, hb⟩ (pickN most 120) HLA.out hac (RA L) h
  have HPK := Lib.hid (fun w0 => (show Calls Try.prog 21 #[.int .i64 most, .int .i64 120] w0 fun e w' => e = .returned (.int .i64 (pickN most 120)) ∧ w' = w0 from Pick_is most 120 (by omega) w0))
  generalize uptoS ⟨lo, hb⟩ k = up at *
  obtain ⟨ul, uh⟩ := up
  dsimp only at *
  generalize scanE l ⟨lo, hb⟩ (1000 : Int).toNat = al at *
  generalize scanE l ⟨ul, uh⟩ (1000 : Int).toNat = one at *
  generalize scanE l ⟨uh, hb⟩ (1000 : Int).toNat = two at *
  generalize pickN most 120 = t at *
  generalize scanE l ⟨lo, hb⟩ ((t : Int)).toNat = so at *
  have hsp := fun w0 (A2 A3 : Option Addr) c2 c3 (r2 : Rd w0 A2 (prC (one ++ two))) (r3 : Rd w0 A3 (prC al)) => SamePairs_any A2 A3 c2 c3 (one ++ two) al (by rw [hpt]; unfold maxLen; omega) r2 r3
  rw [decide_eq_true hpt, List.length_append] at hsp
  have hsol : so.length = min t al.length := by rw [hsm, List.length_take, Int.toNat_natCast]
  have hss := fun w0 (A2 A3 : Option Addr) c2 c3 (r2 : Rd w0 A2 (prC so)) (r3 : Rd w0 A3 (prC al)) => SamePairs_any A2 A3 c2 c3 so so (by unfold maxLen; omega) r2 (by rw [hsm, prC_take]; exact r3.take _)
  rw [decide_eq_true (show so = so from rfl)] at hss
  have HS1 := Lib.hid (hs1)
  have HS2 := Lib.hid (hs2)
  have HS3 := Lib.hid (hs3)
  have HS4 := Lib.hid (hs4)
  have HSP := Lib.hid (hsp)
  have HSS := Lib.hid (hss)
  have HALL := Lib.hid (hall)
  have HSOL := Lib.hid (hsol)
  have HG := Lib.hid (fun w0 L x (hx : x ∈ al) (h : Sat W w0 L) => (show Calls Try.prog 44 #[.slice A l.length c, .string ⟨x.k.toArray⟩] w0 fun e w' => e = .returned (.tuple #[.string ⟨x.v.toArray⟩, .bool true]) ∧ Sat W w' L from by have := cGet_any A c l x.k HLA.out (RA L) h; rw [(HALL.out x hx).2] at this; exact this))
  have HIN := Lib.hid (fun w0 L x (hx : x ∈ al) (h : Sat W w0 L) => (show Calls Try.prog 54 #[.agg #[.string ⟨lo.toArray⟩, .string ⟨hb.toArray⟩], .string ⟨x.k.toArray⟩] w0 fun e w' => e = .returned (.bool true) ∧ Sat W w' L from by have := sIn_any lo hb x.k h; rw [(HALL.out x hx).1] at this; exact this))
  have HSB := Lib.hid ((by omega : al.length ≤ 100))
  have HS2B := Lib.hid ((by omega : one.length ≤ 100 ∧ two.length ≤ 100))
  clear hs1 hs2 hs3 hs4 hsp hss hall hsol hpt hsm hpl hl1 hl2 hl3 hin h0 hk
  go_wp2_with fail
  refine (HS1.out _ _ H3).mono ?_
  rintro e w4 ⟨A4, c4, rfl, H4⟩
  clear H3 q0 q1 HS1
  have q0 := H4.tail.cell 0
  have q1 := H4.tail.cell 1
  go_wp2_with fail
  refine (HUP.out _ _ H4).mono ?_
  rintro e w5 ⟨rfl, H5⟩
  clear H4 q0 q1 HUP
  have H6 := H5.alloc #[.string ⟨#[]⟩, .string ⟨#[]⟩] 54
  go_wp2_with (first
    | (refine wpList_store_pt rfl rfl (.tmp 11) (.tmp 48) 54 rfl w5.heap.size #[.string ⟨#[]⟩, .string ⟨#[]⟩] 54 [.string ⟨ul.toArray⟩, .string ⟨uh.toArray⟩] sp_size rfl rfl rfl (by simp [Value.oneCell']) H6 ?_
       intro w7 H7))
  clear H5 H6
  have u0 := H7.cell 0
  have u1 := H7.cell 1
  have s1 := H7.tail.tail.cell 1
  have H8 := H7.drew
  go_region_held3 (fun w' => w'.cell? ⟨w5.heap.size, 0, none⟩ = some (.string ⟨ul.toArray⟩) ∧ w'.cell? ⟨w5.heap.size, 1, none⟩ = some (.string ⟨uh.toArray⟩) ∧ w'.cell? ⟨W.heap.size, 1, none⟩ = some (.string ⟨hb.toArray⟩)) (exact ⟨‹_›, ‹_›, ‹_›⟩) (first
    | (go_at_call 47; refine (HS2.out _ _ H8).mono ?_; rintro e w9 ⟨A9, c9, rfl, H9⟩
       have v0 := H9.tail.cell 0
       have v1 := H9.tail.cell 1
       have v2 := H9.tail.tail.tail.cell 1
       clear H8)
    | (go_at_call 47; refine (HS3.out _ _ H9).mono ?_; rintro e w10 ⟨A10, c10, rfl, H10⟩
       have y0 := H10.tail.tail.cell 0
       have y1 := H10.tail.tail.cell 1
       have y2 := H10.tail.tail.tail.tail.cell 1
       clear H9))
  clear u0 u1 s1 H7 v0 v1 v2 y0 y1 y2
  go_wp2_with fail
  refine (CopyPairs_any A9 c9 one (by have := HS2B.out; omega) (RdL.tail RdL.row _ H10) H10).mono ?_
  rintro e w11 ⟨A11, c11, rfl, H11⟩
  clear H10
  go_wp2_with (first
    | (at_builtin
       refine wpList_append_sl rfl (.tmp 60) (.tmp 61) 40 rfl 64 i0 _ zPr 32 Try.underlying40 hi hz0 rfl hz1 hz2 (by simp) zPr_like _ one.length _ rfl H11 A10 two.length c10 (prC two) rfl (prC_len two) (RdL.tail RdL.row _ H11) (prC_one two) (prC_typed two) (by have := HS2B.out; unfold maxLen; omega) (by have := HS2B.out; omega) ?_
       intro A12 c12 w12 H12
       rw [← prC_append] at H12))
  clear H11
  go_wp2_with fail
  refine (HSP.out _ A12 A4 c12 c4 (RdL.row _ H12) (RdL.tail (RdL.tail (RdL.tail (RdL.tail RdL.row))) _ H12)).mono ?_
  rintro e w13 ⟨rfl, hB13⟩
  have H13 := (H12.below hB13).tail.tail.tail.tail
  clear H12 hB13 HSP
  have q0 := H13.tail.cell 0
  have q1 := H13.tail.cell 1
  have H14 := H13.drew
  go_wp2
  go_region_held3 (fun w' => w'.cell? ⟨W.heap.size, 0, none⟩ = some (.string ⟨lo.toArray⟩) ∧ w'.cell? ⟨W.heap.size, 1, none⟩ = some (.string ⟨hb.toArray⟩)) (exact ⟨‹_›, ‹_›⟩) (first
    | (go_at_call 21; refine (HPK.out _).mono ?_; rintro e _ ⟨rfl, rfl⟩)
    | (go_at_call 47; refine (HS4.out _ _ H14).mono ?_; rintro e w15 ⟨A15, c15, rfl, H15⟩
       have v0 := H15.tail.tail.cell 0
       have v1 := H15.tail.tail.cell 1
       clear H14))
  clear H13 q0 q1 v0 v1
  go_wp2
  have hsb := HSB.out
  go_loopw [15] (fun i wc => ∃ j : Nat, j ≤ al.length ∧ i = .int .i64 j ∧ Sat W wc [row 64 zPr (.slice A15 so.length c15) so.length (prC so), row 64 zPr (.slice A4 al.length c4) al.length (prC al), pt W.heap.size #[.string ⟨lo.toArray⟩, .string ⟨hb.toArray⟩] 54]) (fun i _ => al.length - (intOf i).toNat)
  case atStart => exact ⟨0, by omega, rfl, H15⟩
  case round =>
    clear H15
    obtain ⟨j, hj, rfl, H⟩ := hrel
    by_cases hlt : j < al.length
    · have hlt2 : decide (j < al.length) = true := decide_eq_true hlt
      obtain ⟨x, hx⟩ : ∃ x, al[j]? = some x := ⟨_, List.getElem?_eq_getElem (by omega)⟩
      have hmem := List.mem_of_getElem? hx
      have HGX := Lib.hid (fun w0 L (h : Sat W w0 L) => HG.out w0 L x hmem h)
      have HIX := Lib.hid (fun w0 L (h : Sat W w0 L) => HIN.out w0 L x hmem h)
      have hpc := fun w' (h : Sat W w' [row 64 zPr (.slice A15 so.length c15) so.length (prC so), row 64 zPr (.slice A4 al.length c4) al.length (prC al), pt W.heap.size #[.string ⟨lo.toArray⟩, .string ⟨hb.toArray⟩] 54]) => pr_cells (RdL.tail RdL.row _ h) j x hx
      obtain ⟨b, o, rfl, x0, x1, _⟩ := hpc _ H
      have hrd := fun w' (h : Sat W w' [row 64 zPr (.slice A15 so.length c15) so.length (prC so), row 64 zPr (.slice (some ⟨b, o, none⟩) al.length c4) al.length (prC al), pt W.heap.size #[.string ⟨lo.toArray⟩, .string ⟨hb.toArray⟩] 54]) => (show w'.cell? ⟨b, o + j * 2, none⟩ = some (.string ⟨x.k.toArray⟩) ∧ w'.cell? ⟨b, o + j * 2 + 1, none⟩ = some (.string ⟨x.v.toArray⟩) ∧ w'.cell? ⟨W.heap.size, 0, none⟩ = some (.string ⟨lo.toArray⟩) ∧ w'.cell? ⟨W.heap.size, 1, none⟩ = some (.string ⟨hb.toArray⟩) from by
        obtain ⟨b', o', e, h1, h2, _⟩ := hpc w' h
        cases e
        exact ⟨h1, h2, h.tail.tail.cell 0, h.tail.tail.cell 1⟩)
      have HRD := Lib.hid (hrd)
      clear hrd hpc hx hmem
      obtain ⟨xk, xv⟩ := x
      dsimp only at x0 x1 HGX HIX HRD
      have e5 : (xv == xv) = true := by simp
      go_wp2_with fail
      refine (HGX.out _ _ H).mono ?_
      rintro e w17 ⟨rfl, H17⟩
      clear x0 x1 H HGX
      obtain ⟨x0, x1, x2, x3⟩ := HRD.out _ H17
      obtain ⟨y0, y1, y2, y3⟩ := HRD.out _ H17.drew
      have H18 := H17.drew
      go_wp2
      go_region_held3 (fun w' => w'.cell? ⟨b, o + j * 2, none⟩ = some (.string ⟨xk.toArray⟩) ∧ w'.cell? ⟨b, o + j * 2 + 1, none⟩ = some (.string ⟨xv.toArray⟩) ∧ w'.cell? ⟨W.heap.size, 0, none⟩ = some (.string ⟨lo.toArray⟩) ∧ w'.cell? ⟨W.heap.size, 1, none⟩ = some (.string ⟨hb.toArray⟩)) (exact ⟨‹_›, ‹_›, ‹_›, ‹_›⟩) (first
        | (go_at_call 54; refine (HIX.out _ _ H18).mono ?_; rintro e w19 ⟨rfl, H19⟩
           obtain ⟨z0, z1, z2, z3⟩ := HRD.out _ H19))
      go_wp2
      exact ⟨⟨j + 1, by omega, by go_num, H19⟩, by simp [intOf]; omega⟩
    · obtain rfl : j = al.length := by omega
      clear hj hlt HG HIN HALL
      have hsol := HSOL.out
      obtain ⟨_, _, _, hv, hc4, _⟩ := H.tail.slice
      cases hv
      have hc4b : so.length ≤ c4 := by omega
      have e6 : ((so.length : Int) == min (al.length : Int) (t : Int)) = true := by rw [beq_iff_eq]; omega
      clear hsol
      go_wp2_with fail
      refine (HPK.out _).mono ?_
      rintro e _ ⟨rfl, rfl⟩
      go_wp2_with fail
      refine (HSS.out _ A15 A4 c15 c4 (RdL.row _ H) (RdL.tail RdL.row _ H)).mono ?_
      rintro e w21 ⟨rfl, hB21⟩
      have H21 := (H.below hB21).tail.tail.tail
      go_wp2
      go_ret
      exact ⟨rfl, H21⟩
end Go.Proofs.Ytnpgjobaibnknaa
