/- CellAsks answers true. -/
import Derived.Test.YtnpgjobaibnknaaKeQ
namespace Go.Proofs.Ytnpgjobaibnknaa
open Go.RowKit Go.Rt

theorem scan_len (l : List Pr) (s : Sp) (n : Nat) : (scanE l s n).length ≤ l.length := by
  unfold scanE
  split
  · exact Nat.le_trans (List.length_take_le' _ _) (List.length_filter_le _ _)
  · simp
set_option maxRecDepth 100000 in
set_option maxHeartbeats 16000000 in
theorem lawCellAsks_any {W : World} (A : Option Addr) (c : Nat) (l : List Pr) (hA : Bsl A l.length c) (hrl : Rd W A (prC l)) (k : Str) (s : Sp) (most : Int) :
    Calls Try.prog 9 #[.slice A l.length c, .string ⟨k.toArray⟩, .agg #[.string ⟨s.lo.toArray⟩, .string ⟨s.hi.toArray⟩], .int .i64 most] W fun e w' => e = .returned (.bool true) ∧ Sat W w' [] := by
  have HLA := Lib.hid (Nat.le_trans hA.le hA.max)
  clear hA
  have H00 := (Sat.start W).alloc #[.string ⟨s.lo.toArray⟩, .string ⟨s.hi.toArray⟩] 54
  obtain ⟨lo, hi⟩ := s
  dsimp only at H00 ⊢
  have HLK := Lib.hid (LongPairs_any A c l 100 (by omega) HLA.out (hrl.old H00))
  have H01 := H00.alloc #[.string ⟨lo.toArray⟩, .string ⟨hi.toArray⟩] 54
  try simp only [World.size_alloc] at H01
  have hls := LongSpans_any (some ⟨W.heap.size + 1, 0, none⟩) 1 [⟨lo, hi⟩] 1 (by omega) (by unfold maxLen; simp) (RdL.pt _ H01)
  have HLS := Lib.hid (hls)
  have q0 := H00.cell 0
  have q1 := H00.cell 1
  go_enter Try.func9, Try.ntmps9
  cases hb : longPr l 100 with
  | true =>
    rw [hb] at HLK
    go_wp2_with fail
    refine (HLK.out).mono ?_
    rintro e _ ⟨rfl, rfl⟩
    go_wp2
    go_ret
    exact ⟨rfl, H00.tail⟩
  | false =>
  rw [hb] at HLK
  have hna := (longPr_no hb).1
  clear hb
  by_cases hk : 100 < k.length
  · have hk2 : (100 : Int) < (k.length : Int) := by omega
    go_wp2_with fail
    refine (HLK.out).mono ?_
    rintro e _ ⟨rfl, rfl⟩
    go_wp2
    go_ret
    exact ⟨rfl, H00.tail⟩
  have hk2 : decide ((100 : Int) < (k.length : Int)) = false := decide_eq_false (by omega)
  cases hb : longS [⟨lo, hi⟩] 1 with
  | true =>
    rw [hb] at HLS
    go_wp2_with fail
    refine (HLK.out).mono ?_
    rintro e _ ⟨rfl, rfl⟩
    go_wp2_with fail
    refine (HLS.out).mono ?_
    rintro e _ ⟨rfl, rfl⟩
    go_wp2
    go_ret
    exact ⟨rfl, H01.tail.tail⟩
  | false =>
  rw [hb] at HLS
  clear hb
  go_wp2_with fail
  refine (HLK.out).mono ?_
  rintro e _ ⟨rfl, rfl⟩
  go_wp2_with fail
  refine (HLS.out).mono ?_
  rintro e _ ⟨rfl, rfl⟩
  clear HLK HLS hls q0 q1 H00
  have H0 := H01.tail
  clear H01
  have RL : ∀ L, RdL W L A (prC l) := fun L w h => hrl.old h
  go_wp2_with fail
  refine (CopyPairs_any A c l (by omega) (RL _ _ H0) H0).mono ?_
  rintro e w1 ⟨A1, c1, rfl, H1⟩
  clear H0
  obtain ⟨_, _, _, hv, hc1, _⟩ := H1.slice
  cases hv
  generalize hge : getE l k = ge
  have hg1 := fun w0 L (r : RdL W L A1 (prC l)) (h : Sat W w0 L) => cGet_any A1 c1 l k HLA.out r h
  have hg2 := fun w0 L (h : Sat W w0 L) => qGet_any A c l k HLA.out (RL L) h
  rw [hge] at hg1 hg2
  generalize hse : scanE l ⟨lo, hi⟩ most.toNat = se
  have hs1 := fun w0 L (r : RdL W L A1 (prC l)) (h : Sat W w0 L) => cScan_any A1 c1 l ⟨lo, hi⟩ most HLA.out hc1 r h
  have hs2 := fun w0 L (h : Sat W w0 L) => qScan_any A c l ⟨lo, hi⟩ most HLA.out (RL L) h
  rw [hse] at hs1 hs2
  have hsl := scan_len l ⟨lo, hi⟩ most.toNat
  rw [hse] at hsl
  generalize hck : checkS l = ck
  have hc3 := fun w0 L (h : Sat W w0 L) => cChk_any A c l HLA.out (RL L) h
  have hc4 := fun w0 L (h : Sat W w0 L) => qChk_any A c l HLA.out (RL L) h
  rw [hck] at hc3 hc4
  generalize hkb : keyB k = kb
  have HG1 := Lib.hid (hg1)
  have HG2 := Lib.hid (hg2)
  have HS1 := Lib.hid (hs1)
  have HS2 := Lib.hid (hs2)
  have HC3 := Lib.hid (hc3)
  have HC4 := Lib.hid (hc4)
  have HK1 := Lib.hid (fun w0 => cKey_is k kb hkb w0)
  have HK2 := Lib.hid (fun w0 => qKey_is k kb hkb w0)
  have hx := fun w0 L (r : Rd w0 A1 (prC l)) (h : Sat W w0 L) => SamePairs_any A1 A c1 c l l HLA.out r (RL L _ h)
  rw [decide_eq_true (show l = l from rfl)] at hx
  have HX := Lib.hid (hx)
  have hy := fun w0 (A2 A3 : Option Addr) c2 c3 (r2 : Rd w0 A2 (prC se)) (r3 : Rd w0 A3 (prC se)) => SamePairs_any A2 A3 c2 c3 se se (by unfold maxLen; omega) r2 r3
  rw [decide_eq_true (show se = se from rfl)] at hy
  have HY := Lib.hid (hy)
  clear hg1 hg2 hge hs1 hs2 hse hc3 hc4 hck hkb hx hy
  obtain ⟨gs, gb⟩ := ge
  dsimp only at HG1 HG2
  have e1 : (gs == gs) = true := by simp
  have e2 : (gb == gb) = true := by simp
  have e3 : (kb == kb) = true := by simp
  have e4 : (ck == ck) = true := by simp
  go_wp2_with fail
  refine (HG1.out _ _ RdL.row H1).mono ?_
  rintro e w2 ⟨rfl, H2⟩
  clear H1
  go_wp2_with fail
  refine (HG2.out _ _ H2).mono ?_
  rintro e w3 ⟨rfl, H3⟩
  clear H2
  have q0 := H3.tail.cell 0
  have q1 := H3.tail.cell 1
  go_wp2_with fail
  refine (HS1.out _ _ RdL.row H3).mono ?_
  rintro e w4 ⟨A2, c2, rfl, H4⟩
  clear H3 q0 q1
  have q0 := H4.tail.tail.cell 0
  have q1 := H4.tail.tail.cell 1
  go_wp2_with fail
  refine (HS2.out _ _ H4).mono ?_
  rintro e w5 ⟨A3, c3, rfl, H5⟩
  clear H4 q0 q1
  go_wp2_with fail
  refine (HY.out _ A2 A3 c2 c3 H5.tail.rd H5.rd).mono ?_
  rintro e w6 ⟨rfl, hB6⟩
  have H6 := (H5.below hB6).tail
  clear H5
  go_wp2_with fail
  refine (OverPairs_any A2 se.length c2 _ H6).mono ?_
  rintro e w7 ⟨rfl, H7⟩
  clear H6
  go_wp2_with fail
  refine (HX.out _ _ H7.rd H7).mono ?_
  rintro e w8 ⟨rfl, hB8⟩
  have H8 := H7.below hB8
  clear H7
  go_wp2_with fail
  refine (HC3.out _ _ H8).mono ?_
  rintro e w9 ⟨rfl, H9⟩
  go_wp2_with fail
  refine (HC4.out _ _ H9).mono ?_
  rintro e w10 ⟨rfl, H10⟩
  clear H8 H9
  go_wp2_with fail
  refine (HK1.out _).mono ?_
  rintro e _ ⟨rfl, rfl⟩
  go_wp2_with fail
  refine (HK2.out _).mono ?_
  rintro e _ ⟨rfl, rfl⟩
  go_wp2_with fail
  refine (cawake_any H10).mono ?_
  rintro e w11 ⟨rfl, H11⟩
  go_wp2
  go_ret
  exact ⟨rfl, H11.tail.tail⟩
end Go.Proofs.Ytnpgjobaibnknaa
