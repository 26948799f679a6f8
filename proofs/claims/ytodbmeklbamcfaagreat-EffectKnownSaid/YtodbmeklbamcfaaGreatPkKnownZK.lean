/- A pack of texts: KiL, KiM, KiN, KiO, KiP, KlEKnown -/
import Derived.Test.YtodbmeklbamcfaaGreatPkKnownZI
import Derived.Test.YtodbmeklbamcfaaGreatPkKnownZH
import Derived.Test.YtodbmeklbamcfaaGreatPkKnownS
import Derived.Test.YtodbmeklbamcfaaGreatPkKnownZF
import Derived.Test.YtodbmeklbamcfaaGreatPkKnownZD
import Derived.Test.YtodbmeklbamcfaaGreatPkKnownZJ
import Derived.Test.YtodbmeklbamcfaaGreatPkKnownT
/- effect's reader: keys, spans, writes, and lists of them. -/
namespace Go.Proofs.YtodbmeklbamcfaaGreat
open Go.RowKit Go.Rt

def rds (p : Nat) (bs : List UInt8) (s : RS) : SL := rdr p bs s.pl s.fe s.fa
theorem rTextS_any {W w : World} {l : List SL} (p : Nat) (bs : List UInt8) (s : RS) (high : Int) (hs : s.Fine bs) (hb : bs.length ≤ 1000000000) (H : Sat W w (rds p bs s :: l)) :
    Calls Tryz.prog 126 #[.pointer (some ⟨p, 0, none⟩), .int .i64 high] w fun e w' => e = .returned (.string ⟨(rdT bs high s).1.toArray⟩) ∧ Sat W w' (rds p bs (rdT bs high s).2 :: l) := rText_any p bs s.pl s.fe s.fa high hs.1 hb hs.2 H
theorem rIntS_any {W w : World} {l : List SL} (p : Nat) (bs : List UInt8) (s : RS) (low high : Int) (hs : s.Fine bs) (hb : bs.length ≤ 1000000000) (H : Sat W w (rds p bs s :: l)) :
    Calls Tryz.prog 84 #[.pointer (some ⟨p, 0, none⟩), .int .i64 low, .int .i64 high] w fun e w' => e = .returned (.int .i64 (rdI bs low high 5 s).1) ∧ Sat W w' (rds p bs (rdI bs low high 5 s).2 :: l) := rInt_any p bs s.pl s.fe s.fa low high hs.1 hb hs.2 H
theorem rCountS_any {W w : World} {l : List SL} (p : Nat) (bs : List UInt8) (s : RS) (high : Int) (hs : s.Fine bs) (hb : bs.length ≤ 1000000000) (H : Sat W w (rds p bs s :: l)) :
    Calls Tryz.prog 124 #[.pointer (some ⟨p, 0, none⟩), .int .i64 high] w fun e w' => e = .returned (.int .i64 (rdI bs 0 high 3 s).1) ∧ Sat W w' (rds p bs (rdI bs 0 high 3 s).2 :: l) := rCount_any p bs s.pl s.fe s.fa high hs.1 hb hs.2 H
theorem rFaultS_any {W w : World} {l : List SL} (p : Nat) (bs : List UInt8) (s : RS) (H : Sat W w (rds p bs s :: l)) :
    Calls Tryz.prog 125 #[.pointer (some ⟨p, 0, none⟩)] w fun e w' => e = .returned (.agg #[.int .i64 s.fe, .int .i64 s.fa]) ∧ Sat W w' (rds p bs s :: l) := rFault_any p bs s.pl s.fe s.fa H

set_option maxRecDepth 100000 in
set_option maxHeartbeats 4000000 in
theorem efrKey_any {W w : World} {L : List SL} (p : Nat) (bs : List UInt8) (s : RS) (hs : s.Fine bs) (hb : bs.length ≤ 1000000000) (H : Sat W w (rds p bs s :: L)) :
    Calls Tryz.prog 86 #[.agg #[.pointer (some ⟨p, 0, none⟩)]] w fun e w' => e = .returned (.string ⟨(rdT bs 32 s).1.toArray⟩) ∧ Sat W w' (rds p bs (rdT bs 32 s).2 :: L) := by
  have H1 := H.alloc #[.pointer (some ⟨p, 0, none⟩)] 109
  have c0 := H1.cell 0
  have HT := Lib.hid (rTextS_any p bs s 32 hs hb H1.swap)
  generalize rdT bs 32 s = r at *
  go_enter Tryz.func86, Tryz.ntmps86
  go_wp2_with fail
  refine (HT.out).mono ?_
  rintro e w2 ⟨rfl, H2⟩
  go_wp2
  go_ret
  exact ⟨rfl, H2.swap.tail⟩
set_option maxRecDepth 100000 in
set_option maxHeartbeats 4000000 in
theorem efrSpan_any {W w : World} {L : List SL} (p : Nat) (bs : List UInt8) (s : RS) (hs : s.Fine bs) (hb : bs.length ≤ 1000000000) (H : Sat W w (rds p bs s :: L)) :
    Calls Tryz.prog 88 #[.agg #[.pointer (some ⟨p, 0, none⟩)]] w fun e w' => e = .returned (.agg #[.string ⟨(rdSp bs s).1.lo.toArray⟩, .string ⟨(rdSp bs s).1.hi.toArray⟩]) ∧ Sat W w' (rds p bs (rdSp bs s).2 :: L) := by
  have H1 := (H.alloc #[.pointer (some ⟨p, 0, none⟩)] 109).alloc #[.string ⟨#[]⟩, .string ⟨#[]⟩] 74
  rw [World.size_alloc] at H1
  have c0 := H1.swap.cell 0
  have HT := Lib.hid (rTextS_any p bs s 64 hs hb (H1.pull 2))
  have hf := rdT_fine bs 64 s hs
  have e1 : (rdSp bs s).1 = ⟨(rdT bs 64 s).1, (rdT bs 64 (rdT bs 64 s).2).1⟩ := rfl
  have e2 : (rdSp bs s).2 = (rdT bs 64 (rdT bs 64 s).2).2 := rfl
  rw [e1, e2]
  generalize rdT bs 64 s = r at *
  have HT2 := Lib.hid (fun (w0 : World) (L0 : List SL) (h : Sat W w0 (rds p bs r.2 :: L0)) => rTextS_any p bs r.2 64 hf hb h)
  generalize rdT bs 64 r.2 = r2 at *
  clear e1 e2 H1 H
  go_enter Tryz.func88, Tryz.ntmps88
  go_wp2_with fail
  refine (HT.out).mono ?_
  rintro e w2 ⟨rfl, H2⟩
  clear c0
  have c0 := (H2.pull 2).cell 0
  go_wp2_with fail
  refine (HT2.out _ _ H2).mono ?_
  rintro e w3 ⟨rfl, H3⟩
  go_wp2_with (first
    | (((refine wpList_store_pt rfl rfl (.tmp 2) (.tmp 11) 74 rfl (w.heap.size + 1) #[.string ⟨#[]⟩, .string ⟨#[]⟩] 74 [.string ⟨r.1.toArray⟩, .string ⟨r2.1.toArray⟩] sp_size rfl rfl rfl (sp_one ⟨r.1, r2.1⟩) H3.swap ?_); intro w9 H9)))
  exact bodyPost_ret (v := .agg #[.string ⟨r.1.toArray⟩, .string ⟨r2.1.toArray⟩]) (results_cell_row Tryz.results88 _ w9 (w.heap.size + 1) 74 #[.string ⟨r.1.toArray⟩, .string ⟨r2.1.toArray⟩] (0, 0) _ rfl H9.heap Tryz.underlying74 rfl sp_size) rfl ⟨rfl, H9.tail.swap.tail⟩
theorem wt_field (a b : ByteArray) (d : Bool) : True := trivial
set_option maxRecDepth 100000 in
set_option maxHeartbeats 4000000 in
theorem efrWrite_any {W w : World} {L : List SL} (p : Nat) (bs : List UInt8) (s : RS) (hs : s.Fine bs) (hb : bs.length ≤ 1000000000) (H : Sat W w (rds p bs s :: L)) :
    Calls Tryz.prog 90 #[.agg #[.pointer (some ⟨p, 0, none⟩)]] w fun e w' => e = .returned (.agg #[.string ⟨(rdW bs s).1.k.toArray⟩, .string ⟨(rdW bs s).1.v.toArray⟩, .bool (rdW bs s).1.d]) ∧ Sat W w' (rds p bs (rdW bs s).2 :: L) := by
  have H1 := (H.alloc #[.pointer (some ⟨p, 0, none⟩)] 109).alloc #[.string ⟨#[]⟩, .string ⟨#[]⟩, .bool false] 65
  rw [World.size_alloc] at H1
  have c0 := H1.swap.cell 0
  have HT := Lib.hid (efrKey_any p bs s hs hb (H1.pull 2))
  have hf := rdT_fine bs 32 s hs
  have hf2 := rdI_fine bs 0 1 5 (by omega) _ hf
  have e0 : rdW bs s = if (rdI bs 0 1 5 (rdT bs 32 s).2).1 = 1 then (⟨(rdT bs 32 s).1, [], true⟩, (rdI bs 0 1 5 (rdT bs 32 s).2).2) else (⟨(rdT bs 32 s).1, (rdT bs 64 (rdI bs 0 1 5 (rdT bs 32 s).2).2).1, false⟩, (rdT bs 64 (rdI bs 0 1 5 (rdT bs 32 s).2).2).2) := rfl
  generalize rdT bs 32 s = r at *
  have HI := Lib.hid (fun (w0 : World) (L0 : List SL) (h : Sat W w0 (rds p bs r.2 :: L0)) => rIntS_any p bs r.2 0 1 hf hb h)
  generalize rdI bs 0 1 5 r.2 = ri at *
  have HT2 := Lib.hid (fun (w0 : World) (L0 : List SL) (h : Sat W w0 (rds p bs ri.2 :: L0)) => rTextS_any p bs ri.2 64 hf2 hb h)
  generalize rdT bs 64 ri.2 = r2 at *
  generalize rdW bs s = R at *
  clear H1 H
  by_cases hi : ri.1 = 1
  · rw [if_pos hi] at e0
    subst e0
    have f1 : (ri.1 == 1) = true := beq_iff_eq.2 hi
    clear hi
    go_enter Tryz.func90, Tryz.ntmps90
    go_wp2_with fail
    refine (HT.out).mono ?_
    rintro e w2 ⟨rfl, H2⟩
    clear c0
    have H3 := H2.alloc #[.string ⟨r.1.toArray⟩, .string ⟨#[]⟩, .bool false] 65
    have c0 := (H3.pull 3).cell 0
    go_wp2_with fail
    refine (HI.out _ _ H3.swap).mono ?_
    rintro e w3 ⟨rfl, H4⟩
    clear c0
    have d2 := H4.swap.cell 2
    have k2 := H4.swap.frz 2
    have H5 := H4.swap.setCell 2 (.bool true)
    generalize hw5 : w3.setCell ⟨w2.heap.size, 2, none⟩ (.bool true) = w5 at H5
    have d5 : w5.cell? ⟨w2.heap.size, 2, none⟩ = some (.bool true) := H5.cell 2
    have HR : Rd w5 (some ⟨w2.heap.size, 0, none⟩) [.string ⟨r.1.toArray⟩, .string ⟨#[]⟩, .bool true] := RdL.pt _ H5
    go_wp2_with (first
      | (((refine wpList_load_rd rfl (.tmp 3) 65 rfl w2.heap.size 0 [.string ⟨r.1.toArray⟩, .string ⟨#[]⟩, .bool true] (by rw [Tryz.underlying65]) wt_size (by simp [Act.eval]) HR ?_)))
      | (((refine wpList_store_pt rfl rfl (.tmp 2) (.tmp 19) 65 rfl (w.heap.size + 1) #[.string ⟨#[]⟩, .string ⟨#[]⟩, .bool false] 65 [.string ⟨r.1.toArray⟩, .string ⟨#[]⟩, .bool true] wt_size rfl rfl rfl (wt_one ⟨r.1, [], true⟩) (H5.pull 2) ?_); intro w9 H9)))
    exact bodyPost_ret (v := .agg #[.string ⟨r.1.toArray⟩, .string ⟨#[]⟩, .bool true]) (results_cell_row Tryz.results90 _ w9 (w.heap.size + 1) 65 #[.string ⟨r.1.toArray⟩, .string ⟨#[]⟩, .bool true] (0, 0) _ rfl H9.heap Tryz.underlying65 rfl wt_size) rfl ⟨rfl, H9.tail.tail.swap.tail⟩
  · rw [if_neg hi] at e0
    subst e0
    have f1 : (ri.1 == 1) = false := beq_eq_false_iff_ne.2 hi
    clear hi
    go_enter Tryz.func90, Tryz.ntmps90
    go_wp2_with fail
    refine (HT.out).mono ?_
    rintro e w2 ⟨rfl, H2⟩
    clear c0
    have H3 := H2.alloc #[.string ⟨r.1.toArray⟩, .string ⟨#[]⟩, .bool false] 65
    have c0 := (H3.pull 3).cell 0
    go_wp2_with fail
    refine (HI.out _ _ H3.swap).mono ?_
    rintro e w3 ⟨rfl, H4⟩
    clear c0
    have d2 := H4.swap.cell 2
    have k2 := H4.swap.frz 2
    have H5 := H4.swap.setCell 2 (.bool false)
    generalize hw5 : w3.setCell ⟨w2.heap.size, 2, none⟩ (.bool false) = w5 at H5
    have d5 : w5.cell? ⟨w2.heap.size, 2, none⟩ = some (.bool false) := H5.cell 2
    have c1 := (H5.pull 3).cell 0
    go_wp2_with fail
    refine (HT2.out _ _ H5.swap).mono ?_
    rintro e w6 ⟨rfl, H6⟩
    clear hw5 c1
    have m1 := H6.swap.cell 1
    have k3 := H6.swap.frz 1
    have H7 := H6.swap.setCell 1 (.string ⟨r2.1.toArray⟩)
    generalize hw7 : w6.setCell ⟨w2.heap.size, 1, none⟩ (.string ⟨r2.1.toArray⟩) = w7 at H7
    have HR : Rd w7 (some ⟨w2.heap.size, 0, none⟩) [.string ⟨r.1.toArray⟩, .string ⟨r2.1.toArray⟩, .bool false] := RdL.pt _ H7
    go_wp2_with (first
      | (((refine wpList_load_rd rfl (.tmp 3) 65 rfl w2.heap.size 0 [.string ⟨r.1.toArray⟩, .string ⟨r2.1.toArray⟩, .bool false] (by rw [Tryz.underlying65]) wt_size (by simp [Act.eval]) HR ?_)))
      | (((refine wpList_store_pt rfl rfl (.tmp 2) (.tmp 19) 65 rfl (w.heap.size + 1) #[.string ⟨#[]⟩, .string ⟨#[]⟩, .bool false] 65 [.string ⟨r.1.toArray⟩, .string ⟨r2.1.toArray⟩, .bool false] wt_size rfl rfl rfl (wt_one ⟨r.1, r2.1, false⟩) (H7.pull 2) ?_); intro w9 H9)))
    exact bodyPost_ret (v := .agg #[.string ⟨r.1.toArray⟩, .string ⟨r2.1.toArray⟩, .bool false]) (results_cell_row Tryz.results90 _ w9 (w.heap.size + 1) 65 #[.string ⟨r.1.toArray⟩, .string ⟨r2.1.toArray⟩, .bool false] (0, 0) _ rfl H9.heap Tryz.underlying65 rfl wt_size) rfl ⟨rfl, H9.tail.tail.swap.tail⟩
end Go.Proofs.YtodbmeklbamcfaaGreat

/- effect's lists out of bytes: texts. -/
namespace Go.Proofs.YtodbmeklbamcfaaGreat
open Go.RowKit Go.Rt

theorem fault_errR (a b : Int) (w : World) : (Instr.field 45 (.agg #[.int .i64 a, .int .i64 b]) 0).run Tryz.prog w = .ok (.int .i64 a) w := by kernel_rfl
/-- A number asked for lies between its bounds, where nothing is amiss and where something is. -/
theorem rdI_in (bs : List UInt8) (high above : Int) (hh : 0 ≤ high) (s : RS) (hs : s.Fine bs) : 0 ≤ (rdI bs 0 high above s).1 ∧ (rdI bs 0 high above s).1 ≤ high := by
  unfold rdI toldInt
  by_cases h0 : s.fe = 0
  · rw [if_pos h0]
    cases hn : numAt bs s.pl 0 high above with
    | ok n k =>
      have := numAt_back bs s.pl 0 high above n k hs.1 hn
      exact ⟨this.2.2.2.1, this.2.2.2.2⟩
    | bad e a => exact ⟨by simp, by simpa using hh⟩
  · rw [if_neg h0]
    exact ⟨by simp, by simpa using hh⟩
theorem rAcc_next {α : Type} {one : RS → α × RS} {s : RS} {j : Nat} (h : (rAcc one s j).2.fe = 0) {t : List α} {r : RS} (e : rAcc one s j = (t, r)) : rAcc one s (j + 1) = (t ++ [(one r).1], (one r).2) := by
  rw [rAcc_more h, e]

set_option maxRecDepth 100000 in
set_option maxHeartbeats 4000000 in
theorem efgetT_any {W w : World} {L : List SL} (p : Nat) (bs : List UInt8) (s : RS) (hs : s.Fine bs) (hb : bs.length ≤ 1000000000) (H : Sat W w (rds p bs s :: L)) :
    Calls Tryz.prog 85 #[.agg #[.pointer (some ⟨p, 0, none⟩)], .func (.func 86) #[.agg #[.pointer (some ⟨p, 0, none⟩)]] #[]] w fun e w' => ∃ A c, e = .returned (.slice A (rAcc (rdT bs 32) (rdI bs 0 60 3 s).2 (rdI bs 0 60 3 s).1.toNat).1.length c) ∧
      Sat W w' (seenS 9 (.slice A (rAcc (rdT bs 32) (rdI bs 0 60 3 s).2 (rdI bs 0 60 3 s).1.toNat).1.length c) (rAcc (rdT bs 32) (rdI bs 0 60 3 s).2 (rdI bs 0 60 3 s).1.toNat).1.length (tsC (rAcc (rdT bs 32) (rdI bs 0 60 3 s).2 (rdI bs 0 60 3 s).1.toNat).1) :: rds p bs (rAcc (rdT bs 32) (rdI bs 0 60 3 s).2 (rdI bs 0 60 3 s).1.toNat).2 :: L) := by
  obtain ⟨i0, hi, hz0, hz1, hz2⟩ := info_parts infoStr
  have hn := rdI_in bs 60 3 (by decide) s hs
  have hf := rdI_fine bs 0 60 3 (by decide) s hs
  have H1 := H.alloc #[.pointer (some ⟨p, 0, none⟩)] 109
  have c0 := H1.cell 0
  have HC := Lib.hid (rCountS_any p bs s 60 hs hb H1.swap)
  generalize rdI bs 0 60 3 s = r at *
  obtain ⟨i, s1⟩ := r
  dsimp only at hn hf HC ⊢
  obtain ⟨n, rfl⟩ : ∃ n : Nat, i = (n : Int) := ⟨i.toNat, by omega⟩
  have hn60 : n ≤ 60 := by omega
  have hfa : ∀ j, (rAcc (rdT bs 32) s1 j).2.Fine bs := rAcc_keeps (p := fun s => s.Fine bs) (fun s h => rdT_fine bs 32 s h) hf
  have HFA := Lib.hid (hfa)
  clear hn hfa hf H1 H
  rw [show ((n : Int)).toNat = n from rfl]
  go_enter Tryz.func85, Tryz.ntmps85
  go_wp2_with fail
  refine (HC.out).mono ?_
  rintro e w2 ⟨rfl, H2⟩
  clear c0 HC
  have H2 := H2.new_nil 9 [.string ⟨#[]⟩]
  go_wp2
  go_loopw [5, 6] (fun ou i wc => ∃ (j : Nat) (A : Option Addr) (c : Nat), j ≤ n ∧ (rAcc (rdT bs 32) s1 j).1.length = j ∧ i = .int .i64 ((n : Int) - j) ∧ ou = .slice A j c ∧ Sat W wc (seenS 9 (.slice A j c) j (tsC (rAcc (rdT bs 32) s1 j).1) :: rds p bs (rAcc (rdT bs 32) s1 j).2 :: pt w.heap.size #[.pointer (some ⟨p, 0, none⟩)] 109 :: L)) (fun _ i _ => (intOf i).toNat)
  case atStart => exact ⟨0, none, 0, by omega, rfl, by simp, rfl, H2⟩
  case round =>
    clear H2
    obtain ⟨j, A, c, hj, hl, rfl, rfl, H⟩ := hrel
    have hE := HFA.out j
    have c0 := (H.pull 2).cell 0
    by_cases hlt : j < n
    · have hgt : decide ((0 : Int) < (n : Int) - j) = true := decide_eq_true (by omega)
      have HF := Lib.hid (rFaultS_any p bs (rAcc (rdT bs 32) s1 j).2 H.swap)
      by_cases hz : (rAcc (rdT bs 32) s1 j).2.fe = 0
      · obtain ⟨t, ht⟩ : ∃ t, rAcc (rdT bs 32) s1 j = t := ⟨_, rfl⟩
        obtain ⟨t, q⟩ := t
        have HN := Lib.hid (rAcc_next hz ht)
        rw [ht] at HF hz hE hl
        dsimp only at HF hz hE hl
        rw [hz] at HF
        have HK := Lib.hid ((fun (w0 : World) (L0 : List SL) (h : Sat W w0 (rds p bs q :: L0)) => efrKey_any p bs q hE hb h))
        obtain ⟨x, hx⟩ : ∃ x, rdT bs 32 q = x := ⟨_, rfl⟩
        obtain ⟨x, q'⟩ := x
        rw [hx] at HN HK
        dsimp only at HN HK
        have hf0 := fun b wx => fault_errR 0 b wx
        clear hx ht hz H
        go_wp2_with fail
        refine (HF.out).mono ?_
        rintro e w3 ⟨rfl, H3⟩
        go_wp2_with fail
        refine (HK.out _ _ H3).mono ?_
        rintro e w4 ⟨rfl, H4⟩
        have H5 := H4.alloc #[.string ⟨x.toArray⟩] 9
        go_wp2_with (first
          | (at_builtin
             ((refine wpList_append_new rfl (.tmp 21) (.tmp 24) 22 rfl 9 i0 _ zS 16 Tryz.underlying22 hi hz0 rfl hz1 hz2 (by simp) _ j _ rfl (H5.pull 2) (some ⟨w4.heap.size, 0, none⟩) 1 1 [.string ⟨x.toArray⟩] rfl rfl (RdL.pt _ H5) (by simp [Value.oneCell']) (by unfold maxLen; omega) (by omega) ?_); intro A7 c7 w7 H7)))
        refine ⟨⟨j + 1, A7, c7, by omega, by rw [HN.out]; show (t ++ [x]).length = _; rw [List.length_append, hl]; rfl, by go_num, rfl, ?_⟩, by simp [intOf]; omega⟩
        rw [HN.out]
        show Sat W w7 (seenS 9 (.slice A7 (j + 1) c7) (j + 1) (tsC (t ++ [x])) :: rds p bs q' :: _)
        rw [show tsC (t ++ [x]) = tsC t ++ [.string ⟨x.toArray⟩] by simp [tsC, encStr]]
        exact H7.swap.tail
      · have hto := rAcc_to (one := rdT bs 32) (s := s1) hj (.inr hz)
        obtain ⟨t, ht⟩ : ∃ t, rAcc (rdT bs 32) s1 j = t := ⟨_, rfl⟩
        obtain ⟨t, q⟩ := t
        rw [ht] at hto HF hz hE hl H
        dsimp only at HF hz hE hl H
        have HTO := Lib.hid (hto)
        subst hl
        have e2 : (q.fe == 0) = false := beq_eq_false_iff_ne.2 hz
        have hf0 := fun b wx => fault_errR q.fe b wx
        clear hz hto H ht
        go_wp2_with fail
        refine (HF.out).mono ?_
        rintro e w3 ⟨rfl, H3⟩
        go_wp2
        go_ret
        rw [HTO.out]
        exact ⟨A, c, rfl, (H3.pull 2).tail.swap⟩
    · obtain rfl : j = n := by omega
      have hgt : decide ((0 : Int) < (j : Int) - j) = false := decide_eq_false (by omega)
      obtain ⟨t, ht⟩ : ∃ t, rAcc (rdT bs 32) s1 j = t := ⟨_, rfl⟩
      have HTO := Lib.hid (ht)
      obtain ⟨t, q⟩ := t
      rw [ht] at hl H
      dsimp only at hl H
      clear ht
      go_wp2
      go_ret
      rw [HTO.out]
      dsimp only
      rw [hl]
      exact ⟨A, c, rfl, (H.pull 2).tail⟩
end Go.Proofs.YtodbmeklbamcfaaGreat

/- effect's lists out of bytes: spans, writes. (Printed by tools/efget.py.) -/
namespace Go.Proofs.YtodbmeklbamcfaaGreat
open Go.RowKit Go.Rt

set_option maxRecDepth 100000 in
set_option maxHeartbeats 4000000 in
theorem efgetS_any {W w : World} {L : List SL} (p : Nat) (bs : List UInt8) (s : RS) (hs : s.Fine bs) (hb : bs.length ≤ 1000000000) (H : Sat W w (rds p bs s :: L)) :
    Calls Tryz.prog 87 #[.agg #[.pointer (some ⟨p, 0, none⟩)], .func (.func 88) #[.agg #[.pointer (some ⟨p, 0, none⟩)]] #[]] w fun e w' => ∃ A c, e = .returned (.slice A (rAcc (rdSp bs) (rdI bs 0 60 3 s).2 (rdI bs 0 60 3 s).1.toNat).1.length c) ∧
      Sat W w' (row 74 zSp (.slice A (rAcc (rdSp bs) (rdI bs 0 60 3 s).2 (rdI bs 0 60 3 s).1.toNat).1.length c) (rAcc (rdSp bs) (rdI bs 0 60 3 s).2 (rdI bs 0 60 3 s).1.toNat).1.length (spC (rAcc (rdSp bs) (rdI bs 0 60 3 s).2 (rdI bs 0 60 3 s).1.toNat).1) :: rds p bs (rAcc (rdSp bs) (rdI bs 0 60 3 s).2 (rdI bs 0 60 3 s).1.toNat).2 :: L) := by
  obtain ⟨i0, hi, hz0, hz1, hz2⟩ := info_parts infoSp
  have hn := rdI_in bs 60 3 (by decide) s hs
  have hf := rdI_fine bs 0 60 3 (by decide) s hs
  have H1 := H.alloc #[.pointer (some ⟨p, 0, none⟩)] 109
  have c0 := H1.cell 0
  have HC := Lib.hid (rCountS_any p bs s 60 hs hb H1.swap)
  generalize rdI bs 0 60 3 s = r at *
  obtain ⟨i, s1⟩ := r
  dsimp only at hn hf HC ⊢
  obtain ⟨n, rfl⟩ : ∃ n : Nat, i = (n : Int) := ⟨i.toNat, by omega⟩
  have hn60 : n ≤ 60 := by omega
  have hfa : ∀ j, (rAcc (rdSp bs) s1 j).2.Fine bs := rAcc_keeps (p := fun s => s.Fine bs) (fun s h => rdSp_fine bs s h) hf
  have HFA := Lib.hid (hfa)
  clear hn hfa hf H1 H
  rw [show ((n : Int)).toNat = n from rfl]
  go_enter Tryz.func87, Tryz.ntmps87
  go_wp2_with fail
  refine (HC.out).mono ?_
  rintro e w2 ⟨rfl, H2⟩
  clear c0 HC
  have H2 := H2.nil 74 zSp
  go_wp2
  go_loopw [5, 6] (fun ou i wc => ∃ (j : Nat) (A : Option Addr) (c : Nat), j ≤ n ∧ (rAcc (rdSp bs) s1 j).1.length = j ∧ i = .int .i64 ((n : Int) - j) ∧ ou = .slice A j c ∧ Sat W wc (row 74 zSp (.slice A j c) j (spC (rAcc (rdSp bs) s1 j).1) :: rds p bs (rAcc (rdSp bs) s1 j).2 :: pt w.heap.size #[.pointer (some ⟨p, 0, none⟩)] 109 :: L)) (fun _ i _ => (intOf i).toNat)
  case atStart => exact ⟨0, none, 0, by omega, rfl, by simp, rfl, H2⟩
  case round =>
    clear H2
    obtain ⟨j, A, c, hj, hl, rfl, rfl, H⟩ := hrel
    have hE := HFA.out j
    have c0 := (H.pull 2).cell 0
    by_cases hlt : j < n
    · have hgt : decide ((0 : Int) < (n : Int) - j) = true := decide_eq_true (by omega)
      have HF := Lib.hid (rFaultS_any p bs (rAcc (rdSp bs) s1 j).2 H.swap)
      by_cases hz : (rAcc (rdSp bs) s1 j).2.fe = 0
      · obtain ⟨t, ht⟩ : ∃ t, rAcc (rdSp bs) s1 j = t := ⟨_, rfl⟩
        obtain ⟨t, q⟩ := t
        have HN := Lib.hid (rAcc_next hz ht)
        rw [ht] at HF hz hE hl
        dsimp only at HF hz hE hl
        rw [hz] at HF
        have HK := Lib.hid ((fun (w0 : World) (L0 : List SL) (h : Sat W w0 (rds p bs q :: L0)) => efrSpan_any p bs q hE hb h))
        obtain ⟨x, hx⟩ : ∃ x, rdSp bs q = x := ⟨_, rfl⟩
        obtain ⟨⟨xa, xb⟩, q'⟩ := x
        rw [hx] at HN HK
        dsimp only at HN HK
        have hf0 := fun b wx => fault_errR 0 b wx
        clear hx ht hz H
        go_wp2_with fail
        refine (HF.out).mono ?_
        rintro e w3 ⟨rfl, H3⟩
        go_wp2_with fail
        refine (HK.out _ _ H3).mono ?_
        rintro e w4 ⟨rfl, H4⟩
        have H5 := H4.alloc #[.string ⟨xa.toArray⟩, .string ⟨xb.toArray⟩] 74
        go_wp2_with (first
          | (at_builtin
             ((refine wpList_append_sl rfl (.tmp 21) (.tmp 24) 23 rfl 74 i0 _ zSp 32 Tryz.underlying23 hi hz0 rfl hz1 hz2 (by simp) zSp_like _ j _ rfl (H5.pull 2) (some ⟨w4.heap.size, 0, none⟩) 1 1 [.string ⟨xa.toArray⟩, .string ⟨xb.toArray⟩] rfl rfl (RdL.pt _ H5) (sp_one (⟨xa, xb⟩ : Sp)) (sp_typed (⟨xa, xb⟩ : Sp)) (by unfold maxLen; omega) (by omega) ?_); intro A7 c7 w7 H7)))
        refine ⟨⟨j + 1, A7, c7, by omega, by rw [HN.out]; show (t ++ [(⟨xa, xb⟩ : Sp)]).length = _; rw [List.length_append, hl]; rfl, by go_num, rfl, ?_⟩, by simp [intOf]; omega⟩
        rw [HN.out]
        show Sat W w7 (row 74 zSp (.slice A7 (j + 1) c7) (j + 1) (spC (t ++ [(⟨xa, xb⟩ : Sp)])) :: rds p bs q' :: _)
        rw [show spC (t ++ [(⟨xa, xb⟩ : Sp)]) = spC t ++ [.string ⟨xa.toArray⟩, .string ⟨xb.toArray⟩] by rw [spC_append]; rfl]
        exact H7.swap.tail
      · have hto := rAcc_to (one := rdSp bs) (s := s1) hj (.inr hz)
        obtain ⟨t, ht⟩ : ∃ t, rAcc (rdSp bs) s1 j = t := ⟨_, rfl⟩
        obtain ⟨t, q⟩ := t
        rw [ht] at hto HF hz hE hl H
        dsimp only at HF hz hE hl H
        have HTO := Lib.hid (hto)
        subst hl
        have e2 : (q.fe == 0) = false := beq_eq_false_iff_ne.2 hz
        have hf0 := fun b wx => fault_errR q.fe b wx
        clear hz hto H ht
        go_wp2_with fail
        refine (HF.out).mono ?_
        rintro e w3 ⟨rfl, H3⟩
        go_wp2
        go_ret
        rw [HTO.out]
        exact ⟨A, c, rfl, (H3.pull 2).tail.swap⟩
    · obtain rfl : j = n := by omega
      have hgt : decide ((0 : Int) < (j : Int) - j) = false := decide_eq_false (by omega)
      obtain ⟨t, ht⟩ : ∃ t, rAcc (rdSp bs) s1 j = t := ⟨_, rfl⟩
      have HTO := Lib.hid (ht)
      obtain ⟨t, q⟩ := t
      rw [ht] at hl H
      dsimp only at hl H
      clear ht
      go_wp2
      go_ret
      rw [HTO.out]
      dsimp only
      rw [hl]
      exact ⟨A, c, rfl, (H.pull 2).tail⟩
set_option maxRecDepth 100000 in
set_option maxHeartbeats 4000000 in
theorem efgetW_any {W w : World} {L : List SL} (p : Nat) (bs : List UInt8) (s : RS) (hs : s.Fine bs) (hb : bs.length ≤ 1000000000) (H : Sat W w (rds p bs s :: L)) :
    Calls Tryz.prog 89 #[.agg #[.pointer (some ⟨p, 0, none⟩)], .func (.func 90) #[.agg #[.pointer (some ⟨p, 0, none⟩)]] #[]] w fun e w' => ∃ A c, e = .returned (.slice A (rAcc (rdW bs) (rdI bs 0 60 3 s).2 (rdI bs 0 60 3 s).1.toNat).1.length c) ∧
      Sat W w' (row 65 zWt (.slice A (rAcc (rdW bs) (rdI bs 0 60 3 s).2 (rdI bs 0 60 3 s).1.toNat).1.length c) (rAcc (rdW bs) (rdI bs 0 60 3 s).2 (rdI bs 0 60 3 s).1.toNat).1.length (wtC (rAcc (rdW bs) (rdI bs 0 60 3 s).2 (rdI bs 0 60 3 s).1.toNat).1) :: rds p bs (rAcc (rdW bs) (rdI bs 0 60 3 s).2 (rdI bs 0 60 3 s).1.toNat).2 :: L) := by
  obtain ⟨i0, hi, hz0, hz1, hz2⟩ := info_parts infoWt
  have hn := rdI_in bs 60 3 (by decide) s hs
  have hf := rdI_fine bs 0 60 3 (by decide) s hs
  have H1 := H.alloc #[.pointer (some ⟨p, 0, none⟩)] 109
  have c0 := H1.cell 0
  have HC := Lib.hid (rCountS_any p bs s 60 hs hb H1.swap)
  generalize rdI bs 0 60 3 s = r at *
  obtain ⟨i, s1⟩ := r
  dsimp only at hn hf HC ⊢
  obtain ⟨n, rfl⟩ : ∃ n : Nat, i = (n : Int) := ⟨i.toNat, by omega⟩
  have hn60 : n ≤ 60 := by omega
  have hfa : ∀ j, (rAcc (rdW bs) s1 j).2.Fine bs := rAcc_keeps (p := fun s => s.Fine bs) (fun s h => rdW_fine bs s h) hf
  have HFA := Lib.hid (hfa)
  clear hn hfa hf H1 H
  rw [show ((n : Int)).toNat = n from rfl]
  go_enter Tryz.func89, Tryz.ntmps89
  go_wp2_with fail
  refine (HC.out).mono ?_
  rintro e w2 ⟨rfl, H2⟩
  clear c0 HC
  have H2 := H2.nil 65 zWt
  go_wp2
  go_loopw [5, 6] (fun ou i wc => ∃ (j : Nat) (A : Option Addr) (c : Nat), j ≤ n ∧ (rAcc (rdW bs) s1 j).1.length = j ∧ i = .int .i64 ((n : Int) - j) ∧ ou = .slice A j c ∧ Sat W wc (row 65 zWt (.slice A j c) j (wtC (rAcc (rdW bs) s1 j).1) :: rds p bs (rAcc (rdW bs) s1 j).2 :: pt w.heap.size #[.pointer (some ⟨p, 0, none⟩)] 109 :: L)) (fun _ i _ => (intOf i).toNat)
  case atStart => exact ⟨0, none, 0, by omega, rfl, by simp, rfl, H2⟩
  case round =>
    clear H2
    obtain ⟨j, A, c, hj, hl, rfl, rfl, H⟩ := hrel
    have hE := HFA.out j
    have c0 := (H.pull 2).cell 0
    by_cases hlt : j < n
    · have hgt : decide ((0 : Int) < (n : Int) - j) = true := decide_eq_true (by omega)
      have HF := Lib.hid (rFaultS_any p bs (rAcc (rdW bs) s1 j).2 H.swap)
      by_cases hz : (rAcc (rdW bs) s1 j).2.fe = 0
      · obtain ⟨t, ht⟩ : ∃ t, rAcc (rdW bs) s1 j = t := ⟨_, rfl⟩
        obtain ⟨t, q⟩ := t
        have HN := Lib.hid (rAcc_next hz ht)
        rw [ht] at HF hz hE hl
        dsimp only at HF hz hE hl
        rw [hz] at HF
        have HK := Lib.hid ((fun (w0 : World) (L0 : List SL) (h : Sat W w0 (rds p bs q :: L0)) => efrWrite_any p bs q hE hb h))
        obtain ⟨x, hx⟩ : ∃ x, rdW bs q = x := ⟨_, rfl⟩
        obtain ⟨⟨xa, xb, xd⟩, q'⟩ := x
        rw [hx] at HN HK
        dsimp only at HN HK
        have hf0 := fun b wx => fault_errR 0 b wx
        clear hx ht hz H
        go_wp2_with fail
        refine (HF.out).mono ?_
        rintro e w3 ⟨rfl, H3⟩
        go_wp2_with fail
        refine (HK.out _ _ H3).mono ?_
        rintro e w4 ⟨rfl, H4⟩
        have H5 := H4.alloc #[.string ⟨xa.toArray⟩, .string ⟨xb.toArray⟩, .bool xd] 65
        go_wp2_with (first
          | (at_builtin
             ((refine wpList_append_sl rfl (.tmp 21) (.tmp 24) 24 rfl 65 i0 _ zWt 40 Tryz.underlying24 hi hz0 rfl hz1 hz2 (by simp) zWt_like _ j _ rfl (H5.pull 2) (some ⟨w4.heap.size, 0, none⟩) 1 1 [.string ⟨xa.toArray⟩, .string ⟨xb.toArray⟩, .bool xd] rfl rfl (RdL.pt _ H5) (wt_one (⟨xa, xb, xd⟩ : Wt)) (wt_typed (⟨xa, xb, xd⟩ : Wt)) (by unfold maxLen; omega) (by omega) ?_); intro A7 c7 w7 H7)))
        refine ⟨⟨j + 1, A7, c7, by omega, by rw [HN.out]; show (t ++ [(⟨xa, xb, xd⟩ : Wt)]).length = _; rw [List.length_append, hl]; rfl, by go_num, rfl, ?_⟩, by simp [intOf]; omega⟩
        rw [HN.out]
        show Sat W w7 (row 65 zWt (.slice A7 (j + 1) c7) (j + 1) (wtC (t ++ [(⟨xa, xb, xd⟩ : Wt)])) :: rds p bs q' :: _)
        rw [show wtC (t ++ [(⟨xa, xb, xd⟩ : Wt)]) = wtC t ++ [.string ⟨xa.toArray⟩, .string ⟨xb.toArray⟩, .bool xd] by rw [wtC_append]; rfl]
        exact H7.swap.tail
      · have hto := rAcc_to (one := rdW bs) (s := s1) hj (.inr hz)
        obtain ⟨t, ht⟩ : ∃ t, rAcc (rdW bs) s1 j = t := ⟨_, rfl⟩
        obtain ⟨t, q⟩ := t
        rw [ht] at hto HF hz hE hl H
        dsimp only at HF hz hE hl H
        have HTO := Lib.hid (hto)
        subst hl
        have e2 : (q.fe == 0) = false := beq_eq_false_iff_ne.2 hz
        have hf0 := fun b wx => fault_errR q.fe b wx
        clear hz hto H ht
        go_wp2_with fail
        refine (HF.out).mono ?_
        rintro e w3 ⟨rfl, H3⟩
        go_wp2
        go_ret
        rw [HTO.out]
        exact ⟨A, c, rfl, (H3.pull 2).tail.swap⟩
    · obtain rfl : j = n := by omega
      have hgt : decide ((0 : Int) < (j : Int) - j) = false := decide_eq_false (by omega)
      obtain ⟨t, ht⟩ : ∃ t, rAcc (rdW bs) s1 j = t := ⟨_, rfl⟩
      have HTO := Lib.hid (ht)
      obtain ⟨t, q⟩ := t
      rw [ht] at hl H
      dsimp only at hl H
      clear ht
      go_wp2
      go_ret
      rw [HTO.out]
      dsimp only
      rw [hl]
      exact ⟨A, c, rfl, (H.pull 2).tail⟩
end Go.Proofs.YtodbmeklbamcfaaGreat

/- effect.Read: the program's own answer. -/
namespace Go.Proofs.YtodbmeklbamcfaaGreat
open Go.RowKit Go.Rt

theorem rdT_len (bs : List UInt8) (high : Int) (s : RS) : (rdT bs high s).1.length ≤ bs.length := by
  unfold rdT toldTxt
  by_cases h0 : s.fe = 0
  · rw [if_pos h0]
    cases ht : txtAt bs s.pl high with
    | bad e a => simp
    | ok t k =>
      unfold txtAt at ht
      cases hn : numAt bs s.pl 0 high 3 with
      | bad e a => rw [hn] at ht; cases ht
      | ok n j =>
        rw [hn] at ht
        dsimp only at ht
        split at ht
        · cases ht
          dsimp only
          rw [List.length_take, List.length_drop]; omega
        · cases ht
  · rw [if_neg h0]; simp
theorem rawE_ok (bs : List UInt8) (hb : bs.length ≤ 1000000) : EfOk (rawE bs) := by
  have hl : ∀ (s : RS) (h : s.Fine bs), (rdI bs 0 60 3 s).1.toNat ≤ 100000 := fun s h => by have := rdI_in bs 60 3 (by decide) s h; omega
  have f1 : (stWhy bs).2.Fine bs := rdI_fine bs 0 3 5 (by decide) _ ⟨Nat.zero_le _, fun _ => rfl⟩
  have f2 : (stSteps bs).2.Fine bs := rdI_fine bs 0 200 5 (by decide) _ f1
  have f3 : (lsR bs).2.Fine bs := rAcc_keeps (p := fun s => s.Fine bs) (fun s h => rdT_fine bs 32 s h) (rdI_fine bs 0 60 3 (by decide) _ f2) _
  have f4 : (lsS bs).2.Fine bs := rAcc_keeps (p := fun s => s.Fine bs) (fun s h => rdSp_fine bs s h) (rdI_fine bs 0 60 3 (by decide) _ f3) _
  refine ⟨Nat.le_trans (rAcc_len _ _) (hl _ f2), Nat.le_trans (rAcc_len _ _) (hl _ f3), Nat.le_trans (rAcc_len _ _) (hl _ f4), ?_, ?_, ?_⟩
  · exact rAcc_mem (q := fun t : Str => t.length ≤ 1000000) (fun s => Nat.le_trans (rdT_len bs 32 s) hb) _ _
  · exact rAcc_mem (q := fun s : Sp => s.lo.length ≤ 1000000 ∧ s.hi.length ≤ 1000000) (fun s => ⟨Nat.le_trans (rdT_len bs 64 _) hb, Nat.le_trans (rdT_len bs 64 _) hb⟩) _ _
  · refine rAcc_mem (q := fun w : Wt => w.k.length ≤ 1000000 ∧ w.v.length ≤ 1000000) (fun s => ?_) _ _
    unfold rdW
    split
    · exact ⟨Nat.le_trans (rdT_len bs 32 _) hb, by simp⟩
    · exact ⟨Nat.le_trans (rdT_len bs 32 _) hb, Nat.le_trans (rdT_len bs 64 _) hb⟩
theorem lsW_fine (bs : List UInt8) : (stWhy bs).2.Fine bs ∧ (stSteps bs).2.Fine bs ∧ (lsR bs).2.Fine bs ∧ (lsS bs).2.Fine bs ∧ (lsW bs).2.Fine bs := by
  have f1 : (stWhy bs).2.Fine bs := rdI_fine bs 0 3 5 (by decide) _ ⟨Nat.zero_le _, fun _ => rfl⟩
  have f2 : (stSteps bs).2.Fine bs := rdI_fine bs 0 200 5 (by decide) _ f1
  have f3 : (lsR bs).2.Fine bs := rAcc_keeps (p := fun s => s.Fine bs) (fun s h => rdT_fine bs 32 s h) (rdI_fine bs 0 60 3 (by decide) _ f2) _
  have f4 : (lsS bs).2.Fine bs := rAcc_keeps (p := fun s => s.Fine bs) (fun s h => rdSp_fine bs s h) (rdI_fine bs 0 60 3 (by decide) _ f3) _
  exact ⟨f1, f2, f3, f4, rAcc_keeps (p := fun s => s.Fine bs) (fun s h => rdW_fine bs s h) (rdI_fine bs 0 60 3 (by decide) _ f4) _⟩

/-- An effect and a fault told, its lists new ones. -/
def EReadPost (W : World) (L : List SL) (r : Ef × Int × Int) (e : Ending) (w' : World) : Prop :=
  ∃ q, e = .returned (.tuple #[r.1.v q, .agg #[.int .i64 r.2.1, .int .i64 r.2.2]]) ∧ Sat W w' (efN r.1 q L)

set_option maxRecDepth 100000 in
set_option maxHeartbeats 4000000 in
theorem efRead_any {W w : World} {L : List SL} (A : Option Addr) (c : Nat) (bs : List UInt8) (hr : RdL W L A (bs.map B)) (hb : bs.length ≤ 1000000) (H : Sat W w L) :
    Calls Tryz.prog 31 #[.slice A bs.length c] w fun e w' => EReadPost W L (readE bs) e w' := by
  have hok := rawE_ok bs hb
  obtain ⟨f1, f2, f3, f4, f5⟩ := lsW_fine bs
  have eR : readE bs = if (endF bs (lsW bs).2.pl (lsW bs).2.fe (lsW bs).2.fa).1 ≠ 0 then (noE, endF bs (lsW bs).2.pl (lsW bs).2.fe (lsW bs).2.fa) else if checkX (rawE bs) ≠ 0 then (noE, 2, 0) else (rawE bs, 0, 0) := rfl
  have eX : rawE bs = ⟨(stWhy bs).1, (stSteps bs).1, (lsR bs).1, (lsS bs).1, (lsW bs).1⟩ := rfl
  have hb9 : bs.length ≤ 1000000000 := by omega
  have K1 := fun (p : Nat) (w0 : World) (L0 : List SL) (h : Sat W w0 (rds p bs ⟨0, 0, 0⟩ :: L0)) => rIntS_any p bs ⟨0, 0, 0⟩ 0 3 ⟨Nat.zero_le _, fun _ => rfl⟩ hb9 h
  have K2 := fun (p : Nat) (w0 : World) (L0 : List SL) (h : Sat W w0 (rds p bs (stWhy bs).2 :: L0)) => rIntS_any p bs (stWhy bs).2 0 200 f1 hb9 h
  have K3 := fun (p : Nat) (w0 : World) (L0 : List SL) (h : Sat W w0 (rds p bs (stSteps bs).2 :: L0)) => efgetT_any p bs (stSteps bs).2 f2 hb9 h
  have K4 := fun (p : Nat) (w0 : World) (L0 : List SL) (h : Sat W w0 (rds p bs (lsR bs).2 :: L0)) => efgetS_any p bs (lsR bs).2 f3 hb9 h
  have K5 := fun (p : Nat) (w0 : World) (L0 : List SL) (h : Sat W w0 (rds p bs (lsS bs).2 :: L0)) => efgetW_any p bs (lsS bs).2 f4 hb9 h
  have K6 := fun (p : Nat) (w0 : World) (L0 : List SL) (h : Sat W w0 (rds p bs (lsW bs).2 :: L0)) => rEnd_any p bs (lsW bs).2.pl (lsW bs).2.fe (lsW bs).2.fa f5.1 hb9 h
  change ∀ (p : Nat) (w0 : World) (L0 : List SL), Sat W w0 (rds p bs ⟨0, 0, 0⟩ :: L0) → Calls Tryz.prog 84 #[.pointer (some ⟨p, 0, none⟩), .int .i64 0, .int .i64 3] w0 fun e w' => e = .returned (.int .i64 (stWhy bs).1) ∧ Sat W w' (rds p bs (stWhy bs).2 :: L0) at K1
  change ∀ (p : Nat) (w0 : World) (L0 : List SL), Sat W w0 (rds p bs (stWhy bs).2 :: L0) → Calls Tryz.prog 84 #[.pointer (some ⟨p, 0, none⟩), .int .i64 0, .int .i64 200] w0 fun e w' => e = .returned (.int .i64 (stSteps bs).1) ∧ Sat W w' (rds p bs (stSteps bs).2 :: L0) at K2
  change ∀ (p : Nat) (w0 : World) (L0 : List SL), Sat W w0 (rds p bs (stSteps bs).2 :: L0) → Calls Tryz.prog 85 #[.agg #[.pointer (some ⟨p, 0, none⟩)], .func (.func 86) #[.agg #[.pointer (some ⟨p, 0, none⟩)]] #[]] w0 fun e w' => ∃ A c, e = .returned (.slice A (lsR bs).1.length c) ∧ Sat W w' (seenS 9 (.slice A (lsR bs).1.length c) (lsR bs).1.length (tsC (lsR bs).1) :: rds p bs (lsR bs).2 :: L0) at K3
  change ∀ (p : Nat) (w0 : World) (L0 : List SL), Sat W w0 (rds p bs (lsR bs).2 :: L0) → Calls Tryz.prog 87 #[.agg #[.pointer (some ⟨p, 0, none⟩)], .func (.func 88) #[.agg #[.pointer (some ⟨p, 0, none⟩)]] #[]] w0 fun e w' => ∃ A c, e = .returned (.slice A (lsS bs).1.length c) ∧ Sat W w' (row 74 zSp (.slice A (lsS bs).1.length c) (lsS bs).1.length (spC (lsS bs).1) :: rds p bs (lsS bs).2 :: L0) at K4
  change ∀ (p : Nat) (w0 : World) (L0 : List SL), Sat W w0 (rds p bs (lsS bs).2 :: L0) → Calls Tryz.prog 89 #[.agg #[.pointer (some ⟨p, 0, none⟩)], .func (.func 90) #[.agg #[.pointer (some ⟨p, 0, none⟩)]] #[]] w0 fun e w' => ∃ A c, e = .returned (.slice A (lsW bs).1.length c) ∧ Sat W w' (row 65 zWt (.slice A (lsW bs).1.length c) (lsW bs).1.length (wtC (lsW bs).1) :: rds p bs (lsW bs).2 :: L0) at K5
  clear f1 f2 f3 f4 f5
  generalize stWhy bs = x1 at *
  generalize stSteps bs = x2 at *
  generalize lsR bs = x3 at *
  generalize lsS bs = x4 at *
  generalize lsW bs = x5 at *
  obtain ⟨why, s1⟩ := x1
  obtain ⟨steps, s2⟩ := x2
  obtain ⟨rs, s3⟩ := x3
  obtain ⟨ss, s4⟩ := x4
  obtain ⟨ws, s5⟩ := x5
  dsimp only at K1 K2 K3 K4 K5 K6 eR eX
  generalize rawE bs = X at *
  subst eX
  generalize readE bs = R at *
  generalize endF bs s5.pl s5.fe s5.fa = E at *
  obtain ⟨fe, fa⟩ := E
  dsimp only at K6 eR
  have H1' := Lib.hid (K1)
  have H2' := Lib.hid (K2)
  have H3' := Lib.hid (K3)
  have H4' := Lib.hid (K4)
  have H5' := Lib.hid (K5)
  have H6' := Lib.hid (K6)
  have HR := Lib.hid (eR)
  have HOK := Lib.hid (hok)
  clear K1 K2 K3 K4 K5 K6 eR hok
  have G0 := (H.alloc #[.int .i64 0, .int .i64 0, .slice none 0 0, .slice none 0 0, .slice none 0 0] 26).alloc #[.int .i64 0, .int .i64 0] 45
  rw [World.size_alloc] at G0
  have HOP := Lib.hid (open_any A c bs (RdL.tail (RdL.tail hr)) hb9 G0)
  clear hr G0 hb hb9 H
  go_enter Tryz.func31, Tryz.ntmps31
  go_wp2_with fail
  refine (HOP.out).mono ?_
  rintro e w1 ⟨p, rfl, G1⟩
  have G2 := G1.alloc #[.pointer (some ⟨p, 0, none⟩)] 109
  have d0 := G2.cell 0
  go_wp2_with fail
  refine (H1'.out p _ _ G2.swap).mono ?_
  rintro e w2 ⟨rfl, G3⟩
  clear d0
  have d0 := G3.swap.cell 0
  go_wp2_with fail
  refine (H2'.out p _ _ G3).mono ?_
  rintro e w3 ⟨rfl, G4⟩
  clear d0
  have d0 := G4.swap.cell 0
  have G5 := G4.alloc #[.int .i64 why, .int .i64 steps, .slice none 0 0, .slice none 0 0, .slice none 0 0] 26
  clear d0
  have d0 := (G5.pull 2).cell 0
  go_wp2_with fail
  refine (H3'.out p _ _ G5.swap).mono ?_
  rintro e w4 ⟨A3, c3, rfl, G6⟩
  clear d0
  have n2 := (G6.pull 2).cell 2
  have m2 := (G6.pull 2).frz 2
  have G7 := (G6.pull 2).setCell 2 (.slice A3 rs.length c3)
  generalize hw5 : w4.setCell ⟨w3.heap.size, 2, none⟩ (.slice A3 rs.length c3) = w5 at G7
  have d0 := (G7.pull 3).cell 0
  go_wp2_with fail
  refine (H4'.out p _ _ (G7.pull 2)).mono ?_
  rintro e w6 ⟨A4, c4, rfl, G8⟩
  clear d0 hw5 n2 m2
  have n2 := (G8.pull 2).cell 3
  have m2 := (G8.pull 2).frz 3
  have G9 := (G8.pull 2).setCell 3 (.slice A4 ss.length c4)
  generalize hw7 : w6.setCell ⟨w3.heap.size, 3, none⟩ (.slice A4 ss.length c4) = w7 at G9
  have d0 := (G9.pull 4).cell 0
  go_wp2_with fail
  refine (H5'.out p _ _ (G9.pull 2)).mono ?_
  rintro e w8 ⟨A5, c5, rfl, G10⟩
  clear d0 hw7 n2 m2
  have n2 := (G10.pull 2).cell 4
  have m2 := (G10.pull 2).frz 4
  have G11 := (G10.pull 2).setCell 4 (.slice A5 ws.length c5)
  generalize hw9 : w8.setCell ⟨w3.heap.size, 4, none⟩ (.slice A5 ws.length c5) = w9 at G11
  have d0 := (G11.pull 5).cell 0
  go_wp2_with fail
  refine (H6'.out p _ _ (G11.pull 2)).mono ?_
  rintro e w10 ⟨rfl, G12⟩
  clear d0 hw9 n2 m2
  have G13 := G12.alloc #[.int .i64 fe, .int .i64 fa] 45
  clear H1' H2' H3' H4' H5' H6' HOP G1 G2 G3 G4 G5 G6 G7 G8 G9 G10 G11 G12
  generalize w1.heap.size = qr at *
  generalize w3.heap.size = qx at *
  by_cases hf : fe = 0
  · subst hf
    have m0 := G13.cell 0
    have HRD := Lib.hid ((RdL.pt _ (G13.pull 2) : Rd _ (some ⟨qx, 0, none⟩) (Ef.cs ⟨why, steps, rs, ss, ws⟩ ⟨A3, c3, A4, c4, A5, c5⟩)))
    have HCK := Lib.hid (efChk_any ⟨why, steps, rs, ss, ws⟩ ⟨A3, c3, A4, c4, A5, c5⟩ HOK.out (efN_rd (x := ⟨why, steps, rs, ss, ws⟩) (q := ⟨A3, c3, A4, c4, A5, c5⟩) G13.tail.tail.tail).tail.tail.tail G13)
    generalize hck : checkX ⟨why, steps, rs, ss, ws⟩ = ck at *
    go_wp2_with ((refine wpList_load_rd rfl (.tmp 6) 26 rfl qx 0 (Ef.cs ⟨why, steps, rs, ss, ws⟩ ⟨A3, c3, A4, c4, A5, c5⟩) (by rw [Tryz.underlying26]) ef_size (by simp [Act.eval]) HRD.out ?_))
    refine (HCK.out).mono ?_
    rintro e w12 ⟨rfl, G14⟩
    clear HCK HRD m0 HOK
    generalize w10.heap.size = qt at *
    generalize w.heap.size + 1 = qf at *
    generalize w.heap.size = qe at *
    have n1 : qe ≠ qf := ((G13.pull 7).pull 8).ne
    have n2 : qf ≠ qe := fun h => n1 h.symm
    have n3 : qe ≠ qt := (G13.pull 8).ne
    have n4 : qt ≠ qe := fun h => n3 h.symm
    have n5 : qf ≠ qt := (G13.pull 7).ne
    have n6 : qt ≠ qf := fun h => n5 h.symm
    have n7 : qe ≠ qx := ((G13.pull 2).pull 8).ne
    have n8 : qx ≠ qe := fun h => n7 h.symm
    have n9 : qf ≠ qx := ((G13.pull 2).pull 7).ne
    have n10 : qx ≠ qf := fun h => n9 h.symm
    by_cases hc : ck = 0
    · subst hc
      obtain rfl : R = (⟨why, steps, rs, ss, ws⟩, 0, 0) := by rw [HR.out, if_neg (by simp), if_neg (by simp)]
      clear HR
      have z0 : w12.cell? ⟨qe, 0, none⟩ = some (.int .i64 0) := (G14.pull 8).cell 0
      have z1 : w12.cell? ⟨qe, 1, none⟩ = some (.int .i64 0) := (G14.pull 8).cell 1
      have z2 : w12.cell? ⟨qe, 2, none⟩ = some (.slice none 0 0) := (G14.pull 8).cell 2
      have z3 : w12.cell? ⟨qe, 3, none⟩ = some (.slice none 0 0) := (G14.pull 8).cell 3
      have z4 : w12.cell? ⟨qe, 4, none⟩ = some (.slice none 0 0) := (G14.pull 8).cell 4
      have f0 := (G14.pull 8).frz 0
      have f1 := (G14.pull 8).frz 1
      have f2 := (G14.pull 8).frz 2
      have f3 := (G14.pull 8).frz 3
      have f4 := (G14.pull 8).frz 4
      have y0 : w12.cell? ⟨qf, 0, none⟩ = some (.int .i64 0) := (G14.pull 7).cell 0
      have y1 : w12.cell? ⟨qf, 1, none⟩ = some (.int .i64 0) := (G14.pull 7).cell 1
      have g0 := (G14.pull 7).frz 0
      have g1 := (G14.pull 7).frz 1
      have j0 := (G14.pull 2).cell 0
      have j1 := (G14.pull 2).cell 1
      have j2 := (G14.pull 2).cell 2
      have j3 := (G14.pull 2).cell 3
      have j4 := (G14.pull 2).cell 4
      go_wp2
      all_goals
        have HZ := ((((((((G14.pull 8).setCell 0 (.int .i64 why)).setCell 1 (.int .i64 steps)).setCell 2 (.slice A3 rs.length c3)).setCell 3 (.slice A4 ss.length c4)).setCell 4 (.slice A5 ws.length c5)).pull 8).setCell 0 (.int .i64 0)).setCell 1 (.int .i64 0)
        generalize World.setCell _ ⟨qf, 1, none⟩ _ = wz at HZ ⊢
        have z0 : wz.cell? ⟨qe, 0, none⟩ = some (.int .i64 why) := HZ.swap.cell 0
        have z1 : wz.cell? ⟨qe, 1, none⟩ = some (.int .i64 steps) := HZ.swap.cell 1
        have z2 : wz.cell? ⟨qe, 2, none⟩ = some (.slice A3 rs.length c3) := HZ.swap.cell 2
        have z3 : wz.cell? ⟨qe, 3, none⟩ = some (.slice A4 ss.length c4) := HZ.swap.cell 3
        have z4 : wz.cell? ⟨qe, 4, none⟩ = some (.slice A5 ws.length c5) := HZ.swap.cell 4
        have y0 : wz.cell? ⟨qf, 0, none⟩ = some (.int .i64 0) := HZ.cell 0
        have y1 : wz.cell? ⟨qf, 1, none⟩ = some (.int .i64 0) := HZ.cell 1
        (try go_wp2)
        refine bodyPost_ret (v := .tuple #[Ef.v ⟨why, steps, rs, ss, ws⟩ ⟨A3, c3, A4, c4, A5, c5⟩, .agg #[.int .i64 0, .int .i64 0]]) ?_ rfl ⟨⟨A3, c3, A4, c4, A5, c5⟩, rfl, ?_⟩
        · simp [results, Tryz.results31, go_sem, z0, z1, z2, z3, z4, y0, y1, noE, Ef.v, Ef.cs]
        · exact (((HZ.tail.tail.tail.tail.tail).pull 3).tail)
    · have e1 : (ck != 0) = true := by simpa using hc
      obtain rfl : R = (noE, 2, 0) := by rw [HR.out, if_neg (by simp), if_pos hc]
      clear HR
      have z0 : w12.cell? ⟨qe, 0, none⟩ = some (.int .i64 0) := (G14.pull 8).cell 0
      have z1 : w12.cell? ⟨qe, 1, none⟩ = some (.int .i64 0) := (G14.pull 8).cell 1
      have z2 : w12.cell? ⟨qe, 2, none⟩ = some (.slice none 0 0) := (G14.pull 8).cell 2
      have z3 : w12.cell? ⟨qe, 3, none⟩ = some (.slice none 0 0) := (G14.pull 8).cell 3
      have z4 : w12.cell? ⟨qe, 4, none⟩ = some (.slice none 0 0) := (G14.pull 8).cell 4
      have f0 := (G14.pull 8).frz 0
      have f1 := (G14.pull 8).frz 1
      have f2 := (G14.pull 8).frz 2
      have f3 := (G14.pull 8).frz 3
      have f4 := (G14.pull 8).frz 4
      have y0 : w12.cell? ⟨qf, 0, none⟩ = some (.int .i64 0) := (G14.pull 7).cell 0
      have y1 : w12.cell? ⟨qf, 1, none⟩ = some (.int .i64 0) := (G14.pull 7).cell 1
      have g0 := (G14.pull 7).frz 0
      have g1 := (G14.pull 7).frz 1
      go_wp2
      all_goals
        have HZ := ((((((((G14.pull 8).setCell 0 (.int .i64 0)).setCell 1 (.int .i64 0)).setCell 2 (.slice none 0 0)).setCell 3 (.slice none 0 0)).setCell 4 (.slice none 0 0)).pull 8).setCell 0 (.int .i64 2)).setCell 1 (.int .i64 0)
        generalize World.setCell _ ⟨qf, 1, none⟩ _ = wz at HZ ⊢
        have z0 : wz.cell? ⟨qe, 0, none⟩ = some (.int .i64 0) := HZ.swap.cell 0
        have z1 : wz.cell? ⟨qe, 1, none⟩ = some (.int .i64 0) := HZ.swap.cell 1
        have z2 : wz.cell? ⟨qe, 2, none⟩ = some (.slice none 0 0) := HZ.swap.cell 2
        have z3 : wz.cell? ⟨qe, 3, none⟩ = some (.slice none 0 0) := HZ.swap.cell 3
        have z4 : wz.cell? ⟨qe, 4, none⟩ = some (.slice none 0 0) := HZ.swap.cell 4
        have y0 : wz.cell? ⟨qf, 0, none⟩ = some (.int .i64 2) := HZ.cell 0
        have y1 : wz.cell? ⟨qf, 1, none⟩ = some (.int .i64 0) := HZ.cell 1
        (try go_wp2)
        refine bodyPost_ret (v := .tuple #[noE.v ⟨none, 0, none, 0, none, 0⟩, .agg #[.int .i64 2, .int .i64 0]]) ?_ rfl ⟨⟨none, 0, none, 0, none, 0⟩, rfl, ?_⟩
        · simp [results, Tryz.results31, go_sem, z0, z1, z2, z3, z4, y0, y1, noE, Ef.v, Ef.cs]
        · exact (((HZ.tail.tail.tail.tail.tail.tail.tail.tail.tail).new_nil 9 [.string ⟨#[]⟩]).nil 74 zSp).nil 65 zWt
  · have e0 : (fe != 0) = true := by simpa using hf
    obtain rfl : R = (noE, fe, fa) := by rw [HR.out, if_pos hf]
    clear HR HOK
    go_wp2
    generalize w10.heap.size = qt at *
    generalize w10.alloc (.cells #[.int .i64 fe, .int .i64 fa] 45) = w11 at *
    have m0 : w11.cell? ⟨qt, 0, none⟩ = some (.int .i64 fe) := G13.cell 0
    have m1 : w11.cell? ⟨qt, 1, none⟩ = some (.int .i64 fa) := G13.cell 1
    generalize w.heap.size + 1 = qf at *
    generalize w.heap.size = qe at *
    have n1 : qe ≠ qf := ((G13.pull 7).pull 8).ne
    have n2 : qf ≠ qe := fun h => n1 h.symm
    have n3 : qe ≠ qt := (G13.pull 8).ne
    have n4 : qt ≠ qe := fun h => n3 h.symm
    have n5 : qf ≠ qt := (G13.pull 7).ne
    have n6 : qt ≠ qf := fun h => n5 h.symm
    have z0 : w11.cell? ⟨qe, 0, none⟩ = some (.int .i64 0) := (G13.pull 8).cell 0
    have z1 : w11.cell? ⟨qe, 1, none⟩ = some (.int .i64 0) := (G13.pull 8).cell 1
    have z2 : w11.cell? ⟨qe, 2, none⟩ = some (.slice none 0 0) := (G13.pull 8).cell 2
    have z3 : w11.cell? ⟨qe, 3, none⟩ = some (.slice none 0 0) := (G13.pull 8).cell 3
    have z4 : w11.cell? ⟨qe, 4, none⟩ = some (.slice none 0 0) := (G13.pull 8).cell 4
    have f0 := (G13.pull 8).frz 0
    have f1 := (G13.pull 8).frz 1
    have f2 := (G13.pull 8).frz 2
    have f3 := (G13.pull 8).frz 3
    have f4 := (G13.pull 8).frz 4
    have y0 : w11.cell? ⟨qf, 0, none⟩ = some (.int .i64 0) := (G13.pull 7).cell 0
    have y1 : w11.cell? ⟨qf, 1, none⟩ = some (.int .i64 0) := (G13.pull 7).cell 1
    have g0 := (G13.pull 7).frz 0
    have g1 := (G13.pull 7).frz 1
    go_region_law (fail)
    all_goals
      have HZ := ((((((((G13.pull 8).setCell 0 (.int .i64 0)).setCell 1 (.int .i64 0)).setCell 2 (.slice none 0 0)).setCell 3 (.slice none 0 0)).setCell 4 (.slice none 0 0)).pull 8).setCell 0 (.int .i64 fe)).setCell 1 (.int .i64 fa)
      have HZ := HZ.drew
      generalize World.drew _ = wz at HZ ⊢
      have z0 : wz.cell? ⟨qe, 0, none⟩ = some (.int .i64 0) := HZ.swap.cell 0
      have z1 : wz.cell? ⟨qe, 1, none⟩ = some (.int .i64 0) := HZ.swap.cell 1
      have z2 : wz.cell? ⟨qe, 2, none⟩ = some (.slice none 0 0) := HZ.swap.cell 2
      have z3 : wz.cell? ⟨qe, 3, none⟩ = some (.slice none 0 0) := HZ.swap.cell 3
      have z4 : wz.cell? ⟨qe, 4, none⟩ = some (.slice none 0 0) := HZ.swap.cell 4
      have y0 : wz.cell? ⟨qf, 0, none⟩ = some (.int .i64 fe) := HZ.cell 0
      have y1 : wz.cell? ⟨qf, 1, none⟩ = some (.int .i64 fa) := HZ.cell 1
      go_wp2
      refine bodyPost_ret (v := .tuple #[noE.v ⟨none, 0, none, 0, none, 0⟩, .agg #[.int .i64 fe, .int .i64 fa]]) ?_ rfl ⟨⟨none, 0, none, 0, none, 0⟩, rfl, ?_⟩
      · simp [results, Tryz.results31, go_sem, z0, z1, z2, z3, z4, y0, y1, noE, Ef.v, Ef.cs]
      · exact (((HZ.tail.tail.tail.tail.tail.tail.tail.tail.tail).new_nil 9 [.string ⟨#[]⟩]).nil 74 zSp).nil 65 zWt
end Go.Proofs.YtodbmeklbamcfaaGreat

/- What is read of bytes: how long, where a fault lies. No program in sight. -/
namespace Go.Proofs.YtodbmeklbamcfaaGreat
open Go.RowKit Go.Rt

theorem readE_fit (bs : List UInt8) (hb : bs.length ≤ 1000000) : EfOk (readE bs).1 := by
  have h0 : EfOk noE := ⟨by simp [noE], by simp [noE], by simp [noE], fun t ht => by simp [noE] at ht, fun t ht => by simp [noE] at ht, fun t ht => by simp [noE] at ht⟩
  unfold readE
  split
  · exact h0
  · split
    · exact h0
    · exact rawE_ok bs hb
def RS.In (bs : List UInt8) (s : RS) : Prop := s.Fine bs ∧ 0 ≤ s.fa ∧ s.fa ≤ bs.length
theorem rdI_within (bs : List UInt8) (low high above : Int) (ha : above ≠ 0) (s : RS) (h : s.In bs) : (rdI bs low high above s).2.In bs := by
  have hf := rdI_fine bs low high above ha s h.1
  refine ⟨hf, ?_⟩
  by_cases h0 : s.fe = 0
  · by_cases h1 : (rdI bs low high above s).2.fe = 0
    · rw [hf.2 h1]; omega
    · obtain ⟨pl, fe, fa⟩ := s
      have h2 := h.1.2 h0
      dsimp only at h0 h2
      subst h0 h2
      obtain ⟨_, h3, h4⟩ := toldInt_where bs pl low high above h.1.1 h1
      exact ⟨Int.le_trans (Int.natCast_nonneg pl) h3, h4⟩
  · rw [rdI_stuck bs low high above s h0]; exact h.2
theorem rdT_within (bs : List UInt8) (high : Int) (s : RS) (h : s.In bs) : (rdT bs high s).2.In bs := by
  have hf := rdT_fine bs high s h.1
  refine ⟨hf, ?_⟩
  by_cases h0 : s.fe = 0
  · by_cases h1 : (rdT bs high s).2.fe = 0
    · rw [hf.2 h1]; omega
    · obtain ⟨pl, fe, fa⟩ := s
      have h2 := h.1.2 h0
      dsimp only at h0 h2
      subst h0 h2
      obtain ⟨_, h3, h4⟩ := toldTxt_where bs pl high h.1.1 h1
      exact ⟨Int.le_trans (Int.natCast_nonneg pl) h3, h4⟩
  · rw [rdT_stuck bs high s h0]; exact h.2
theorem rdSp_within (bs : List UInt8) (s : RS) (h : s.In bs) : (rdSp bs s).2.In bs := rdT_within bs 64 _ (rdT_within bs 64 s h)
theorem rdW_within (bs : List UInt8) (s : RS) (h : s.In bs) : (rdW bs s).2.In bs := by
  unfold rdW
  split
  · exact rdI_within bs 0 1 5 (by decide) _ (rdT_within bs 32 s h)
  · exact rdT_within bs 64 _ (rdI_within bs 0 1 5 (by decide) _ (rdT_within bs 32 s h))
theorem lsW_within (bs : List UInt8) : (lsW bs).2.In bs := by
  have f1 : (stWhy bs).2.In bs := rdI_within bs 0 3 5 (by decide) _ ⟨⟨Nat.zero_le _, fun _ => rfl⟩, by simp, by simp⟩
  have f2 : (stSteps bs).2.In bs := rdI_within bs 0 200 5 (by decide) _ f1
  have f3 : (lsR bs).2.In bs := rAcc_keeps (p := fun s => s.In bs) (fun s h => rdT_within bs 32 s h) (rdI_within bs 0 60 3 (by decide) _ f2) _
  have f4 : (lsS bs).2.In bs := rAcc_keeps (p := fun s => s.In bs) (fun s h => rdSp_within bs s h) (rdI_within bs 0 60 3 (by decide) _ f3) _
  exact rAcc_keeps (p := fun s => s.In bs) (fun s h => rdW_within bs s h) (rdI_within bs 0 60 3 (by decide) _ f4) _
/-- What is read: a fault, in the bytes, and nothing; or an effect that may be, whose bytes they are. -/
theorem readE_parts (bs : List UInt8) : ((readE bs).2.1 ≠ 0 ∧ (readE bs).1 = noE ∧ 0 ≤ (readE bs).2.2 ∧ (readE bs).2.2 ≤ bs.length) ∨ ((readE bs).2.1 = 0 ∧ (readE bs).2.2 = 0 ∧ checkX (readE bs).1 = 0 ∧ bytesX (readE bs).1 = bs) := by
  have hw := lsW_within bs
  by_cases h : (endF bs (lsW bs).2.pl (lsW bs).2.fe (lsW bs).2.fa).1 ≠ 0
  · have e : readE bs = (noE, endF bs (lsW bs).2.pl (lsW bs).2.fe (lsW bs).2.fa) := by unfold readE; rw [if_pos h]
    rw [e]
    refine .inl ⟨h, rfl, ?_⟩
    unfold endF
    split
    · exact ⟨Int.natCast_nonneg _, Int.ofNat_le.2 hw.1.1⟩
    · exact hw.2
  · by_cases h2 : checkX (rawE bs) ≠ 0
    · have e : readE bs = (noE, 2, 0) := by unfold readE; rw [if_neg h, if_pos h2]
      rw [e]
      exact .inl ⟨by simp, rfl, by simp, by simp⟩
    · have e : readE bs = (rawE bs, 0, 0) := by unfold readE; rw [if_neg h, if_neg h2]
      obtain ⟨h3, h4⟩ := readE_back e
      rw [e]
      exact .inr ⟨rfl, rfl, h3, h4⟩
theorem bytesX_len {x : Ef} (h : checkX x = 0) : (bytesX x).length ≤ 100000 := by
  obtain ⟨l1, l2, l3, _, _, t1, t2, t3⟩ := fine_parts h
  have f1 := flat_le txtE 160 x.rs (fun t h => Nat.le_trans (txtE_len t (t1 t h)) (by omega))
  have f2 := flat_le spE 160 x.ss (fun t h => Nat.le_trans (spE_len t (t2 t h).1 (t2 t h).2) (by omega))
  have f3 := flat_le wtE 160 x.ws (fun t h => Nat.le_trans (wtE_len t (t3 t h).1 (t3 t h).2) (by omega))
  have g1 : x.rs.length * 160 ≤ 60 * 160 := Nat.mul_le_mul_right _ l1
  have g2 : x.ss.length * 160 ≤ 60 * 160 := Nat.mul_le_mul_right _ l2
  have g3 : x.ws.length * 160 ≤ 60 * 160 := Nat.mul_le_mul_right _ l3
  have hse : ∀ n, (sev n).length ≤ 9 := fun n => sevF_len 9 n
  have s1 := hse x.why.toNat
  have s2 := hse x.steps.toNat
  have s3 := hse x.rs.length
  have s4 := hse x.ss.length
  have s5 := hse x.ws.length
  unfold bytesX
  simp only [List.length_append]
  omega
end Go.Proofs.YtodbmeklbamcfaaGreat

/- EffectKnown answers true. -/
namespace Go.Proofs.YtodbmeklbamcfaaGreat
open Go.RowKit Go.Rt

theorem no_rd {W : World} {L : List SL} : EfRd W L noE ⟨none, 0, none, 0, none, 0⟩ :=
  have h : Bsl none 0 0 := ⟨Nat.le_refl _, fun _ => rfl, by unfold maxLen; omega⟩
  have r : ∀ (l : List Value), l = [] → RdL W L none l := fun l e w' _ j u hu => by subst e; simp at hu
  ⟨h, h, h, r _ rfl, r _ rfl, r _ rfl⟩
theorem one_bsl (b n : Nat) (hn : n ≤ 1000) : Bsl (some ⟨b, 0, none⟩) n n := ⟨Nat.le_refl _, nofun, by unfold maxLen; omega⟩
set_option maxRecDepth 100000 in
set_option maxHeartbeats 4000000 in
theorem effails_any {W w : World} {L : List SL} (A : Option Addr) (c : Nat) (bs : List UInt8) (fe fa : Int) (hr : RdL W L A (bs.map B)) (hb : bs.length ≤ 1000000) (he : readE bs = (noE, fe, fa)) (H : Sat W w L) :
    Calls Tryz.prog 36 #[.slice A bs.length c, .int .i64 fe, .int .i64 fa] w fun e w' => e = .returned (.bool true) ∧ Sat W w' L := by
  have K1 := efRead_any A c bs hr hb H
  simp only [he] at K1
  have K2 : Calls Tryz.prog 31 #[.slice A bs.length c] w fun e w' => ∃ q : EfAt, e = .returned (.tuple #[.agg #[.int .i64 0, .int .i64 0, .slice q.A 0 q.c, .slice q.A' 0 q.c', .slice q.A'' 0 q.c''], .agg #[.int .i64 fe, .int .i64 fa]]) ∧ Sat W w' (efN noE q L) := K1
  have HR := Lib.hid (K2)
  have hok : EfOk noE := by have := readE_fit bs hb; rw [he] at this; exact this
  have HS := Lib.hid (fun (w0 : World) (L0 : List SL) (q q' : EfAt) (h1 : EfRd W L0 noE q) (h2 : EfRd W L0 noE q') (h : Sat W w0 L0) => (show Calls Tryz.prog 26 #[.agg #[.int .i64 0, .int .i64 0, .slice q.A 0 q.c, .slice q.A' 0 q.c', .slice q.A'' 0 q.c''], .agg #[.int .i64 0, .int .i64 0, .slice q'.A 0 q'.c, .slice q'.A' 0 q'.c', .slice q'.A'' 0 q'.c'']] w0 fun e w' => e = .returned (.bool true) ∧ Sat W w' L0 from (by have := SameEffect_any noE noE q q' hok h1 h2 h; rw [decide_eq_true rfl] at this; exact this)))
  clear K1 K2 he hr H hok
  go_enter Tryz.func36, Tryz.ntmps36
  go_wp2_with fail
  refine (HR.out).mono ?_
  rintro e w1 ⟨q, rfl, H1⟩
  have HQ := Lib.hid (efN_rd H1)
  have H2 := (H1.alloc #[.int .i64 0, .int .i64 0, .slice q.A 0 q.c, .slice q.A' 0 q.c', .slice q.A'' 0 q.c''] 26).alloc #[.int .i64 fe, .int .i64 fa] 45
  simp only [World.size_alloc] at H2
  have n0 := H2.cell 0
  have n1 := H2.cell 1
  have k0 := H2.swap.cell 0
  have k1 := H2.swap.cell 1
  have k2 := H2.swap.cell 2
  have k3 := H2.swap.cell 3
  have k4 := H2.swap.cell 4
  go_wp2_with fail
  refine (HS.out _ _ q ⟨none, 0, none, 0, none, 0⟩ HQ.out.tail.tail no_rd H2).mono ?_
  rintro e w2 ⟨rfl, H3⟩
  go_wp2
  go_ret
  exact ⟨rfl, Sat.drops [_, _, _, _, _] H3⟩
def knX : Ef := ⟨4, 3, [[98]], [⟨[99], [100]⟩], []⟩
def knY : Ef := ⟨1, 3, [[98]], [⟨[99], [100]⟩], [⟨[98], [50], false⟩]⟩
def knZ : Ef := ⟨0, 3, [[98], [97]], [⟨[99], [100]⟩], [⟨[98], [50], false⟩]⟩
theorem knX_ok : EfOk knX := ⟨by decide, by decide, by decide, by decide, by decide, by decide⟩
theorem knY_ok : EfOk knY := ⟨by decide, by decide, by decide, by decide, by decide, by decide⟩
theorem knZ_ok : EfOk knZ := ⟨by decide, by decide, by decide, by decide, by decide, by decide⟩
theorem knX_no : checkX knX = 2 := by decide +kernel
theorem knY_no : checkX knY = 2 := by decide +kernel
theorem knZ_no : checkX knZ = 2 := by decide +kernel
theorem kn_b : meetsX smpX [[98]] = true := by decide +kernel
theorem kn_a : meetsX smpX [[97]] = false := by decide +kernel
theorem kn_n : meetsX smpX [] = false := by decide +kernel
theorem kn_k : smpX.keys = [[98]] := by decide +kernel
theorem kn_r1 : readE [0] = (noE, 4, 1) := by decide +kernel
theorem kn_r2 : readE [0, 3, 0, 0, 0, 9] = (noE, 4, 5) := by decide +kernel
theorem kn_r3 : readE [4] = (noE, 5, 0) := by decide +kernel
theorem none_rd {W : World} {L : List SL} (l : List Value) (e : l = []) : RdL W L none l := fun w' _ j u hu => by subst e; simp at hu
set_option maxRecDepth 100000 in
set_option maxHeartbeats 8000000 in
theorem lawEffectKnown_any {W : World} : Calls Tryz.prog 6 #[] W fun e w' => e = .returned (.bool true) ∧ Sat W w' [] := by
  have HS := Lib.hid (fun (w0 : World) (L0 : List SL) (h : Sat W w0 L0) => (show Calls Tryz.prog 35 #[] w0 fun e w' => ∃ b1 b2 b3, e = .returned (.agg #[.int .i64 0, .int .i64 3, .slice (some ⟨b1, 0, none⟩) 1 1, .slice (some ⟨b2, 0, none⟩) 1 1, .slice (some ⟨b3, 0, none⟩) 1 1]) ∧ Sat W w' (smpL b1 b2 b3 L0) from efsample_any h))
  have HM := Lib.hid (fun (w0 : World) (L0 : List SL) (b1 b2 b3 b : Nat) (k : Str) (hk : k.length ≤ 1000000) (hr : EfRd W L0 smpX (smpP b1 b2 b3)) (hb : RdL W L0 (some ⟨b, 0, none⟩) (tsC [k])) (h : Sat W w0 L0) => (show Calls Tryz.prog 22 #[.agg #[.int .i64 0, .int .i64 3, .slice (some ⟨b1, 0, none⟩) 1 1, .slice (some ⟨b2, 0, none⟩) 1 1, .slice (some ⟨b3, 0, none⟩) 1 1], .slice (some ⟨b, 0, none⟩) 1 1] w0 fun e w' => e = .returned (.bool (meetsX smpX [k])) ∧ Sat W w' L0 from efMeets_any smpX (smpP b1 b2 b3) smp_ok hr (some ⟨b, 0, none⟩) 1 [k] (by simp) (fun t ht => by rw [List.mem_singleton.1 ht]; exact hk) hb h))
  have HN := Lib.hid (fun (w0 : World) (L0 : List SL) (b1 b2 b3 : Nat) (hr : EfRd W L0 smpX (smpP b1 b2 b3)) (h : Sat W w0 L0) => (show Calls Tryz.prog 22 #[.agg #[.int .i64 0, .int .i64 3, .slice (some ⟨b1, 0, none⟩) 1 1, .slice (some ⟨b2, 0, none⟩) 1 1, .slice (some ⟨b3, 0, none⟩) 1 1], .slice none 0 0] w0 fun e w' => e = .returned (.bool (meetsX smpX [])) ∧ Sat W w' L0 from efMeets_any smpX (smpP b1 b2 b3) smp_ok hr none 0 [] (by simp) (fun t ht => by cases ht) (none_rd _ rfl) h))
  have HY := Lib.hid (fun (w0 : World) (L0 : List SL) (b1 b2 b3 : Nat) (hr : EfRd W L0 smpX (smpP b1 b2 b3)) (h : Sat W w0 L0) => (show Calls Tryz.prog 18 #[.agg #[.int .i64 0, .int .i64 3, .slice (some ⟨b1, 0, none⟩) 1 1, .slice (some ⟨b2, 0, none⟩) 1 1, .slice (some ⟨b3, 0, none⟩) 1 1]] w0 fun e w' => ∃ A' c', e = .returned (.slice A' 1 c') ∧ Sat W w' (seenS 9 (.slice A' 1 c') 1 (tsC [[98]]) :: L0) from (by have := efKeys_any smpX (smpP b1 b2 b3) smp_ok hr h; rw [kn_k] at this; exact this)))
  have HCX := Lib.hid (fun (w0 : World) (L0 : List SL) (b1 b2 b3 : Nat) (h1 : RdL W L0 (some ⟨b1, 0, none⟩) (tsC [[98]])) (h2 : RdL W L0 (some ⟨b2, 0, none⟩) (spC [⟨[99], [100]⟩])) (h : Sat W w0 L0) => (show Calls Tryz.prog 27 #[.agg #[.int .i64 4, .int .i64 3, .slice (some ⟨b1, 0, none⟩) 1 1, .slice (some ⟨b2, 0, none⟩) 1 1, .slice none 0 0]] w0 fun e w' => e = .returned (.int .i64 2) ∧ Sat W w' L0 from (by have := efChk_any knX ⟨some ⟨b1, 0, none⟩, 1, some ⟨b2, 0, none⟩, 1, none, 0⟩ knX_ok ⟨one_bsl b1 1 (by omega), one_bsl b2 1 (by omega), ⟨Nat.le_refl _, fun _ => rfl, by show (0 : Nat) ≤ maxLen; unfold maxLen; omega⟩, h1, h2, none_rd _ rfl⟩ h; rw [knX_no] at this; exact this)))
  have HCY := Lib.hid (fun (w0 : World) (L0 : List SL) (b1 b2 b3 : Nat) (h1 : RdL W L0 (some ⟨b1, 0, none⟩) (tsC [[98]])) (h2 : RdL W L0 (some ⟨b2, 0, none⟩) (spC [⟨[99], [100]⟩])) (h3 : RdL W L0 (some ⟨b3, 0, none⟩) (wtC [⟨[98], [50], false⟩])) (h : Sat W w0 L0) => (show Calls Tryz.prog 27 #[.agg #[.int .i64 1, .int .i64 3, .slice (some ⟨b1, 0, none⟩) 1 1, .slice (some ⟨b2, 0, none⟩) 1 1, .slice (some ⟨b3, 0, none⟩) 1 1]] w0 fun e w' => e = .returned (.int .i64 2) ∧ Sat W w' L0 from (by have := efChk_any knY ⟨some ⟨b1, 0, none⟩, 1, some ⟨b2, 0, none⟩, 1, some ⟨b3, 0, none⟩, 1⟩ knY_ok ⟨one_bsl b1 1 (by omega), one_bsl b2 1 (by omega), one_bsl b3 1 (by omega), h1, h2, h3⟩ h; rw [knY_no] at this; exact this)))
  have HCZ := Lib.hid (fun (w0 : World) (L0 : List SL) (b1 b2 b3 : Nat) (h1 : RdL W L0 (some ⟨b1, 0, none⟩) (tsC [[98], [97]])) (h2 : RdL W L0 (some ⟨b2, 0, none⟩) (spC [⟨[99], [100]⟩])) (h3 : RdL W L0 (some ⟨b3, 0, none⟩) (wtC [⟨[98], [50], false⟩])) (h : Sat W w0 L0) => (show Calls Tryz.prog 27 #[.agg #[.int .i64 0, .int .i64 3, .slice (some ⟨b1, 0, none⟩) 2 2, .slice (some ⟨b2, 0, none⟩) 1 1, .slice (some ⟨b3, 0, none⟩) 1 1]] w0 fun e w' => e = .returned (.int .i64 2) ∧ Sat W w' L0 from (by have := efChk_any knZ ⟨some ⟨b1, 0, none⟩, 2, some ⟨b2, 0, none⟩, 1, some ⟨b3, 0, none⟩, 1⟩ knZ_ok ⟨one_bsl b1 2 (by omega), one_bsl b2 1 (by omega), one_bsl b3 1 (by omega), h1, h2, h3⟩ h; rw [knZ_no] at this; exact this)))
  have HF := Lib.hid (fun (w0 : World) (L0 : List SL) (A : Option Addr) (c : Nat) (bs : List UInt8) (fe fa : Int) (hr : RdL W L0 A (bs.map B)) (hb : bs.length ≤ 1000000) (he : readE bs = (noE, fe, fa)) (h : Sat W w0 L0) => effails_any A c bs fe fa hr hb he h)
  have HT := Lib.hid (fun (w0 : World) (L0 : List SL) (A1 A2 : Option Addr) (c1 c2 : Nat) (h1 : RdL W L0 A1 (tsC [[98]])) (h2 : RdL W L0 A2 (tsC [[98]])) (h : Sat W w0 L0) => (show Calls Tryz.prog 20 #[.slice A1 1 c1, .slice A2 1 c2] w0 fun e w' => e = .returned (.bool true) ∧ Sat W w' L0 from (SameTexts_any A1 A2 c1 c2 [[98]] [[98]] (by simp [maxLen]) (h1 _ h) (h2 _ h)).mono fun e w' ⟨he, hb⟩ => ⟨by rw [he, decide_eq_true rfl], h.below hb⟩))
  have HW := Lib.hid (fun (w0 : World) (L0 : List SL) (h : Sat W w0 L0) => efawake_any h)
  go_enter Tryz.func6, Tryz.ntmps6
  go_wp2_with fail
  refine (HS.out _ _ (Sat.start W)).mono ?_
  rintro e w1 ⟨x1, x2, x3, rfl, H1⟩
  go_wp2_with fail
  refine (HS.out _ _ H1).mono ?_
  rintro e w2 ⟨y1, y2, y3, rfl, H2⟩
  go_wp2_with fail
  refine (HS.out _ _ H2).mono ?_
  rintro e w3 ⟨z1, z2, z3, rfl, H3⟩
  have H4 := ((H3.alloc #[.int .i64 0, .int .i64 3, .slice (some ⟨x1, 0, none⟩) 1 1, .slice (some ⟨x2, 0, none⟩) 1 1, .slice (some ⟨x3, 0, none⟩) 1 1] 26).alloc #[.int .i64 0, .int .i64 3, .slice (some ⟨y1, 0, none⟩) 1 1, .slice (some ⟨y2, 0, none⟩) 1 1, .slice (some ⟨y3, 0, none⟩) 1 1] 26).alloc #[.int .i64 0, .int .i64 3, .slice (some ⟨z1, 0, none⟩) 1 1, .slice (some ⟨z2, 0, none⟩) 1 1, .slice (some ⟨z3, 0, none⟩) 1 1] 26
  simp only [World.size_alloc] at H4
  clear H1 H2 H3
  go_upto_region 2 with fail
  generalize World.alloc (World.alloc (World.alloc w3 _) _) _ = w5 at H4 ⊢
  generalize w3.heap.size + 1 + 1 = pz at *
  generalize w3.heap.size + 1 = py at *
  generalize w3.heap.size = px at *
  have a0 := (H4.pull 2).cell 0
  have a1 := (H4.pull 2).frz 0
  have a2 := (H4.pull 2).cell 4
  have a3 := (H4.pull 2).frz 4
  have H5 := ((H4.pull 2).setCell 0 (.int .i64 4)).setCell 4 (.slice none 0 0)
  clear H4
  go_upto_region 3 with fail
  generalize World.setCell (World.setCell w5 _ _) _ _ = w6 at H5 ⊢
  clear a0 a1 a2 a3
  have a0 := (H5.pull 2).cell 0
  have a1 := (H5.pull 2).frz 0
  have H6 := (H5.pull 2).setCell 0 (.int .i64 1)
  clear H5
  go_upto_region 4 with fail
  generalize World.setCell w6 _ _ = w7 at H6 ⊢
  clear a0 a1
  have b0 := (H6.pull 2).cell 2
  have b1 := (H6.pull 2).frz 2
  have H6 := (H6.alloc #[.string ⟨#[98]⟩, .string ⟨#[97]⟩] 9).pull 3
  have a0 := H6.cell 2
  have a1 := H6.frz 2
  have H7 := (H6.setCell 2 (.slice (some ⟨w7.heap.size, 0, none⟩) 2 2)).swap
  clear H6
  go_upto_region 5 with fail
  generalize hw : World.setCell _ _ _ = w8 at H7 ⊢
  generalize w7.heap.size = pt_ at *
  clear a0 a1 b0 b1 hw
  go_wp2_with fail
  refine (HS.out _ _ H7).mono ?_
  rintro e w9 ⟨s1a, s1b, s1c, rfl, H8⟩
  clear H7
  have H9 := H8.alloc (tsC [[98]]).toArray 9
  clear H8
  have HMs1 := Lib.hid (HM.out _ _ s1a s1b s1c (w9.heap.size) [98] (by simp) (smp_rd _ _ _).tail RdL.pt H9)
  rw [kn_b] at HMs1
  go_wp2_with fail
  refine (HMs1.out).mono ?_
  rintro e w10 ⟨rfl, H10⟩
  clear HMs1 H9
  go_wp2_with fail
  refine (HS.out _ _ H10).mono ?_
  rintro e w11 ⟨s2a, s2b, s2c, rfl, H11⟩
  clear H10
  have H12 := H11.alloc (tsC [[97]]).toArray 9
  clear H11
  have HMs2 := Lib.hid (HM.out _ _ s2a s2b s2c (w11.heap.size) [97] (by simp) (smp_rd _ _ _).tail RdL.pt H12)
  rw [kn_a] at HMs2
  go_wp2_with fail
  refine (HMs2.out).mono ?_
  rintro e w12 ⟨rfl, H13⟩
  clear HMs2 H12
  go_wp2_with fail
  refine (HS.out _ _ H13).mono ?_
  rintro e w13 ⟨s3a, s3b, s3c, rfl, H14⟩
  clear H13
  have HN1 := Lib.hid (HN.out _ _ s3a s3b s3c (smp_rd _ _ _) H14)
  rw [kn_n] at HN1
  go_wp2_with fail
  refine (HN1.out).mono ?_
  rintro e w14 ⟨rfl, H15⟩
  clear HN1 H14
  go_wp2_with fail
  refine (HS.out _ _ H15).mono ?_
  rintro e w15 ⟨s4a, s4b, s4c, rfl, H16⟩
  clear H15
  go_wp2_with fail
  refine (HY.out _ _ s4a s4b s4c (smp_rd _ _ _) H16).mono ?_
  rintro e w16 ⟨Ak, ck, rfl, H17⟩
  clear H16
  have H18 := H17.alloc (tsC [[98]]).toArray 9
  clear H17
  go_wp2_with fail
  refine (HT.out _ _ _ _ _ _ (RdL.tail RdL.newS) RdL.pt H18).mono ?_
  rintro e w17 ⟨rfl, H19⟩
  clear H18
  go_wp2_with fail
  refine (HW.out _ _ H19).mono ?_
  rintro e w18 ⟨rfl, H20⟩
  clear H19
  have c0 := (H20.pull 19).cell 0
  have c1 := (H20.pull 19).cell 1
  have c2 := (H20.pull 19).cell 2
  have c3 := (H20.pull 19).cell 3
  have c4 := (H20.pull 19).cell 4
  go_wp2_with fail
  refine (HCX.out _ _ x1 x2 0 (RdL.pull 28 RdL.pt) (RdL.pull 27 RdL.pt) H20).mono ?_
  rintro e w19 ⟨rfl, H21⟩
  clear H20
  clear c0 c1 c2 c3 c4
  have c0 := (H21.pull 18).cell 0
  have c1 := (H21.pull 18).cell 1
  have c2 := (H21.pull 18).cell 2
  have c3 := (H21.pull 18).cell 3
  have c4 := (H21.pull 18).cell 4
  go_wp2_with fail
  refine (HCY.out _ _ y1 y2 y3 (RdL.pull 25 RdL.pt) (RdL.pull 24 RdL.pt) (RdL.pull 23 RdL.pt) H21).mono ?_
  rintro e w20 ⟨rfl, H22⟩
  clear H21
  clear c0 c1 c2 c3 c4
  have c0 := (H22.pull 17).cell 0
  have c1 := (H22.pull 17).cell 1
  have c2 := (H22.pull 17).cell 2
  have c3 := (H22.pull 17).cell 3
  have c4 := (H22.pull 17).cell 4
  go_wp2_with fail
  refine (HCZ.out _ _ pt_ z2 z3 (RdL.pull 16 RdL.pt) (RdL.pull 21 RdL.pt) (RdL.pull 20 RdL.pt) H22).mono ?_
  rintro e w21 ⟨rfl, H23⟩
  clear H22
  clear c0 c1 c2 c3 c4
  have H24 := H23.alloc (([0] : List UInt8).map B).toArray 5
  clear H23
  go_wp2_with fail
  refine (HF.out _ _ (some ⟨w21.heap.size, 0, none⟩) 1 [0] 4 1 RdL.pt (by simp) kn_r1 H24).mono ?_
  rintro e w22 ⟨rfl, H25⟩
  clear H24
  have H26 := H25.alloc (([0, 3, 0, 0, 0, 9] : List UInt8).map B).toArray 5
  clear H25
  go_wp2_with fail
  refine (HF.out _ _ (some ⟨w22.heap.size, 0, none⟩) 6 [0, 3, 0, 0, 0, 9] 4 5 RdL.pt (by simp) kn_r2 H26).mono ?_
  rintro e w23 ⟨rfl, H27⟩
  clear H26
  have H28 := H27.alloc (([4] : List UInt8).map B).toArray 5
  clear H27
  go_wp2_with fail
  refine (HF.out _ _ (some ⟨w23.heap.size, 0, none⟩) 1 [4] 5 0 RdL.pt (by simp) kn_r3 H28).mono ?_
  rintro e w24 ⟨rfl, H29⟩
  clear H28
  go_wp2
  go_ret
  exact ⟨rfl, Sat.drops [_, _, _, _, _, _, _, _, _, _, _, _, _, _, _, _, _, _, _, _, _, _, _, _, _, _, _, _, _, _, _, _] H29⟩
end Go.Proofs.YtodbmeklbamcfaaGreat
