/- Package code's Read: the instruction that stands at a place. -/
import Derived.Test.YtflcmhmbmippfaaCdD
import Derived.Test.YtflcmhmbmippfaaRtG
import Derived.Test.YtflcmhmbmippfaaWoD
namespace Go.Proofs.Ytflcmhmbmippfaa
open Go.RowKit Go.Rt

set_option maxRecDepth 100000 in
theorem cSize_fine {W w : World} {l : List SL} (i : Ins) (hm : mayB i = true) (H : Sat W w l) :
    Calls Try.prog 21 #[.agg i.cs.toArray] w fun e w' => e = .returned (.int .i64 ((insBytes i).length : Nat)) ∧ Sat W w' l := by
  have hb := cBytes_fine (W := W) (w := w.alloc (.cells i.cs.toArray 26)) (l := pt w.heap.size i.cs.toArray 26 :: l) i hm (H.alloc _ _)
  obtain ⟨op, ia, ib, ic, im, is⟩ := i
  have HB := Lib.hid hb
  clear hb hm
  show Calls Try.prog 21 #[.agg #[.int .i64 op, .int .i64 ia, .int .i64 ib, .int .i64 ic, .int .i64 im, .string ⟨is.toArray⟩]] w _
  go_enter Try.func21, Try.ntmps21
  go_wp2_with fail
  refine HB.out.mono ?_
  rintro e w1 ⟨A, c, rfl, H1⟩
  go_wp2
  go_ret
  exact ⟨rfl, H1.tail.tail⟩
set_option maxRecDepth 100000 in
theorem cSize_bad {W w : World} {l : List SL} (i : Ins) (hs : i.s.length ≤ maxLen) (hm : mayB i = false) (H : Sat W w l) :
    Calls Try.prog 21 #[.agg i.cs.toArray] w fun e w' => e = .returned (.int .i64 0) ∧ Sat W w' l := by
  have hb := cBytes_bad (W := W) (w := w.alloc (.cells i.cs.toArray 26)) (l := pt w.heap.size i.cs.toArray 26 :: l) i hs hm (H.alloc _ _)
  obtain ⟨op, ia, ib, ic, im, is⟩ := i
  have HB := Lib.hid hb
  clear hb hm
  show Calls Try.prog 21 #[.agg #[.int .i64 op, .int .i64 ia, .int .i64 ib, .int .i64 ic, .int .i64 im, .string ⟨is.toArray⟩]] w _
  go_enter Try.func21, Try.ntmps21
  go_wp2_with fail
  refine HB.out.mono ?_
  rintro e w1 ⟨rfl, H1⟩
  go_wp2
  go_ret
  exact ⟨rfl, H1.tail⟩

/-- What stands at a place: an instruction and where it ends, or a fault. -/
def insAt (bs : List UInt8) (at_ : Int) : Ins × Int × Int × Int :=
  if at_ < 0 ∨ (bs.length : Int) < at_ then (Ins.zero, 0, 5, 0)
  else if (readI bs at_.toNat).fe ≠ 0 then (Ins.zero, 0, (readI bs at_.toNat).fe, (readI bs at_.toNat).fa)
  else ((readI bs at_.toNat).i, ((readI bs at_.toNat).pl : Int), 0, 0)
/-- .. by what stands behind that place. -/
theorem insAt_drop (bs : List UInt8) (k : Nat) (hk : k ≤ bs.length) : insAt bs k = if (readI (bs.drop k) 0).fe ≠ 0 then (Ins.zero, 0, (readI (bs.drop k) 0).fe, (k : Int) + (readI (bs.drop k) 0).fa) else ((readI (bs.drop k) 0).i, ((k + (readI (bs.drop k) 0).pl : Nat) : Int), 0, 0) := by
  obtain ⟨e1, e2, e3, e4⟩ := readI_moved bs k hk
  unfold insAt
  rw [if_neg (by omega), Int.toNat_natCast, e1, e2, e3, e4]
  by_cases h : (readI (bs.drop k) 0).fe = 0
  · rw [if_neg (by omega), if_neg (by omega)]
  · rw [if_pos h, if_pos h, if_neg h]

theorem fa_int (bs : List UInt8) (pl : Nat) (fe fa low high above : Int) (ha : above ≠ 0) (hp : pl ≤ bs.length) (hf : fe = 0 → fa = 0) (h : 0 ≤ fa ∧ fa ≤ bs.length) : 0 ≤ (toldInt bs pl fe fa low high above).fa ∧ (toldInt bs pl fe fa low high above).fa ≤ bs.length := by
  by_cases h0 : fe = 0
  · subst h0
    obtain rfl : fa = 0 := hf rfl
    by_cases h1 : (toldInt bs pl 0 0 low high above).fe = 0
    · rw [toldInt_fa bs pl low high above ha h1]; omega
    · have := toldInt_where bs pl low high above hp h1; omega
  · unfold toldInt; rw [if_neg h0]; exact h
theorem fa_txt (bs : List UInt8) (pl : Nat) (fe fa high : Int) (hp : pl ≤ bs.length) (hf : fe = 0 → fa = 0) (h : 0 ≤ fa ∧ fa ≤ bs.length) : 0 ≤ (toldTxt bs pl fe fa high).fa ∧ (toldTxt bs pl fe fa high).fa ≤ bs.length := by
  by_cases h0 : fe = 0
  · subst h0
    obtain rfl : fa = 0 := hf rfl
    by_cases h1 : (toldTxt bs pl 0 0 high).fe = 0
    · rw [toldTxt_fa bs pl high h1]; omega
    · have := toldTxt_where bs pl high hp h1; omega
  · unfold toldTxt; rw [if_neg h0]; exact h
theorem stepL_fa (bs : List UInt8) (op : Int) (c : UInt8) (st : Rst) (hf : st.Fine bs) (h : 0 ≤ st.fa ∧ st.fa ≤ bs.length) : 0 ≤ (stepL bs op c st).fa ∧ (stepL bs op c st).fa ≤ bs.length := by
  unfold stepL
  by_cases hc : c = 115
  · rw [if_pos hc]; exact fa_txt bs st.pl st.fe st.fa 64 hf.1 hf.2 h
  · rw [if_neg hc]; exact fa_int bs st.pl st.fe st.fa _ _ 5 (by decide) hf.1 hf.2 h
theorem stepL_op (bs : List UInt8) (op : Int) (c : UInt8) (st : Rst) : (stepL bs op c st).i.op = st.i.op := by
  unfold stepL
  by_cases h : c = 115
  · rw [if_pos h]
  · rw [if_neg h]; exact set_op _ _ _

theorem fault_err (a b : Int) (w : World) : (Instr.field 29 (.agg #[.int .i64 a, .int .i64 b]) 0).run Try.prog w = .ok (.int .i64 a) w := by kernel_rfl

set_option maxRecDepth 100000 in
theorem cRead_out {W w : World} {l : List SL} (A : Option Addr) (n c : Nat) (at_ : Int) (h : at_ < 0 ∨ (n : Int) < at_) (H : Sat W w l) :
    Calls Try.prog 13 #[.slice A n c, .int .i64 at_] w fun e w' => e = .returned (.tuple #[.agg Ins.zero.cs.toArray, .int .i64 0, .agg #[.int .i64 5, .int .i64 0]]) ∧ Sat W w' l := by
  by_cases h0 : at_ < 0
  · go_enter Try.func13, Try.ntmps13
    go_wp2
    refine bodyPost_ret (v := .tuple #[.agg Ins.zero.cs.toArray, .int .i64 0, .agg #[.int .i64 5, .int .i64 0]]) ?_ rfl ⟨rfl, ?_⟩
    · simp [results, Try.results13, go_sem, Ins.zero, Ins.cs]
    · exact (H.alloc' _).alloc' _
  · have h1 : (n : Int) < at_ := by omega
    clear h
    go_enter Try.func13, Try.ntmps13
    go_wp2
    refine bodyPost_ret (v := .tuple #[.agg Ins.zero.cs.toArray, .int .i64 0, .agg #[.int .i64 5, .int .i64 0]]) ?_ rfl ⟨rfl, ?_⟩
    · simp [results, Try.results13, go_sem, Ins.zero, Ins.cs]
    · exact (H.alloc' _).alloc' _

/-- What is told of a way through an instruction that stood at k. -/
def outOf (k : Nat) (st : Rst) : Ins × Int × Int × Int := if st.fe ≠ 0 then (Ins.zero, 0, st.fe, (k : Int) + st.fa) else (st.i, ((k + st.pl : Nat) : Int), 0, 0)
def ReadPost (W : World) (l : List SL) (r : Ins × Int × Int × Int) (e : Ending) (w' : World) : Prop :=
  e = .returned (.tuple #[.agg r.1.cs.toArray, .int .i64 r.2.1, .agg #[.int .i64 r.2.2.1, .int .i64 r.2.2.2]]) ∧ Sat W w' l

set_option maxRecDepth 100000 in
set_option maxHeartbeats 16000000 in
theorem cRead_in {W w : World} {l : List SL} (A : Option Addr) (c : Nat) (bs : List UInt8) (hA : Bsl A bs.length c) (hr : RdL W l A (bs.map B)) (hb : bs.length ≤ 1000000000) (k0 : Nat) (hk : k0 ≤ bs.length) (H : Sat W w l) :
    Calls Try.prog 13 #[.slice A bs.length c, .int .i64 k0] w fun e w' => ReadPost W l (insAt bs k0) e w' := by
  obtain ⟨iU, hiU, hu0, hu1, hu2⟩ := info_parts infoU8
  obtain ⟨T, HT⟩ : ∃ T, Hid (insAt bs k0 = T) := ⟨_, rfl⟩
  have HT2 : Hid (outOf k0 (readI (bs.drop k0) 0) = T) := by
    show _ = _; rw [outOf, ← insAt_drop bs k0 hk]; exact HT.out
  rw [HT.out]
  clear HT
  have hlen : (bs.drop k0).length = bs.length - k0 := List.length_drop
  have hrd : RdL W l (subA A c k0) ((bs.drop k0).map B) := fun w' h => by
    have h1 := subA_rd (hr w' h) (n := bs.length) (by simp) hA.le k0 (bs.length - k0) (by omega)
    rw [← List.map_drop, ← List.map_take, List.take_of_length_le (by omega)] at h1
    exact h1
  generalize bs.drop k0 = xs at HT2 hlen hrd
  have hop := fun w0 (h : Sat W w0 (pt (w.heap.size + 1) #[.int .i64 0, .int .i64 0] 29 :: pt w.heap.size Ins.zero.cs.toArray 26 :: l)) => open_any (subA A c k0) (c - k0) xs (RdL.tail (RdL.tail hrd)) (by omega) h
  rw [hlen] at hop
  have HO := Lib.hid hop
  clear hop
  have H1 : Sat W ((w.alloc (.cells Ins.zero.cs.toArray 26)).alloc (.cells #[.int .i64 0, .int .i64 0] 29)) (pt (w.heap.size + 1) #[.int .i64 0, .int .i64 0] 29 :: pt w.heap.size Ins.zero.cs.toArray 26 :: l) := by
    have h := (H.alloc Ins.zero.cs.toArray 26).alloc #[.int .i64 0, .int .i64 0] 29
    simp only [World.size_alloc] at h
    exact h
  have hk0 : (0 : Int) ≤ (k0 : Int) := by omega
  have hxl : xs.length ≤ 1000000000 := by omega
  have HLEN := Lib.hid hlen
  clear hlen
  go_enter Try.func13, Try.ntmps13
  go_wp2_with (refine wpList_slice_from (by rfl) (.tmp 22) (.tmp 23) 22 rfl 5 iU Try.underlying22 hiU hu1 A bs.length c k0 rfl rfl hk ?_)
  refine (HO.out _ H1).mono ?_
  rintro e w1 ⟨r, rfl, H2⟩
  clear HO H1
  generalize w.heap.size + 1 = q6 at H2 ⊢
  generalize w.heap.size = q4 at H2 ⊢
  have hI := rInt_any r xs 0 0 0 1 15 (Nat.zero_le _) hxl (fun _ => rfl) H2
  have hfin := iv_int xs 0 0 0 1 15 5 (by decide) (Nat.zero_le _) (fun _ => rfl)
  have hfa0 := fa_int xs 0 0 0 1 15 5 (by decide) (Nat.zero_le _) (fun _ => rfl) ⟨Int.le_refl _, by omega⟩
  have hn0 := toldInt_n xs 0 0 0 1 15 5 (Nat.zero_le _)
  unfold readI at HT2
  generalize toldInt xs 0 0 0 1 15 5 = t0 at hI hfin hfa0 hn0 HT2
  obtain ⟨op, pl0, fe0, fa0⟩ := t0
  dsimp only at hI hfin hfa0 hn0 HT2
  have HI := Lib.hid hI
  clear hI
  go_wp2_with fail
  refine HI.out.mono ?_
  rintro e w2 ⟨rfl, H3⟩
  clear HI H2
  have hnum := hasL_num op
  have HH := Lib.hid (fun w0 (l0 : List SL) (h : Sat W w0 l0) => cHas_any (W := W) (w := w0) (l := l0) op h)
  generalize hasL op = ls at *
  have H4 : Sat W (w2.alloc (.cells (Ins.cs ⟨op, 0, 0, 0, 0, []⟩).toArray 26)) (pt w2.heap.size (Ins.cs ⟨op, 0, 0, 0, 0, []⟩).toArray 26 :: rdr r xs pl0 fe0 fa0 :: pt q6 #[.int .i64 0, .int .i64 0] 29 :: pt q4 Ins.zero.cs.toArray 26 :: l) := H3.alloc _ _
  go_wp2_with fail
  refine (HH.out _ _ H4).mono ?_
  rintro e w3 ⟨rfl, H5⟩
  clear HH H3 H4
  generalize w2.heap.size = ii at H5 ⊢
  have H6 := H5.iter ⟨ls.toArray⟩
  clear H5
  go_wp2
  generalize w3.heap.size = k at H6 ⊢
  go_loopg [10] ls.length (fun g _ wc => ∃ (j : Nat) (st : Rst), g = ls.length - j ∧ j ≤ ls.length ∧ Hid (outOf k0 (readL xs op (ls.drop j) st) = T) ∧ st.i.op = op ∧ Hid (st.Fine xs) ∧ (0 ≤ st.fa ∧ st.fa ≤ xs.length) ∧
      Sat W wc (itr k ⟨ls.toArray⟩ j :: rdr r xs st.pl st.fe st.fa :: pt ii st.i.cs.toArray 26 :: pt q6 #[.int .i64 0, .int .i64 0] 29 :: pt q4 Ins.zero.cs.toArray 26 :: l))
  case atStart => exact ⟨0, ⟨⟨op, 0, 0, 0, 0, []⟩, pl0, fe0, fa0⟩, rfl, by omega, HT2, rfl, hfin, hfa0, (H6.pull 2).swap⟩
  case round =>
    obtain ⟨j, ⟨⟨so, sa, sb, sc, sn, ss⟩, pl, fe, fa⟩, rfl, hj, hT, hso, hF, hfa, H7⟩ := hrel
    dsimp only at hso hfa H7
    subst hso
    clear H6 HT2
    by_cases hlt : j < ls.length
    · obtain ⟨c, hcj⟩ : ∃ c, ls[j]? = some c := ⟨_, List.getElem?_eq_getElem hlt⟩
      have hdrop : ls.drop j = c :: ls.drop (j + 1) := by
        obtain ⟨h1, h2⟩ := List.getElem?_eq_some_iff.1 hcj
        rw [List.drop_eq_getElem_cons h1, h2]
      have hcn : c = 115 ∨ c = 97 ∨ c = 98 ∨ c = 99 ∨ c = 110 := by
        by_cases h : c = 115
        · exact .inl h
        · exact .inr (hnum c (List.mem_of_getElem? hcj) h)
      have hlt' : j < (ByteArray.mk ls.toArray).size := by rw [ba_size]; exact hlt
      have hat := ba_at ls j c hcj hlt'
      have hT2 := hT.out
      rw [hdrop] at hT2
      have hF2 := stepL_fine xs so c _ hF.out
      have hfa2 := stepL_fa xs so c _ hF.out hfa
      have hso2 := stepL_op xs so c ⟨⟨so, sa, sb, sc, sn, ss⟩, pl, fe, fa⟩
      dsimp only at hso2
      have hF1 : Hid (pl ≤ xs.length) := hF.out.1
      have hF0 : Hid (fe = 0 → fa = 0) := hF.out.2
      clear hcj hdrop hnum hT hF
      rcases hcn with rfl | rfl | rfl | rfl | rfl
      · have e : stepL xs so 115 ⟨⟨so, sa, sb, sc, sn, ss⟩, pl, fe, fa⟩ = ⟨⟨so, sa, sb, sc, sn, (toldTxt xs pl fe fa 64).s⟩, (toldTxt xs pl fe fa 64).pl, (toldTxt xs pl fe fa 64).fe, (toldTxt xs pl fe fa 64).fa⟩ := by simp [stepL]
        have hT3 : outOf k0 (readL xs so (ls.drop (j + 1)) ⟨⟨so, sa, sb, sc, sn, (toldTxt xs pl fe fa 64).s⟩, (toldTxt xs pl fe fa 64).pl, (toldTxt xs pl fe fa 64).fe, (toldTxt xs pl fe fa 64).fa⟩) = T := by rw [← e]; exact hT2
        rw [e] at hF2 hfa2
        have HT3 := Lib.hid hT3
        have HF3 := Lib.hid hF2
        clear e hT2 hT3 hF2 hso2
        go_wp2_with (first
          | (refine wpList_next_more rfl (.tmp 32) rfl k ⟨ls.toArray⟩ j rfl H7 115 hlt' hat (by decide) ?_
             intro w6 H8
             have k0' : w6.cell? ⟨ii, 0, none⟩ = some (.int .i64 so) := (H8.pull 2).cell 0))
        refine (rText_any r xs pl fe fa 64 hF1.out hxl hF0.out H8.swap).mono ?_
        rintro e w8 ⟨rfl, H9⟩
        have k5 : w8.cell? ⟨ii, 5, none⟩ = some (.string ⟨ss.toArray⟩) := (H9.pull 2).cell 5
        have f5 := (H9.pull 2).frz 5
        go_wp2
        go_roundg (ls.length - (j + 1))
        case measure => omega
        case rel => exact ⟨j + 1, _, rfl, by omega, HT3, rfl, HF3, hfa2, ((H9.pull 2).setCell 5 (.string ⟨(toldTxt xs pl fe fa 64).s.toArray⟩)).swap.pull 2⟩
      · have e : stepL xs so 97 ⟨⟨so, sa, sb, sc, sn, ss⟩, pl, fe, fa⟩ = ⟨⟨so, (toldInt xs pl fe fa 0 7 5).n, sb, sc, sn, ss⟩, (toldInt xs pl fe fa 0 7 5).pl, (toldInt xs pl fe fa 0 7 5).fe, (toldInt xs pl fe fa 0 7 5).fa⟩ := by simp [stepL, Ins.set, lowOf, highOf]
        have hT3 : outOf k0 (readL xs so (ls.drop (j + 1)) ⟨⟨so, (toldInt xs pl fe fa 0 7 5).n, sb, sc, sn, ss⟩, (toldInt xs pl fe fa 0 7 5).pl, (toldInt xs pl fe fa 0 7 5).fe, (toldInt xs pl fe fa 0 7 5).fa⟩) = T := by rw [← e]; exact hT2
        rw [e] at hF2 hfa2
        have HT3 := Lib.hid hT3
        have HF3 := Lib.hid hF2
        clear e hT2 hT3 hF2 hso2
        go_wp2_with (first
          | (refine wpList_next_more rfl (.tmp 32) rfl k ⟨ls.toArray⟩ j rfl H7 97 hlt' hat (by decide) ?_
             intro w6 H8
             have k0' : w6.cell? ⟨ii, 0, none⟩ = some (.int .i64 so) := (H8.pull 2).cell 0)
          | (go_at_call 47; refine (cField_num ii 97 1 (by decide) _).mono ?_; rintro e _ ⟨rfl, rfl⟩))
        refine (rInt_any r xs pl fe fa 0 7 hF1.out hxl hF0.out H8.swap).mono ?_
        rintro e w8 ⟨rfl, H9⟩
        have k5 : w8.cell? ⟨ii, 1, none⟩ = some (.int .i64 sa) := (H9.pull 2).cell 1
        have f5 := (H9.pull 2).frz 1
        go_wp2
        go_roundg (ls.length - (j + 1))
        case measure => omega
        case rel => exact ⟨j + 1, _, rfl, by omega, HT3, rfl, HF3, hfa2, ((H9.pull 2).setCell 1 (.int .i64 (toldInt xs pl fe fa 0 7 5).n)).swap.pull 2⟩
      · have e : stepL xs so 98 ⟨⟨so, sa, sb, sc, sn, ss⟩, pl, fe, fa⟩ = ⟨⟨so, sa, (toldInt xs pl fe fa 0 7 5).n, sc, sn, ss⟩, (toldInt xs pl fe fa 0 7 5).pl, (toldInt xs pl fe fa 0 7 5).fe, (toldInt xs pl fe fa 0 7 5).fa⟩ := by simp [stepL, Ins.set, lowOf, highOf]
        have hT3 : outOf k0 (readL xs so (ls.drop (j + 1)) ⟨⟨so, sa, (toldInt xs pl fe fa 0 7 5).n, sc, sn, ss⟩, (toldInt xs pl fe fa 0 7 5).pl, (toldInt xs pl fe fa 0 7 5).fe, (toldInt xs pl fe fa 0 7 5).fa⟩) = T := by rw [← e]; exact hT2
        rw [e] at hF2 hfa2
        have HT3 := Lib.hid hT3
        have HF3 := Lib.hid hF2
        clear e hT2 hT3 hF2 hso2
        go_wp2_with (first
          | (refine wpList_next_more rfl (.tmp 32) rfl k ⟨ls.toArray⟩ j rfl H7 98 hlt' hat (by decide) ?_
             intro w6 H8
             have k0' : w6.cell? ⟨ii, 0, none⟩ = some (.int .i64 so) := (H8.pull 2).cell 0)
          | (go_at_call 47; refine (cField_num ii 98 2 (by decide) _).mono ?_; rintro e _ ⟨rfl, rfl⟩))
        refine (rInt_any r xs pl fe fa 0 7 hF1.out hxl hF0.out H8.swap).mono ?_
        rintro e w8 ⟨rfl, H9⟩
        have k5 : w8.cell? ⟨ii, 2, none⟩ = some (.int .i64 sb) := (H9.pull 2).cell 2
        have f5 := (H9.pull 2).frz 2
        go_wp2
        go_roundg (ls.length - (j + 1))
        case measure => omega
        case rel => exact ⟨j + 1, _, rfl, by omega, HT3, rfl, HF3, hfa2, ((H9.pull 2).setCell 2 (.int .i64 (toldInt xs pl fe fa 0 7 5).n)).swap.pull 2⟩
      · have e : stepL xs so 99 ⟨⟨so, sa, sb, sc, sn, ss⟩, pl, fe, fa⟩ = ⟨⟨so, sa, sb, (toldInt xs pl fe fa 0 7 5).n, sn, ss⟩, (toldInt xs pl fe fa 0 7 5).pl, (toldInt xs pl fe fa 0 7 5).fe, (toldInt xs pl fe fa 0 7 5).fa⟩ := by simp [stepL, Ins.set, lowOf, highOf]
        have hT3 : outOf k0 (readL xs so (ls.drop (j + 1)) ⟨⟨so, sa, sb, (toldInt xs pl fe fa 0 7 5).n, sn, ss⟩, (toldInt xs pl fe fa 0 7 5).pl, (toldInt xs pl fe fa 0 7 5).fe, (toldInt xs pl fe fa 0 7 5).fa⟩) = T := by rw [← e]; exact hT2
        rw [e] at hF2 hfa2
        have HT3 := Lib.hid hT3
        have HF3 := Lib.hid hF2
        clear e hT2 hT3 hF2 hso2
        go_wp2_with (first
          | (refine wpList_next_more rfl (.tmp 32) rfl k ⟨ls.toArray⟩ j rfl H7 99 hlt' hat (by decide) ?_
             intro w6 H8
             have k0' : w6.cell? ⟨ii, 0, none⟩ = some (.int .i64 so) := (H8.pull 2).cell 0)
          | (go_at_call 47; refine (cField_num ii 99 3 (by decide) _).mono ?_; rintro e _ ⟨rfl, rfl⟩))
        refine (rInt_any r xs pl fe fa 0 7 hF1.out hxl hF0.out H8.swap).mono ?_
        rintro e w8 ⟨rfl, H9⟩
        have k5 : w8.cell? ⟨ii, 3, none⟩ = some (.int .i64 sc) := (H9.pull 2).cell 3
        have f5 := (H9.pull 2).frz 3
        go_wp2
        go_roundg (ls.length - (j + 1))
        case measure => omega
        case rel => exact ⟨j + 1, _, rfl, by omega, HT3, rfl, HF3, hfa2, ((H9.pull 2).setCell 3 (.int .i64 (toldInt xs pl fe fa 0 7 5).n)).swap.pull 2⟩
      · have e : stepL xs so 110 ⟨⟨so, sa, sb, sc, sn, ss⟩, pl, fe, fa⟩ = ⟨⟨so, sa, sb, sc, (toldInt xs pl fe fa 1 (mostN so) 5).n, ss⟩, (toldInt xs pl fe fa 1 (mostN so) 5).pl, (toldInt xs pl fe fa 1 (mostN so) 5).fe, (toldInt xs pl fe fa 1 (mostN so) 5).fa⟩ := by simp [stepL, Ins.set, lowOf, highOf]
        have hT3 : outOf k0 (readL xs so (ls.drop (j + 1)) ⟨⟨so, sa, sb, sc, (toldInt xs pl fe fa 1 (mostN so) 5).n, ss⟩, (toldInt xs pl fe fa 1 (mostN so) 5).pl, (toldInt xs pl fe fa 1 (mostN so) 5).fe, (toldInt xs pl fe fa 1 (mostN so) 5).fa⟩) = T := by rw [← e]; exact hT2
        rw [e] at hF2 hfa2
        have HT3 := Lib.hid hT3
        have HF3 := Lib.hid hF2
        clear e hT2 hT3 hF2 hso2
        go_wp2_with (first
          | (refine wpList_next_more rfl (.tmp 32) rfl k ⟨ls.toArray⟩ j rfl H7 110 hlt' hat (by decide) ?_
             intro w6 H8
             have k0' : w6.cell? ⟨ii, 0, none⟩ = some (.int .i64 so) := (H8.pull 2).cell 0)
          | (go_at_call 46; refine (cMost_any so _).mono ?_; rintro e _ ⟨rfl, rfl⟩))
        refine (rInt_any r xs pl fe fa 1 (mostN so) hF1.out hxl hF0.out H8.swap).mono ?_
        rintro e w8 ⟨rfl, H9⟩
        have k5 : w8.cell? ⟨ii, 4, none⟩ = some (.int .i64 sn) := (H9.pull 2).cell 4
        have f5 := (H9.pull 2).frz 4
        go_wp2
        go_roundg (ls.length - (j + 1))
        case measure => omega
        case rel => exact ⟨j + 1, _, rfl, by omega, HT3, rfl, HF3, hfa2, ((H9.pull 2).setCell 4 (.int .i64 (toldInt xs pl fe fa 1 (mostN so) 5).n)).swap.pull 2⟩
    · obtain rfl : j = ls.length := by omega
      have hT2 := hT.out
      rw [List.drop_length] at hT2
      have hT3 : outOf k0 ⟨⟨so, sa, sb, sc, sn, ss⟩, pl, fe, fa⟩ = T := hT2
      have hov : ¬ ls.length < (ByteArray.mk ls.toArray).size := by rw [ba_size]; omega
      have HF1 : Hid (pl ≤ xs.length) := hF.out.1
      have hpk : pl ≤ 1000000000 := Nat.le_trans hF.out.1 hxl
      have HF := hF
      clear hT hT2 hF hnum
      go_wp2_with (refine wpList_next_over rfl (.tmp 32) rfl k ⟨ls.toArray⟩ ls.length rfl H7 hov ?_)
      refine (rFault_any r xs pl fe fa H7.swap).mono ?_
      rintro e w8 ⟨rfl, H8⟩
      have H9 : Sat W (w8.alloc (.cells #[.int .i64 fe, .int .i64 fa] 29)) (pt w8.heap.size #[.int .i64 fe, .int .i64 fa] 29 :: _) := H8.alloc _ _
      by_cases h0 : fe = 0
      · have e0 : (fe != 0) = false := by simpa using h0
        obtain rfl : (⟨so, sa, sb, sc, sn, ss⟩, ((k0 + pl : Nat) : Int), 0, 0) = T := by rw [← hT3, outOf, if_neg (by simpa using h0)]
        clear h0 hT3
        go_wp2
        generalize w8.heap.size = ff at H9 ⊢
        generalize w8.alloc (.cells #[.int .i64 fe, .int .i64 fa] 29) = w9 at H9 ⊢
        have m0 : w9.cell? ⟨ii, 0, none⟩ = some (.int .i64 so) := (H9.pull 3).cell 0
        have m1 : w9.cell? ⟨ii, 1, none⟩ = some (.int .i64 sa) := (H9.pull 3).cell 1
        have m2 : w9.cell? ⟨ii, 2, none⟩ = some (.int .i64 sb) := (H9.pull 3).cell 2
        have m3 : w9.cell? ⟨ii, 3, none⟩ = some (.int .i64 sc) := (H9.pull 3).cell 3
        have m4 : w9.cell? ⟨ii, 4, none⟩ = some (.int .i64 sn) := (H9.pull 3).cell 4
        have m5 : w9.cell? ⟨ii, 5, none⟩ = some (.string ⟨ss.toArray⟩) := (H9.pull 3).cell 5
        have q40 : w9.cell? ⟨q4, 0, none⟩ = some (.int .i64 0) := (H9.pull 5).cell 0
        have g40 := (H9.pull 5).frz 0
        have q41 : w9.cell? ⟨q4, 1, none⟩ = some (.int .i64 0) := (H9.pull 5).cell 1
        have g41 := (H9.pull 5).frz 1
        have q42 : w9.cell? ⟨q4, 2, none⟩ = some (.int .i64 0) := (H9.pull 5).cell 2
        have g42 := (H9.pull 5).frz 2
        have q43 : w9.cell? ⟨q4, 3, none⟩ = some (.int .i64 0) := (H9.pull 5).cell 3
        have g43 := (H9.pull 5).frz 3
        have q44 : w9.cell? ⟨q4, 4, none⟩ = some (.int .i64 0) := (H9.pull 5).cell 4
        have g44 := (H9.pull 5).frz 4
        have q45 : w9.cell? ⟨q4, 5, none⟩ = some (.string ⟨#[]⟩) := (H9.pull 5).cell 5
        have g45 := (H9.pull 5).frz 5
        have q60 : w9.cell? ⟨q6, 0, none⟩ = some (.int .i64 0) := (H9.pull 4).cell 0
        have g60 := (H9.pull 4).frz 0
        have q61 : w9.cell? ⟨q6, 1, none⟩ = some (.int .i64 0) := (H9.pull 4).cell 1
        have g61 := (H9.pull 4).frz 1
        have hne : q6 ≠ q4 := ((H9.pull 5).pull 5).ne
        have hne' : q4 ≠ q6 := fun h => hne h.symm
        have hn4 : q4 ≠ ff := (H9.pull 5).ne
        have hn4' : ff ≠ q4 := fun h => hn4 h.symm
        have hn6 : q6 ≠ ff := (H9.pull 4).ne
        have hn6' : ff ≠ q6 := fun h => hn6 h.symm
        have hs : IntKind.i64.wrap ((k0 : Int) + (pl : Int)) = (k0 : Int) + (pl : Int) := IntWalk.i64_in _ (by omega)
        go_region_law (first
          | (go_simp; go_at_call 49; refine (rAt_any r xs pl fe fa H9.swap.drew).mono ?_; rintro e _ ⟨rfl, rfl⟩))
        all_goals
          have HZ := ((((((((((H9.pull 5).setCell 0 (.int .i64 so)).setCell 1 (.int .i64 sa)).setCell 2 (.int .i64 sb)).setCell 3 (.int .i64 sc)).setCell 4 (.int .i64 sn)).setCell 5 (.string ⟨ss.toArray⟩)).pull 5).setCell 0 (.int .i64 0)).setCell 1 (.int .i64 (0))).drew
          generalize ((((((((w9.setCell ⟨q4, 0, none⟩ (.int .i64 so)).setCell ⟨q4, 1, none⟩ (.int .i64 sa)).setCell ⟨q4, 2, none⟩ (.int .i64 sb)).setCell ⟨q4, 3, none⟩ (.int .i64 sc)).setCell ⟨q4, 4, none⟩ (.int .i64 sn)).setCell ⟨q4, 5, none⟩ (.string ⟨ss.toArray⟩)).setCell ⟨q6, 0, none⟩ (.int .i64 0)).setCell ⟨q6, 1, none⟩ (.int .i64 (0))).drew = wz at HZ ⊢
          have z0 : wz.cell? ⟨q4, 0, none⟩ = some (.int .i64 so) := HZ.swap.cell 0
          have z1 : wz.cell? ⟨q4, 1, none⟩ = some (.int .i64 sa) := HZ.swap.cell 1
          have z2 : wz.cell? ⟨q4, 2, none⟩ = some (.int .i64 sb) := HZ.swap.cell 2
          have z3 : wz.cell? ⟨q4, 3, none⟩ = some (.int .i64 sc) := HZ.swap.cell 3
          have z4 : wz.cell? ⟨q4, 4, none⟩ = some (.int .i64 sn) := HZ.swap.cell 4
          have z5 : wz.cell? ⟨q4, 5, none⟩ = some (.string ⟨ss.toArray⟩) := HZ.swap.cell 5
          have y0 : wz.cell? ⟨q6, 0, none⟩ = some (.int .i64 0) := HZ.cell 0
          have y1 : wz.cell? ⟨q6, 1, none⟩ = some (.int .i64 (0)) := HZ.cell 1
          go_wp2
          refine bodyPost_ret (v := .tuple #[.agg #[.int .i64 so, .int .i64 sa, .int .i64 sb, .int .i64 sc, .int .i64 sn, .string ⟨ss.toArray⟩], .int .i64 (((k0 + pl : Nat) : Int)), .agg #[.int .i64 0, .int .i64 (0)]]) ?_ rfl ⟨rfl, HZ.tail.tail.tail.tail.tail.tail⟩
          simp [results, Try.results13, go_sem, z0, z1, z2, z3, z4, z5, y0, y1]
      · have e0 : (fe != 0) = true := by simpa using h0
        obtain rfl : (Ins.zero, 0, fe, (k0 : Int) + fa) = T := by rw [← hT3, outOf, if_pos h0]
        clear h0 hT3
        go_wp2
        generalize w8.heap.size = ff at H9 ⊢
        generalize w8.alloc (.cells #[.int .i64 fe, .int .i64 fa] 29) = w9 at H9 ⊢
        have m0 : w9.cell? ⟨ff, 0, none⟩ = some (.int .i64 fe) := H9.cell 0
        have m1 : w9.cell? ⟨ff, 1, none⟩ = some (.int .i64 fa) := H9.cell 1
        have q40 : w9.cell? ⟨q4, 0, none⟩ = some (.int .i64 0) := (H9.pull 5).cell 0
        have g40 := (H9.pull 5).frz 0
        have q41 : w9.cell? ⟨q4, 1, none⟩ = some (.int .i64 0) := (H9.pull 5).cell 1
        have g41 := (H9.pull 5).frz 1
        have q42 : w9.cell? ⟨q4, 2, none⟩ = some (.int .i64 0) := (H9.pull 5).cell 2
        have g42 := (H9.pull 5).frz 2
        have q43 : w9.cell? ⟨q4, 3, none⟩ = some (.int .i64 0) := (H9.pull 5).cell 3
        have g43 := (H9.pull 5).frz 3
        have q44 : w9.cell? ⟨q4, 4, none⟩ = some (.int .i64 0) := (H9.pull 5).cell 4
        have g44 := (H9.pull 5).frz 4
        have q45 : w9.cell? ⟨q4, 5, none⟩ = some (.string ⟨#[]⟩) := (H9.pull 5).cell 5
        have g45 := (H9.pull 5).frz 5
        have q60 : w9.cell? ⟨q6, 0, none⟩ = some (.int .i64 0) := (H9.pull 4).cell 0
        have g60 := (H9.pull 4).frz 0
        have q61 : w9.cell? ⟨q6, 1, none⟩ = some (.int .i64 0) := (H9.pull 4).cell 1
        have g61 := (H9.pull 4).frz 1
        have hne : q6 ≠ q4 := ((H9.pull 5).pull 5).ne
        have hne' : q4 ≠ q6 := fun h => hne h.symm
        have hn4 : q4 ≠ ff := (H9.pull 5).ne
        have hn4' : ff ≠ q4 := fun h => hn4 h.symm
        have hn6 : q6 ≠ ff := (H9.pull 4).ne
        have hn6' : ff ≠ q6 := fun h => hn6 h.symm
        have hs : IntKind.i64.wrap ((k0 : Int) + fa) = (k0 : Int) + fa := IntWalk.i64_in _ (by omega)
        go_region_law (fail)
        all_goals
          have HZ := ((((((((((H9.pull 5).setCell 0 (.int .i64 0)).setCell 1 (.int .i64 0)).setCell 2 (.int .i64 0)).setCell 3 (.int .i64 0)).setCell 4 (.int .i64 0)).setCell 5 (.string ⟨#[]⟩)).pull 5).setCell 0 (.int .i64 fe)).setCell 1 (.int .i64 ((k0 : Int) + fa))).drew
          generalize ((((((((w9.setCell ⟨q4, 0, none⟩ (.int .i64 0)).setCell ⟨q4, 1, none⟩ (.int .i64 0)).setCell ⟨q4, 2, none⟩ (.int .i64 0)).setCell ⟨q4, 3, none⟩ (.int .i64 0)).setCell ⟨q4, 4, none⟩ (.int .i64 0)).setCell ⟨q4, 5, none⟩ (.string ⟨#[]⟩)).setCell ⟨q6, 0, none⟩ (.int .i64 fe)).setCell ⟨q6, 1, none⟩ (.int .i64 ((k0 : Int) + fa))).drew = wz at HZ ⊢
          have z0 : wz.cell? ⟨q4, 0, none⟩ = some (.int .i64 0) := HZ.swap.cell 0
          have z1 : wz.cell? ⟨q4, 1, none⟩ = some (.int .i64 0) := HZ.swap.cell 1
          have z2 : wz.cell? ⟨q4, 2, none⟩ = some (.int .i64 0) := HZ.swap.cell 2
          have z3 : wz.cell? ⟨q4, 3, none⟩ = some (.int .i64 0) := HZ.swap.cell 3
          have z4 : wz.cell? ⟨q4, 4, none⟩ = some (.int .i64 0) := HZ.swap.cell 4
          have z5 : wz.cell? ⟨q4, 5, none⟩ = some (.string ⟨#[]⟩) := HZ.swap.cell 5
          have y0 : wz.cell? ⟨q6, 0, none⟩ = some (.int .i64 fe) := HZ.cell 0
          have y1 : wz.cell? ⟨q6, 1, none⟩ = some (.int .i64 ((k0 : Int) + fa)) := HZ.cell 1
          go_wp2
          refine bodyPost_ret (v := .tuple #[.agg #[.int .i64 0, .int .i64 0, .int .i64 0, .int .i64 0, .int .i64 0, .string ⟨#[]⟩], .int .i64 (0), .agg #[.int .i64 fe, .int .i64 ((k0 : Int) + fa)]]) ?_ rfl ⟨rfl, HZ.tail.tail.tail.tail.tail.tail⟩
          simp [results, Try.results13, go_sem, z0, z1, z2, z3, z4, z5, y0, y1]
end Go.Proofs.Ytflcmhmbmippfaa
