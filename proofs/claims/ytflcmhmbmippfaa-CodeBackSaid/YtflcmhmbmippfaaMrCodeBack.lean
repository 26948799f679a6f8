/- MrCodeBack, in one text: CoA, CpF, ClTells, ClFree, ClKnown, ClBack, WrCodeBack. -/
import Derived.Test.YtflcmhmbmippfaaWoA
import Derived.Test.YtflcmhmbmippfaaCdB
import Derived.Test.YtflcmhmbmippfaaCpE
import Derived.Test.YtflcmhmbmippfaaCdE
import Derived.Test.YtflcmhmbmippfaaCdI
import Derived.Test.YtflcmhmbmippfaaRows
import Derived.Test.YtflcmhmbmippfaaWoD
import Derived.Test.YtflcmhmbmippfaaRtR
namespace Go.Proofs.Ytflcmhmbmippfaa
open Go.ChangeShapes Go.WideShapes Go.RowKit Go.Rt Go.Deep

section
variable {H : Type} {enc : TypeId × Value → H} {w : World} {base : Nat} {spare : Nat → Bool} {held : Bool}

set_option maxRecDepth 100000 in
theorem ins_of_trod {fuel : Nat} {cs : List Value} {y : DataW H × List MemPlace} (h : DataW.trod enc Try.prog w base spare held fuel 26 cs = some y) : ∃ x : Ins, x.s.length ≤ maxLen ∧ cs = x.cs := by
  have c6 : Try.prog.cellsOf 26 = 6 := by kernel_rfl
  have c3 : Try.prog.cellsOf 3 = 1 := by kernel_rfl
  have c9 : Try.prog.cellsOf 9 = 1 := by kernel_rfl
  obtain ⟨xs, n, rfl, hy, hlen, hxl, hf⟩ := DataW.trod_struct Try.underlying26 h
  rw [c6] at hlen
  match cs, hlen with
  | [a, b, c, d, e, f], _ =>
    match xs, hxl with
    | [y0, y1, y2, y3, y4, y5], _ =>
      have f0 : DataW.trod enc Try.prog w base spare held n 3 (([a, b, c, d, e, f].drop 0).take (Try.prog.cellsOf 3)) = some y0 := hf 0 _ rfl
      have f1 : DataW.trod enc Try.prog w base spare held n 3 (([a, b, c, d, e, f].drop 1).take (Try.prog.cellsOf 3)) = some y1 := hf 1 _ rfl
      have f2 : DataW.trod enc Try.prog w base spare held n 3 (([a, b, c, d, e, f].drop 2).take (Try.prog.cellsOf 3)) = some y2 := hf 2 _ rfl
      have f3 : DataW.trod enc Try.prog w base spare held n 3 (([a, b, c, d, e, f].drop 3).take (Try.prog.cellsOf 3)) = some y3 := hf 3 _ rfl
      have f4 : DataW.trod enc Try.prog w base spare held n 3 (([a, b, c, d, e, f].drop 4).take (Try.prog.cellsOf 3)) = some y4 := hf 4 _ rfl
      have f5 : DataW.trod enc Try.prog w base spare held n 9 (([a, b, c, d, e, f].drop 5).take (Try.prog.cellsOf 9)) = some y5 := hf 5 _ rfl
      rw [c3] at f0 f1 f2 f3 f4
      rw [c9] at f5
      obtain ⟨k0, e0, _, w0⟩ := DataW.trod_int Try.underlying3 f0
      obtain ⟨k1, e1, _, w1⟩ := DataW.trod_int Try.underlying3 f1
      obtain ⟨k2, e2, _, w2⟩ := DataW.trod_int Try.underlying3 f2
      obtain ⟨k3, e3, _, w3⟩ := DataW.trod_int Try.underlying3 f3
      obtain ⟨k4, e4, _, w4⟩ := DataW.trod_int Try.underlying3 f4
      obtain ⟨s, e5, z5, w5⟩ := DataW.trod_string Try.underlying9 f5
      simp at e0 e1 e2 e3 e4 e5
      refine ⟨⟨k0, k1, k2, k3, k4, s.data.toList⟩, ?_, by rw [e0, e1, e2, e3, e4, e5]; rfl⟩
      show s.data.toList.length ≤ maxLen
      rw [Array.length_toList]
      exact w5
end
end Go.Proofs.Ytflcmhmbmippfaa

/- Plain laws: an instruction's bytes are read as it, cut short they are not, what is read was written so; no instruction's bytes begin another one's. No program in sight. -/
namespace Go.Proofs.Ytflcmhmbmippfaa

theorem sev_pos (n : Nat) : 0 < (sev n).length := by
  show 0 < (sevF 9 n).length
  by_cases h : n < 128
  · rw [sevF_last _ _ h]; simp
  · rw [sevF_more _ _ (by omega)]; simp
theorem insBytes_pos (i : Ins) : 0 < (insBytes i).length := by
  unfold insBytes
  rw [List.length_append]
  have := sev_pos i.op.toNat
  omega

theorem readI_here (pre rest : List UInt8) (i : Ins) (hm : mayB i = true) : readI (pre ++ (insBytes i ++ rest)) pre.length = ⟨i, pre.length + (insBytes i).length, 0, 0⟩ := by
  obtain ⟨hop, hin, hfold⟩ := may_inb i hm
  have hn : ((i.op.toNat : Nat) : Int) = i.op := by omega
  have e : pre ++ (insBytes i ++ rest) = pre ++ (sev i.op.toNat ++ (bytesL i (hasL i.op) ++ rest)) := by unfold insBytes; rw [List.append_assoc]
  have h1 := toldInt_here pre (bytesL i (hasL i.op) ++ rest) i.op.toNat (by omega) 1 15 5 (by omega) (by omega)
  have h2 := readL_here i.op i (hasL i.op) (pre ++ sev i.op.toNat) rest ⟨i.op, 0, 0, 0, 0, []⟩ hin
  rw [List.append_assoc, List.length_append] at h2
  unfold readI
  rw [e, h1]
  dsimp only
  rw [hn, h2, hfold]
  unfold insBytes
  rw [List.length_append, Nat.add_assoc]

theorem readI_cut (pre : List UInt8) (i : Ins) (t : Nat) (hm : mayB i = true) (ht : t < (insBytes i).length) :
    (readI (pre ++ (insBytes i).take t) pre.length).fe = 4 ∧ (readI (pre ++ (insBytes i).take t) pre.length).fa = ((pre ++ (insBytes i).take t).length : Nat) := by
  obtain ⟨hop, hin, hfold⟩ := may_inb i hm
  have hn : ((i.op.toNat : Nat) : Int) = i.op := by omega
  unfold insBytes at ht ⊢
  rw [List.length_append] at ht
  by_cases h : t < (sev i.op.toNat).length
  · rw [List.take_append_of_le_length (by omega)]
    obtain ⟨h1, h2⟩ := toldInt_cut pre i.op.toNat t (by omega) h 1 15 5
    unfold readI
    obtain ⟨_, g2, g3⟩ := readL_stuck (pre ++ (sev i.op.toNat).take t) (toldInt (pre ++ (sev i.op.toNat).take t) pre.length 0 0 1 15 5).n (hasL (toldInt (pre ++ (sev i.op.toNat).take t) pre.length 0 0 1 15 5).n)
      ⟨⟨(toldInt (pre ++ (sev i.op.toNat).take t) pre.length 0 0 1 15 5).n, 0, 0, 0, 0, []⟩, (toldInt (pre ++ (sev i.op.toNat).take t) pre.length 0 0 1 15 5).pl, (toldInt (pre ++ (sev i.op.toNat).take t) pre.length 0 0 1 15 5).fe, (toldInt (pre ++ (sev i.op.toNat).take t) pre.length 0 0 1 15 5).fa⟩ (by dsimp only; rw [h1]; decide)
    exact ⟨g2.trans h1, g3.trans h2⟩
  · have e : (sev i.op.toNat ++ bytesL i (hasL i.op)).take t = sev i.op.toNat ++ (bytesL i (hasL i.op)).take (t - (sev i.op.toNat).length) := by rw [List.take_append, List.take_of_length_le (by omega)]
    rw [e]
    have h1 := toldInt_here pre ((bytesL i (hasL i.op)).take (t - (sev i.op.toNat).length)) i.op.toNat (by omega) 1 15 5 (by omega) (by omega)
    have h2 := readL_cut i.op i (hasL i.op) (pre ++ sev i.op.toNat) ⟨i.op, 0, 0, 0, 0, []⟩ (t - (sev i.op.toNat).length) hin (by omega)
    rw [List.append_assoc, List.length_append] at h2
    unfold readI
    rw [h1]
    dsimp only
    rw [hn]
    exact h2

theorem op_back (bs : List UInt8) (pl : Nat) (low high : Int) (hp : pl ≤ bs.length) (h : (toldInt bs pl 0 0 low high 5).fe = 0) :
    low ≤ (toldInt bs pl 0 0 low high 5).n ∧ (toldInt bs pl 0 0 low high 5).n ≤ high ∧ bs.take (toldInt bs pl 0 0 low high 5).pl = bs.take pl ++ sev (toldInt bs pl 0 0 low high 5).n.toNat := by
  unfold toldInt at h ⊢
  rw [if_pos rfl] at h ⊢
  cases hn : numAt bs pl low high 5 with
  | bad e a => rw [hn] at h; exact absurd h (numAt_bad _ _ _ _ _ _ _ (by decide) hn)
  | ok n k =>
    obtain ⟨h1, _, _, h4, h5⟩ := numAt_back bs pl low high 5 n k hp hn
    exact ⟨h4, h5, h1⟩

theorem readI_back (bs : List UInt8) (pl : Nat) (hp : pl ≤ bs.length) (h : (readI bs pl).fe = 0) :
    mayB (readI bs pl).i = true ∧ bs.take (readI bs pl).pl = bs.take pl ++ insBytes (readI bs pl).i ∧ (readI bs pl).pl ≤ bs.length := by
  have hiv := iv_int bs pl 0 0 1 15 5 (by decide) hp (fun _ => rfl)
  have hob := op_back bs pl 1 15 hp
  unfold readI at h ⊢
  generalize toldInt bs pl 0 0 1 15 5 = T at *
  obtain ⟨n, tp, fe, fa⟩ := T
  dsimp only at hiv hob h ⊢
  have hnum := hasL_num n
  obtain ⟨e1, e2, e3, e4, e5⟩ := readL_back bs n (hasL n) ⟨⟨n, 0, 0, 0, 0, []⟩, tp, fe, fa⟩ (hasL_nodup n) hnum hiv.1 hiv.2 h
  dsimp only at e1 e5
  obtain ⟨b1, b2, b3⟩ := hob e5
  have hop := readL_op bs n (hasL n) ⟨⟨n, 0, 0, 0, 0, []⟩, tp, fe, fa⟩
  dsimp only at hop
  have hoth := fun d hd => readL_other bs n d hd (hasL n) ⟨⟨n, 0, 0, 0, 0, []⟩, tp, fe, fa⟩
  generalize readL bs n (hasL n) ⟨⟨n, 0, 0, 0, 0, []⟩, tp, fe, fa⟩ = R at *
  refine ⟨may_of R.i (by rw [hop]; exact ⟨b1, b2⟩) (by rw [hop]; exact e4) (fun c hc hnc => ?_) (fun hnc => ?_), ?_, e2⟩
  · rw [hop] at hnc
    have h1 := (hoth c (fun _ => hc) hnc hnum).2.2.1 (by rcases hc with rfl | rfl | rfl | rfl <;> decide)
    rw [h1]
    rcases hc with rfl | rfl | rfl | rfl <;> rfl
  · rw [hop] at hnc
    exact (hoth 115 (fun h => absurd rfl h) hnc hnum).2.2.2 rfl
  · rw [e1, b3, insBytes, hop, List.append_assoc]

theorem insAt_here (pre rest : List UInt8) (i : Ins) (hm : mayB i = true) : insAt (pre ++ (insBytes i ++ rest)) (pre.length : Nat) = (i, ((pre.length + (insBytes i).length : Nat) : Int), 0, 0) := by
  unfold insAt
  rw [if_neg (by simp only [List.length_append]; omega), Int.toNat_natCast, readI_here pre rest i hm, if_neg (by simp)]
theorem insAt_cut (pre : List UInt8) (i : Ins) (t : Nat) (hm : mayB i = true) (ht : t < (insBytes i).length) :
    insAt (pre ++ (insBytes i).take t) (pre.length : Nat) = (Ins.zero, 0, 4, (((pre ++ (insBytes i).take t).length : Nat) : Int)) := by
  obtain ⟨h1, h2⟩ := readI_cut pre i t hm ht
  unfold insAt
  rw [if_neg (by simp only [List.length_append]; omega), Int.toNat_natCast, if_pos (by rw [h1]; decide), h1, h2]
/-- What is read at the beginning: a fault, or an instruction that was written so. -/
theorem insAt_back (bs : List UInt8) : (∃ e a, e ≠ 0 ∧ insAt bs 0 = (Ins.zero, 0, e, a)) ∨ ∃ j m, m ≤ bs.length ∧ 1 ≤ m ∧ mayB j = true ∧ bs.take m = insBytes j ∧ insAt bs 0 = (j, ((m : Nat) : Int), 0, 0) := by
  have e0 : insAt bs 0 = if (readI bs 0).fe ≠ 0 then (Ins.zero, 0, (readI bs 0).fe, (readI bs 0).fa) else ((readI bs 0).i, ((readI bs 0).pl : Int), 0, 0) := by
    unfold insAt
    rw [if_neg (by omega)]
    rfl
  by_cases h : (readI bs 0).fe = 0
  · right
    obtain ⟨h1, h2, h3⟩ := readI_back bs 0 (Nat.zero_le _) h
    rw [List.take_zero, List.nil_append] at h2
    refine ⟨(readI bs 0).i, (readI bs 0).pl, h3, ?_, h1, h2, by rw [e0, if_neg (by simpa using h)]⟩
    have h5 := insBytes_pos (readI bs 0).i
    rw [← h2, List.length_take] at h5
    omega
  · exact .inl ⟨_, _, h, by rw [e0, if_pos h]⟩

theorem free_law (i k : Ins) (hi : mayB i = true) (hk : mayB k = true) (h2 : insBytes i = (insBytes k).take (insBytes i).length) : i = k := by
  have e : insBytes k = insBytes i ++ (insBytes k).drop (insBytes i).length := by
    conv => lhs; rw [← List.take_append_drop (insBytes i).length (insBytes k)]
    rw [← h2]
  have a := readI_here [] ((insBytes k).drop (insBytes i).length) i hi
  have b := readI_here [] [] k hk
  rw [List.append_nil, List.nil_append] at b
  rw [List.nil_append, ← e] at a
  rw [a] at b
  exact congrArg Rst.i b
end Go.Proofs.Ytflcmhmbmippfaa

/- CodeTells answers true. -/
namespace Go.Proofs.Ytflcmhmbmippfaa
open Go.RowKit Go.Rt

/-- What is told of an instruction: its bytes, and whether it may be. -/
def outB (i : Ins) : List UInt8 := if mayB i then insBytes i else []
def outE (i : Ins) : Int := if mayB i then 0 else 2
theorem cBytes_any {W w : World} {l : List SL} (i : Ins) (hs : i.s.length ≤ maxLen) (H : Sat W w l) :
    Calls Try.prog 16 #[.agg i.cs.toArray] w fun e w' => ∃ A c, e = .returned (.tuple #[.slice A (outB i).length c, .int .i64 (outE i)]) ∧ Sat W w' (row 5 zB (.slice A (outB i).length c) (outB i).length ((outB i).map B) :: l) := by
  unfold outB outE
  by_cases hm : mayB i = true
  · rw [if_pos hm, if_pos hm]; exact cBytes_fine i hm H
  · rw [if_neg hm, if_neg hm]
    refine (cBytes_bad i hs (by simpa using hm) H).mono ?_
    rintro e w' ⟨rfl, h⟩
    exact ⟨none, 0, rfl, h.nil 5 zB⟩
theorem cSize_any {W w : World} {l : List SL} (i : Ins) (hs : i.s.length ≤ maxLen) (H : Sat W w l) :
    Calls Try.prog 21 #[.agg i.cs.toArray] w fun e w' => e = .returned (.int .i64 ((outB i).length : Nat)) ∧ Sat W w' l := by
  unfold outB
  by_cases hm : mayB i = true
  · rw [if_pos hm]; exact cSize_fine i hm H
  · rw [if_neg hm]; exact cSize_bad i hs (by simpa using hm) H
theorem kBytes_any {W w : World} {l : List SL} (i : Ins) (hs : i.s.length ≤ maxLen) (H : Sat W w l) :
    Calls Try.prog 17 #[.agg i.cs.toArray] w fun e w' => ∃ A c, e = .returned (.tuple #[.slice A (outB i).length c, .int .i64 (outE i)]) ∧ Sat W w' (row 5 zB (.slice A (outB i).length c) (outB i).length ((outB i).map B) :: l) := by
  unfold outB outE
  by_cases hm : mayB i = true
  · rw [if_pos hm, if_pos hm]; exact kBytes_fine i hm H
  · rw [if_neg hm, if_neg hm]
    refine (kBytes_bad i hs (by simpa using hm) H).mono ?_
    rintro e w' ⟨rfl, h⟩
    exact ⟨none, 0, rfl, h.nil 5 zB⟩
theorem kSize_any {W w : World} {l : List SL} (i : Ins) (hs : i.s.length ≤ maxLen) (H : Sat W w l) :
    Calls Try.prog 22 #[.agg i.cs.toArray] w fun e w' => e = .returned (.int .i64 ((outB i).length : Nat)) ∧ Sat W w' l := by
  unfold outB
  by_cases hm : mayB i = true
  · rw [if_pos hm]; exact kSize_fine i hm H
  · rw [if_neg hm]; exact kSize_bad i hs (by simpa using hm) H
theorem cCheck_out {W w : World} {l : List SL} (i : Ins) (hs : i.s.length ≤ maxLen) (H : Sat W w l) :
    Calls Try.prog 19 #[.agg i.cs.toArray] w fun e w' => e = .returned (.int .i64 (outE i)) ∧ Sat W w' l := cCheck_any i hs H
theorem kCheck_out {W w : World} {l : List SL} (i : Ins) (hs : i.s.length ≤ maxLen) (H : Sat W w l) :
    Calls Try.prog 20 #[.agg i.cs.toArray] w fun e w' => e = .returned (.int .i64 (outE i)) ∧ Sat W w' l := by
  have h := kCheck_any i hs H
  rw [← may_eq] at h
  exact h

set_option maxRecDepth 100000 in
set_option maxHeartbeats 8000000 in
theorem lawCodeTells_any {W : World} (i : Ins) (hs : i.s.length ≤ maxLen) :
    Calls Try.prog 4 #[.agg i.cs.toArray] W fun e w' => e = .returned (.bool true) ∧ Sat W w' [] := by
  have H0 := (Sat.start W).alloc i.cs.toArray 26
  have cB := fun (w : World) l (h : Sat W w l) => cBytes_any i hs h
  have kB := fun (w : World) l (h : Sat W w l) => kBytes_any i hs h
  have cS := fun (w : World) l (h : Sat W w l) => cSize_any i hs h
  have kS := fun (w : World) l (h : Sat W w l) => kSize_any i hs h
  have cC := fun (w : World) l (h : Sat W w l) => cCheck_out i hs h
  have kC := fun (w : World) l (h : Sat W w l) => kCheck_out i hs h
  obtain ⟨op, ia, ib, ic, im, is⟩ := i
  unfold maxLen at hs
  dsimp only at hs
  generalize outB ⟨op, ia, ib, ic, im, is⟩ = ys at *
  generalize outE ⟨op, ia, ib, ic, im, is⟩ = ec at *
  have CB := Lib.hid cB
  have KB := Lib.hid kB
  have CS := Lib.hid cS
  have KS := Lib.hid kS
  have CC := Lib.hid cC
  have KC := Lib.hid kC
  clear cB kB cS kS cC kC
  show Calls Try.prog 4 #[.agg #[.int .i64 op, .int .i64 ia, .int .i64 ib, .int .i64 ic, .int .i64 im, .string ⟨is.toArray⟩]] W _
  by_cases hbig : 300 < is.length
  · go_enter Try.func4, Try.ntmps4
    go_wp2_with fail
    refine (iawake_any H0).mono ?_
    rintro e w1 ⟨rfl, H1⟩
    go_wp2
    go_ret
    exact ⟨rfl, H1.tail⟩
  · have hb : is.length ≤ 300 := by omega
    clear hbig
    go_enter Try.func4, Try.ntmps4
    go_wp2_with fail
    refine (CB.out _ _ H0).mono ?_
    rintro e w1 ⟨A, c, rfl, H1⟩
    clear H0
    generalize W.heap.size = bx at H1 ⊢
    have a0 : w1.cell? ⟨bx, 0, none⟩ = some (.int .i64 op) := H1.swap.cell 0
    have a1 : w1.cell? ⟨bx, 1, none⟩ = some (.int .i64 ia) := H1.swap.cell 1
    have a2 : w1.cell? ⟨bx, 2, none⟩ = some (.int .i64 ib) := H1.swap.cell 2
    have a3 : w1.cell? ⟨bx, 3, none⟩ = some (.int .i64 ic) := H1.swap.cell 3
    have a4 : w1.cell? ⟨bx, 4, none⟩ = some (.int .i64 im) := H1.swap.cell 4
    have a5 : w1.cell? ⟨bx, 5, none⟩ = some (.string ⟨is.toArray⟩) := H1.swap.cell 5
    go_wp2_with fail
    refine (KB.out _ _ H1).mono ?_
    rintro e w2 ⟨A', c', rfl, H2⟩
    clear H1 a0 a1 a2 a3 a4 a5
    have hA : RdL W (row 5 zB (.slice A' ys.length c') ys.length (ys.map B) :: row 5 zB (.slice A ys.length c) ys.length (ys.map B) :: pt bx (Ins.cs ⟨op, ia, ib, ic, im, is⟩).toArray 26 :: []) A (ys.map B) := RdL.pull 1 RdL.row
    have hsm := fun w (h : Sat W w (row 5 zB (.slice A' ys.length c') ys.length (ys.map B) :: row 5 zB (.slice A ys.length c) ys.length (ys.map B) :: pt bx (Ins.cs ⟨op, ia, ib, ic, im, is⟩).toArray 26 :: [])) => same_any A A' c c' ys ys w (hA w h) h.rd
    rw [show (ys == ys) = true by simp] at hsm
    have SM := Lib.hid hsm
    clear hsm hA
    have b0 : w2.cell? ⟨bx, 0, none⟩ = some (.int .i64 op) := (H2.pull 2).cell 0
    have b1 : w2.cell? ⟨bx, 1, none⟩ = some (.int .i64 ia) := (H2.pull 2).cell 1
    have b2 : w2.cell? ⟨bx, 2, none⟩ = some (.int .i64 ib) := (H2.pull 2).cell 2
    have b3 : w2.cell? ⟨bx, 3, none⟩ = some (.int .i64 ic) := (H2.pull 2).cell 3
    have b4 : w2.cell? ⟨bx, 4, none⟩ = some (.int .i64 im) := (H2.pull 2).cell 4
    have b5 : w2.cell? ⟨bx, 5, none⟩ = some (.string ⟨is.toArray⟩) := (H2.pull 2).cell 5
    go_wp2_with fail
    go_region_held3 (fun w' => w'.cell? ⟨bx, 0, none⟩ = some (.int .i64 op) ∧ w'.cell? ⟨bx, 1, none⟩ = some (.int .i64 ia) ∧ w'.cell? ⟨bx, 2, none⟩ = some (.int .i64 ib) ∧ w'.cell? ⟨bx, 3, none⟩ = some (.int .i64 ic) ∧ w'.cell? ⟨bx, 4, none⟩ = some (.int .i64 im) ∧ w'.cell? ⟨bx, 5, none⟩ = some (.string ⟨is.toArray⟩)) (exact ⟨‹_›, ‹_›, ‹_›, ‹_›, ‹_›, ‹_›⟩) (first
      | (go_at_call 18; refine (SM.out _ H2.drew).mono ?_; rintro e _ ⟨rfl, rfl⟩)
      | (go_at_call 19; refine (CC.out _ _ H2.drew).mono ?_; rintro e w3 ⟨rfl, H3⟩
         have x0 : w3.cell? ⟨bx, 0, none⟩ = some (.int .i64 op) := (H3.pull 2).cell 0
         have x1 : w3.cell? ⟨bx, 1, none⟩ = some (.int .i64 ia) := (H3.pull 2).cell 1
         have x2 : w3.cell? ⟨bx, 2, none⟩ = some (.int .i64 ib) := (H3.pull 2).cell 2
         have x3 : w3.cell? ⟨bx, 3, none⟩ = some (.int .i64 ic) := (H3.pull 2).cell 3
         have x4 : w3.cell? ⟨bx, 4, none⟩ = some (.int .i64 im) := (H3.pull 2).cell 4
         have x5 : w3.cell? ⟨bx, 5, none⟩ = some (.string ⟨is.toArray⟩) := (H3.pull 2).cell 5)
      | (go_at_call 20; refine (KC.out _ _ H3).mono ?_; rintro e w4 ⟨rfl, H4⟩
         have y0 : w4.cell? ⟨bx, 0, none⟩ = some (.int .i64 op) := (H4.pull 2).cell 0
         have y1 : w4.cell? ⟨bx, 1, none⟩ = some (.int .i64 ia) := (H4.pull 2).cell 1
         have y2 : w4.cell? ⟨bx, 2, none⟩ = some (.int .i64 ib) := (H4.pull 2).cell 2
         have y3 : w4.cell? ⟨bx, 3, none⟩ = some (.int .i64 ic) := (H4.pull 2).cell 3
         have y4 : w4.cell? ⟨bx, 4, none⟩ = some (.int .i64 im) := (H4.pull 2).cell 4
         have y5 : w4.cell? ⟨bx, 5, none⟩ = some (.string ⟨is.toArray⟩) := (H4.pull 2).cell 5)
      | (go_at_call 21; refine (CS.out _ _ H4).mono ?_; rintro e w5 ⟨rfl, H5⟩
         have z0 : w5.cell? ⟨bx, 0, none⟩ = some (.int .i64 op) := (H5.pull 2).cell 0
         have z1 : w5.cell? ⟨bx, 1, none⟩ = some (.int .i64 ia) := (H5.pull 2).cell 1
         have z2 : w5.cell? ⟨bx, 2, none⟩ = some (.int .i64 ib) := (H5.pull 2).cell 2
         have z3 : w5.cell? ⟨bx, 3, none⟩ = some (.int .i64 ic) := (H5.pull 2).cell 3
         have z4 : w5.cell? ⟨bx, 4, none⟩ = some (.int .i64 im) := (H5.pull 2).cell 4
         have z5 : w5.cell? ⟨bx, 5, none⟩ = some (.string ⟨is.toArray⟩) := (H5.pull 2).cell 5)
      | (go_at_call 22; refine (KS.out _ _ H5).mono ?_; rintro e w6 ⟨rfl, H6⟩
         have u0 : w6.cell? ⟨bx, 0, none⟩ = some (.int .i64 op) := (H6.pull 2).cell 0
         have u1 : w6.cell? ⟨bx, 1, none⟩ = some (.int .i64 ia) := (H6.pull 2).cell 1
         have u2 : w6.cell? ⟨bx, 2, none⟩ = some (.int .i64 ib) := (H6.pull 2).cell 2
         have u3 : w6.cell? ⟨bx, 3, none⟩ = some (.int .i64 ic) := (H6.pull 2).cell 3
         have u4 : w6.cell? ⟨bx, 4, none⟩ = some (.int .i64 im) := (H6.pull 2).cell 4
         have u5 : w6.cell? ⟨bx, 5, none⟩ = some (.string ⟨is.toArray⟩) := (H6.pull 2).cell 5))
    go_wp2_with fail
    refine (over_any A c ys H6.swap).mono ?_
    rintro e w7 ⟨rfl, zs, H7⟩
    have H8 := H7.tail
    have v0 : w7.cell? ⟨bx, 0, none⟩ = some (.int .i64 op) := H8.swap.cell 0
    have v1 : w7.cell? ⟨bx, 1, none⟩ = some (.int .i64 ia) := H8.swap.cell 1
    have v2 : w7.cell? ⟨bx, 2, none⟩ = some (.int .i64 ib) := H8.swap.cell 2
    have v3 : w7.cell? ⟨bx, 3, none⟩ = some (.int .i64 ic) := H8.swap.cell 3
    have v4 : w7.cell? ⟨bx, 4, none⟩ = some (.int .i64 im) := H8.swap.cell 4
    have v5 : w7.cell? ⟨bx, 5, none⟩ = some (.string ⟨is.toArray⟩) := H8.swap.cell 5
    go_wp2_with fail
    refine (CB.out _ _ H8).mono ?_
    rintro e w8 ⟨A2, c2, rfl, H9⟩
    have hs2 := same_any A2 A' c2 c' ys ys w8 H9.rd H9.swap.rd
    rw [show (ys == ys) = true by simp] at hs2
    have SM2 := Lib.hid hs2
    clear hs2
    go_wp2_with fail
    refine SM2.out.mono ?_
    rintro e _ ⟨rfl, rfl⟩
    go_wp2_with fail
    refine (iawake_any H9.tail.tail.tail).mono ?_
    rintro e w10 ⟨rfl, H10⟩
    go_wp2
    go_ret
    exact ⟨rfl, H10⟩
end Go.Proofs.Ytflcmhmbmippfaa

/- CodeFree answers true. -/
namespace Go.Proofs.Ytflcmhmbmippfaa
open Go.RowKit Go.Rt

theorem outE_zero (i : Ins) (h : outE i = 0) : mayB i = true ∧ outB i = insBytes i := by
  unfold outE at h
  unfold outB
  by_cases hm : mayB i = true
  · exact ⟨hm, if_pos hm⟩
  · rw [if_neg hm] at h; cases h

set_option maxRecDepth 100000 in
set_option maxHeartbeats 8000000 in
theorem lawCodeFree_any {W : World} (i k : Ins) (hs : i.s.length ≤ maxLen) (ht : k.s.length ≤ maxLen) :
    Calls Try.prog 7 #[.agg i.cs.toArray, .agg k.cs.toArray] W fun e w' => e = .returned (.bool true) ∧ Sat W w' [] := by
  obtain ⟨iU, hiU, hu0, hu1, hu2⟩ := info_parts infoU8
  have H0 : Sat W ((W.alloc (.cells i.cs.toArray 26)).alloc (.cells k.cs.toArray 26)) [pt (W.heap.size + 1) k.cs.toArray 26, pt W.heap.size i.cs.toArray 26] := by
    have h := ((Sat.start W).alloc i.cs.toArray 26).alloc k.cs.toArray 26
    simp only [World.size_alloc] at h
    exact h
  have iB := fun (w : World) l (h : Sat W w l) => cBytes_any i hs h
  have jB := fun (w : World) l (h : Sat W w l) => cBytes_any k ht h
  have iS := fun (w : World) l (h : Sat W w l) => cSize_any i hs h
  have jS := fun (w : World) l (h : Sat W w l) => cSize_any k ht h
  have hfree : outE i = 0 → outE k = 0 → (outB i).length ≤ (outB k).length → (outB i == (outB k).take (outB i).length) = insEq i k := fun h1 h2 h3 => by
    obtain ⟨m1, e1⟩ := outE_zero i h1
    obtain ⟨m2, e2⟩ := outE_zero k h2
    rw [e1, e2] at h3 ⊢
    by_cases hik : i = k
    · subst hik; rw [(insEq_iff i i).2 rfl]; simp
    · have hq : insEq i k = false := by
        cases hq : insEq i k with
        | false => rfl
        | true => exact absurd ((insEq_iff i k).1 hq) hik
      rw [hq, beq_eq_false_iff_ne]
      exact fun h => hik (free_law i k m1 m2 h)
  have hlong : ¬ (outB i).length ≤ (outB k).length → insEq i k = false := fun h => by
    cases hq : insEq i k with
    | false => rfl
    | true => rw [(insEq_iff i k).1 hq] at h; exact absurd (Nat.le_refl _) h
  have hii := fun w : World => ins_equal i k w
  obtain ⟨iop, ia, ib, ic, im, is⟩ := i
  obtain ⟨kop, ka, kb, kc, km, ks⟩ := k
  unfold maxLen at hs ht
  dsimp only at hs ht
  generalize outB ⟨iop, ia, ib, ic, im, is⟩ = xs at *
  generalize outB ⟨kop, ka, kb, kc, km, ks⟩ = ys at *
  generalize outE ⟨iop, ia, ib, ic, im, is⟩ = ei at *
  generalize outE ⟨kop, ka, kb, kc, km, ks⟩ = ek at *
  have IB := Lib.hid iB
  have JB := Lib.hid jB
  have IS := Lib.hid iS
  have JS := Lib.hid jS
  have HF := Lib.hid hfree
  have HL := Lib.hid hlong
  clear iB jB iS jS hfree hlong hii
  show Calls Try.prog 7 #[.agg #[.int .i64 iop, .int .i64 ia, .int .i64 ib, .int .i64 ic, .int .i64 im, .string ⟨is.toArray⟩], .agg #[.int .i64 kop, .int .i64 ka, .int .i64 kb, .int .i64 kc, .int .i64 km, .string ⟨ks.toArray⟩]] W _
  go_enter Try.func7, Try.ntmps7
  go_wp2_with fail
  refine (iawake_any H0).mono ?_
  rintro e w1 ⟨rfl, H1⟩
  clear H0
  generalize W.heap.size + 1 = bk at H1 ⊢
  generalize W.heap.size = bi at H1 ⊢
  have a0 : w1.cell? ⟨bi, 0, none⟩ = some (.int .i64 iop) := H1.swap.cell 0
  have a1 : w1.cell? ⟨bi, 1, none⟩ = some (.int .i64 ia) := H1.swap.cell 1
  have a2 : w1.cell? ⟨bi, 2, none⟩ = some (.int .i64 ib) := H1.swap.cell 2
  have a3 : w1.cell? ⟨bi, 3, none⟩ = some (.int .i64 ic) := H1.swap.cell 3
  have a4 : w1.cell? ⟨bi, 4, none⟩ = some (.int .i64 im) := H1.swap.cell 4
  have a5 : w1.cell? ⟨bi, 5, none⟩ = some (.string ⟨is.toArray⟩) := H1.swap.cell 5
  have b0 : w1.cell? ⟨bk, 0, none⟩ = some (.int .i64 kop) := H1.cell 0
  have b1 : w1.cell? ⟨bk, 1, none⟩ = some (.int .i64 ka) := H1.cell 1
  have b2 : w1.cell? ⟨bk, 2, none⟩ = some (.int .i64 kb) := H1.cell 2
  have b3 : w1.cell? ⟨bk, 3, none⟩ = some (.int .i64 kc) := H1.cell 3
  have b4 : w1.cell? ⟨bk, 4, none⟩ = some (.int .i64 km) := H1.cell 4
  have b5 : w1.cell? ⟨bk, 5, none⟩ = some (.string ⟨ks.toArray⟩) := H1.cell 5
  by_cases hbig : 300 < is.length ∨ 300 < ks.length
  · by_cases h1 : 300 < is.length
    · go_wp2
      go_ret
      exact ⟨rfl, H1.tail.tail⟩
    · have h2 : 300 < ks.length := by omega
      clear hbig
      go_wp2
      go_ret
      exact ⟨rfl, H1.tail.tail⟩
  · have g1 : is.length ≤ 300 := by omega
    have g2 : ks.length ≤ 300 := by omega
    clear hbig
    go_wp2_with fail
    refine (IB.out _ _ H1).mono ?_
    rintro e w2 ⟨A, c, rfl, H2⟩
    clear a0 a1 a2 a3 a4 a5 b0 b1 b2 b3 b4 b5
    have b0 : w2.cell? ⟨bk, 0, none⟩ = some (.int .i64 kop) := H2.swap.cell 0
    have b1 : w2.cell? ⟨bk, 1, none⟩ = some (.int .i64 ka) := H2.swap.cell 1
    have b2 : w2.cell? ⟨bk, 2, none⟩ = some (.int .i64 kb) := H2.swap.cell 2
    have b3 : w2.cell? ⟨bk, 3, none⟩ = some (.int .i64 kc) := H2.swap.cell 3
    have b4 : w2.cell? ⟨bk, 4, none⟩ = some (.int .i64 km) := H2.swap.cell 4
    have b5 : w2.cell? ⟨bk, 5, none⟩ = some (.string ⟨ks.toArray⟩) := H2.swap.cell 5
    go_wp2_with fail
    refine (JB.out _ _ H2).mono ?_
    rintro e w3 ⟨A', c', rfl, H3⟩
    clear b0 b1 b2 b3 b4 b5 H1 H2
    have a0 : w3.cell? ⟨bi, 0, none⟩ = some (.int .i64 iop) := (H3.pull 3).cell 0
    have a1 : w3.cell? ⟨bi, 1, none⟩ = some (.int .i64 ia) := (H3.pull 3).cell 1
    have a2 : w3.cell? ⟨bi, 2, none⟩ = some (.int .i64 ib) := (H3.pull 3).cell 2
    have a3 : w3.cell? ⟨bi, 3, none⟩ = some (.int .i64 ic) := (H3.pull 3).cell 3
    have a4 : w3.cell? ⟨bi, 4, none⟩ = some (.int .i64 im) := (H3.pull 3).cell 4
    have a5 : w3.cell? ⟨bi, 5, none⟩ = some (.string ⟨is.toArray⟩) := (H3.pull 3).cell 5
    have b0 : w3.cell? ⟨bk, 0, none⟩ = some (.int .i64 kop) := (H3.pull 2).cell 0
    have b1 : w3.cell? ⟨bk, 1, none⟩ = some (.int .i64 ka) := (H3.pull 2).cell 1
    have b2 : w3.cell? ⟨bk, 2, none⟩ = some (.int .i64 kb) := (H3.pull 2).cell 2
    have b3 : w3.cell? ⟨bk, 3, none⟩ = some (.int .i64 kc) := (H3.pull 2).cell 3
    have b4 : w3.cell? ⟨bk, 4, none⟩ = some (.int .i64 km) := (H3.pull 2).cell 4
    have b5 : w3.cell? ⟨bk, 5, none⟩ = some (.string ⟨ks.toArray⟩) := (H3.pull 2).cell 5
    have hx : Rd w3 A (xs.map B) := H3.swap.rd
    have hy : Rd w3 A' (ys.map B) := H3.rd
    have hyc : ys.length ≤ c' := by
      obtain ⟨_, A0, c0, hv, hnc, _, _, _⟩ := H3.slice
      cases hv
      exact hnc
    by_cases hbad : ei = 0 ∧ ek = 0
    · obtain ⟨rfl, rfl⟩ := hbad
      by_cases hle : xs.length ≤ ys.length
      · have hR := HF.out rfl rfl hle
        have hsub : Rd w3 (subA A' c' 0) ((ys.take xs.length).map B) := by
          have h := subA_rd hy (n := ys.length) (by simp) hyc 0 xs.length (by omega)
          rw [List.drop_zero, ← List.map_take] at h
          exact h
        have hsame := same_any A (subA A' c' 0) c c' xs (ys.take xs.length) w3 hx hsub
        rw [hR, show (ys.take xs.length).length = xs.length by rw [List.length_take]; omega] at hsame
        have HS := Lib.hid hsame
        obtain ⟨Q, hQ⟩ : ∃ Q, insEq ⟨iop, ia, ib, ic, im, is⟩ ⟨kop, ka, kb, kc, km, ks⟩ = Q := ⟨_, rfl⟩
        have HQ := Lib.hid hQ
        clear hsame hR hsub hQ
        go_wp2_with (refine wpList_slice_to (by rfl) (.tmp 61) (.tmp 63) 22 rfl 5 iU Try.underlying22 hiU A' ys.length c' xs.length rfl rfl (by omega) ?_)
        refine HS.out.mono ?_
        rintro e _ ⟨rfl, rfl⟩
        rw [HQ.out]
        cases Q
        all_goals
          have hq := HQ.out
          go_wp2_with (first | (refine wpList_eqi (by rfl) (.tmp 70) (.tmp 71) 26 false rfl ⟨iop, ia, ib, ic, im, is⟩ ⟨kop, ka, kb, kc, km, ks⟩ rfl rfl ?_; rw [hq]))
          go_ret
          exact ⟨rfl, H3.tail.tail.tail.tail⟩
      · have hq := HL.out hle
        have hle2 : decide ((xs.length : Int) ≤ (ys.length : Int)) = false := by simp; omega
        go_wp2_with (first | (refine wpList_eqi (by rfl) (.tmp 70) (.tmp 71) 26 false rfl ⟨iop, ia, ib, ic, im, is⟩ ⟨kop, ka, kb, kc, km, ks⟩ rfl rfl ?_; rw [hq]))
        go_ret
        exact ⟨rfl, H3.tail.tail.tail.tail⟩
    · by_cases h0 : ei = 0
      · have h1 : (ek != 0) = true := by simp; omega
        subst h0
        clear hbad
        go_wp2_with fail
        refine (IS.out _ _ H3).mono ?_
        rintro e w4 ⟨rfl, H4⟩
        have v0 : w4.cell? ⟨bk, 0, none⟩ = some (.int .i64 kop) := (H4.pull 2).cell 0
        have v1 : w4.cell? ⟨bk, 1, none⟩ = some (.int .i64 ka) := (H4.pull 2).cell 1
        have v2 : w4.cell? ⟨bk, 2, none⟩ = some (.int .i64 kb) := (H4.pull 2).cell 2
        have v3 : w4.cell? ⟨bk, 3, none⟩ = some (.int .i64 kc) := (H4.pull 2).cell 3
        have v4 : w4.cell? ⟨bk, 4, none⟩ = some (.int .i64 km) := (H4.pull 2).cell 4
        have v5 : w4.cell? ⟨bk, 5, none⟩ = some (.string ⟨ks.toArray⟩) := (H4.pull 2).cell 5
        go_wp2_with fail
        refine (JS.out _ _ H4).mono ?_
        rintro e w5 ⟨rfl, H5⟩
        go_wp2
        go_ret
        exact ⟨rfl, H5.tail.tail.tail.tail⟩
      · have h1 : (ei != 0) = true := by simpa using h0
        clear hbad h0
        go_wp2_with fail
        refine (IS.out _ _ H3).mono ?_
        rintro e w4 ⟨rfl, H4⟩
        have v0 : w4.cell? ⟨bk, 0, none⟩ = some (.int .i64 kop) := (H4.pull 2).cell 0
        have v1 : w4.cell? ⟨bk, 1, none⟩ = some (.int .i64 ka) := (H4.pull 2).cell 1
        have v2 : w4.cell? ⟨bk, 2, none⟩ = some (.int .i64 kb) := (H4.pull 2).cell 2
        have v3 : w4.cell? ⟨bk, 3, none⟩ = some (.int .i64 kc) := (H4.pull 2).cell 3
        have v4 : w4.cell? ⟨bk, 4, none⟩ = some (.int .i64 km) := (H4.pull 2).cell 4
        have v5 : w4.cell? ⟨bk, 5, none⟩ = some (.string ⟨ks.toArray⟩) := (H4.pull 2).cell 5
        go_wp2_with fail
        refine (JS.out _ _ H4).mono ?_
        rintro e w5 ⟨rfl, H5⟩
        go_wp2
        go_ret
        exact ⟨rfl, H5.tail.tail.tail.tail⟩
end Go.Proofs.Ytflcmhmbmippfaa

/- CodeKnown answers true. -/
namespace Go.Proofs.Ytflcmhmbmippfaa
open Go.RowKit Go.Rt

set_option maxRecDepth 100000 in
set_option maxHeartbeats 8000000 in
theorem iknown_any {W w : World} {l : List SL} (H : Sat W w l) :
    Calls Try.prog 5 #[] w fun e w' => e = .returned (.bool true) ∧ Sat W w' l := by
  have hee : insEq ⟨2, 1, 2, 0, 0, []⟩ ⟨2, 1, 2, 0, 0, []⟩ = true := by decide
  have H1 : Sat W (w.alloc (.cells (([9, 2, 1, 2] : List UInt8).map B).toArray 5)) (pt w.heap.size (([9, 2, 1, 2] : List UInt8).map B).toArray 5 :: l) := H.alloc _ _
  have hc := cRead_any (some ⟨w.heap.size, 0, none⟩) 4 [9, 2, 1, 2] ⟨by decide, by simp, by decide⟩ RdL.pt (by decide) 1 H1
  rw [show insAt [9, 2, 1, 2] 1 = (⟨2, 1, 2, 0, 0, []⟩, 4, 0, 0) by kernel_rfl] at hc
  have HC := Lib.hid hc
  clear hc
  go_enter Try.func5, Try.ntmps5
  go_wp2_with fail
  refine HC.out.mono ?_
  rintro e w1 hp
  obtain ⟨rfl, H2⟩ : e = .returned (.tuple #[.agg #[.int .i64 2, .int .i64 1, .int .i64 2, .int .i64 0, .int .i64 0, .string ⟨#[]⟩], .int .i64 4, .agg #[.int .i64 0, .int .i64 0]]) ∧ Sat W w1 _ := hp
  clear HC H1
  have H4 : Sat W (((w1.alloc (.cells #[.int .i64 2, .int .i64 1, .int .i64 2, .int .i64 0, .int .i64 0, .string ⟨#[]⟩] 26)).alloc (.cells #[.int .i64 0, .int .i64 0] 29)).alloc (.cells (([6, 0, 1, 2, 16] : List UInt8).map B).toArray 5))
      (pt (w1.heap.size + 2) (([6, 0, 1, 2, 16] : List UInt8).map B).toArray 5 :: pt (w1.heap.size + 1) #[.int .i64 0, .int .i64 0] 29 :: pt w1.heap.size #[.int .i64 2, .int .i64 1, .int .i64 2, .int .i64 0, .int .i64 0, .string ⟨#[]⟩] 26 :: l) := by
    have h := ((H2.tail.alloc #[.int .i64 2, .int .i64 1, .int .i64 2, .int .i64 0, .int .i64 0, .string ⟨#[]⟩] 26).alloc #[.int .i64 0, .int .i64 0] 29).alloc (([6, 0, 1, 2, 16] : List UInt8).map B).toArray 5
    simp only [World.size_alloc] at h
    exact h
  go_wp2_with fail
  refine (iis_true ⟨6, 0, 1, 2, 16, []⟩ (by decide) (some ⟨w1.heap.size + 2, 0, none⟩) 5 [6, 0, 1, 2, 16] (by decide) RdL.pt H4).mono ?_
  rintro e w2 ⟨rfl, H5⟩
  clear H2 H4
  generalize w1.heap.size + 1 = q3 at H5 ⊢
  generalize w1.heap.size = q1 at H5 ⊢
  have H6 : Sat W (w2.alloc (.cells (([13, 60] : List UInt8).map B).toArray 5)) _ := H5.tail.alloc _ _
  go_wp2_with fail
  refine (iis_true ⟨13, 0, 0, 0, 60, []⟩ (by decide) (some ⟨w2.heap.size, 0, none⟩) 2 [13, 60] (by decide) RdL.pt H6).mono ?_
  rintro e w3 ⟨rfl, H7⟩
  replace H7 := H7.tail
  clear H5 H6
  have m0 : w3.cell? ⟨q1, 0, none⟩ = some (.int .i64 2) := H7.swap.cell 0
  have m1 : w3.cell? ⟨q1, 1, none⟩ = some (.int .i64 1) := H7.swap.cell 1
  have m2 : w3.cell? ⟨q1, 2, none⟩ = some (.int .i64 2) := H7.swap.cell 2
  have m3 : w3.cell? ⟨q1, 3, none⟩ = some (.int .i64 0) := H7.swap.cell 3
  have m4 : w3.cell? ⟨q1, 4, none⟩ = some (.int .i64 0) := H7.swap.cell 4
  have m5 : w3.cell? ⟨q1, 5, none⟩ = some (.string ⟨#[]⟩) := H7.swap.cell 5
  have n0 : w3.cell? ⟨q3, 0, none⟩ = some (.int .i64 0) := H7.cell 0
  go_wp2_with (first | (refine wpList_eqi (by rfl) (.tmp 21) (.tmp 22) 26 false rfl ⟨2, 1, 2, 0, 0, []⟩ ⟨2, 1, 2, 0, 0, []⟩ rfl rfl ?_; rw [hee]))
  refine (cCheck_any ⟨1, 8, 0, 0, 0, []⟩ (by decide) H7.tail.tail).mono ?_
  rintro e w4 ⟨rfl, H8⟩
  rw [if_neg (show ¬ mayB ⟨1, 8, 0, 0, 0, []⟩ = true by decide)]
  go_wp2_with fail
  refine (cCheck_any ⟨6, 0, 0, 0, 17, []⟩ (by decide) H8).mono ?_
  rintro e w5 ⟨rfl, H9⟩
  rw [if_neg (show ¬ mayB ⟨6, 0, 0, 0, 17, []⟩ = true by decide)]
  go_wp2_with fail
  refine (cCheck_any ⟨0, 0, 0, 0, 0, []⟩ (by decide) H9).mono ?_
  rintro e w6 ⟨rfl, H10⟩
  rw [if_neg (show ¬ mayB ⟨0, 0, 0, 0, 0, []⟩ = true by decide)]
  go_wp2_with fail
  refine (cSize_fine ⟨2, 1, 2, 0, 0, []⟩ (by decide) H10).mono ?_
  rintro e w7 ⟨rfl, H11⟩
  rw [show (insBytes ⟨2, 1, 2, 0, 0, []⟩).length = 3 by decide]
  clear H7 H8 H9 H10 m0 m1 m2 m3 m4 m5 n0
  go_wp2_with fail
  refine (iawake_any H11).mono ?_
  rintro e w8 ⟨rfl, H12⟩
  have H13 : Sat W (w8.alloc (.cells (([16] : List UInt8).map B).toArray 5)) _ := H12.alloc _ _
  go_wp2_with fail
  refine (ifails_true (some ⟨w8.heap.size, 0, none⟩) 1 [16] ⟨by decide, by simp, by decide⟩ RdL.pt (by decide) 0 5 0 (by kernel_rfl) H13).mono ?_
  rintro e w9 ⟨rfl, H14⟩
  have H15 : Sat W (w9.alloc (.cells (([2, 1] : List UInt8).map B).toArray 5)) _ := H14.tail.alloc _ _
  clear H11 H12 H13
  go_wp2_with fail
  refine (ifails_true (some ⟨w9.heap.size, 0, none⟩) 2 [2, 1] ⟨by decide, by simp, by decide⟩ RdL.pt (by decide) 0 4 2 (by kernel_rfl) H15).mono ?_
  rintro e w10 ⟨rfl, H16⟩
  have H17 : Sat W (w10.alloc (.cells (([15] : List UInt8).map B).toArray 5)) _ := H16.tail.alloc _ _
  clear H14 H15
  go_wp2_with fail
  refine (ifails_true (some ⟨w10.heap.size, 0, none⟩) 1 [15] ⟨by decide, by simp, by decide⟩ RdL.pt (by decide) 2 5 0 (by kernel_rfl) H17).mono ?_
  rintro e w11 ⟨rfl, H18⟩
  go_wp2
  go_ret
  exact ⟨rfl, H18.tail⟩
end Go.Proofs.Ytflcmhmbmippfaa

/- CodeBack answers true. -/
namespace Go.Proofs.Ytflcmhmbmippfaa
open Go.RowKit Go.Rt

theorem insEq_me (i : Ins) : insEq i i = true := (insEq_iff i i).2 rfl

set_option maxRecDepth 100000 in
set_option maxHeartbeats 16000000 in
theorem lawCodeBack_any {W : World} (i : Ins) (hs : i.s.length ≤ maxLen) (A1 : Option Addr) (c1 : Nat) (pre : List UInt8) (hr1 : Rd W A1 (pre.map B)) (A2 : Option Addr) (c2 : Nat) (post : List UInt8) (hA2 : Bsl A2 post.length c2) (hr2 : Rd W A2 (post.map B)) (cut : Int) :
    Calls Try.prog 6 #[.agg i.cs.toArray, .slice A1 pre.length c1, .slice A2 post.length c2, .int .i64 cut] W fun e w' => e = .returned (.bool true) ∧ Sat W w' [] := by
  obtain ⟨iU, hiU, hu0, hu1, hu2⟩ := info_parts infoU8
  have H0 := (Sat.start W).alloc i.cs.toArray 26
  have iB := fun (w : World) l (h : Sat W w l) => cBytes_any i hs h
  have iS := fun (w : World) l (h : Sat W w l) => cSize_any i hs h
  have iC := fun (w : World) l (h : Sat W w l) => cCheck_out i hs h
  have hxs : (outB i).length ≤ 400 := by
    unfold outB
    by_cases hm : mayB i = true
    · rw [if_pos hm]; exact insBytes_len i hm
    · rw [if_neg hm]; simp
  have hhere : outE i = 0 → insAt (pre ++ (outB i ++ post)) (pre.length : Nat) = (i, (pre.length : Int) + ((outB i).length : Int), 0, 0) := fun h => by
    obtain ⟨hm, e⟩ := outE_zero i h
    rw [e, insAt_here pre post i hm, Int.natCast_add]
  have hcut : outE i = 0 → ∀ t, t < (outB i).length → insAt (pre ++ (outB i).take t) (pre.length : Nat) = (Ins.zero, 0, 4, (((pre ++ (outB i).take t).length : Nat) : Int)) := fun h => by
    obtain ⟨hm, e⟩ := outE_zero i h
    rw [e]; exact fun t ht => insAt_cut pre i t hm ht
  have hpos : outE i = 0 → 0 < (outB i).length := fun h => by
    obtain ⟨hm, e⟩ := outE_zero i h
    rw [e]; exact insBytes_pos i
  have hback := insAt_back post
  have hee := insEq_me i
  obtain ⟨iop, ia, ib, ic, im, is⟩ := i
  unfold maxLen at hs
  dsimp only at hs
  generalize outB ⟨iop, ia, ib, ic, im, is⟩ = xs at *
  generalize outE ⟨iop, ia, ib, ic, im, is⟩ = ei at *
  have IB := Lib.hid iB
  have IS := Lib.hid iS
  have IC := Lib.hid iC
  have HHERE := Lib.hid hhere
  have HCUT := Lib.hid hcut
  have HPOS := Lib.hid hpos
  have HBACK := Lib.hid hback
  have HEE := Lib.hid hee
  have HA2 := Lib.hid hA2
  clear iB iS iC hhere hcut hpos hback hee hA2
  show Calls Try.prog 6 #[.agg #[.int .i64 iop, .int .i64 ia, .int .i64 ib, .int .i64 ic, .int .i64 im, .string ⟨is.toArray⟩], .slice A1 pre.length c1, .slice A2 post.length c2, .int .i64 cut] W _
  go_enter Try.func6, Try.ntmps6
  go_wp2_with fail
  refine (iknown_any H0).mono ?_
  rintro e w1 ⟨rfl, H1⟩
  clear H0
  generalize W.heap.size = bi at H1 ⊢
  have a0 : w1.cell? ⟨bi, 0, none⟩ = some (.int .i64 iop) := H1.cell 0
  have a1 : w1.cell? ⟨bi, 1, none⟩ = some (.int .i64 ia) := H1.cell 1
  have a2 : w1.cell? ⟨bi, 2, none⟩ = some (.int .i64 ib) := H1.cell 2
  have a3 : w1.cell? ⟨bi, 3, none⟩ = some (.int .i64 ic) := H1.cell 3
  have a4 : w1.cell? ⟨bi, 4, none⟩ = some (.int .i64 im) := H1.cell 4
  have a5 : w1.cell? ⟨bi, 5, none⟩ = some (.string ⟨is.toArray⟩) := H1.cell 5
  by_cases hbig : 300 < is.length ∨ 100 < pre.length ∨ 100 < post.length
  · by_cases h1 : 300 < is.length
    · go_wp2
      go_ret
      exact ⟨rfl, H1.tail⟩
    · by_cases h2 : 100 < pre.length
      · clear hbig
        go_wp2
        go_ret
        exact ⟨rfl, H1.tail⟩
      · have h3 : 100 < post.length := by omega
        clear hbig
        go_wp2
        go_ret
        exact ⟨rfl, H1.tail⟩
  · have g1 : is.length ≤ 300 := by omega
    have g2 : pre.length ≤ 100 := by omega
    have g3 : post.length ≤ 100 := by omega
    clear hbig
    go_wp2_with fail
    refine (IB.out _ _ H1).mono ?_
    rintro e w2 ⟨A, c, rfl, H2⟩
    clear a0 a1 a2 a3 a4 a5 H1
    have H2' := H2
    go_upto_if 44 with fail
    go_cut [] (fun wx => Sat W wx [row 5 zB (.slice A xs.length c) xs.length (xs.map B), pt bi (Ins.cs ⟨iop, ia, ib, ic, im, is⟩).toArray 26])
    case first =>
      by_cases h0 : ei = 0
      · subst h0
        have hp := HPOS.out rfl
        have HH := Lib.hid (HHERE.out rfl)
        have HC := Lib.hid (HCUT.out rfl)
        clear HHERE HCUT HPOS HBACK HA2
        go_wp2_with fail
        refine (copy_any A1 c1 pre (hr1.old H2) (by omega) H2).mono ?_
        rintro e w3 ⟨A3, c3, rfl, H3⟩
        go_wp2_with (first
          | (refine wpList_append_sl rfl (.tmp 46) (.tmp 47) 22 rfl 5 iU (.int .u8 0) zB 1 Try.underlying22 hiU hu0 rfl hu1 hu2 (by simp) zB_like _ pre.length _ rfl H3 A xs.length c (xs.map B) rfl (by simp) H3.swap.rd (B_one xs) (Typed.bytes xs) (by unfold maxLen; omega) (by omega) ?_
             intro A4 c4 w4 H4)
          | (refine wpList_append_sl rfl (.tmp 48) (.tmp 49) 22 rfl 5 iU (.int .u8 0) zB 1 Try.underlying22 hiU hu0 rfl hu1 hu2 (by simp) zB_like _ (pre.length + xs.length) _ rfl H4 A2 post.length c2 (post.map B) rfl (by simp) (hr2.old H4) (B_one post) (Typed.bytes post) (by unfold maxLen; omega) (by omega) ?_
             intro A5 c5 w5 H5))
        have hll : (pre ++ (xs ++ post)).length = pre.length + xs.length + post.length := by simp [Nat.add_assoc]
        obtain ⟨als, hals⟩ : ∃ als, pre ++ (xs ++ post) = als := ⟨_, rfl⟩
        have hcell : pre.map B ++ xs.map B ++ post.map B = als.map B := by rw [← hals]; simp
        have htake : ∀ t, t < xs.length → als.take (pre.length + t) = pre ++ xs.take t := fun t ht => by
          rw [← hals, List.take_append, List.take_of_length_le (by omega), show pre.length + t - pre.length = t by omega, List.take_append_of_le_length (by omega)]
        have hh := HH.out
        rw [hals] at hh hll
        rw [hcell, ← hll] at H5
        have hb5 : Bsl A5 als.length c5 := by
          obtain ⟨_, A0, c0, hv, hnc, hmx, hno, _⟩ := H5.slice
          cases hv
          exact ⟨hnc, fun h => (hno h).1, hmx⟩
        have hrd5 : RdL W [row 5 zB (.slice A5 als.length c5) als.length (als.map B), row 5 zB (.slice A xs.length c) xs.length (xs.map B), pt bi (Ins.cs ⟨iop, ia, ib, ic, im, is⟩).toArray 26] A5 (als.map B) := RdL.row
        have hrc := cRead_any A5 c5 als hb5 hrd5 (by omega) (pre.length : Nat) H5
        rw [hh] at hrc
        have HRC := Lib.hid hrc
        have HTAKE := Lib.hid htake
        have HLL := Lib.hid hll
        clear hrc htake hals hcell hh HH H2 H2' H3 H4
        rw [← HLL.out]
        go_wp2_with fail
        refine HRC.out.mono ?_
        rintro e w6 hp6
        obtain ⟨rfl, H6⟩ : e = .returned (.tuple #[.agg #[.int .i64 iop, .int .i64 ia, .int .i64 ib, .int .i64 ic, .int .i64 im, .string ⟨is.toArray⟩], .int .i64 ((pre.length : Int) + (xs.length : Int)), .agg #[.int .i64 0, .int .i64 0]]) ∧ Sat W w6 _ := hp6
        clear HRC H5
        have H7 : Sat W ((w6.alloc (.cells #[.int .i64 iop, .int .i64 ia, .int .i64 ib, .int .i64 ic, .int .i64 im, .string ⟨is.toArray⟩] 26)).alloc (.cells #[.int .i64 0, .int .i64 0] 29)) [pt (w6.heap.size + 1) #[.int .i64 0, .int .i64 0] 29, pt w6.heap.size #[.int .i64 iop, .int .i64 ia, .int .i64 ib, .int .i64 ic, .int .i64 im, .string ⟨is.toArray⟩] 26, row 5 zB (.slice A5 als.length c5) als.length (als.map B), row 5 zB (.slice A xs.length c) xs.length (xs.map B), pt bi (Ins.cs ⟨iop, ia, ib, ic, im, is⟩).toArray 26] := by
          have h := (H6.alloc #[.int .i64 iop, .int .i64 ia, .int .i64 ib, .int .i64 ic, .int .i64 im, .string ⟨is.toArray⟩] 26).alloc #[.int .i64 0, .int .i64 0] 29
          simp only [World.size_alloc] at h
          exact h
        have a0 : w6.cell? ⟨bi, 0, none⟩ = some (.int .i64 iop) := (H6.pull 2).cell 0
        have a1 : w6.cell? ⟨bi, 1, none⟩ = some (.int .i64 ia) := (H6.pull 2).cell 1
        have a2 : w6.cell? ⟨bi, 2, none⟩ = some (.int .i64 ib) := (H6.pull 2).cell 2
        have a3 : w6.cell? ⟨bi, 3, none⟩ = some (.int .i64 ic) := (H6.pull 2).cell 3
        have a4 : w6.cell? ⟨bi, 4, none⟩ = some (.int .i64 im) := (H6.pull 2).cell 4
        have a5 : w6.cell? ⟨bi, 5, none⟩ = some (.string ⟨is.toArray⟩) := (H6.pull 2).cell 5
        have hlt6 := (H6.pull 2).lt
        have hw1 : IntKind.i64.wrap ((pre.length : Int) + (xs.length : Int)) = (pre.length : Int) + (xs.length : Int) := IntWalk.i64_in _ (by omega)
        have hx0 : ((xs.length : Int) == 0) = false := beq_eq_false_iff_ne.2 (by omega)
        have hee := HEE.out
        go_wp2_with (first | (refine wpList_eqi (by rfl) (.tmp 59) (.tmp 60) 26 true rfl ⟨iop, ia, ib, ic, im, is⟩ ⟨iop, ia, ib, ic, im, is⟩ rfl rfl ?_; rw [hee, show xor true true = false from rfl]))
        refine (IS.out _ _ H7).mono ?_
        rintro e w8 ⟨rfl, H8⟩
        clear a0 a1 a2 a3 a4 a5 hlt6 H6 H7 hee
        generalize w6.heap.size + 1 = q15 at H8 ⊢
        generalize w6.heap.size = q13 at H8 ⊢
        have hpk := Pick_any cut xs.length ⟨hp, by omega⟩ w8
        have HPK := Lib.hid hpk
        clear hpk
        go_wp2_with fail
        refine HPK.out.mono ?_
        rintro e _ ⟨⟨t, ht, rfl⟩, rfl⟩
        have hw2 : IntKind.i64.wrap ((pre.length : Int) + (t : Int)) = (pre.length : Int) + (t : Int) := IntWalk.i64_in _ (by omega)
        have hsl : (pre ++ xs.take t).length = pre.length + t := by rw [List.length_append, List.length_take]; omega
        have hbs : Bsl A5 (pre.length + t) c5 := ⟨by have := hb5.le; have := HLL.out; omega, hb5.none, hb5.max⟩
        have hrs : RdL W [pt q15 #[.int .i64 0, .int .i64 0] 29, pt q13 #[.int .i64 iop, .int .i64 ia, .int .i64 ib, .int .i64 ic, .int .i64 im, .string ⟨is.toArray⟩] 26, row 5 zB (.slice A5 als.length c5) als.length (als.map B), row 5 zB (.slice A xs.length c) xs.length (xs.map B), pt bi (Ins.cs ⟨iop, ia, ib, ic, im, is⟩).toArray 26] A5 ((pre ++ xs.take t).map B) := fun w' h => by
          have h1 := (h.pull 2).rd.take (pre.length + t)
          rw [← List.map_take, HTAKE.out t ht] at h1
          exact h1
        have hf := ifails_true (w := w8) A5 c5 (pre ++ xs.take t) (by rw [hsl]; exact hbs) hrs (by omega) (pre.length : Int) 4 (((pre ++ xs.take t).length : Nat) : Int) (HC.out t ht) H8
        rw [hsl, Int.natCast_add] at hf
        have HFL := Lib.hid hf
        have hle5 : pre.length + t ≤ c5 := hbs.le
        clear hf hsl hbs hrs HC HTAKE
        go_wp2_with fail
        refine HFL.out.mono ?_
        rintro e w9 ⟨rfl, H9⟩
        go_wp2_with fail
        go_meet
        exact H9.tail.tail.tail
      · have e0 : (ei == 0) = false := by simpa using h0
        clear h0
        go_wp2_with fail
        go_meet
        exact H2'
    case rest =>
    have K := hcut
    clear hcut H2 H2' HHERE HCUT HPOS HEE IB IS
    have hrc := cRead_any A2 c2 post HA2.out (RdL.old hr2) (by omega) 0 K
    rcases HBACK.out with ⟨fe, fa, hne, hb⟩ | ⟨j, m, hm1, hm2, hmj, hbj, hb⟩
    · rw [hb] at hrc
      have HRC := Lib.hid hrc
      have e0 : (fe != 0) = true := by simpa using hne
      clear hrc hb hne HBACK
      go_wp2_with fail
      refine HRC.out.mono ?_
      rintro e w6 hp6
      obtain ⟨rfl, H6⟩ : e = .returned (.tuple #[.agg #[.int .i64 0, .int .i64 0, .int .i64 0, .int .i64 0, .int .i64 0, .string ⟨#[]⟩], .int .i64 0, .agg #[.int .i64 fe, .int .i64 fa]]) ∧ Sat W w6 _ := hp6
      clear HRC K
      have H7 := (H6.alloc #[.int .i64 0, .int .i64 0, .int .i64 0, .int .i64 0, .int .i64 0, .string ⟨#[]⟩] 26).alloc #[.int .i64 fe, .int .i64 fa] 29
      have a0 : w6.cell? ⟨bi, 0, none⟩ = some (.int .i64 iop) := H6.swap.cell 0
      have a1 : w6.cell? ⟨bi, 1, none⟩ = some (.int .i64 ia) := H6.swap.cell 1
      have a2 : w6.cell? ⟨bi, 2, none⟩ = some (.int .i64 ib) := H6.swap.cell 2
      have a3 : w6.cell? ⟨bi, 3, none⟩ = some (.int .i64 ic) := H6.swap.cell 3
      have a4 : w6.cell? ⟨bi, 4, none⟩ = some (.int .i64 im) := H6.swap.cell 4
      have a5 : w6.cell? ⟨bi, 5, none⟩ = some (.string ⟨is.toArray⟩) := H6.swap.cell 5
      have hlt6 := H6.swap.lt
      go_wp2_with fail
      refine (IC.out _ _ H7).mono ?_
      rintro e w8 ⟨rfl, H8⟩
      go_wp2
      go_ret
      exact ⟨rfl, H8.tail.tail.tail.tail⟩
    · rw [hb] at hrc
      have HRC := Lib.hid hrc
      have hcb := fun (w : World) l (h : Sat W w l) => cBytes_fine j hmj h
      obtain ⟨zs, hz⟩ : ∃ zs, insBytes j = zs := ⟨_, rfl⟩
      rw [hz] at hcb hbj
      have hzl : zs.length = m := by rw [← hbj, List.length_take]; omega
      obtain ⟨jop, ja, jb, jc, jm, js⟩ := j
      have HCB := Lib.hid hcb
      have HBJ := Lib.hid hbj
      have HZL := Lib.hid hzl
      have e1 : decide ((1 : Int) ≤ (m : Int)) = true := by simp; omega
      have e2 : decide ((m : Int) ≤ (post.length : Int)) = true := by simp; omega
      have hmc : m ≤ c2 := Nat.le_trans hm1 HA2.out.le
      clear hrc hb hcb hbj hz hzl hmj HBACK hm2
      go_wp2_with fail
      refine HRC.out.mono ?_
      rintro e w6 hp6
      obtain ⟨rfl, H6⟩ : e = .returned (.tuple #[.agg #[.int .i64 jop, .int .i64 ja, .int .i64 jb, .int .i64 jc, .int .i64 jm, .string ⟨js.toArray⟩], .int .i64 m, .agg #[.int .i64 0, .int .i64 0]]) ∧ Sat W w6 _ := hp6
      clear HRC K
      have H7 := (H6.alloc #[.int .i64 jop, .int .i64 ja, .int .i64 jb, .int .i64 jc, .int .i64 jm, .string ⟨js.toArray⟩] 26).alloc #[.int .i64 0, .int .i64 0] 29
      go_wp2_with fail
      refine (HCB.out _ _ H7).mono ?_
      rintro e w8 ⟨A', c', rfl, H8⟩
      have hx : Rd w8 A' (zs.map B) := H8.rd
      have hy : Rd w8 (subA A2 c2 0) (zs.map B) := by
        have h := subA_rd (hr2.old H8) (n := post.length) (by simp) HA2.out.le 0 m (by omega)
        rw [List.drop_zero, ← List.map_take, HBJ.out] at h
        exact h
      have hsm := same_any A' (subA A2 c2 0) c' c2 zs zs w8 hx hy
      rw [show (zs == zs) = true by simp, HZL.out] at hsm
      have HSM := Lib.hid hsm
      clear hsm hx hy
      rw [HZL.out]
      go_wp2_with (refine wpList_slice_to (by rfl) (.tmp 143) (.tmp 144) 22 rfl 5 iU Try.underlying22 hiU A2 post.length c2 m rfl rfl hmc ?_)
      refine HSM.out.mono ?_
      rintro e _ ⟨rfl, rfl⟩
      go_wp2
      go_ret
      exact ⟨rfl, H8.tail.tail.tail.tail.tail⟩
end Go.Proofs.Ytflcmhmbmippfaa

/- The row of CodeBack: for every input it answers true, and the input reads as it did. -/
namespace Go.Proofs.Ytflcmhmbmippfaa
open Go.ChangeShapes Go.WideShapes Go.ChangeMaps Go.RowKit Go.Rt

theorem codeBack_own : ownKnob Try.prog.godebug = none := by kernel_rfl
theorem codeBack_laid : laidOutB Try.prog = true := by kernel_rfl

set_option maxRecDepth 100000 in
theorem codeBack_lifted (os : Os) (started : os.Started) (H : Type) (enc : TypeId × Value → H) :
    ReturnsInHanded {} Try.checked os 6 .any (Rows.codeBackSpec.pre6 enc Try.prog Try.f6 Rows.codeBackRow.domain false) (Rows.codeBackSpec.post enc Try.prog Try.f6 false true false false) := by
  refine returnsInHanded_of_change (C := Try.checked) codeBack_own started (by kernel_rfl) Try.func6
    (ChangeSpec.witness6 (enc := enc) (C := Try.checked) false ⟨#[], #[.agg #[.int .i64 0, .int .i64 0, .int .i64 0, .int .i64 0, .int .i64 0, .string ⟨#[]⟩], .slice none 0 0, .slice none 0 0, .int .i64 0], []⟩ 8 (by kernel_rfl) (by kernel_rfl) (by kernel_rfl) (by kernel_rfl)) ?_
  intro W base args ds gs before hval0 hW _ _
  have hval : ∀ (j : Nat) t v, Try.f6.params[j]? = some t → args[j]? = some v → Value.okWide Try.prog W .any base t v := hval0
  have hW' := hW
  obtain ⟨p, q, hA0, hV, rfl, _, _⟩ := hW
  have hA : DataW.TrodAll enc Try.prog W 0 (fun _ => true) true Try.f6.params.toList args.toList ds p := hA0
  rw [Try.params6] at hA hval
  obtain ⟨rfl, rfl⟩ := trodVars_none hV
  obtain ⟨v0, v1, v2, v3, d0, d1, d2, d3, p0, p1, p2, p3, rfl, rfl, rfl, h0, h1, h2, h3⟩ := trodAll_four hA
  obtain ⟨f0, hf0⟩ := h0
  obtain ⟨x0, z0, hv0⟩ := ins_of_trod hf0
  replace hv0 := agg_of_cells hv0 (by simp [Ins.cs])
  obtain ⟨a1, l1, c1, rfl⟩ := okWide_slice Try.underlying22 (hval 1 22 v1 rfl rfl)
  obtain ⟨f1, hf1⟩ := h1
  obtain ⟨A1, k1, x1, hv1, hc1, hr1⟩ := open_bsl hf1
  obtain ⟨a2, l2, c2, rfl⟩ := okWide_slice Try.underlying22 (hval 2 22 v2 rfl rfl)
  obtain ⟨f2, hf2⟩ := h2
  obtain ⟨A2, k2, x2, hv2, hc2, hr2⟩ := open_bsl hf2
  obtain ⟨x3, rfl, rfl, rfl, wf3⟩ := open_int Try.underlying3 (hval 3 3 v3 rfl rfl) h3
  have w3 := wf_i64 wf3
  rw [hv0, hv1, hv2] at hW' ⊢
  refine (lawCodeBack_any x0 z0 A1 k1 x1 hr1 A2 k2 x2 hc2 hr2 x3).mono fun e W' ⟨he, hw⟩ => ?_
  subst he
  exact ⟨_, rfl, post_law (tB := 4) hW' rfl rfl (by kernel_rfl) Try.underlying4 codeBack_laid (by rw [Try.params6]; decide +kernel) hw.bel⟩

theorem codeBack_holds : Rows.CodeBackSaid :=
  OpenClaim.holds_of_wide 6 Try.f6 rfl rfl rfl rfl rfl rfl rfl ⟨rfl, rfl, rfl, rfl, rfl⟩ rfl rfl rfl rfl rfl (by kernel_rfl) Try.func6 (by kernel_rfl)
    (of_decide_eq_true (by kernel_rfl)) (by unfold Func.isWrapper; rw [if_neg (of_decide_eq_false (by kernel_rfl))]; exact ⟨rfl, rfl⟩)
    (fun os started H enc _ => codeBack_lifted os started H enc)
#print axioms codeBack_holds
end Go.Proofs.Ytflcmhmbmippfaa
