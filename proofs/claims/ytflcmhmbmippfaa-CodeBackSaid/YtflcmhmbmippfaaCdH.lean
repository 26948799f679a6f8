/- The document's own: which instruction stands in bytes. -/
import Derived.Test.YtflcmhmbmippfaaCdG
import Derived.Test.YtflcmhmbmippfaaWdX
namespace Go.Proofs.Ytflcmhmbmippfaa
open Go.RowKit Go.Rt

def stepIf (bs : List UInt8) (op : Int) (c : UInt8) (h : Bool) (st : Rst) : Rst := if h then stepL bs op c st else st
theorem readL_ifs (bs : List UInt8) (op : Int) (st : Rst) : readL bs op (hasL op) st =
    stepIf bs op 115 (hasS op) (stepIf bs op 110 (hasN op) (stepIf bs op 99 (hasC op) (stepIf bs op 98 (hasB op) (stepIf bs op 97 (hasA op) st)))) := by
  by_cases h : 1 ≤ op ∧ op ≤ 15
  · rcases op_cases op h with rfl | rfl | rfl | rfl | rfl | rfl | rfl | rfl | rfl | rfl | rfl | rfl | rfl | rfl | rfl
    all_goals simp [readL, hasL, hasA, hasB, hasC, hasN, hasS, stepIf]
  · simp [hasA, hasB, hasC, hasN, hasS, hasL_out op (by omega), readL, stepIf]
theorem stepIf_fine (bs : List UInt8) (op : Int) (c : UInt8) (h : Bool) (st : Rst) (hf : st.Fine bs) : (stepIf bs op c h st).Fine bs := by
  cases h with
  | false => exact hf
  | true => exact stepL_fine bs op c st hf
theorem stepIf_op (bs : List UInt8) (op : Int) (c : UInt8) (h : Bool) (st : Rst) : (stepIf bs op c h st).i.op = st.i.op := by
  cases h with
  | false => rfl
  | true => exact stepL_op bs op c st
/-- What the document's reader tells of its way. -/
def outR (st : Rst) : Ins × Int × Int × Int := if st.fe ≠ 0 then (Ins.zero, 0, st.fe, st.fa) else (st.i, (st.pl : Int), 0, 0)

set_option maxRecDepth 100000 in
theorem kRead_out {W w : World} {l : List SL} (A : Option Addr) (n c : Nat) (at_ : Int) (h : at_ < 0 ∨ (n : Int) < at_) (H : Sat W w l) :
    Calls Try.prog 14 #[.slice A n c, .int .i64 at_] w fun e w' => e = .returned (.tuple #[.agg Ins.zero.cs.toArray, .int .i64 0, .agg #[.int .i64 5, .int .i64 0]]) ∧ Sat W w' l := by
  by_cases h0 : at_ < 0
  · go_enter Try.func14, Try.ntmps14
    go_wp2
    refine bodyPost_ret (v := .tuple #[.agg Ins.zero.cs.toArray, .int .i64 0, .agg #[.int .i64 5, .int .i64 0]]) ?_ rfl ⟨rfl, ?_⟩
    · simp [results, Try.results14, go_sem, Ins.zero, Ins.cs]
    · exact (H.alloc' _).alloc' _
  · have h1 : (n : Int) < at_ := by omega
    clear h
    go_enter Try.func14, Try.ntmps14
    go_wp2
    refine bodyPost_ret (v := .tuple #[.agg Ins.zero.cs.toArray, .int .i64 0, .agg #[.int .i64 5, .int .i64 0]]) ?_ rfl ⟨rfl, ?_⟩
    · simp [results, Try.results14, go_sem, Ins.zero, Ins.cs]
    · exact (H.alloc' _).alloc' _

set_option maxRecDepth 100000 in
set_option maxHeartbeats 16000000 in
theorem kRead_in {W w : World} {l : List SL} (A : Option Addr) (c : Nat) (bs : List UInt8) (hA : Bsl A bs.length c) (hr : RdL W l A (bs.map B)) (hb : bs.length ≤ 1000000000) (k0 : Nat) (hk : k0 ≤ bs.length) (H : Sat W w l) :
    Calls Try.prog 14 #[.slice A bs.length c, .int .i64 k0] w fun e w' => ReadPost W l (insAt bs k0) e w' := by
  obtain ⟨T, HT⟩ : ∃ T, Hid (insAt bs k0 = T) := ⟨_, rfl⟩
  have hT : outR (readI bs k0) = T := by
    rw [← HT.out, insAt, if_neg (by omega), Int.toNat_natCast]; rfl
  rw [HT.out]
  clear HT
  have H1 : Sat W (((w.alloc (.cells Ins.zero.cs.toArray 26)).alloc (.cells #[.int .i64 0, .int .i64 0] 29)).alloc (.cells #[.slice A bs.length c, .int .i64 k0, .int .i64 0, .int .i64 0] 72)) (yrd (w.heap.size + 2) A bs.length c k0 0 0 :: pt (w.heap.size + 1) #[.int .i64 0, .int .i64 0] 29 :: pt w.heap.size Ins.zero.cs.toArray 26 :: l) := by
    have h := ((H.alloc Ins.zero.cs.toArray 26).alloc #[.int .i64 0, .int .i64 0] 29).alloc #[.slice A bs.length c, .int .i64 k0, .int .i64 0, .int .i64 0] 72
    simp only [World.size_alloc] at h
    exact h
  have hI := yInt_any (w.heap.size + 2) A c bs k0 0 0 hk hb (fun _ => rfl) (RdL.tail (RdL.tail hr)) 1 15 H1
  have hfin := iv_int bs k0 0 0 1 15 5 (by decide) hk (fun _ => rfl)
  unfold readI at hT
  generalize toldInt bs k0 0 0 1 15 5 = t0 at hI hfin hT
  obtain ⟨op, pl0, fe0, fa0⟩ := t0
  dsimp only at hI hfin hT
  rw [readL_ifs] at hT
  have HI := Lib.hid hI
  clear hI
  have hHas := kHas_any op
  obtain ⟨st0, h0⟩ : ∃ st, (⟨⟨op, 0, 0, 0, 0, []⟩, pl0, fe0, fa0⟩ : Rst) = st := ⟨_, rfl⟩
  have o0 : st0.i.op = op := by rw [← h0]
  have F0 : st0.Fine bs := by rw [← h0]; exact hfin
  rw [h0] at hT
  generalize hasA op = bA at *
  generalize hasB op = bB at *
  generalize hasC op = bC at *
  generalize hasN op = bN at *
  generalize hasS op = bS at *
  obtain ⟨st1, h1⟩ : ∃ st, stepIf bs op 97 bA st0 = st := ⟨_, rfl⟩
  have o1 : st1.i.op = op := by rw [← h1, stepIf_op, o0]
  have F1 : st1.Fine bs := by rw [← h1]; exact stepIf_fine _ _ _ _ _ F0
  rw [h1] at hT
  obtain ⟨st2, h2⟩ : ∃ st, stepIf bs op 98 bB st1 = st := ⟨_, rfl⟩
  have o2 : st2.i.op = op := by rw [← h2, stepIf_op, o1]
  have F2 : st2.Fine bs := by rw [← h2]; exact stepIf_fine _ _ _ _ _ F1
  rw [h2] at hT
  obtain ⟨st3, h3⟩ : ∃ st, stepIf bs op 99 bC st2 = st := ⟨_, rfl⟩
  have o3 : st3.i.op = op := by rw [← h3, stepIf_op, o2]
  have F3 : st3.Fine bs := by rw [← h3]; exact stepIf_fine _ _ _ _ _ F2
  rw [h3] at hT
  obtain ⟨st4, h4⟩ : ∃ st, stepIf bs op 110 bN st3 = st := ⟨_, rfl⟩
  have o4 : st4.i.op = op := by rw [← h4, stepIf_op, o3]
  have F4 : st4.Fine bs := by rw [← h4]; exact stepIf_fine _ _ _ _ _ F3
  rw [h4] at hT
  obtain ⟨st5, h5⟩ : ∃ st, stepIf bs op 115 bS st4 = st := ⟨_, rfl⟩
  have o5 : st5.i.op = op := by rw [← h5, stepIf_op, o4]
  have F5 : st5.Fine bs := by rw [← h5]; exact stepIf_fine _ _ _ _ _ F4
  rw [h5] at hT
  have HT := Lib.hid hT
  have HH := Lib.hid hHas
  have HA := Lib.hid hA
  clear hT hHas hA hfin
  have S0 := Lib.hid h0
  have O0 := Lib.hid o0
  have G0 := Lib.hid F0
  clear h0 o0 F0
  have S1 := Lib.hid h1
  have O1 := Lib.hid o1
  have G1 := Lib.hid F1
  clear h1 o1 F1
  have S2 := Lib.hid h2
  have O2 := Lib.hid o2
  have G2 := Lib.hid F2
  clear h2 o2 F2
  have S3 := Lib.hid h3
  have O3 := Lib.hid o3
  have G3 := Lib.hid F3
  clear h3 o3 F3
  have S4 := Lib.hid h4
  have O4 := Lib.hid o4
  have G4 := Lib.hid F4
  clear h4 o4 F4
  have S5 := Lib.hid h5
  have O5 := Lib.hid o5
  have G5 := Lib.hid F5
  clear h5 o5 F5
  have hk0 : ¬ (k0 : Int) < 0 := by omega
  have hk1 : ¬ (bs.length : Int) < (k0 : Int) := by omega
  go_enter Try.func14, Try.ntmps14
  go_wp2_with fail
  refine HI.out.mono ?_
  rintro e w1 ⟨rfl, H2⟩
  clear HI H1
  generalize w.heap.size + 2 = p at H2 ⊢
  generalize w.heap.size + 1 = q6 at H2 ⊢
  generalize w.heap.size = q4 at H2 ⊢
  have H3 : Sat W (w1.alloc (.cells #[.int .i64 op, .int .i64 0, .int .i64 0, .int .i64 0, .int .i64 0, .string ⟨#[]⟩] 26)) (pt w1.heap.size (Ins.cs ⟨op, 0, 0, 0, 0, []⟩).toArray 26 :: yrd p A bs.length c pl0 fe0 fa0 :: pt q6 #[.int .i64 0, .int .i64 0] 29 :: pt q4 Ins.zero.cs.toArray 26 :: l) := H2.alloc _ _
  have i0 : (w1.alloc (.cells #[.int .i64 op, .int .i64 0, .int .i64 0, .int .i64 0, .int .i64 0, .string ⟨#[]⟩] 26)).cell? ⟨w1.heap.size, 0, none⟩ = some (.int .i64 op) := H3.cell 0
  go_wp2_with fail
  refine (HH.out _).mono ?_
  rintro e _ ⟨rfl, rfl⟩
  clear HH H2 i0
  generalize w1.heap.size = q8 at H3 ⊢
  generalize w1.alloc (.cells #[.int .i64 op, .int .i64 0, .int .i64 0, .int .i64 0, .int .i64 0, .string ⟨#[]⟩] 26) = w2 at H3 ⊢
  have K0 : Sat W w2 (yrd p A bs.length c st0.pl st0.fe st0.fa :: pt q8 st0.i.cs.toArray 26 :: pt q6 #[.int .i64 0, .int .i64 0] 29 :: pt q4 Ins.zero.cs.toArray 26 :: l) := by rw [← S0.out]; exact H3.swap
  clear H3 S0
  go_upto_if 40 with fail
  go_cut [] (fun wx => Sat W wx (yrd p A bs.length c st1.pl st1.fe st1.fa :: pt q8 st1.i.cs.toArray 26 :: pt q6 #[.int .i64 0, .int .i64 0] 29 :: pt q4 Ins.zero.cs.toArray 26 :: l))
  case first =>
    cases bA with
    | false =>
      obtain rfl : st0 = st1 := S1.out
      go_wp2_with fail
      go_meet
      exact K0
    | true =>
      obtain ⟨⟨so, sa, sb, sc, sn, ss⟩, pl, fe, fa⟩ := st0
      dsimp only at K0
      have ho : so = op := O0.out
      obtain rfl : (⟨⟨so, (toldInt bs pl fe fa 0 7 5).n, sb, sc, sn, ss⟩, (toldInt bs pl fe fa 0 7 5).pl, (toldInt bs pl fe fa 0 7 5).fe, (toldInt bs pl fe fa 0 7 5).fa⟩ : Rst) = st1 := by
        rw [← S1.out]; simp [stepIf, stepL, Ins.set, lowOf, highOf]
      clear S1 O1 G1
      clear ho
      go_wp2_with fail
      refine (yInt_any p A c bs pl fe fa G0.out.1 hb G0.out.2 (RdL.tail (RdL.tail (RdL.tail hr))) 0 7 K0).mono ?_
      rintro e w9 ⟨rfl, H9⟩
      have iv : w9.cell? ⟨q8, 1, none⟩ = some (.int .i64 sa) := H9.swap.cell 1
      have fv := H9.swap.frz 1
      go_wp2_with fail
      go_meet
      exact (H9.swap.setCell 1 (.int .i64 (toldInt bs pl fe fa 0 7 5).n)).swap
  case rest =>
  have K1 := hcut
  clear hcut S1 O0 G0 K0
  go_upto_if 44 with fail
  go_cut [] (fun wx => Sat W wx (yrd p A bs.length c st2.pl st2.fe st2.fa :: pt q8 st2.i.cs.toArray 26 :: pt q6 #[.int .i64 0, .int .i64 0] 29 :: pt q4 Ins.zero.cs.toArray 26 :: l))
  case first =>
    cases bB with
    | false =>
      obtain rfl : st1 = st2 := S2.out
      go_wp2_with fail
      go_meet
      exact K1
    | true =>
      obtain ⟨⟨so, sa, sb, sc, sn, ss⟩, pl, fe, fa⟩ := st1
      dsimp only at K1
      have ho : so = op := O1.out
      obtain rfl : (⟨⟨so, sa, (toldInt bs pl fe fa 0 7 5).n, sc, sn, ss⟩, (toldInt bs pl fe fa 0 7 5).pl, (toldInt bs pl fe fa 0 7 5).fe, (toldInt bs pl fe fa 0 7 5).fa⟩ : Rst) = st2 := by
        rw [← S2.out]; simp [stepIf, stepL, Ins.set, lowOf, highOf]
      clear S2 O2 G2
      clear ho
      go_wp2_with fail
      refine (yInt_any p A c bs pl fe fa G1.out.1 hb G1.out.2 (RdL.tail (RdL.tail (RdL.tail hr))) 0 7 K1).mono ?_
      rintro e w9 ⟨rfl, H9⟩
      have iv : w9.cell? ⟨q8, 2, none⟩ = some (.int .i64 sb) := H9.swap.cell 2
      have fv := H9.swap.frz 2
      go_wp2_with fail
      go_meet
      exact (H9.swap.setCell 2 (.int .i64 (toldInt bs pl fe fa 0 7 5).n)).swap
  case rest =>
  have K2 := hcut
  clear hcut S2 O1 G1 K1
  go_upto_if 48 with fail
  go_cut [] (fun wx => Sat W wx (yrd p A bs.length c st3.pl st3.fe st3.fa :: pt q8 st3.i.cs.toArray 26 :: pt q6 #[.int .i64 0, .int .i64 0] 29 :: pt q4 Ins.zero.cs.toArray 26 :: l))
  case first =>
    cases bC with
    | false =>
      obtain rfl : st2 = st3 := S3.out
      go_wp2_with fail
      go_meet
      exact K2
    | true =>
      obtain ⟨⟨so, sa, sb, sc, sn, ss⟩, pl, fe, fa⟩ := st2
      dsimp only at K2
      have ho : so = op := O2.out
      obtain rfl : (⟨⟨so, sa, sb, (toldInt bs pl fe fa 0 7 5).n, sn, ss⟩, (toldInt bs pl fe fa 0 7 5).pl, (toldInt bs pl fe fa 0 7 5).fe, (toldInt bs pl fe fa 0 7 5).fa⟩ : Rst) = st3 := by
        rw [← S3.out]; simp [stepIf, stepL, Ins.set, lowOf, highOf]
      clear S3 O3 G3
      clear ho
      go_wp2_with fail
      refine (yInt_any p A c bs pl fe fa G2.out.1 hb G2.out.2 (RdL.tail (RdL.tail (RdL.tail hr))) 0 7 K2).mono ?_
      rintro e w9 ⟨rfl, H9⟩
      have iv : w9.cell? ⟨q8, 3, none⟩ = some (.int .i64 sc) := H9.swap.cell 3
      have fv := H9.swap.frz 3
      go_wp2_with fail
      go_meet
      exact (H9.swap.setCell 3 (.int .i64 (toldInt bs pl fe fa 0 7 5).n)).swap
  case rest =>
  have K3 := hcut
  clear hcut S3 O2 G2 K2
  go_upto_if 52 with fail
  go_cut [] (fun wx => Sat W wx (yrd p A bs.length c st4.pl st4.fe st4.fa :: pt q8 st4.i.cs.toArray 26 :: pt q6 #[.int .i64 0, .int .i64 0] 29 :: pt q4 Ins.zero.cs.toArray 26 :: l))
  case first =>
    cases bN with
    | false =>
      obtain rfl : st3 = st4 := S4.out
      go_wp2_with fail
      go_meet
      exact K3
    | true =>
      obtain ⟨⟨so, sa, sb, sc, sn, ss⟩, pl, fe, fa⟩ := st3
      dsimp only at K3
      have ho : so = op := O3.out
      obtain rfl : (⟨⟨so, sa, sb, sc, (toldInt bs pl fe fa 1 (mostN op) 5).n, ss⟩, (toldInt bs pl fe fa 1 (mostN op) 5).pl, (toldInt bs pl fe fa 1 (mostN op) 5).fe, (toldInt bs pl fe fa 1 (mostN op) 5).fa⟩ : Rst) = st4 := by
        rw [← S4.out]; simp [stepIf, stepL, Ins.set, lowOf, highOf]
      clear S4 O4 G4
      have i0 : wc.cell? ⟨q8, 0, none⟩ = some (.int .i64 so) := K3.swap.cell 0
      rw [ho] at i0
      go_wp2_with fail
      refine (kMost_any op _).mono ?_
      rintro e _ ⟨rfl, rfl⟩
      clear ho
      go_wp2_with fail
      refine (yInt_any p A c bs pl fe fa G3.out.1 hb G3.out.2 (RdL.tail (RdL.tail (RdL.tail hr))) 1 (mostN op) K3).mono ?_
      rintro e w9 ⟨rfl, H9⟩
      have iv : w9.cell? ⟨q8, 4, none⟩ = some (.int .i64 sn) := H9.swap.cell 4
      have fv := H9.swap.frz 4
      go_wp2_with fail
      go_meet
      exact (H9.swap.setCell 4 (.int .i64 (toldInt bs pl fe fa 1 (mostN op) 5).n)).swap
  case rest =>
  have K4 := hcut
  clear hcut S4 O3 G3 K3
  go_upto_if 59 with fail
  go_cut [] (fun wx => Sat W wx (yrd p A bs.length c st5.pl st5.fe st5.fa :: pt q8 st5.i.cs.toArray 26 :: pt q6 #[.int .i64 0, .int .i64 0] 29 :: pt q4 Ins.zero.cs.toArray 26 :: l))
  case first =>
    cases bS with
    | false =>
      obtain rfl : st4 = st5 := S5.out
      go_wp2_with fail
      go_meet
      exact K4
    | true =>
      obtain ⟨⟨so, sa, sb, sc, sn, ss⟩, pl, fe, fa⟩ := st4
      dsimp only at K4
      have ho : so = op := O4.out
      obtain rfl : (⟨⟨so, sa, sb, sc, sn, (toldTxt bs pl fe fa 64).s⟩, (toldTxt bs pl fe fa 64).pl, (toldTxt bs pl fe fa 64).fe, (toldTxt bs pl fe fa 64).fa⟩ : Rst) = st5 := by
        rw [← S5.out]; simp [stepIf, stepL]
      clear S5 O5 G5
      clear ho
      go_wp2_with fail
      refine (yText_any p A c bs pl fe fa G4.out.1 hb G4.out.2 HA.out (RdL.tail (RdL.tail (RdL.tail hr))) 64 K4).mono ?_
      rintro e w9 ⟨rfl, H9⟩
      have iv : w9.cell? ⟨q8, 5, none⟩ = some (.string ⟨ss.toArray⟩) := H9.swap.cell 5
      have fv := H9.swap.frz 5
      go_wp2_with fail
      go_meet
      exact (H9.swap.setCell 5 (.string ⟨(toldTxt bs pl fe fa 64).s.toArray⟩)).swap
  case rest =>
  have K5 := hcut
  clear hcut S5 O4 G4 K4
  clear O5
  obtain ⟨⟨so, sa, sb, sc, sn, ss⟩, pl, fe, fa⟩ := st5
  dsimp only at K5
  have r1 : wc.cell? ⟨p, 1, none⟩ = some (.int .i64 pl) := K5.cell 1
  have r2 : wc.cell? ⟨p, 2, none⟩ = some (.int .i64 fe) := K5.cell 2
  have r3 : wc.cell? ⟨p, 3, none⟩ = some (.int .i64 fa) := K5.cell 3
  have m0 : wc.cell? ⟨q8, 0, none⟩ = some (.int .i64 so) := (K5.pull 1).cell 0
  have m1 : wc.cell? ⟨q8, 1, none⟩ = some (.int .i64 sa) := (K5.pull 1).cell 1
  have m2 : wc.cell? ⟨q8, 2, none⟩ = some (.int .i64 sb) := (K5.pull 1).cell 2
  have m3 : wc.cell? ⟨q8, 3, none⟩ = some (.int .i64 sc) := (K5.pull 1).cell 3
  have m4 : wc.cell? ⟨q8, 4, none⟩ = some (.int .i64 sn) := (K5.pull 1).cell 4
  have m5 : wc.cell? ⟨q8, 5, none⟩ = some (.string ⟨ss.toArray⟩) := (K5.pull 1).cell 5
  have q40 : wc.cell? ⟨q4, 0, none⟩ = some (.int .i64 0) := (K5.pull 3).cell 0
  have gq40 := (K5.pull 3).frz 0
  have q41 : wc.cell? ⟨q4, 1, none⟩ = some (.int .i64 0) := (K5.pull 3).cell 1
  have gq41 := (K5.pull 3).frz 1
  have q42 : wc.cell? ⟨q4, 2, none⟩ = some (.int .i64 0) := (K5.pull 3).cell 2
  have gq42 := (K5.pull 3).frz 2
  have q43 : wc.cell? ⟨q4, 3, none⟩ = some (.int .i64 0) := (K5.pull 3).cell 3
  have gq43 := (K5.pull 3).frz 3
  have q44 : wc.cell? ⟨q4, 4, none⟩ = some (.int .i64 0) := (K5.pull 3).cell 4
  have gq44 := (K5.pull 3).frz 4
  have q45 : wc.cell? ⟨q4, 5, none⟩ = some (.string ⟨#[]⟩) := (K5.pull 3).cell 5
  have gq45 := (K5.pull 3).frz 5
  have q60 : wc.cell? ⟨q6, 0, none⟩ = some (.int .i64 0) := (K5.pull 2).cell 0
  have gq60 := (K5.pull 2).frz 0
  have q61 : wc.cell? ⟨q6, 1, none⟩ = some (.int .i64 0) := (K5.pull 2).cell 1
  have gq61 := (K5.pull 2).frz 1
  have hne : q6 ≠ q4 := ((K5.pull 3).pull 3).ne
  have hne' : q4 ≠ q6 := fun h => hne h.symm
  have hn4 : q4 ≠ p := (K5.pull 3).ne
  have hn4' : p ≠ q4 := fun h => hn4 h.symm
  have hn6 : q6 ≠ p := (K5.pull 2).ne
  have hn6' : p ≠ q6 := fun h => hn6 h.symm
  have hn8 : q4 ≠ q8 := ((K5.pull 1).pull 3).ne
  have hn8' : q8 ≠ q4 := fun h => hn8 h.symm
  have hm8 : q6 ≠ q8 := ((K5.pull 1).pull 2).ne
  have hm8' : q8 ≠ q6 := fun h => hm8 h.symm
  have hT3 : outR ⟨⟨so, sa, sb, sc, sn, ss⟩, pl, fe, fa⟩ = T := HT.out
  clear HT
  by_cases h0 : fe = 0
  · have e0 : (fe != 0) = false := by simpa using h0
    obtain rfl : (⟨so, sa, sb, sc, sn, ss⟩, (pl : Int), 0, 0) = T := by rw [← hT3, outR, if_neg (by simpa using h0)]
    clear h0 hT3
    go_wp2_with fail
    go_region_law (fail)
    all_goals
      have HZ := ((((((((((K5.pull 3).setCell 0 (.int .i64 so)).setCell 1 (.int .i64 sa)).setCell 2 (.int .i64 sb)).setCell 3 (.int .i64 sc)).setCell 4 (.int .i64 sn)).setCell 5 (.string ⟨ss.toArray⟩)).pull 3).setCell 0 (.int .i64 0)).setCell 1 (.int .i64 0)).drew
      generalize ((((((((wc.setCell ⟨q4, 0, none⟩ (.int .i64 so)).setCell ⟨q4, 1, none⟩ (.int .i64 sa)).setCell ⟨q4, 2, none⟩ (.int .i64 sb)).setCell ⟨q4, 3, none⟩ (.int .i64 sc)).setCell ⟨q4, 4, none⟩ (.int .i64 sn)).setCell ⟨q4, 5, none⟩ (.string ⟨ss.toArray⟩)).setCell ⟨q6, 0, none⟩ (.int .i64 0)).setCell ⟨q6, 1, none⟩ (.int .i64 0)).drew = wz at HZ ⊢
      have z0 : wz.cell? ⟨q4, 0, none⟩ = some (.int .i64 so) := HZ.swap.cell 0
      have z1 : wz.cell? ⟨q4, 1, none⟩ = some (.int .i64 sa) := HZ.swap.cell 1
      have z2 : wz.cell? ⟨q4, 2, none⟩ = some (.int .i64 sb) := HZ.swap.cell 2
      have z3 : wz.cell? ⟨q4, 3, none⟩ = some (.int .i64 sc) := HZ.swap.cell 3
      have z4 : wz.cell? ⟨q4, 4, none⟩ = some (.int .i64 sn) := HZ.swap.cell 4
      have z5 : wz.cell? ⟨q4, 5, none⟩ = some (.string ⟨ss.toArray⟩) := HZ.swap.cell 5
      have y0 : wz.cell? ⟨q6, 0, none⟩ = some (.int .i64 0) := HZ.cell 0
      have y1 : wz.cell? ⟨q6, 1, none⟩ = some (.int .i64 0) := HZ.cell 1
      go_wp2
      refine bodyPost_ret (v := .tuple #[.agg #[.int .i64 so, .int .i64 sa, .int .i64 sb, .int .i64 sc, .int .i64 sn, .string ⟨ss.toArray⟩], .int .i64 (pl : Int), .agg #[.int .i64 0, .int .i64 0]]) ?_ rfl ⟨rfl, HZ.tail.tail.tail.tail⟩
      simp [results, Try.results14, go_sem, z0, z1, z2, z3, z4, z5, y0, y1]
  · have e0 : (fe != 0) = true := by simpa using h0
    obtain rfl : (Ins.zero, 0, fe, fa) = T := by rw [← hT3, outR, if_pos h0]
    clear h0 hT3
    go_wp2_with fail
    go_region_law (fail)
    all_goals
      have HZ := ((((((((((K5.pull 3).setCell 0 (.int .i64 0)).setCell 1 (.int .i64 0)).setCell 2 (.int .i64 0)).setCell 3 (.int .i64 0)).setCell 4 (.int .i64 0)).setCell 5 (.string ⟨#[]⟩)).pull 3).setCell 0 (.int .i64 fe)).setCell 1 (.int .i64 fa)).drew
      generalize ((((((((wc.setCell ⟨q4, 0, none⟩ (.int .i64 0)).setCell ⟨q4, 1, none⟩ (.int .i64 0)).setCell ⟨q4, 2, none⟩ (.int .i64 0)).setCell ⟨q4, 3, none⟩ (.int .i64 0)).setCell ⟨q4, 4, none⟩ (.int .i64 0)).setCell ⟨q4, 5, none⟩ (.string ⟨#[]⟩)).setCell ⟨q6, 0, none⟩ (.int .i64 fe)).setCell ⟨q6, 1, none⟩ (.int .i64 fa)).drew = wz at HZ ⊢
      have z0 : wz.cell? ⟨q4, 0, none⟩ = some (.int .i64 0) := HZ.swap.cell 0
      have z1 : wz.cell? ⟨q4, 1, none⟩ = some (.int .i64 0) := HZ.swap.cell 1
      have z2 : wz.cell? ⟨q4, 2, none⟩ = some (.int .i64 0) := HZ.swap.cell 2
      have z3 : wz.cell? ⟨q4, 3, none⟩ = some (.int .i64 0) := HZ.swap.cell 3
      have z4 : wz.cell? ⟨q4, 4, none⟩ = some (.int .i64 0) := HZ.swap.cell 4
      have z5 : wz.cell? ⟨q4, 5, none⟩ = some (.string ⟨#[]⟩) := HZ.swap.cell 5
      have y0 : wz.cell? ⟨q6, 0, none⟩ = some (.int .i64 fe) := HZ.cell 0
      have y1 : wz.cell? ⟨q6, 1, none⟩ = some (.int .i64 fa) := HZ.cell 1
      go_wp2
      refine bodyPost_ret (v := .tuple #[.agg #[.int .i64 0, .int .i64 0, .int .i64 0, .int .i64 0, .int .i64 0, .string ⟨#[]⟩], .int .i64 0, .agg #[.int .i64 fe, .int .i64 fa]]) ?_ rfl ⟨rfl, HZ.tail.tail.tail.tail⟩
      simp [results, Try.results14, go_sem, z0, z1, z2, z3, z4, z5, y0, y1]
end Go.Proofs.Ytflcmhmbmippfaa
