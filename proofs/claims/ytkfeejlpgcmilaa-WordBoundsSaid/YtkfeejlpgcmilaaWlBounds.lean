/- WordBounds answers true at all numbers, bounds, texts and asks. -/
import Derived.Test.YtkfeejlpgcmilaaWlPassed
import Derived.Test.YtkfeejlpgcmilaaWeW
import Derived.Test.YtkfeejlpgcmilaaWdU
namespace Go.Proofs.Ytkfeejlpgcmilaa
open Go.RowKit Go.Rt

theorem rEnd_stuck {W w : World} {l : List SL} (p : Nat) (bs : List UInt8) (pl : Nat) (fe fa : Int) (hfe : fe ≠ 0) (hp : pl ≤ bs.length) (hb : bs.length ≤ 1000000000) (H : Sat W w (rdr p bs pl fe fa :: l)) :
    Calls Try.prog 48 #[.pointer (some ⟨p, 0, none⟩)] w fun e w' => e = .returned (.agg #[.int .i64 fe, .int .i64 fa]) ∧ Sat W w' (rdr p bs pl fe fa :: l) := by
  have h := rEnd_any p bs pl fe fa hp hb H
  rw [show endF bs pl fe fa = (fe, fa) by simp [endF, hfe]] at h
  exact h

set_option maxRecDepth 100000 in
set_option maxHeartbeats 8000000 in
theorem lawBounds_any {W : World} (n low high : Int) (hn : -9223372036854775808 ≤ n ∧ n ≤ 9223372036854775807) (L : List UInt8) (hL0 : L.length ≤ maxLen) (A : Option Addr) (c : Nat) (qs : List Qn) (hr : Rd W A (qnC qs)) :
    Calls Try.prog 11 #[.int .i64 n, .int .i64 low, .int .i64 high, .string ⟨L.toArray⟩, .slice A qs.length c] W fun e w' => e = .returned (.bool true) ∧ Sat W w' [] := by
  unfold maxLen at hL0
  have hsz : (ByteArray.mk L.toArray).size = L.length := by simp [ByteArray.size]
  by_cases hbig : 300 < L.length ∨ 30 < qs.length
  · go_enter Try.func11, Try.ntmps11
    go_wp2_with fail
    refine (awake_any (Sat.start W)).mono ?_
    rintro e w1 ⟨rfl, H1⟩
    by_cases h1 : 300 < L.length
    · go_wp2
      go_ret
      exact ⟨rfl, H1⟩
    · have h2 : 30 < qs.length := by omega
      clear hbig
      go_wp2
      go_ret
      exact ⟨rfl, H1⟩
  · have hL : L.length ≤ 300 := by omega
    have hq : qs.length ≤ 30 := by omega
    clear hbig
    have hok : ∀ x ∈ [Th.mk 1 0 ⟨L.toArray⟩ noID, Th.mk 0 n ⟨#[]⟩ noID], x.Ok := by
      intro x hx
      simp only [List.mem_cons, List.not_mem_nil, or_false] at hx
      rcases hx with rfl | rfl
      · exact ⟨le63, by show (ByteArray.mk L.toArray).size ≤ _; omega, rfl⟩
      · exact ⟨hn.2, Nat.zero_le _, rfl⟩
    have hput : putAll [Th.mk 1 0 ⟨L.toArray⟩ noID, Th.mk 0 n ⟨#[]⟩ noID] = wrInt n (sev L.length ++ L) := by simp [putAll, Th.put, hsz]
    have hbad : badAll [Th.mk 1 0 ⟨L.toArray⟩ noID, Th.mk 0 n ⟨#[]⟩ noID] = decide (n < 0) := by simp [badAll, Th.bad]
    have hwt : wts [Th.mk 1 0 ⟨L.toArray⟩ noID, Th.mk 0 n ⟨#[]⟩ noID] ≤ 800000000 := by simp [wts, Th.wt, hsz, ByteArray.size]; omega
    have HP := Lib.hid hput
    have HBd := Lib.hid hbad
    clear hput hbad
    go_enter Try.func11, Try.ntmps11
    go_wp2_with fail
    refine (awake_any (Sat.start W)).mono ?_
    rintro e w1 ⟨rfl, H1⟩
    go_wp2_with fail
    have H2 : Sat W (w1.alloc (.cells (thC [Th.mk 1 0 ⟨L.toArray⟩ noID, Th.mk 0 n ⟨#[]⟩ noID]).toArray 35)) _ := H1.alloc _ _
    refine (all_any (some ⟨w1.heap.size, 0, none⟩) 2 [Th.mk 1 0 ⟨L.toArray⟩ noID, Th.mk 0 n ⟨#[]⟩ noID] hok hwt (by simp) RdL.pt H2).mono ?_
    rintro e w3 h3
    unfold AllPost at h3
    rw [HP.out, HBd.out] at h3
    clear H2 hwt hok
    by_cases h0 : n < 0
    · rw [if_pos (by simpa using h0)] at h3
      obtain ⟨rfl, H3⟩ := h3
      have h0' : decide (n < 0) = true := by simpa using h0
      go_wp2
      go_ret
      exact ⟨rfl, H3.tail⟩
    · rw [if_neg (by simpa using h0)] at h3
      obtain ⟨m, rfl⟩ : ∃ m : Nat, n = m := ⟨n.toNat, by omega⟩
      have e0 : wrInt (m : Int) (sev L.length ++ L) = sev L.length ++ L ++ sev m := by rw [wrInt, if_neg h0]; simp
      rw [e0] at h3
      obtain ⟨A3, c3, rfl, H3⟩ := h3
      have hT := bounds_txt L m hL
      have hI := bounds_int L m (by omega) low high 5
      have hC := bounds_int L m (by omega) 0 high 3
      have hlen : (sev L.length ++ L ++ sev m).length ≤ 1000 := by
        have h1 := sev_len L.length
        have h2 := sev_len m
        simp only [List.length_append]
        omega
      have hpl : (sev L.length ++ L).length ≤ (sev L.length ++ L ++ sev m).length := by simp
      rw [if_neg (show ¬ (m : Int) < 0 by omega)] at hC
      clear e0
      generalize (sev L.length ++ L).length = pl at hT hI hC hpl
      generalize sev L.length ++ L ++ sev m = bs at hT hI hC hlen hpl H3 ⊢
      have HT := Lib.hid hT
      clear hT
      go_wp2_with fail
      refine (open_any A3 c3 bs RdL.row (by omega) H3).mono ?_
      rintro e w4 ⟨r, rfl, H4⟩
      go_wp2_with fail
      refine (open_any A3 c3 bs (RdL.tail RdL.row) (by omega) H4).mono ?_
      rintro e w5 ⟨s, rfl, H5⟩
      have h5 := rText_any r bs 0 0 0 300 (Nat.zero_le _) (by omega) (fun _ => rfl) H5.swap
      rw [HT.out] at h5
      have HX := Lib.hid h5
      clear h5
      go_wp2_with fail
      refine HX.out.mono ?_
      rintro e w6 ⟨rfl, H6⟩
      have h6 := rText_any s bs 0 0 0 300 (Nat.zero_le _) (by omega) (fun _ => rfl) H6.swap
      rw [HT.out] at h6
      have HY := Lib.hid h6
      clear h6 HX
      go_wp2_with fail
      refine HY.out.mono ?_
      rintro e w7 ⟨rfl, H7⟩
      clear HY HT
      go_wp2_with fail
      refine (rAt_any r bs pl 0 0 H7.swap).mono ?_
      rintro e _ ⟨rfl, rfl⟩
      by_cases h1 : low ≤ (m : Int)
      · by_cases h2 : (m : Int) ≤ high
        · have e1 : decide (low ≤ (m : Int)) = true := by simpa using h1
          have e2 : decide ((m : Int) ≤ high) = true := by simpa using h2
          have e3 : decide (high < (m : Int)) = false := by simpa using h2
          rw [if_neg (by omega), if_neg (by omega)] at hI
          rw [if_neg (by omega)] at hC
          have hi7 := rInt_any r bs pl 0 0 low high hpl (by omega) (fun _ => rfl) H7.swap
          rw [hI] at hi7
          have HI := Lib.hid hi7
          have HC := Lib.hid hC
          clear hi7 hI hC
          go_wp2_with fail
          refine HI.out.mono ?_
          rintro e w8 ⟨rfl, H8⟩
          have hc8 := rCount_any s bs pl 0 0 high hpl (by omega) (fun _ => rfl) H8.swap
          rw [HC.out] at hc8
          have HD := Lib.hid hc8
          clear hc8 HI HC
          go_wp2_with fail
          refine HD.out.mono ?_
          rintro e w9 ⟨rfl, H9⟩
          clear HD
          go_wp2_with fail
          refine (rFault_any r bs bs.length 0 0 H9.swap).mono ?_
          rintro e w10 ⟨rfl, H10⟩
          go_wp2_with fail
          refine (rFault_any s bs bs.length 0 0 H10.swap).mono ?_
          rintro e w11 ⟨rfl, H11⟩
          go_wp2_with fail
          refine (rLeft_any s bs bs.length 0 0 (by omega) (by omega) H11).mono ?_
          rintro e w12 ⟨rfl, H12⟩
          go_wp2_with fail
          refine (rFault_any r bs bs.length 0 0 H12.swap).mono ?_
          rintro e w13 ⟨rfl, H13⟩
          have hf0 := fault_err 0 0 w13
          go_wp2_with fail
          refine (rLeft_any r bs bs.length 0 0 (by omega) (by omega) H13).mono ?_
          rintro e w14 ⟨rfl, H14⟩
          go_wp2
          go_ret
          exact ⟨rfl, H14.tail.tail.tail.tail⟩
        · have e1 : decide (low ≤ (m : Int)) = true := by simpa using h1
          have e2 : decide ((m : Int) ≤ high) = false := by simpa using h2
          have e3 : decide (high < (m : Int)) = true := by simpa using h2
          rw [if_neg (by omega), if_pos (by omega)] at hI
          rw [if_pos (by omega)] at hC
          have hi7 := rInt_any r bs pl 0 0 low high hpl (by omega) (fun _ => rfl) H7.swap
          rw [hI] at hi7
          have HI := Lib.hid hi7
          have HC := Lib.hid hC
          clear hi7 hI hC
          go_wp2_with fail
          refine HI.out.mono ?_
          rintro e w8 ⟨rfl, H8⟩
          have hc8 := rCount_any s bs pl 0 0 high hpl (by omega) (fun _ => rfl) H8.swap
          rw [HC.out] at hc8
          have HD := Lib.hid hc8
          clear hc8 HI HC
          go_wp2_with fail
          refine HD.out.mono ?_
          rintro e w9 ⟨rfl, H9⟩
          clear HD
          go_wp2_with fail
          refine (rFault_any r bs pl 5 pl H9.swap).mono ?_
          rintro e w10 ⟨rfl, H10⟩
          go_wp2_with fail
          refine (rFault_any s bs pl 3 pl H10.swap).mono ?_
          rintro e w11 ⟨rfl, H11⟩
          go_wp2_with fail
          refine (rFault_any s bs pl 3 pl H11).mono ?_
          rintro e w12 ⟨rfl, H12⟩
          go_wp2_with fail
          refine (rFault_any r bs pl 5 pl H12.swap).mono ?_
          rintro e w13 ⟨rfl, H13⟩
          have hf0 := fault_err 5 pl w13
          go_wp2_with fail
          have H14 : Sat W (w13.alloc (.cells #[.int .i64 5, .int .i64 (pl : Int)] 58)) [rdr r bs pl 5 pl, pt w13.heap.size #[.int .i64 5, .int .i64 (pl : Int)] 58] := (H13.alloc _ _).swap.takes 2
          clear H13 hf0
          generalize w13.heap.size = g at H14 ⊢
          go_loopw [20] (fun i wc => ∃ (j : Nat), j ≤ qs.length ∧ i = .int .i64 j ∧ Sat W wc [rdr r bs pl 5 pl, pt g #[.int .i64 5, .int .i64 (pl : Int)] 58]) (fun i _ => qs.length - (intOf i).toNat)
          case atStart => exact ⟨0, by omega, rfl, H14⟩
          case round =>
            obtain ⟨j, hj, rfl, H15⟩ := hrel
            clear H14
            by_cases hlt : j < qs.length
            · obtain ⟨q, hqj⟩ : ∃ q, qs[j]? = some q := ⟨_, List.getElem?_eq_getElem hlt⟩
              obtain ⟨b, o, rfl⟩ := qn_open hr j q hqj
              have hrq := (qn_at hr j q hqj).old H15
              have HQ : Hid ((Try.prog.info? 67).map (·.size) = some q.cs.length) := by show _ = _; kernel_rfl
              have hask := ask_any r bs pl 5 pl q hpl (by omega) (fun h => by cases h) H15
              obtain ⟨k, hk⟩ := toldA_stuck bs pl 5 pl q (by decide)
              rw [hk] at hask
              have HA := Lib.hid hask
              clear hask hk
              go_wp2_with (refine wpList_load_rd rfl (.tmp 157) 67 rfl b (o + j * 3) q.cs (by rw [Try.underlying67]) HQ.out (by simp [Act.eval]) hrq ?_)
              refine HA.out.mono ?_
              rintro e w16 ⟨rfl, H16⟩
              clear HA
              have H17 : Sat W (w16.alloc (.cells zT.toArray 35)) (pt w16.heap.size zT.toArray 35 :: _) := H16.alloc _ _
              have HC : Hid (zT.toArray.size = (Th.mk k 0 ⟨#[]⟩ noID).cs.length) := by show _ = _; rfl
              have HZ32 : Hid ((Try.prog.info? 33).map (·.size) = some (noID.map B).length) := by show _ = _; kernel_rfl
              have HcU : Hid (Try.prog.cellsOf 5 = 1) := by show _ = _; kernel_rfl
              obtain ⟨iU, hiU, _, _, _⟩ := info_parts infoU8
              have HZ := Lib.hid (th_size (Th.mk k 0 ⟨#[]⟩ noID) rfl)
              go_wp2_with (first
                | (refine wpList_store_pt rfl rfl (.tmp 21) (.tmp 159) 35 rfl w16.heap.size zT.toArray 35 (Th.mk k 0 ⟨#[]⟩ noID).cs HZ.out rfl rfl HC.out (th_one _) H17 ?_
                   intro w18 H18
                   have hc1 : w18.cell? ⟨w16.heap.size, 1, none⟩ = some (.int .i64 0) := H18.cell 1
                   have hc2 : w18.cell? ⟨w16.heap.size, 2, none⟩ = some (.string ⟨#[]⟩) := H18.cell 2
                   have hr3 : Rd w18 (some ⟨w16.heap.size, 3, none⟩) (noID.map B) := Rd.drop (o := 0) (RdL.pt _ H18) 3)
                | refine wpList_load_rdw (by rfl) (.tmp 169) 33 rfl w16.heap.size 3 (noID.map B) (by rw [Try.underlying33]) HZ32.out (by simp [Act.eval]) hr3 ?_
                | refine wpList_eqb (by rfl) (.tmp 170) (.tmp 171) 33 33 true rfl 5 32 iU Try.underlying33 hiU HcU.out Try.underlying5 (by kernel_rfl) noID noID rfl rfl rfl (by rfl) ?_)
              exact ⟨⟨j + 1, by omega, by go_num, H18.tail⟩, by simp [intOf]; omega⟩
            · have hg0 : wr.cell? ⟨g, 0, none⟩ = some (.int .i64 5) := H15.swap.cell 0
              have hg1 : wr.cell? ⟨g, 1, none⟩ = some (.int .i64 pl) := H15.swap.cell 1
              go_wp2_with fail
              go_region_held3 (fun w' => w'.cell? ⟨g, 0, none⟩ = some (.int .i64 5) ∧ w'.cell? ⟨g, 1, none⟩ = some (.int .i64 pl)) (exact ⟨‹_›, ‹_›⟩) (first
                | (go_at_call 34; refine (rFault_any r bs pl 5 pl H15.drew).mono ?_
                   rintro e w20 ⟨rfl, H20⟩
                   have hh0 : w20.cell? ⟨g, 0, none⟩ = some (.int .i64 5) := H20.swap.cell 0
                   have hh1 : w20.cell? ⟨g, 1, none⟩ = some (.int .i64 pl) := H20.swap.cell 1)
                | (go_at_call 33; refine (rAt_any r bs pl 5 pl H20).mono ?_; rintro e _ ⟨rfl, rfl⟩)
                | (go_at_call 48; refine (rEnd_stuck r bs pl 5 pl (by decide) hpl (by omega) H20).mono ?_
                   rintro e w21 ⟨rfl, H21⟩
                   have hi0 : w21.cell? ⟨g, 0, none⟩ = some (.int .i64 5) := H21.swap.cell 0
                   have hi1 : w21.cell? ⟨g, 1, none⟩ = some (.int .i64 pl) := H21.swap.cell 1))
              go_wp2
              go_ret
              exact ⟨rfl, H21.tail.tail⟩
      · by_cases h2 : (m : Int) ≤ high
        · have e1 : decide (low ≤ (m : Int)) = false := by simpa using h1
          have e2 : decide ((m : Int) ≤ high) = true := by simpa using h2
          have e3 : decide (high < (m : Int)) = false := by simpa using h2
          rw [if_pos (by omega)] at hI
          rw [if_neg (by omega)] at hC
          have hi7 := rInt_any r bs pl 0 0 low high hpl (by omega) (fun _ => rfl) H7.swap
          rw [hI] at hi7
          have HI := Lib.hid hi7
          have HC := Lib.hid hC
          clear hi7 hI hC
          go_wp2_with fail
          refine HI.out.mono ?_
          rintro e w8 ⟨rfl, H8⟩
          have hc8 := rCount_any s bs pl 0 0 high hpl (by omega) (fun _ => rfl) H8.swap
          rw [HC.out] at hc8
          have HD := Lib.hid hc8
          clear hc8 HI HC
          go_wp2_with fail
          refine HD.out.mono ?_
          rintro e w9 ⟨rfl, H9⟩
          clear HD
          go_wp2_with fail
          refine (rFault_any r bs pl 5 pl H9.swap).mono ?_
          rintro e w10 ⟨rfl, H10⟩
          go_wp2_with fail
          refine (rFault_any s bs bs.length 0 0 H10.swap).mono ?_
          rintro e w11 ⟨rfl, H11⟩
          go_wp2_with fail
          refine (rLeft_any s bs bs.length 0 0 (by omega) (by omega) H11).mono ?_
          rintro e w12 ⟨rfl, H12⟩
          go_wp2_with fail
          refine (rFault_any r bs pl 5 pl H12.swap).mono ?_
          rintro e w13 ⟨rfl, H13⟩
          have hf0 := fault_err 5 pl w13
          go_wp2_with fail
          have H14 : Sat W (w13.alloc (.cells #[.int .i64 5, .int .i64 (pl : Int)] 58)) [rdr r bs pl 5 pl, pt w13.heap.size #[.int .i64 5, .int .i64 (pl : Int)] 58] := (H13.alloc _ _).swap.takes 2
          clear H13 hf0
          generalize w13.heap.size = g at H14 ⊢
          go_loopw [20] (fun i wc => ∃ (j : Nat), j ≤ qs.length ∧ i = .int .i64 j ∧ Sat W wc [rdr r bs pl 5 pl, pt g #[.int .i64 5, .int .i64 (pl : Int)] 58]) (fun i _ => qs.length - (intOf i).toNat)
          case atStart => exact ⟨0, by omega, rfl, H14⟩
          case round =>
            obtain ⟨j, hj, rfl, H15⟩ := hrel
            clear H14
            by_cases hlt : j < qs.length
            · obtain ⟨q, hqj⟩ : ∃ q, qs[j]? = some q := ⟨_, List.getElem?_eq_getElem hlt⟩
              obtain ⟨b, o, rfl⟩ := qn_open hr j q hqj
              have hrq := (qn_at hr j q hqj).old H15
              have HQ : Hid ((Try.prog.info? 67).map (·.size) = some q.cs.length) := by show _ = _; kernel_rfl
              have hask := ask_any r bs pl 5 pl q hpl (by omega) (fun h => by cases h) H15
              obtain ⟨k, hk⟩ := toldA_stuck bs pl 5 pl q (by decide)
              rw [hk] at hask
              have HA := Lib.hid hask
              clear hask hk
              go_wp2_with (refine wpList_load_rd rfl (.tmp 157) 67 rfl b (o + j * 3) q.cs (by rw [Try.underlying67]) HQ.out (by simp [Act.eval]) hrq ?_)
              refine HA.out.mono ?_
              rintro e w16 ⟨rfl, H16⟩
              clear HA
              have H17 : Sat W (w16.alloc (.cells zT.toArray 35)) (pt w16.heap.size zT.toArray 35 :: _) := H16.alloc _ _
              have HC : Hid (zT.toArray.size = (Th.mk k 0 ⟨#[]⟩ noID).cs.length) := by show _ = _; rfl
              have HZ32 : Hid ((Try.prog.info? 33).map (·.size) = some (noID.map B).length) := by show _ = _; kernel_rfl
              have HcU : Hid (Try.prog.cellsOf 5 = 1) := by show _ = _; kernel_rfl
              obtain ⟨iU, hiU, _, _, _⟩ := info_parts infoU8
              have HZ := Lib.hid (th_size (Th.mk k 0 ⟨#[]⟩ noID) rfl)
              go_wp2_with (first
                | (refine wpList_store_pt rfl rfl (.tmp 21) (.tmp 159) 35 rfl w16.heap.size zT.toArray 35 (Th.mk k 0 ⟨#[]⟩ noID).cs HZ.out rfl rfl HC.out (th_one _) H17 ?_
                   intro w18 H18
                   have hc1 : w18.cell? ⟨w16.heap.size, 1, none⟩ = some (.int .i64 0) := H18.cell 1
                   have hc2 : w18.cell? ⟨w16.heap.size, 2, none⟩ = some (.string ⟨#[]⟩) := H18.cell 2
                   have hr3 : Rd w18 (some ⟨w16.heap.size, 3, none⟩) (noID.map B) := Rd.drop (o := 0) (RdL.pt _ H18) 3)
                | refine wpList_load_rdw (by rfl) (.tmp 169) 33 rfl w16.heap.size 3 (noID.map B) (by rw [Try.underlying33]) HZ32.out (by simp [Act.eval]) hr3 ?_
                | refine wpList_eqb (by rfl) (.tmp 170) (.tmp 171) 33 33 true rfl 5 32 iU Try.underlying33 hiU HcU.out Try.underlying5 (by kernel_rfl) noID noID rfl rfl rfl (by rfl) ?_)
              exact ⟨⟨j + 1, by omega, by go_num, H18.tail⟩, by simp [intOf]; omega⟩
            · have hg0 : wr.cell? ⟨g, 0, none⟩ = some (.int .i64 5) := H15.swap.cell 0
              have hg1 : wr.cell? ⟨g, 1, none⟩ = some (.int .i64 pl) := H15.swap.cell 1
              go_wp2_with fail
              go_region_held3 (fun w' => w'.cell? ⟨g, 0, none⟩ = some (.int .i64 5) ∧ w'.cell? ⟨g, 1, none⟩ = some (.int .i64 pl)) (exact ⟨‹_›, ‹_›⟩) (first
                | (go_at_call 34; refine (rFault_any r bs pl 5 pl H15.drew).mono ?_
                   rintro e w20 ⟨rfl, H20⟩
                   have hh0 : w20.cell? ⟨g, 0, none⟩ = some (.int .i64 5) := H20.swap.cell 0
                   have hh1 : w20.cell? ⟨g, 1, none⟩ = some (.int .i64 pl) := H20.swap.cell 1)
                | (go_at_call 33; refine (rAt_any r bs pl 5 pl H20).mono ?_; rintro e _ ⟨rfl, rfl⟩)
                | (go_at_call 48; refine (rEnd_stuck r bs pl 5 pl (by decide) hpl (by omega) H20).mono ?_
                   rintro e w21 ⟨rfl, H21⟩
                   have hi0 : w21.cell? ⟨g, 0, none⟩ = some (.int .i64 5) := H21.swap.cell 0
                   have hi1 : w21.cell? ⟨g, 1, none⟩ = some (.int .i64 pl) := H21.swap.cell 1))
              go_wp2
              go_ret
              exact ⟨rfl, H21.tail.tail⟩
        · have e1 : decide (low ≤ (m : Int)) = false := by simpa using h1
          have e2 : decide ((m : Int) ≤ high) = false := by simpa using h2
          have e3 : decide (high < (m : Int)) = true := by simpa using h2
          rw [if_pos (by omega)] at hI
          rw [if_pos (by omega)] at hC
          have hi7 := rInt_any r bs pl 0 0 low high hpl (by omega) (fun _ => rfl) H7.swap
          rw [hI] at hi7
          have HI := Lib.hid hi7
          have HC := Lib.hid hC
          clear hi7 hI hC
          go_wp2_with fail
          refine HI.out.mono ?_
          rintro e w8 ⟨rfl, H8⟩
          have hc8 := rCount_any s bs pl 0 0 high hpl (by omega) (fun _ => rfl) H8.swap
          rw [HC.out] at hc8
          have HD := Lib.hid hc8
          clear hc8 HI HC
          go_wp2_with fail
          refine HD.out.mono ?_
          rintro e w9 ⟨rfl, H9⟩
          clear HD
          go_wp2_with fail
          refine (rFault_any r bs pl 5 pl H9.swap).mono ?_
          rintro e w10 ⟨rfl, H10⟩
          go_wp2_with fail
          refine (rFault_any s bs pl 3 pl H10.swap).mono ?_
          rintro e w11 ⟨rfl, H11⟩
          go_wp2_with fail
          refine (rFault_any s bs pl 3 pl H11).mono ?_
          rintro e w12 ⟨rfl, H12⟩
          go_wp2_with fail
          refine (rFault_any r bs pl 5 pl H12.swap).mono ?_
          rintro e w13 ⟨rfl, H13⟩
          have hf0 := fault_err 5 pl w13
          go_wp2_with fail
          have H14 : Sat W (w13.alloc (.cells #[.int .i64 5, .int .i64 (pl : Int)] 58)) [rdr r bs pl 5 pl, pt w13.heap.size #[.int .i64 5, .int .i64 (pl : Int)] 58] := (H13.alloc _ _).swap.takes 2
          clear H13 hf0
          generalize w13.heap.size = g at H14 ⊢
          go_loopw [20] (fun i wc => ∃ (j : Nat), j ≤ qs.length ∧ i = .int .i64 j ∧ Sat W wc [rdr r bs pl 5 pl, pt g #[.int .i64 5, .int .i64 (pl : Int)] 58]) (fun i _ => qs.length - (intOf i).toNat)
          case atStart => exact ⟨0, by omega, rfl, H14⟩
          case round =>
            obtain ⟨j, hj, rfl, H15⟩ := hrel
            clear H14
            by_cases hlt : j < qs.length
            · obtain ⟨q, hqj⟩ : ∃ q, qs[j]? = some q := ⟨_, List.getElem?_eq_getElem hlt⟩
              obtain ⟨b, o, rfl⟩ := qn_open hr j q hqj
              have hrq := (qn_at hr j q hqj).old H15
              have HQ : Hid ((Try.prog.info? 67).map (·.size) = some q.cs.length) := by show _ = _; kernel_rfl
              have hask := ask_any r bs pl 5 pl q hpl (by omega) (fun h => by cases h) H15
              obtain ⟨k, hk⟩ := toldA_stuck bs pl 5 pl q (by decide)
              rw [hk] at hask
              have HA := Lib.hid hask
              clear hask hk
              go_wp2_with (refine wpList_load_rd rfl (.tmp 157) 67 rfl b (o + j * 3) q.cs (by rw [Try.underlying67]) HQ.out (by simp [Act.eval]) hrq ?_)
              refine HA.out.mono ?_
              rintro e w16 ⟨rfl, H16⟩
              clear HA
              have H17 : Sat W (w16.alloc (.cells zT.toArray 35)) (pt w16.heap.size zT.toArray 35 :: _) := H16.alloc _ _
              have HC : Hid (zT.toArray.size = (Th.mk k 0 ⟨#[]⟩ noID).cs.length) := by show _ = _; rfl
              have HZ32 : Hid ((Try.prog.info? 33).map (·.size) = some (noID.map B).length) := by show _ = _; kernel_rfl
              have HcU : Hid (Try.prog.cellsOf 5 = 1) := by show _ = _; kernel_rfl
              obtain ⟨iU, hiU, _, _, _⟩ := info_parts infoU8
              have HZ := Lib.hid (th_size (Th.mk k 0 ⟨#[]⟩ noID) rfl)
              go_wp2_with (first
                | (refine wpList_store_pt rfl rfl (.tmp 21) (.tmp 159) 35 rfl w16.heap.size zT.toArray 35 (Th.mk k 0 ⟨#[]⟩ noID).cs HZ.out rfl rfl HC.out (th_one _) H17 ?_
                   intro w18 H18
                   have hc1 : w18.cell? ⟨w16.heap.size, 1, none⟩ = some (.int .i64 0) := H18.cell 1
                   have hc2 : w18.cell? ⟨w16.heap.size, 2, none⟩ = some (.string ⟨#[]⟩) := H18.cell 2
                   have hr3 : Rd w18 (some ⟨w16.heap.size, 3, none⟩) (noID.map B) := Rd.drop (o := 0) (RdL.pt _ H18) 3)
                | refine wpList_load_rdw (by rfl) (.tmp 169) 33 rfl w16.heap.size 3 (noID.map B) (by rw [Try.underlying33]) HZ32.out (by simp [Act.eval]) hr3 ?_
                | refine wpList_eqb (by rfl) (.tmp 170) (.tmp 171) 33 33 true rfl 5 32 iU Try.underlying33 hiU HcU.out Try.underlying5 (by kernel_rfl) noID noID rfl rfl rfl (by rfl) ?_)
              exact ⟨⟨j + 1, by omega, by go_num, H18.tail⟩, by simp [intOf]; omega⟩
            · have hg0 : wr.cell? ⟨g, 0, none⟩ = some (.int .i64 5) := H15.swap.cell 0
              have hg1 : wr.cell? ⟨g, 1, none⟩ = some (.int .i64 pl) := H15.swap.cell 1
              go_wp2_with fail
              go_region_held3 (fun w' => w'.cell? ⟨g, 0, none⟩ = some (.int .i64 5) ∧ w'.cell? ⟨g, 1, none⟩ = some (.int .i64 pl)) (exact ⟨‹_›, ‹_›⟩) (first
                | (go_at_call 34; refine (rFault_any r bs pl 5 pl H15.drew).mono ?_
                   rintro e w20 ⟨rfl, H20⟩
                   have hh0 : w20.cell? ⟨g, 0, none⟩ = some (.int .i64 5) := H20.swap.cell 0
                   have hh1 : w20.cell? ⟨g, 1, none⟩ = some (.int .i64 pl) := H20.swap.cell 1)
                | (go_at_call 33; refine (rAt_any r bs pl 5 pl H20).mono ?_; rintro e _ ⟨rfl, rfl⟩)
                | (go_at_call 48; refine (rEnd_stuck r bs pl 5 pl (by decide) hpl (by omega) H20).mono ?_
                   rintro e w21 ⟨rfl, H21⟩
                   have hi0 : w21.cell? ⟨g, 0, none⟩ = some (.int .i64 5) := H21.swap.cell 0
                   have hi1 : w21.cell? ⟨g, 1, none⟩ = some (.int .i64 pl) := H21.swap.cell 1))
              go_wp2
              go_ret
              exact ⟨rfl, H21.tail.tail⟩
end Go.Proofs.Ytkfeejlpgcmilaa
