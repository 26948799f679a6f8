/- WordPassed answers true at all bytes and asks. -/
import Derived.Test.YtkfeejlpgcmilaaWlKnown
import Derived.Test.YtkfeejlpgcmilaaWeV
import Derived.Test.YtkfeejlpgcmilaaWoB
import Derived.Test.YtkfeejlpgcmilaaWoC
import Derived.Test.YtkfeejlpgcmilaaRtE
import Derived.Deep.RegionHeld3
namespace Go.Proofs.Ytkfeejlpgcmilaa
open Go.RowKit Go.Rt

def zT : List Value := (Th.mk 0 0 ⟨#[]⟩ noID).cs
theorem infoT : (Try.prog.info? 35).map (fun i => (i.zero, i.size, i.bytes)) = some (some (.agg zT.toArray), 35, 64) := by kernel_rfl
theorem zT_like : LikeZ zT := by
  intro j u h
  have h := List.mem_of_getElem? h
  simp only [zT, Th.cs, List.mem_cons, List.mem_map] at h
  rcases h with rfl | rfl | rfl | ⟨b, _, rfl⟩ <;> rfl
theorem th_typed (x : Th) (hd : x.d.length = 32) : Typed zT x.cs := by
  intro j u h
  have hj : j < 35 := by
    have := (List.getElem?_eq_some_iff.1 h).1
    simpa [Th.cs, hd] using this
  have e : zT.length = 35 := rfl
  rw [e, Nat.mod_eq_of_lt hj]
  match j, h, hj with
  | 0, h, _ => simp [Th.cs] at h; subst h; rfl
  | 1, h, _ => simp [Th.cs] at h; subst h; rfl
  | 2, h, _ => simp [Th.cs] at h; subst h; rfl
  | j + 3, h, hj =>
    have h1 : (x.d.map B)[j]? = some u := by simpa [Th.cs] using h
    have h2 : u ∈ x.d.map B := List.mem_of_getElem? h1
    simp only [List.mem_map] at h2
    obtain ⟨b, _, rfl⟩ := h2
    have h3 : zT.getD (j + 3) undef = (List.replicate 32 (B 0)).getD j undef := rfl
    rw [h3]
    have h4 : (List.replicate 32 (B 0)).getD j undef = B 0 := by
      simp only [List.getD, List.getElem?_replicate]
      rw [if_pos (by omega)]
      rfl
    rw [h4]
    rfl
theorem thC_snoc (ts : List Th) (x : Th) : thC (ts ++ [x]) = thC ts ++ x.cs := by simp [thC]
theorem qn_at {w : World} {b o : Nat} {qs : List Qn} (h : Rd w (some ⟨b, o, none⟩) (qnC qs)) (j : Nat) (q : Qn) (hj : qs[j]? = some q) : Rd w (some ⟨b, o + j * 3, none⟩) q.cs := by
  have key : ((qnC qs).drop (j * 3)).take 3 = q.cs := by
    clear h
    induction qs generalizing j with
    | nil => simp at hj
    | cons y ts ih =>
      cases j with
      | zero =>
        simp at hj
        subst hj
        simp [qnC, Qn.cs]
      | succ j =>
        have := ih j (by simpa using hj)
        rw [show (j + 1) * 3 = 3 + j * 3 by omega]
        have e : qnC (y :: ts) = y.cs ++ qnC ts := rfl
        rw [e, ← List.drop_drop, show (y.cs ++ qnC ts).drop 3 = qnC ts from rfl]
        exact this
  rw [← key]
  exact (h.drop (j * 3)).take 3
theorem qn_open {w : World} {A : Option Addr} {qs : List Qn} (h : Rd w A (qnC qs)) (j : Nat) (x : Qn) (hj : qs[j]? = some x) : ∃ b o, A = some ⟨b, o, none⟩ := by
  refine h.open fun e => ?_
  cases qs with
  | nil => simp at hj
  | cons y ts => simp [qnC, Qn.cs] at e

theorem fault_err (a b : Int) (w : World) : (Instr.field 58 (.agg #[.int .i64 a, .int .i64 b]) 0).run Try.prog w = .ok (.int .i64 a) w := by kernel_rfl
theorem fault_at (a b : Int) (w : World) : (Instr.field 58 (.agg #[.int .i64 a, .int .i64 b]) 1).run Try.prog w = .ok (.int .i64 b) w := by kernel_rfl

set_option maxRecDepth 100000 in
set_option maxHeartbeats 4000000 in
theorem lawPassed_any {W : World} (A0 : Option Addr) (c0 : Nat) (bs : List UInt8) (hc0 : bs.length ≤ c0) (A : Option Addr) (c : Nat) (qs : List Qn) (hr0 : Rd W A0 (bs.map B)) (hr : Rd W A (qnC qs)) :
    Calls Try.prog 9 #[.slice A0 bs.length c0, .slice A qs.length c] W fun e w' => e = .returned (.bool true) ∧ Sat W w' [] := by
  obtain ⟨i0, hi, hz0, hz1, hz2⟩ := info_parts infoT
  by_cases hbig : 1500 < bs.length ∨ 30 < qs.length
  · go_enter Try.func9, Try.ntmps9
    go_wp2_with fail
    refine (known_any (Sat.start W)).mono ?_
    rintro e w1 ⟨rfl, H1⟩
    by_cases h1 : 1500 < bs.length
    · go_wp2
      go_ret
      exact ⟨rfl, H1⟩
    · have h2 : 30 < qs.length := by omega
      clear hbig
      go_wp2
      go_ret
      exact ⟨rfl, H1⟩
  · have hb : bs.length ≤ 1500 := by omega
    have hq : qs.length ≤ 30 := by omega
    clear hbig
    go_enter Try.func9, Try.ntmps9
    go_wp2_with fail
    refine (known_any (Sat.start W)).mono ?_
    rintro e w1 ⟨rfl, H1⟩
    go_wp2_with fail
    refine (open_any A0 c0 bs (RdL.old hr0) (by omega) H1).mono ?_
    rintro e w2 ⟨p, rfl, H2⟩
    go_wp2
    go_loopw [7, 8] (fun t i wc => ∃ (pl : Nat) (ts : List Th) (A' : Option Addr) (c' : Nat), ts.length ≤ qs.length ∧ i = .int .i64 ts.length ∧ t = .slice A' ts.length c' ∧ pl ≤ bs.length ∧ (∀ x ∈ ts, x.Ok ∧ x.s.size ≤ 1500) ∧ Hid (putAll ts = bs.take pl) ∧ Hid (badAll ts = false) ∧ Sat W wc (rdr p bs pl 0 0 :: row 35 zT (.slice A' ts.length c') ts.length (thC ts) :: [])) (fun _ i _ => qs.length - (intOf i).toNat)
    case atStart => exact ⟨0, [], none, 0, by simp, rfl, rfl, by omega, by simp, rfl, rfl, (H2.nil 35 zT).swap⟩
    case round =>
      obtain ⟨pl, ts, A', c', hj, rfl, rfl, hpl, hok, hput, hbad, H3⟩ := hrel
      clear H1 H2
      have hwts : wts ts ≤ 800000000 := by
        rw [wts_eq]
        have : ∀ l : List Th, (∀ x ∈ l, x.Ok ∧ x.s.size ≤ 1500) → (l.map (·.s.size)).sum ≤ 1500 * l.length := by
          intro l
          induction l with
          | nil => intro _; simp
          | cons x l ih =>
            intro h
            have h1 := (h x (by simp)).2
            have h2 := ih fun y hy => h y (by simp [hy])
            simp only [List.map_cons, List.sum_cons, List.length_cons]
            omega
        have := this ts hok
        omega
      by_cases hlt : ts.length < qs.length
      · obtain ⟨q, hqj⟩ : ∃ q, qs[ts.length]? = some q := ⟨_, List.getElem?_eq_getElem hlt⟩
        obtain ⟨b, o, rfl⟩ := qn_open hr ts.length q hqj
        have hrq := qn_at hr ts.length q hqj
        have HQ : Hid ((Try.prog.info? 67).map (·.size) = some q.cs.length) := by show _ = _; kernel_rfl
        have hask : ∀ w', Sat W w' _ → _ := fun w' => ask_any (w := w') p bs pl 0 0 q hpl (by omega) (fun _ => rfl) (l := [row 35 zT (.slice A' ts.length c') ts.length (thC ts)])
        have hback := toldA_back bs pl q hpl
        have hwhere := toldA_where bs pl q hpl
        have hTok := toldA_ok bs pl 0 0 q hpl (by omega)
        have hfa := toldA_fa bs pl q
        generalize toldA bs pl 0 0 q = T at hask hback hwhere hTok hfa
        have HA := Lib.hid hask
        clear hask
        go_wp2_with fail
        refine (rAt_any p bs pl 0 0 H3).mono ?_
        rintro e _ ⟨rfl, rfl⟩
        have hrq' := hrq.old H3
        go_wp2_with (refine wpList_load_rd rfl (.tmp 38) 67 rfl b (o + ts.length * 3) q.cs (by rw [Try.underlying67]) HQ.out (by simp [Act.eval]) hrq' ?_)
        refine (HA.out _ H3).mono ?_
        rintro e w3 ⟨rfl, H4⟩
        obtain ⟨⟨tk, tn, tsb, td⟩, tpl, tfe, tfa⟩ := T
        dsimp only at H4 hback hwhere hTok hfa ⊢
        have hd : td.length = 32 := hTok.1.d
        have H5 : Sat W (w3.alloc (.cells zT.toArray 35)) (pt w3.heap.size zT.toArray 35 :: rdr p bs tpl tfe tfa :: row 35 zT (.slice A' ts.length c') ts.length (thC ts) :: []) := H4.alloc _ _
        have HC : Hid (zT.toArray.size = (Th.mk tk tn tsb td).cs.length) := by show _ = _; rw [show (Th.mk tk tn tsb td).cs.length = 35 by simp [Th.cs, hd]]; rfl
        have HZ := Lib.hid (th_size (Th.mk tk tn tsb td) hd)
        by_cases hfe : tfe = 0
        · obtain rfl := hfe
          obtain rfl : tfa = 0 := hfa rfl
          obtain ⟨hb1, hb2, hb3⟩ := hback rfl
          have HB := Lib.hid hb1
          clear hback hwhere hfa hb1
          go_wp2_with (refine wpList_store_pt rfl rfl (.tmp 10) (.tmp 40) 35 rfl w3.heap.size zT.toArray 35 (Th.mk tk tn tsb td).cs HZ.out rfl rfl HC.out (th_one _) H5 ?_; intro w4 H6)
          generalize w3.heap.size = g at H5 H6 ⊢
          refine (rFault_any p bs tpl 0 0 H6.swap).mono ?_
          rintro e w5 ⟨rfl, H7⟩
          have hrx : Rd w5 (some ⟨g, 0, none⟩) (Th.mk tk tn tsb td).cs := RdL.pt _ H7.swap
          have hcl : (Th.mk tk tn tsb td).cs.length = 35 := by simp [Th.cs, hd]
          have HL : Hid ((Th.mk tk tn tsb td).cs.length = 35) := hcl
          have hty := th_typed (Th.mk tk tn tsb td) hd
          have H8 := (H7.alloc (Th.mk tk tn tsb td).cs.toArray 35).pull 3
          have hrn : Rd (w5.alloc (.cells (Th.mk tk tn tsb td).cs.toArray 35)) (some ⟨w5.heap.size, 0, none⟩) (Th.mk tk tn tsb td).cs := Rd.new w5 _ _
          clear hcl
          have hf0 := fault_err 0 0 w5
          go_wp2_with (first
            | refine wpList_load_rd rfl (.tmp 10) 35 rfl g 0 (Th.mk tk tn tsb td).cs (by rw [Try.underlying35]) HZ.out (by simp [Act.eval]) hrx ?_
            | refine wpList_buildSlice_one rfl (.tmp 65) 22 rfl 35 i0 (.agg zT.toArray) (Th.mk tk tn tsb td).cs rfl Try.underlying22 hi hz0 (by rw [HL.out]; rfl) (by rw [HL.out, hz1]) (by rw [HL.out]; decide) (by rw [HL.out]; decide) ?_
            | (refine wpList_append_sl rfl (.tmp 64) (.tmp 66) 22 rfl 35 i0 (.agg zT.toArray) zT 64 Try.underlying22 hi hz0 rfl hz1 hz2 (by decide) zT_like (.slice A' ts.length c') ts.length (thC ts) rfl H8 (some ⟨w5.heap.size, 0, none⟩) 1 1 (Th.mk tk tn tsb td).cs rfl HL.out hrn (th_one _) hty (by unfold maxLen; omega) (by omega) ?_
               intro A2 c2 w6 H9))
          refine ⟨⟨tpl, ts ++ [Th.mk tk tn tsb td], A2, c2, by simp; omega, by simp, by simp, hb2, ?_, ?_, ?_, ?_⟩, by simp [intOf]; omega⟩
          · intro x hx
            rcases List.mem_append.1 hx with hx | hx
            · exact hok x hx
            · obtain rfl := List.mem_singleton.1 hx
              exact ⟨hTok.1, Nat.le_trans hTok.2.2 hb⟩
          · show _ = _
            rw [putAll_snoc, hput.out, HB.out]
          · show _ = _
            rw [badAll_snoc, hbad.out, hTok.2.1]; rfl
          · rw [thC_snoc, List.length_append, List.length_singleton]
            exact (((H9.pull 1).tail.pull 2).tail).swap
        · obtain ⟨rfl, hw2, hw3⟩ := hwhere hfe
          clear hback hfa
          have e1 : (tfe != 0) = true := by simpa using hfe
          have e2 : (tfe == 0) = false := by simpa using hfe
          have e3 : decide (tfa < (tpl : Int)) = false := by simpa using hw2
          have e4 : decide ((bs.length : Int) < tfa) = false := by simpa using hw3
          go_wp2_with (refine wpList_store_pt rfl rfl (.tmp 10) (.tmp 40) 35 rfl w3.heap.size zT.toArray 35 (Th.mk tk tn tsb td).cs HZ.out rfl rfl HC.out (th_one _) H5 ?_; intro w4 H6)
          generalize w3.heap.size = g at H5 H6 ⊢
          refine (rFault_any p bs tpl tfe tfa H6.swap).mono ?_
          rintro e w5 ⟨rfl, H7⟩
          have hf0 := fault_err tfe tfa w5
          go_wp2_with fail
          refine (rAt_any p bs tpl tfe tfa H7).mono ?_
          rintro e _ ⟨rfl, rfl⟩
          go_wp2_with fail
          refine (rFault_any p bs tpl tfe tfa H7).mono ?_
          rintro e w6 ⟨rfl, H8⟩
          have hf1 := fault_at tfe tfa w6
          go_wp2_with fail
          refine (rFault_any p bs tpl tfe tfa H8).mono ?_
          rintro e w7 ⟨rfl, H9⟩
          have hf2 := fault_at tfe tfa w7
          go_wp2_with fail
          have HH := H9.swap.tail.swap
          refine (all_any A' c' ts (fun x hx => (hok x hx).1) hwts (by omega) RdL.row HH).mono ?_
          rintro e w8 h8
          unfold AllPost at h8
          rw [hbad.out, if_neg (by decide), hput.out, show (bs.take tpl).length = tpl by rw [List.length_take]; omega] at h8
          obtain ⟨A8, c8, rfl, H10⟩ := h8
          have hsum : ((tpl : Int) + ((bs.length - tpl : Nat) : Int) == (bs.length : Int)) = true := by rw [beq_iff_eq]; omega
          have hge : decide ((0 : Int) ≤ (tpl : Int)) = true := by simp
          have H11 := H10.pull 2
          have hp1 : (tpl : Int) ≤ 1500 := by omega
          go_wp2_with fail
          refine (rAt_any p bs tpl tfe tfa H11).mono ?_
          rintro e _ ⟨rfl, rfl⟩
          go_wp2_with fail
          refine (rAt_any p bs tpl tfe tfa H11).mono ?_
          rintro e _ ⟨rfl, rfl⟩
          go_wp2_with fail
          refine (rLeft_any p bs tpl tfe tfa (by omega) (by omega) H11).mono ?_
          rintro e w9 ⟨rfl, H12⟩
          go_wp2_with fail
          refine (rAt_any p bs tpl tfe tfa H12).mono ?_
          rintro e _ ⟨rfl, rfl⟩
          have hs1 : Rd w9 A8 ((bs.take tpl).map B) := (H12.pull 1).rd
          have hs2 : Rd w9 A0 ((bs.take tpl).map B) := by rw [List.map_take]; exact (hr0.old H12).take tpl
          have hsame := same_any A8 A0 c8 c0 (bs.take tpl) (bs.take tpl) w9 hs1 hs2
          rw [show (bs.take tpl).length = tpl by rw [List.length_take]; omega, show (bs.take tpl == bs.take tpl) = true by simp] at hsame
          have HS := Lib.hid hsame
          clear hsame hs1 hs2
          go_wp2_with fail
          refine HS.out.mono ?_
          rintro e _ ⟨rfl, rfl⟩
          go_wp2
          go_ret
          exact ⟨rfl, H12.tail.tail.tail⟩
      · go_wp2_with fail
        have HH := H3.swap
        refine (all_any A' c' ts (fun x hx => (hok x hx).1) hwts (by omega) RdL.row HH).mono ?_
        rintro e w8 h8
        unfold AllPost at h8
        rw [hbad.out, if_neg (by decide), hput.out, show (bs.take pl).length = pl by rw [List.length_take]; omega] at h8
        obtain ⟨A8, c8, rfl, H10⟩ := h8
        have hsum : ((pl : Int) + ((bs.length - pl : Nat) : Int) == (bs.length : Int)) = true := by rw [beq_iff_eq]; omega
        have hge : decide ((0 : Int) ≤ (pl : Int)) = true := by simp
        have H11 := H10.pull 2
        have hp1 : (pl : Int) ≤ 1500 := by omega
        go_wp2_with fail
        refine (rAt_any p bs pl 0 0 H11).mono ?_
        rintro e _ ⟨rfl, rfl⟩
        go_wp2_with fail
        refine (rAt_any p bs pl 0 0 H11).mono ?_
        rintro e _ ⟨rfl, rfl⟩
        go_wp2_with fail
        refine (rLeft_any p bs pl 0 0 (by omega) (by omega) H11).mono ?_
        rintro e w9 ⟨rfl, H12⟩
        go_wp2_with fail
        refine (rAt_any p bs pl 0 0 H12).mono ?_
        rintro e _ ⟨rfl, rfl⟩
        have hs1 : Rd w9 A8 ((bs.take pl).map B) := (H12.pull 1).rd
        have hs2 : Rd w9 A0 ((bs.take pl).map B) := by rw [List.map_take]; exact (hr0.old H12).take pl
        have hsame := same_any A8 A0 c8 c0 (bs.take pl) (bs.take pl) w9 hs1 hs2
        rw [show (bs.take pl).length = pl by rw [List.length_take]; omega, show (bs.take pl == bs.take pl) = true by simp] at hsame
        have HS := Lib.hid hsame
        clear hsame hs1 hs2
        go_wp2_with fail
        refine HS.out.mono ?_
        rintro e _ ⟨rfl, rfl⟩
        go_wp2
        go_ret
        exact ⟨rfl, H12.tail.tail.tail⟩
end Go.Proofs.Ytkfeejlpgcmilaa
