/- WordAsked answers true at all bytes and asks. -/
import Derived.Test.YtkfeejlpgcmilaaWlPassed
import Derived.Test.YtkfeejlpgcmilaaWdX
import Derived.Test.YtkfeejlpgcmilaaWdQ
namespace Go.Proofs.Ytkfeejlpgcmilaa
open Go.RowKit Go.Rt

theorem qn_eq (q : Qn) : q.cs = [.int .i64 q.k, .int .i64 q.low, .int .i64 q.n] := rfl
/-- What is told of an ask at any place: where the reader stands, its fault. -/
theorem toldInt_inv (bs : List UInt8) (pl : Nat) (fe fa low high above : Int) (ha : above ≠ 0) (hp : pl ≤ bs.length) (hf : fe = 0 → fa = 0) : (toldInt bs pl fe fa low high above).pl ≤ bs.length ∧ ((toldInt bs pl fe fa low high above).fe = 0 → (toldInt bs pl fe fa low high above).fa = 0) := by
  by_cases h0 : fe = 0
  · subst h0
    obtain rfl : fa = 0 := hf rfl
    refine ⟨?_, toldInt_fa bs pl low high above ha⟩
    by_cases h1 : (toldInt bs pl 0 0 low high above).fe = 0
    · exact (int_back bs pl low high above ha hp h1).2.1
    · rw [(toldInt_where bs pl low high above hp h1).1]; exact hp
  · unfold toldInt; rw [if_neg h0]; exact ⟨hp, fun h => absurd h h0⟩
theorem toldTxt_inv (bs : List UInt8) (pl : Nat) (fe fa high : Int) (hp : pl ≤ bs.length) (hf : fe = 0 → fa = 0) : (toldTxt bs pl fe fa high).pl ≤ bs.length ∧ ((toldTxt bs pl fe fa high).fe = 0 → (toldTxt bs pl fe fa high).fa = 0) := by
  by_cases h0 : fe = 0
  · subst h0
    obtain rfl : fa = 0 := hf rfl
    refine ⟨?_, toldTxt_fa bs pl high⟩
    by_cases h1 : (toldTxt bs pl 0 0 high).fe = 0
    · exact (txt_back bs pl high hp h1).2.1
    · rw [(toldTxt_where bs pl high hp h1).1]; exact hp
  · unfold toldTxt; rw [if_neg h0]; exact ⟨hp, fun h => absurd h h0⟩
theorem toldID_inv (bs : List UInt8) (pl : Nat) (fe fa : Int) (hp : pl ≤ bs.length) (hf : fe = 0 → fa = 0) : (toldID bs pl fe fa).pl ≤ bs.length ∧ ((toldID bs pl fe fa).fe = 0 → (toldID bs pl fe fa).fa = 0) := by
  by_cases h0 : fe = 0
  · subst h0
    obtain rfl : fa = 0 := hf rfl
    refine ⟨?_, toldID_fa bs pl⟩
    by_cases h1 : (toldID bs pl 0 0).fe = 0
    · exact (id_back bs pl h1 hp).2.1
    · rw [(toldID_where bs pl hp h1).1]; exact hp
  · unfold toldID; rw [if_neg h0]; exact ⟨hp, fun h => absurd h h0⟩

set_option maxRecDepth 100000 in
set_option maxHeartbeats 8000000 in
theorem lawAsked_any {W : World} (A0 : Option Addr) (c0 : Nat) (bs : List UInt8) (hA : Bsl A0 bs.length c0) (A : Option Addr) (c : Nat) (qs : List Qn) (hr0 : Rd W A0 (bs.map B)) (hr : Rd W A (qnC qs)) :
    Calls Try.prog 7 #[.slice A0 bs.length c0, .slice A qs.length c] W fun e w' => e = .returned (.bool true) ∧ Sat W w' [] := by
  by_cases hbig : 1500 < bs.length ∨ 30 < qs.length
  · by_cases h1 : 1500 < bs.length
    · go_enter Try.func7, Try.ntmps7
      go_wp2_with fail
      refine (awake_any (Sat.start W)).mono ?_
      rintro e w1 ⟨rfl, H1⟩
      go_wp2
      go_ret
      exact ⟨rfl, H1⟩
    · have h2 : 30 < qs.length := by omega
      clear hbig
      go_enter Try.func7, Try.ntmps7
      go_wp2_with fail
      refine (awake_any (Sat.start W)).mono ?_
      rintro e w1 ⟨rfl, H1⟩
      go_wp2
      go_ret
      exact ⟨rfl, H1⟩
  · have hb : bs.length ≤ 1500 := by omega
    have hq : qs.length ≤ 30 := by omega
    clear hbig
    have HAA := Lib.hid hA
    clear hA
    go_enter Try.func7, Try.ntmps7
    go_wp2_with fail
    refine (lent_any A0 c0 bs (RdL.old hr0) (by omega) (Sat.start W)).mono ?_
    rintro e w1 ⟨g, rfl, H1⟩
    have hlen : (lent bs).length = bs.length + 3 := by simp [lent]
    have htk : (lent bs).take bs.length = bs := by simp [lent]
    have HLT := Lib.hid htk
    clear htk
    have hrl : RdL W [row 5 zB (.slice (some ⟨g, 0, none⟩) (bs.length + 3) (bs.length + 3)) (bs.length + 3) ((lent bs).map B)] (some ⟨g, 0, none⟩) (bs.map B) := fun w' h => by
      have h1 := h.rd.take bs.length
      rw [← List.map_take, HLT.out] at h1
      exact h1
    go_wp2_with fail
    refine (open_any (some ⟨g, 0, none⟩) (bs.length + 3) bs hrl (by omega) H1).mono ?_
    rintro e w2 ⟨r, rfl, H2⟩
    go_wp2_with fail
    refine (xOpen_any A0 bs.length c0 H2).mono ?_
    rintro e w3 ⟨rfl, H3⟩
    generalize w2.heap.size = y at H3 ⊢
    have hkp := kept_any (some ⟨g, 0, none⟩) A0 c0 (lent bs) bs (RdL.tail (RdL.tail RdL.row)) (RdL.old hr0) (by omega) (by omega) H3
    rw [show (lent bs == lent bs) = true by simp, hlen] at hkp
    have HK := Lib.hid hkp
    clear hkp hlen hrl
    go_wp2_with fail
    refine HK.out.mono ?_
    rintro e w4 ⟨rfl, H4⟩
    have H5 := (H4.pull 2).shrink bs.length (by omega) (fun h => by cases h)
    have e5 : ((lent bs).map B).take (bs.length * zB.length) = bs.map B := by
      rw [show bs.length * zB.length = bs.length by simp [zB], ← List.map_take, HLT.out]
    rw [e5] at H5
    clear e5 HK H1 H2 H3 H4
    go_wp2_with fail
    refine (over_any (some ⟨g, 0, none⟩) (bs.length + 3) bs H5).mono ?_
    rintro e w5 ⟨rfl, ys, H6⟩
    have H7 : Sat W w5 [rdr r bs 0 0 0, yrd y A0 bs.length c0 0 0 0] := H6.tail.swap
    clear H5 H6
    go_wp2
    go_loopw [8] (fun i wc => ∃ (j pl : Nat) (fe fa : Int), j ≤ qs.length ∧ i = .int .i64 j ∧ pl ≤ bs.length ∧ (fe = 0 → fa = 0) ∧ Sat W wc [rdr r bs pl fe fa, yrd y A0 bs.length c0 pl fe fa]) (fun i _ => qs.length - (intOf i).toNat)
    case atStart => exact ⟨0, 0, 0, 0, by omega, rfl, by omega, fun _ => rfl, H7⟩
    case round =>
      obtain ⟨j, pl, fe, fa, hj, rfl, hpl, hf, H8⟩ := hrel
      clear H7
      by_cases hlt : j < qs.length
      · obtain ⟨q, hqj⟩ : ∃ q, qs[j]? = some q := ⟨_, List.getElem?_eq_getElem hlt⟩
        obtain ⟨b, o, rfl⟩ := qn_open hr j q hqj
        have hrq := (qn_at hr j q hqj).old H8
        have HQ : Hid ((Try.prog.info? 67).map (·.size) = some q.cs.length) := by show _ = _; kernel_rfl
        have HC : Hid ((#[.int .i64 0, .int .i64 0, .int .i64 0] : Array Value).size = q.cs.length) := by show _ = _; rfl
        have h1q : ∀ u ∈ q.cs, u.oneCell' = true := by
          intro u hu
          simp only [qn_eq, List.mem_cons, List.not_mem_nil, or_false] at hu
          rcases hu with rfl | rfl | rfl <;> rfl
        have H1Q := Lib.hid h1q
        clear h1q hqj
        have H9 : Sat W (wr.alloc (.cells #[.int .i64 0, .int .i64 0, .int .i64 0] 67)) (pt wr.heap.size #[.int .i64 0, .int .i64 0, .int .i64 0] 67 :: _) := H8.alloc _ _
        obtain ⟨qk, ql, qn⟩ := q
        have HF := Lib.hid hf
        clear hf
        have hkk : qk = 0 ∨ qk = 1 ∨ qk = 2 ∨ qk = 3 ∨ (¬ qk = 0 ∧ ¬ qk = 1 ∧ ¬ qk = 2 ∧ ¬ qk = 3) := by omega
        rcases hkk with rfl | rfl | rfl | rfl | ⟨h0, h1, h2, h3⟩
        · go_wp2_with (first
            | refine wpList_load_rd rfl (.tmp 44) 67 rfl b (o + j * 3) (Qn.cs ⟨0, ql, qn⟩) (by rw [Try.underlying67]) HQ.out (by simp [Act.eval]) hrq ?_
            | (refine wpList_store_pt rfl rfl (.tmp 9) (.tmp 45) 67 rfl wr.heap.size #[.int .i64 0, .int .i64 0, .int .i64 0] 67 (Qn.cs ⟨0, ql, qn⟩) HQ.out rfl rfl HC.out H1Q.out H9 ?_
               intro w16 H16
               have hc0 : w16.cell? ⟨wr.heap.size, 0, none⟩ = some (.int .i64 0) := H16.cell 0
               have hc1 : w16.cell? ⟨wr.heap.size, 1, none⟩ = some (.int .i64 ql) := H16.cell 1
               have hc2 : w16.cell? ⟨wr.heap.size, 2, none⟩ = some (.int .i64 qn) := H16.cell 2))
          obtain ⟨hpl', hf'⟩ := toldInt_inv bs pl fe fa ql qn 5 (by decide) hpl HF.out
          replace hf' := Lib.hid hf'
          go_wp2_with fail
          go_region_held3 (fun w' => w'.cell? ⟨wr.heap.size, 1, none⟩ = some (.int .i64 ql) ∧ w'.cell? ⟨wr.heap.size, 2, none⟩ = some (.int .i64 qn)) (exact ⟨‹_›, ‹_›⟩) (first
            | (go_at_call 32; refine (rInt_any r bs pl fe fa ql qn hpl (by omega) HF.out (H16.pull 1).drew).mono ?_; rintro e w17 ⟨rfl, H17⟩
               have d11 : w17.cell? ⟨wr.heap.size, 1, none⟩ = some (.int .i64 ql) := (H17.swap).cell 1
               have d12 : w17.cell? ⟨wr.heap.size, 2, none⟩ = some (.int .i64 qn) := (H17.swap).cell 2)
            | (go_at_call 41; refine (yInt_any y A0 c0 bs pl fe fa hpl (by omega) HF.out (RdL.old hr0) ql qn (H17.pull 2)).mono ?_; rintro e w20 ⟨rfl, H20⟩
               have d21 : w20.cell? ⟨wr.heap.size, 1, none⟩ = some (.int .i64 ql) := (H20.pull 2).cell 1
               have d22 : w20.cell? ⟨wr.heap.size, 2, none⟩ = some (.int .i64 qn) := (H20.pull 2).cell 2))
          generalize (toldInt bs pl fe fa ql qn 5).pl = pl' at H20 hpl'
          generalize (toldInt bs pl fe fa ql qn 5).fe = fe' at H20 hf'
          generalize (toldInt bs pl fe fa ql qn 5).fa = fa' at H20 hf'
          go_wp2_with fail
          have y01 : w20.cell? ⟨y, 1, none⟩ = some (.int .i64 pl') := (H20).cell 1
          have y02 : w20.cell? ⟨y, 2, none⟩ = some (.int .i64 fe') := (H20).cell 2
          have y03 : w20.cell? ⟨y, 3, none⟩ = some (.int .i64 fa') := (H20).cell 3
          go_region_held3 (fun w' => w'.cell? ⟨y, 1, none⟩ = some (.int .i64 pl') ∧ w'.cell? ⟨y, 2, none⟩ = some (.int .i64 fe') ∧ w'.cell? ⟨y, 3, none⟩ = some (.int .i64 fa')) (exact ⟨‹_›, ‹_›, ‹_›⟩) (first
            | (go_at_call 33; refine (rAt_any r bs pl' fe' fa' H20.drew.swap).mono ?_; rintro e _ ⟨rfl, rfl⟩)
            | (go_at_call 36; refine (rLeft_any r bs pl' fe' fa' hpl' (by omega) H20.drew.swap).mono ?_; rintro e w21 ⟨rfl, H21⟩
               have y11 : w21.cell? ⟨y, 1, none⟩ = some (.int .i64 pl') := (H21.swap).cell 1
               have y12 : w21.cell? ⟨y, 2, none⟩ = some (.int .i64 fe') := (H21.swap).cell 2
               have y13 : w21.cell? ⟨y, 3, none⟩ = some (.int .i64 fa') := (H21.swap).cell 3)
            | (go_at_call 47; refine (yLeft_any y A0 c0 bs pl' fe' fa' hpl' (by omega) H21.swap).mono ?_; rintro e w22 ⟨rfl, H22⟩
               have y21 : w22.cell? ⟨y, 1, none⟩ = some (.int .i64 pl') := (H22).cell 1
               have y22 : w22.cell? ⟨y, 2, none⟩ = some (.int .i64 fe') := (H22).cell 2
               have y23 : w22.cell? ⟨y, 3, none⟩ = some (.int .i64 fa') := (H22).cell 3)
            | (go_at_call 34; refine (rFault_any r bs pl' fe' fa' H22.swap).mono ?_; rintro e w23 ⟨rfl, H23⟩
               have y31 : w23.cell? ⟨y, 1, none⟩ = some (.int .i64 pl') := (H23.swap).cell 1
               have y32 : w23.cell? ⟨y, 2, none⟩ = some (.int .i64 fe') := (H23.swap).cell 2
               have y33 : w23.cell? ⟨y, 3, none⟩ = some (.int .i64 fa') := (H23.swap).cell 3)
            | (go_at_call 48; refine (rEnd_any r bs pl' fe' fa' hpl' (by omega) H23).mono ?_; rintro e w24 ⟨rfl, H24⟩
               have y41 : w24.cell? ⟨y, 1, none⟩ = some (.int .i64 pl') := (H24.swap).cell 1
               have y42 : w24.cell? ⟨y, 2, none⟩ = some (.int .i64 fe') := (H24.swap).cell 2
               have y43 : w24.cell? ⟨y, 3, none⟩ = some (.int .i64 fa') := (H24.swap).cell 3)
            | (go_at_call 49; refine (yEnd_any y A0 c0 bs pl' fe' fa' hpl' H24.swap).mono ?_; rintro e w25 ⟨rfl, H25⟩
               have y51 : w25.cell? ⟨y, 1, none⟩ = some (.int .i64 pl') := (H25).cell 1
               have y52 : w25.cell? ⟨y, 2, none⟩ = some (.int .i64 fe') := (H25).cell 2
               have y53 : w25.cell? ⟨y, 3, none⟩ = some (.int .i64 fa') := (H25).cell 3))
          go_wp2
          exact ⟨⟨j + 1, pl', fe', fa', by omega, by go_num, hpl', hf'.out, H25.swap.takes 2⟩, by simp [intOf]; omega⟩
        · go_wp2_with (first
            | refine wpList_load_rd rfl (.tmp 44) 67 rfl b (o + j * 3) (Qn.cs ⟨1, ql, qn⟩) (by rw [Try.underlying67]) HQ.out (by simp [Act.eval]) hrq ?_
            | (refine wpList_store_pt rfl rfl (.tmp 9) (.tmp 45) 67 rfl wr.heap.size #[.int .i64 0, .int .i64 0, .int .i64 0] 67 (Qn.cs ⟨1, ql, qn⟩) HQ.out rfl rfl HC.out H1Q.out H9 ?_
               intro w16 H16
               have hc0 : w16.cell? ⟨wr.heap.size, 0, none⟩ = some (.int .i64 1) := H16.cell 0
               have hc1 : w16.cell? ⟨wr.heap.size, 1, none⟩ = some (.int .i64 ql) := H16.cell 1
               have hc2 : w16.cell? ⟨wr.heap.size, 2, none⟩ = some (.int .i64 qn) := H16.cell 2))
          obtain ⟨hpl', hf'⟩ := toldInt_inv bs pl fe fa 0 qn 3 (by decide) hpl HF.out
          replace hf' := Lib.hid hf'
          go_wp2_with fail
          go_region_held3 (fun w' => w'.cell? ⟨wr.heap.size, 2, none⟩ = some (.int .i64 qn)) (assumption) (first
            | (go_at_call 42; refine (rCount_any r bs pl fe fa qn hpl (by omega) HF.out (H16.pull 1).drew).mono ?_; rintro e w17 ⟨rfl, H17⟩
               have d12 : w17.cell? ⟨wr.heap.size, 2, none⟩ = some (.int .i64 qn) := (H17.swap).cell 2)
            | (go_at_call 43; refine (yCount_any y A0 c0 bs pl fe fa hpl (by omega) HF.out (RdL.old hr0) qn (H17.pull 2)).mono ?_; rintro e w20 ⟨rfl, H20⟩
               have d22 : w20.cell? ⟨wr.heap.size, 2, none⟩ = some (.int .i64 qn) := (H20.pull 2).cell 2))
          generalize (toldInt bs pl fe fa 0 qn 3).pl = pl' at H20 hpl'
          generalize (toldInt bs pl fe fa 0 qn 3).fe = fe' at H20 hf'
          generalize (toldInt bs pl fe fa 0 qn 3).fa = fa' at H20 hf'
          go_wp2_with fail
          have y01 : w20.cell? ⟨y, 1, none⟩ = some (.int .i64 pl') := (H20).cell 1
          have y02 : w20.cell? ⟨y, 2, none⟩ = some (.int .i64 fe') := (H20).cell 2
          have y03 : w20.cell? ⟨y, 3, none⟩ = some (.int .i64 fa') := (H20).cell 3
          go_region_held3 (fun w' => w'.cell? ⟨y, 1, none⟩ = some (.int .i64 pl') ∧ w'.cell? ⟨y, 2, none⟩ = some (.int .i64 fe') ∧ w'.cell? ⟨y, 3, none⟩ = some (.int .i64 fa')) (exact ⟨‹_›, ‹_›, ‹_›⟩) (first
            | (go_at_call 33; refine (rAt_any r bs pl' fe' fa' H20.drew.swap).mono ?_; rintro e _ ⟨rfl, rfl⟩)
            | (go_at_call 36; refine (rLeft_any r bs pl' fe' fa' hpl' (by omega) H20.drew.swap).mono ?_; rintro e w21 ⟨rfl, H21⟩
               have y11 : w21.cell? ⟨y, 1, none⟩ = some (.int .i64 pl') := (H21.swap).cell 1
               have y12 : w21.cell? ⟨y, 2, none⟩ = some (.int .i64 fe') := (H21.swap).cell 2
               have y13 : w21.cell? ⟨y, 3, none⟩ = some (.int .i64 fa') := (H21.swap).cell 3)
            | (go_at_call 47; refine (yLeft_any y A0 c0 bs pl' fe' fa' hpl' (by omega) H21.swap).mono ?_; rintro e w22 ⟨rfl, H22⟩
               have y21 : w22.cell? ⟨y, 1, none⟩ = some (.int .i64 pl') := (H22).cell 1
               have y22 : w22.cell? ⟨y, 2, none⟩ = some (.int .i64 fe') := (H22).cell 2
               have y23 : w22.cell? ⟨y, 3, none⟩ = some (.int .i64 fa') := (H22).cell 3)
            | (go_at_call 34; refine (rFault_any r bs pl' fe' fa' H22.swap).mono ?_; rintro e w23 ⟨rfl, H23⟩
               have y31 : w23.cell? ⟨y, 1, none⟩ = some (.int .i64 pl') := (H23.swap).cell 1
               have y32 : w23.cell? ⟨y, 2, none⟩ = some (.int .i64 fe') := (H23.swap).cell 2
               have y33 : w23.cell? ⟨y, 3, none⟩ = some (.int .i64 fa') := (H23.swap).cell 3)
            | (go_at_call 48; refine (rEnd_any r bs pl' fe' fa' hpl' (by omega) H23).mono ?_; rintro e w24 ⟨rfl, H24⟩
               have y41 : w24.cell? ⟨y, 1, none⟩ = some (.int .i64 pl') := (H24.swap).cell 1
               have y42 : w24.cell? ⟨y, 2, none⟩ = some (.int .i64 fe') := (H24.swap).cell 2
               have y43 : w24.cell? ⟨y, 3, none⟩ = some (.int .i64 fa') := (H24.swap).cell 3)
            | (go_at_call 49; refine (yEnd_any y A0 c0 bs pl' fe' fa' hpl' H24.swap).mono ?_; rintro e w25 ⟨rfl, H25⟩
               have y51 : w25.cell? ⟨y, 1, none⟩ = some (.int .i64 pl') := (H25).cell 1
               have y52 : w25.cell? ⟨y, 2, none⟩ = some (.int .i64 fe') := (H25).cell 2
               have y53 : w25.cell? ⟨y, 3, none⟩ = some (.int .i64 fa') := (H25).cell 3))
          go_wp2
          exact ⟨⟨j + 1, pl', fe', fa', by omega, by go_num, hpl', hf'.out, H25.swap.takes 2⟩, by simp [intOf]; omega⟩
        · go_wp2_with (first
            | refine wpList_load_rd rfl (.tmp 44) 67 rfl b (o + j * 3) (Qn.cs ⟨2, ql, qn⟩) (by rw [Try.underlying67]) HQ.out (by simp [Act.eval]) hrq ?_
            | (refine wpList_store_pt rfl rfl (.tmp 9) (.tmp 45) 67 rfl wr.heap.size #[.int .i64 0, .int .i64 0, .int .i64 0] 67 (Qn.cs ⟨2, ql, qn⟩) HQ.out rfl rfl HC.out H1Q.out H9 ?_
               intro w16 H16
               have hc0 : w16.cell? ⟨wr.heap.size, 0, none⟩ = some (.int .i64 2) := H16.cell 0
               have hc1 : w16.cell? ⟨wr.heap.size, 1, none⟩ = some (.int .i64 ql) := H16.cell 1
               have hc2 : w16.cell? ⟨wr.heap.size, 2, none⟩ = some (.int .i64 qn) := H16.cell 2))
          obtain ⟨hpl', hf'⟩ := toldTxt_inv bs pl fe fa qn hpl HF.out
          replace hf' := Lib.hid hf'
          go_wp2_with fail
          go_region_held3 (fun w' => w'.cell? ⟨wr.heap.size, 2, none⟩ = some (.int .i64 qn)) (assumption) (first
            | (go_at_call 35; refine (rText_any r bs pl fe fa qn hpl (by omega) HF.out (H16.pull 1).drew).mono ?_; rintro e w17 ⟨rfl, H17⟩
               have d12 : w17.cell? ⟨wr.heap.size, 2, none⟩ = some (.int .i64 qn) := (H17.swap).cell 2)
            | (go_at_call 44; refine (yText_any y A0 c0 bs pl fe fa hpl (by omega) HF.out HAA.out (RdL.old hr0) qn (H17.pull 2)).mono ?_; rintro e w20 ⟨rfl, H20⟩
               have d22 : w20.cell? ⟨wr.heap.size, 2, none⟩ = some (.int .i64 qn) := (H20.pull 2).cell 2))
          generalize (toldTxt bs pl fe fa qn).pl = pl' at H20 hpl'
          generalize (toldTxt bs pl fe fa qn).fe = fe' at H20 hf'
          generalize (toldTxt bs pl fe fa qn).fa = fa' at H20 hf'
          go_wp2_with fail
          have y01 : w20.cell? ⟨y, 1, none⟩ = some (.int .i64 pl') := (H20).cell 1
          have y02 : w20.cell? ⟨y, 2, none⟩ = some (.int .i64 fe') := (H20).cell 2
          have y03 : w20.cell? ⟨y, 3, none⟩ = some (.int .i64 fa') := (H20).cell 3
          go_region_held3 (fun w' => w'.cell? ⟨y, 1, none⟩ = some (.int .i64 pl') ∧ w'.cell? ⟨y, 2, none⟩ = some (.int .i64 fe') ∧ w'.cell? ⟨y, 3, none⟩ = some (.int .i64 fa')) (exact ⟨‹_›, ‹_›, ‹_›⟩) (first
            | (go_at_call 33; refine (rAt_any r bs pl' fe' fa' H20.drew.swap).mono ?_; rintro e _ ⟨rfl, rfl⟩)
            | (go_at_call 36; refine (rLeft_any r bs pl' fe' fa' hpl' (by omega) H20.drew.swap).mono ?_; rintro e w21 ⟨rfl, H21⟩
               have y11 : w21.cell? ⟨y, 1, none⟩ = some (.int .i64 pl') := (H21.swap).cell 1
               have y12 : w21.cell? ⟨y, 2, none⟩ = some (.int .i64 fe') := (H21.swap).cell 2
               have y13 : w21.cell? ⟨y, 3, none⟩ = some (.int .i64 fa') := (H21.swap).cell 3)
            | (go_at_call 47; refine (yLeft_any y A0 c0 bs pl' fe' fa' hpl' (by omega) H21.swap).mono ?_; rintro e w22 ⟨rfl, H22⟩
               have y21 : w22.cell? ⟨y, 1, none⟩ = some (.int .i64 pl') := (H22).cell 1
               have y22 : w22.cell? ⟨y, 2, none⟩ = some (.int .i64 fe') := (H22).cell 2
               have y23 : w22.cell? ⟨y, 3, none⟩ = some (.int .i64 fa') := (H22).cell 3)
            | (go_at_call 34; refine (rFault_any r bs pl' fe' fa' H22.swap).mono ?_; rintro e w23 ⟨rfl, H23⟩
               have y31 : w23.cell? ⟨y, 1, none⟩ = some (.int .i64 pl') := (H23.swap).cell 1
               have y32 : w23.cell? ⟨y, 2, none⟩ = some (.int .i64 fe') := (H23.swap).cell 2
               have y33 : w23.cell? ⟨y, 3, none⟩ = some (.int .i64 fa') := (H23.swap).cell 3)
            | (go_at_call 48; refine (rEnd_any r bs pl' fe' fa' hpl' (by omega) H23).mono ?_; rintro e w24 ⟨rfl, H24⟩
               have y41 : w24.cell? ⟨y, 1, none⟩ = some (.int .i64 pl') := (H24.swap).cell 1
               have y42 : w24.cell? ⟨y, 2, none⟩ = some (.int .i64 fe') := (H24.swap).cell 2
               have y43 : w24.cell? ⟨y, 3, none⟩ = some (.int .i64 fa') := (H24.swap).cell 3)
            | (go_at_call 49; refine (yEnd_any y A0 c0 bs pl' fe' fa' hpl' H24.swap).mono ?_; rintro e w25 ⟨rfl, H25⟩
               have y51 : w25.cell? ⟨y, 1, none⟩ = some (.int .i64 pl') := (H25).cell 1
               have y52 : w25.cell? ⟨y, 2, none⟩ = some (.int .i64 fe') := (H25).cell 2
               have y53 : w25.cell? ⟨y, 3, none⟩ = some (.int .i64 fa') := (H25).cell 3))
          go_wp2
          exact ⟨⟨j + 1, pl', fe', fa', by omega, by go_num, hpl', hf'.out, H25.swap.takes 2⟩, by simp [intOf]; omega⟩
        · go_wp2_with (first
            | refine wpList_load_rd rfl (.tmp 44) 67 rfl b (o + j * 3) (Qn.cs ⟨3, ql, qn⟩) (by rw [Try.underlying67]) HQ.out (by simp [Act.eval]) hrq ?_
            | (refine wpList_store_pt rfl rfl (.tmp 9) (.tmp 45) 67 rfl wr.heap.size #[.int .i64 0, .int .i64 0, .int .i64 0] 67 (Qn.cs ⟨3, ql, qn⟩) HQ.out rfl rfl HC.out H1Q.out H9 ?_
               intro w16 H16
               have hc0 : w16.cell? ⟨wr.heap.size, 0, none⟩ = some (.int .i64 3) := H16.cell 0
               have hc1 : w16.cell? ⟨wr.heap.size, 1, none⟩ = some (.int .i64 ql) := H16.cell 1
               have hc2 : w16.cell? ⟨wr.heap.size, 2, none⟩ = some (.int .i64 qn) := H16.cell 2))
          obtain ⟨hpl', hf'⟩ := toldID_inv bs pl fe fa hpl HF.out
          replace hf' := Lib.hid hf'
          have hl32 := toldID_len bs pl fe fa
          refine (rID_any r bs pl fe fa hpl (by omega) HF.out (H16.pull 1)).mono ?_
          rintro e w17 ⟨rfl, H17⟩
          go_wp2_with fail
          refine (yID_any y A0 c0 bs pl fe fa hpl (by omega) HF.out HAA.out (RdL.old hr0) (H17.pull 2)).mono ?_
          rintro e w20 ⟨rfl, H20⟩
          generalize (toldID bs pl fe fa).pl = pl' at H20 hpl'
          generalize (toldID bs pl fe fa).fe = fe' at H20 hf'
          generalize (toldID bs pl fe fa).fa = fa' at H20 hf'
          generalize (toldID bs pl fe fa).d = dd at hl32 ⊢
          obtain ⟨iU, hiU, _, _, _⟩ := info_parts infoU8
          have HcU : Hid (Try.prog.cellsOf 5 = 1) := by show _ = _; kernel_rfl
          have hself : (dd == dd) = true := by simp
          go_wp2_with (refine wpList_eqb (by rfl) (.tmp 88) (.tmp 90) 33 33 false rfl 5 32 iU Try.underlying33 hiU HcU.out Try.underlying5 (by kernel_rfl) dd dd hl32 hl32 rfl rfl ?_
                       rw [hself])
          clear hself
          go_wp2_with fail
          have y01 : w20.cell? ⟨y, 1, none⟩ = some (.int .i64 pl') := (H20).cell 1
          have y02 : w20.cell? ⟨y, 2, none⟩ = some (.int .i64 fe') := (H20).cell 2
          have y03 : w20.cell? ⟨y, 3, none⟩ = some (.int .i64 fa') := (H20).cell 3
          go_region_held3 (fun w' => w'.cell? ⟨y, 1, none⟩ = some (.int .i64 pl') ∧ w'.cell? ⟨y, 2, none⟩ = some (.int .i64 fe') ∧ w'.cell? ⟨y, 3, none⟩ = some (.int .i64 fa')) (exact ⟨‹_›, ‹_›, ‹_›⟩) (first
            | (go_at_call 33; refine (rAt_any r bs pl' fe' fa' H20.drew.swap).mono ?_; rintro e _ ⟨rfl, rfl⟩)
            | (go_at_call 36; refine (rLeft_any r bs pl' fe' fa' hpl' (by omega) H20.drew.swap).mono ?_; rintro e w21 ⟨rfl, H21⟩
               have y11 : w21.cell? ⟨y, 1, none⟩ = some (.int .i64 pl') := (H21.swap).cell 1
               have y12 : w21.cell? ⟨y, 2, none⟩ = some (.int .i64 fe') := (H21.swap).cell 2
               have y13 : w21.cell? ⟨y, 3, none⟩ = some (.int .i64 fa') := (H21.swap).cell 3)
            | (go_at_call 47; refine (yLeft_any y A0 c0 bs pl' fe' fa' hpl' (by omega) H21.swap).mono ?_; rintro e w22 ⟨rfl, H22⟩
               have y21 : w22.cell? ⟨y, 1, none⟩ = some (.int .i64 pl') := (H22).cell 1
               have y22 : w22.cell? ⟨y, 2, none⟩ = some (.int .i64 fe') := (H22).cell 2
               have y23 : w22.cell? ⟨y, 3, none⟩ = some (.int .i64 fa') := (H22).cell 3)
            | (go_at_call 34; refine (rFault_any r bs pl' fe' fa' H22.swap).mono ?_; rintro e w23 ⟨rfl, H23⟩
               have y31 : w23.cell? ⟨y, 1, none⟩ = some (.int .i64 pl') := (H23.swap).cell 1
               have y32 : w23.cell? ⟨y, 2, none⟩ = some (.int .i64 fe') := (H23.swap).cell 2
               have y33 : w23.cell? ⟨y, 3, none⟩ = some (.int .i64 fa') := (H23.swap).cell 3)
            | (go_at_call 48; refine (rEnd_any r bs pl' fe' fa' hpl' (by omega) H23).mono ?_; rintro e w24 ⟨rfl, H24⟩
               have y41 : w24.cell? ⟨y, 1, none⟩ = some (.int .i64 pl') := (H24.swap).cell 1
               have y42 : w24.cell? ⟨y, 2, none⟩ = some (.int .i64 fe') := (H24.swap).cell 2
               have y43 : w24.cell? ⟨y, 3, none⟩ = some (.int .i64 fa') := (H24.swap).cell 3)
            | (go_at_call 49; refine (yEnd_any y A0 c0 bs pl' fe' fa' hpl' H24.swap).mono ?_; rintro e w25 ⟨rfl, H25⟩
               have y51 : w25.cell? ⟨y, 1, none⟩ = some (.int .i64 pl') := (H25).cell 1
               have y52 : w25.cell? ⟨y, 2, none⟩ = some (.int .i64 fe') := (H25).cell 2
               have y53 : w25.cell? ⟨y, 3, none⟩ = some (.int .i64 fa') := (H25).cell 3))
          go_wp2
          exact ⟨⟨j + 1, pl', fe', fa', by omega, by go_num, hpl', hf'.out, H25.swap.takes 2⟩, by simp [intOf]; omega⟩
        · have i0 : (qk == 0) = false := by simpa using h0
          have i1 : (qk == 1) = false := by simpa using h1
          have i2 : (qk == 2) = false := by simpa using h2
          have i3 : (qk == 3) = false := by simpa using h3
          go_wp2_with (first
            | refine wpList_load_rd rfl (.tmp 44) 67 rfl b (o + j * 3) (Qn.cs ⟨qk, ql, qn⟩) (by rw [Try.underlying67]) HQ.out (by simp [Act.eval]) hrq ?_
            | (refine wpList_store_pt rfl rfl (.tmp 9) (.tmp 45) 67 rfl wr.heap.size #[.int .i64 0, .int .i64 0, .int .i64 0] 67 (Qn.cs ⟨qk, ql, qn⟩) HQ.out rfl rfl HC.out H1Q.out H9 ?_
               intro w16 H16
               have hc0 : w16.cell? ⟨wr.heap.size, 0, none⟩ = some (.int .i64 qk) := H16.cell 0
               have hc1 : w16.cell? ⟨wr.heap.size, 1, none⟩ = some (.int .i64 ql) := H16.cell 1
               have hc2 : w16.cell? ⟨wr.heap.size, 2, none⟩ = some (.int .i64 qn) := H16.cell 2))
          have H20 : Sat W w16 [yrd y A0 bs.length c0 pl fe fa, rdr r bs pl fe fa, _] := (H16.pull 1).pull 2
          have hf' := HF
          obtain ⟨pl', rfl⟩ : ∃ pl', pl' = pl := ⟨_, rfl⟩
          obtain ⟨fe', rfl⟩ : ∃ fe', fe' = fe := ⟨_, rfl⟩
          obtain ⟨fa', rfl⟩ : ∃ fa', fa' = fa := ⟨_, rfl⟩
          have hpl' := hpl
          generalize w16 = w20 at *
          go_wp2_with fail
          have y01 : w20.cell? ⟨y, 1, none⟩ = some (.int .i64 pl') := (H20).cell 1
          have y02 : w20.cell? ⟨y, 2, none⟩ = some (.int .i64 fe') := (H20).cell 2
          have y03 : w20.cell? ⟨y, 3, none⟩ = some (.int .i64 fa') := (H20).cell 3
          go_region_held3 (fun w' => w'.cell? ⟨y, 1, none⟩ = some (.int .i64 pl') ∧ w'.cell? ⟨y, 2, none⟩ = some (.int .i64 fe') ∧ w'.cell? ⟨y, 3, none⟩ = some (.int .i64 fa')) (exact ⟨‹_›, ‹_›, ‹_›⟩) (first
            | (go_at_call 33; refine (rAt_any r bs pl' fe' fa' H20.drew.swap).mono ?_; rintro e _ ⟨rfl, rfl⟩)
            | (go_at_call 36; refine (rLeft_any r bs pl' fe' fa' hpl' (by omega) H20.drew.swap).mono ?_; rintro e w21 ⟨rfl, H21⟩
               have y11 : w21.cell? ⟨y, 1, none⟩ = some (.int .i64 pl') := (H21.swap).cell 1
               have y12 : w21.cell? ⟨y, 2, none⟩ = some (.int .i64 fe') := (H21.swap).cell 2
               have y13 : w21.cell? ⟨y, 3, none⟩ = some (.int .i64 fa') := (H21.swap).cell 3)
            | (go_at_call 47; refine (yLeft_any y A0 c0 bs pl' fe' fa' hpl' (by omega) H21.swap).mono ?_; rintro e w22 ⟨rfl, H22⟩
               have y21 : w22.cell? ⟨y, 1, none⟩ = some (.int .i64 pl') := (H22).cell 1
               have y22 : w22.cell? ⟨y, 2, none⟩ = some (.int .i64 fe') := (H22).cell 2
               have y23 : w22.cell? ⟨y, 3, none⟩ = some (.int .i64 fa') := (H22).cell 3)
            | (go_at_call 34; refine (rFault_any r bs pl' fe' fa' H22.swap).mono ?_; rintro e w23 ⟨rfl, H23⟩
               have y31 : w23.cell? ⟨y, 1, none⟩ = some (.int .i64 pl') := (H23.swap).cell 1
               have y32 : w23.cell? ⟨y, 2, none⟩ = some (.int .i64 fe') := (H23.swap).cell 2
               have y33 : w23.cell? ⟨y, 3, none⟩ = some (.int .i64 fa') := (H23.swap).cell 3)
            | (go_at_call 48; refine (rEnd_any r bs pl' fe' fa' hpl' (by omega) H23).mono ?_; rintro e w24 ⟨rfl, H24⟩
               have y41 : w24.cell? ⟨y, 1, none⟩ = some (.int .i64 pl') := (H24.swap).cell 1
               have y42 : w24.cell? ⟨y, 2, none⟩ = some (.int .i64 fe') := (H24.swap).cell 2
               have y43 : w24.cell? ⟨y, 3, none⟩ = some (.int .i64 fa') := (H24.swap).cell 3)
            | (go_at_call 49; refine (yEnd_any y A0 c0 bs pl' fe' fa' hpl' H24.swap).mono ?_; rintro e w25 ⟨rfl, H25⟩
               have y51 : w25.cell? ⟨y, 1, none⟩ = some (.int .i64 pl') := (H25).cell 1
               have y52 : w25.cell? ⟨y, 2, none⟩ = some (.int .i64 fe') := (H25).cell 2
               have y53 : w25.cell? ⟨y, 3, none⟩ = some (.int .i64 fa') := (H25).cell 3))
          go_wp2
          exact ⟨⟨j + 1, pl', fe', fa', by omega, by go_num, hpl', hf'.out, H25.swap.takes 2⟩, by simp [intOf]; omega⟩
      · go_wp2_with fail
        refine (awake_any H8).mono ?_
        rintro e w9 ⟨rfl, H9⟩
        go_wp2
        go_ret
        exact ⟨rfl, H9.takes 0⟩
end Go.Proofs.Ytkfeejlpgcmilaa
