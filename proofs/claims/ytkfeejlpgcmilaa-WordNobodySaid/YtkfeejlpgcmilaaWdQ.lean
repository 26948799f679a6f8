/- The laws' own helper over package word: one thing is asked. -/
import Derived.Test.YtkfeejlpgcmilaaWdN
import Derived.Test.YtkfeejlpgcmilaaWdI
import Derived.Laws.Rows
namespace Go.Proofs.Ytkfeejlpgcmilaa
open Go.RowKit Go.Rt

theorem th_size (x : Th) (hd : x.d.length = 32) : (Try.prog.info? 35).map (·.size) = some x.cs.length := by
  rw [show x.cs.length = 35 by simp [Th.cs, hd]]; kernel_rfl
theorem th_one (x : Th) : ∀ u ∈ x.cs, u.oneCell' = true := by
  intro u hu
  simp only [Th.cs, List.mem_cons] at hu
  rcases hu with rfl | rfl | rfl | hu
  · rfl
  · rfl
  · rfl
  · exact B_one _ u hu

/-- What is asked for: its kind, its least and its greatest number. -/
structure Qn where
  k : Int
  low : Int
  n : Int
def Qn.cs (x : Qn) : List Value := [.int .i64 x.k, .int .i64 x.low, .int .i64 x.n]
def Qn.v (x : Qn) : Value := .agg x.cs.toArray
/-- What is told and what the reader becomes. -/
structure ToldA where
  x : Th
  pl : Nat
  fe : Int
  fa : Int
def toldA (bs : List UInt8) (pl : Nat) (fe fa : Int) (q : Qn) : ToldA :=
  if q.k = 0 then ⟨⟨0, (toldInt bs pl fe fa q.low q.n 5).n, ⟨#[]⟩, noID⟩, (toldInt bs pl fe fa q.low q.n 5).pl, (toldInt bs pl fe fa q.low q.n 5).fe, (toldInt bs pl fe fa q.low q.n 5).fa⟩
  else if q.k = 1 then ⟨⟨0, (toldInt bs pl fe fa 0 q.n 3).n, ⟨#[]⟩, noID⟩, (toldInt bs pl fe fa 0 q.n 3).pl, (toldInt bs pl fe fa 0 q.n 3).fe, (toldInt bs pl fe fa 0 q.n 3).fa⟩
  else if q.k = 2 then ⟨⟨1, 0, ⟨(toldTxt bs pl fe fa q.n).s.toArray⟩, noID⟩, (toldTxt bs pl fe fa q.n).pl, (toldTxt bs pl fe fa q.n).fe, (toldTxt bs pl fe fa q.n).fa⟩
  else if q.k = 3 then ⟨⟨2, 0, ⟨#[]⟩, (toldID bs pl fe fa).d⟩, (toldID bs pl fe fa).pl, (toldID bs pl fe fa).fe, (toldID bs pl fe fa).fa⟩
  else ⟨⟨3, 0, ⟨#[]⟩, noID⟩, pl, fe, fa⟩

set_option maxRecDepth 100000 in
set_option maxHeartbeats 1600000 in
theorem ask_any {W w : World} {l : List SL} (p : Nat) (bs : List UInt8) (pl : Nat) (fe fa : Int) (q : Qn) (hp : pl ≤ bs.length) (hb : bs.length ≤ 1000000000) (hf : fe = 0 → fa = 0)
    (H : Sat W w (rdr p bs pl fe fa :: l)) :
    Calls Try.prog 50 #[.pointer (some ⟨p, 0, none⟩), q.v] w fun e w' =>
      e = .returned (toldA bs pl fe fa q).x.v ∧ Sat W w' (rdr p bs (toldA bs pl fe fa q).pl (toldA bs pl fe fa q).fe (toldA bs pl fe fa q).fa :: l) := by
  obtain ⟨k, low, n⟩ := q
  obtain ⟨T, HT⟩ : ∃ T, Hid (toldA bs pl fe fa ⟨k, low, n⟩ = T) := ⟨_, rfl⟩
  rw [HT.out]
  have H0 : Sat W ((w.alloc (.cells #[.int .i64 k, .int .i64 low, .int .i64 n] 67)).alloc (.cells (Th.mk 0 0 ⟨#[]⟩ noID).cs.toArray 35)) (rdr p bs pl fe fa :: pt (w.alloc (.cells #[.int .i64 k, .int .i64 low, .int .i64 n] 67)).heap.size (Th.mk 0 0 ⟨#[]⟩ noID).cs.toArray 35 :: l) := ((H.alloc' _).alloc _ _).swap
  show Calls Try.prog 50 #[.pointer (some ⟨p, 0, none⟩), .agg #[.int .i64 k, .int .i64 low, .int .i64 n]] w _
  have hkk : k = 0 ∨ k = 1 ∨ k = 2 ∨ k = 3 ∨ (¬ k = 0 ∧ ¬ k = 1 ∧ ¬ k = 2 ∧ ¬ k = 3) := by omega
  simp only [World.size_alloc] at H0
  have hC35 : ∀ x : Th, x.d.length = 32 → (Th.mk 0 0 ⟨#[]⟩ noID).cs.toArray.size = x.cs.length := fun x hx => by
    rw [show x.cs.length = 35 by simp [Th.cs, hx]]; rfl
  rcases hkk with rfl | rfl | rfl | rfl | ⟨h0, h1, h2, h3⟩
  · have hT := HT.out
    simp [toldA] at hT
    subst hT
    dsimp only
    clear HT
    go_enter Try.func50, Try.ntmps50
    go_wp2_with fail
    refine (rInt_any p bs pl fe fa low n hp hb hf H0).mono ?_
    rintro e w1 ⟨rfl, H1⟩
    have HC := Lib.hid (hC35 ⟨0, (toldInt bs pl fe fa low n 5).n, ⟨#[]⟩, noID⟩ rfl)
    have HZ := Lib.hid (th_size ⟨0, (toldInt bs pl fe fa low n 5).n, ⟨#[]⟩, noID⟩ rfl)
    generalize w.heap.size + 1 = b at H1 ⊢
    go_wp2_with (refine wpList_store_pt rfl rfl (.tmp 4) (.tmp 15) 35 rfl b (Th.mk 0 0 ⟨#[]⟩ noID).cs.toArray 35 (Th.cs ⟨0, (toldInt bs pl fe fa low n 5).n, ⟨#[]⟩, noID⟩) HZ.out rfl rfl HC.out (th_one _) H1.swap ?_
                 intro w3 H3)
    exact bodyPost_ret (v := Th.v ⟨0, (toldInt bs pl fe fa low n 5).n, ⟨#[]⟩, noID⟩) (results_cell_row Try.results50 _ w3 b 35 (Th.cs ⟨0, (toldInt bs pl fe fa low n 5).n, ⟨#[]⟩, noID⟩).toArray (0, 0) _ rfl H3.heap Try.underlying35 rfl (by simpa using HZ.out)) rfl ⟨rfl, H3.tail⟩
  · have hT := HT.out
    simp [toldA] at hT
    subst hT
    dsimp only
    clear HT
    go_enter Try.func50, Try.ntmps50
    go_wp2_with fail
    refine (rCount_any p bs pl fe fa n hp hb hf H0).mono ?_
    rintro e w1 ⟨rfl, H1⟩
    have HC := Lib.hid (hC35 ⟨0, (toldInt bs pl fe fa 0 n 3).n, ⟨#[]⟩, noID⟩ rfl)
    have HZ := Lib.hid (th_size ⟨0, (toldInt bs pl fe fa 0 n 3).n, ⟨#[]⟩, noID⟩ rfl)
    generalize w.heap.size + 1 = b at H1 ⊢
    go_wp2_with (refine wpList_store_pt rfl rfl (.tmp 4) (.tmp 22) 35 rfl b (Th.mk 0 0 ⟨#[]⟩ noID).cs.toArray 35 (Th.cs ⟨0, (toldInt bs pl fe fa 0 n 3).n, ⟨#[]⟩, noID⟩) HZ.out rfl rfl HC.out (th_one _) H1.swap ?_
                 intro w3 H3)
    exact bodyPost_ret (v := Th.v ⟨0, (toldInt bs pl fe fa 0 n 3).n, ⟨#[]⟩, noID⟩) (results_cell_row Try.results50 _ w3 b 35 (Th.cs ⟨0, (toldInt bs pl fe fa 0 n 3).n, ⟨#[]⟩, noID⟩).toArray (0, 0) _ rfl H3.heap Try.underlying35 rfl (by simpa using HZ.out)) rfl ⟨rfl, H3.tail⟩
  · have hT := HT.out
    simp [toldA] at hT
    subst hT
    dsimp only
    clear HT
    go_enter Try.func50, Try.ntmps50
    go_wp2_with fail
    refine (rText_any p bs pl fe fa n hp hb hf H0).mono ?_
    rintro e w1 ⟨rfl, H1⟩
    have HC := Lib.hid (hC35 ⟨1, 0, ⟨(toldTxt bs pl fe fa n).s.toArray⟩, noID⟩ rfl)
    have HZ := Lib.hid (th_size ⟨1, 0, ⟨(toldTxt bs pl fe fa n).s.toArray⟩, noID⟩ rfl)
    generalize w.heap.size + 1 = b at H1 ⊢
    go_wp2_with (refine wpList_store_pt rfl rfl (.tmp 4) (.tmp 29) 35 rfl b (Th.mk 0 0 ⟨#[]⟩ noID).cs.toArray 35 (Th.cs ⟨1, 0, ⟨(toldTxt bs pl fe fa n).s.toArray⟩, noID⟩) HZ.out rfl rfl HC.out (th_one _) H1.swap ?_
                 intro w3 H3)
    exact bodyPost_ret (v := Th.v ⟨1, 0, ⟨(toldTxt bs pl fe fa n).s.toArray⟩, noID⟩) (results_cell_row Try.results50 _ w3 b 35 (Th.cs ⟨1, 0, ⟨(toldTxt bs pl fe fa n).s.toArray⟩, noID⟩).toArray (0, 0) _ rfl H3.heap Try.underlying35 rfl (by simpa using HZ.out)) rfl ⟨rfl, H3.tail⟩
  · have hT := HT.out
    simp [toldA] at hT
    subst hT
    dsimp only
    clear HT
    have hI := rID_any p bs pl fe fa hp hb hf H0
    have hl := toldID_len bs pl fe fa
    generalize (toldID bs pl fe fa).d = d at hI hl ⊢
    generalize (toldID bs pl fe fa).pl = pl' at hI ⊢
    generalize (toldID bs pl fe fa).fe = fe' at hI ⊢
    generalize (toldID bs pl fe fa).fa = fa' at hI ⊢
    match d, hl with
    | [a0, a1, a2, a3, a4, a5, a6, a7, a8, a9, a10, a11, a12, a13, a14, a15, a16, a17, a18, a19, a20, a21, a22, a23, a24, a25, a26, a27, a28, a29, a30, a31], hl =>
    have HI := Lib.hid hI
    have HC := Lib.hid (hC35 ⟨2, 0, ⟨#[]⟩, [a0, a1, a2, a3, a4, a5, a6, a7, a8, a9, a10, a11, a12, a13, a14, a15, a16, a17, a18, a19, a20, a21, a22, a23, a24, a25, a26, a27, a28, a29, a30, a31]⟩ rfl)
    have HZ := Lib.hid (th_size ⟨2, 0, ⟨#[]⟩, [a0, a1, a2, a3, a4, a5, a6, a7, a8, a9, a10, a11, a12, a13, a14, a15, a16, a17, a18, a19, a20, a21, a22, a23, a24, a25, a26, a27, a28, a29, a30, a31]⟩ rfl)
    clear hI hC35
    go_enter Try.func50, Try.ntmps50
    go_wp2_with fail
    refine HI.out.mono ?_
    rintro e w1 ⟨rfl, H1⟩
    simp only [idv, List.map_cons, List.map_nil]
    generalize w.heap.size + 1 = b at H1 ⊢
    go_wp2_with (refine wpList_store_pt rfl rfl (.tmp 4) (.tmp 34) 35 rfl b (Th.mk 0 0 ⟨#[]⟩ noID).cs.toArray 35 (Th.cs ⟨2, 0, ⟨#[]⟩, [a0, a1, a2, a3, a4, a5, a6, a7, a8, a9, a10, a11, a12, a13, a14, a15, a16, a17, a18, a19, a20, a21, a22, a23, a24, a25, a26, a27, a28, a29, a30, a31]⟩) HZ.out rfl rfl HC.out (th_one _) H1.swap ?_
                 intro w3 H3)
    exact bodyPost_ret (v := Th.v ⟨2, 0, ⟨#[]⟩, [a0, a1, a2, a3, a4, a5, a6, a7, a8, a9, a10, a11, a12, a13, a14, a15, a16, a17, a18, a19, a20, a21, a22, a23, a24, a25, a26, a27, a28, a29, a30, a31]⟩) (results_cell_row Try.results50 _ w3 b 35 (Th.cs ⟨2, 0, ⟨#[]⟩, [a0, a1, a2, a3, a4, a5, a6, a7, a8, a9, a10, a11, a12, a13, a14, a15, a16, a17, a18, a19, a20, a21, a22, a23, a24, a25, a26, a27, a28, a29, a30, a31]⟩).toArray (0, 0) _ rfl H3.heap Try.underlying35 rfl (by simpa using HZ.out)) rfl ⟨rfl, H3.tail⟩
  · have hT := HT.out
    simp [toldA, h0, h1, h2, h3] at hT
    subst hT
    dsimp only
    clear HT
    have e0 : decide (k = 0) = false := by simpa using h0
    have e1 : decide (k = 1) = false := by simpa using h1
    have e2 : decide (k = 2) = false := by simpa using h2
    have e3 : decide (k = 3) = false := by simpa using h3
    have i0 : (k == 0) = false := by simpa using h0
    have i1 : (k == 1) = false := by simpa using h1
    have i2 : (k == 2) = false := by simpa using h2
    have i3 : (k == 3) = false := by simpa using h3
    go_enter Try.func50, Try.ntmps50
    have H1 := H0
    have HC := Lib.hid (hC35 ⟨3, 0, ⟨#[]⟩, noID⟩ rfl)
    have HZ := Lib.hid (th_size ⟨3, 0, ⟨#[]⟩, noID⟩ rfl)
    clear H0
    generalize hb1 : w.heap.size + 1 = b at H1
    go_wp2_with (refine wpList_store_pt rfl rfl (.tmp 4) (.tmp 35) 35 rfl b (Th.mk 0 0 ⟨#[]⟩ noID).cs.toArray 35 (Th.cs ⟨3, 0, ⟨#[]⟩, noID⟩) HZ.out rfl rfl HC.out (th_one _) H1.swap ?_
                 intro w3 H3)
    exact bodyPost_ret (v := Th.v ⟨3, 0, ⟨#[]⟩, noID⟩) (results_cell_row Try.results50 _ w3 b 35 (Th.cs ⟨3, 0, ⟨#[]⟩, noID⟩).toArray (0, 0) _ rfl H3.heap Try.underlying35 rfl (by simpa using HZ.out)) rfl ⟨rfl, H3.tail⟩
end Go.Proofs.Ytkfeejlpgcmilaa
