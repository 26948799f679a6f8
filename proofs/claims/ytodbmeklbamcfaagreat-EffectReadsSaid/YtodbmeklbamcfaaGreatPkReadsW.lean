/- A pack of texts: WdX -/
import Derived.Test.YtodbmeklbamcfaaGreatPkReadsT
import Derived.Test.YtodbmeklbamcfaaGreatPkReadsU
import Derived.Test.YtodbmeklbamcfaaGreatPkReadsR
import Derived.Laws.Rows
/- The document's own reader: Int, Count, Text, ID, Left, End. -/
namespace Go.Proofs.YtodbmeklbamcfaaGreat
open Go.RowKit Go.Rt

set_option maxRecDepth 100000 in
set_option maxHeartbeats 800000 in
theorem yInt_any {W w : World} {l : List SL} (p : Nat) (A : Option Addr) (c : Nat) (bs : List UInt8) (pl : Nat) (fe fa : Int) (hp : pl ≤ bs.length) (hb : bs.length ≤ 1000000000) (hf : fe = 0 → fa = 0) (hr : RdL W l A (bs.map B)) (low high : Int) (H : Sat W w (yrd p A bs.length c pl fe fa :: l)) :
    Calls Tryz.prog 93 #[.pointer (some ⟨p, 0, none⟩), .int .i64 low, .int .i64 high] w fun e w' =>
      e = .returned (.int .i64 (toldInt bs pl fe fa low high 5).n) ∧ Sat W w' (yrd p A bs.length c (toldInt bs pl fe fa low high 5).pl (toldInt bs pl fe fa low high 5).fe (toldInt bs pl fe fa low high 5).fa :: l) := by
  have hpl : (pl : Int) ≤ 1000000000 := by omega
  by_cases h0 : fe = 0
  · subst h0
    obtain rfl : fa = 0 := hf rfl
    have hk := ypeek_any p A c bs pl hp hb hr low high 5 H
    unfold toldInt
    rw [if_pos rfl]
    have hback := numAt_back bs pl low high 5
    generalize numAt bs pl low high 5 = R at hk hback ⊢
    cases R with
    | ok N k =>
      obtain ⟨_, hkl, hN, _, _⟩ := hback N k hp rfl
      have HK := Lib.hid hk
      clear hk hback
      dsimp only
      go_enter Tryz.func93, Tryz.ntmps93
      go_wp2_with fail
      refine HK.out.mono ?_
      rintro e w1 ⟨rfl, H1⟩
      have p1 : w1.cell? ⟨p, 1, none⟩ = some (.int .i64 pl) := H1.cell 1
      have f1 := H1.frz 1
      go_wp2
      go_ret
      exact ⟨rfl, H1.setCell 1 (.int .i64 ((pl + k : Nat) : Int))⟩
    | bad er a =>
      have HK := Lib.hid hk
      clear hk hback
      dsimp only
      go_enter Tryz.func93, Tryz.ntmps93
      go_wp2_with fail
      refine HK.out.mono ?_
      rintro e w1 ⟨rfl, H1⟩
      have p1 : w1.cell? ⟨p, 1, none⟩ = some (.int .i64 pl) := H1.cell 1
      have f1 := H1.frz 1
      go_wp2
      go_ret
      exact ⟨rfl, H1.setCell 1 (.int .i64 (pl : Int))⟩
  · unfold toldInt
    rw [if_neg h0]
    dsimp only
    go_enter Tryz.func93, Tryz.ntmps93
    go_wp2_with fail
    refine (ypeek_stuck p A bs.length c pl fe fa h0 low high 5 H).mono ?_
    rintro e _ ⟨rfl, rfl⟩
    have p1 : w.cell? ⟨p, 1, none⟩ = some (.int .i64 pl) := H.cell 1
    have f1 := H.frz 1
    go_wp2
    go_ret
    exact ⟨rfl, H.setCell 1 (.int .i64 (pl : Int))⟩

set_option maxRecDepth 100000 in
set_option maxHeartbeats 800000 in
theorem yCount_any {W w : World} {l : List SL} (p : Nat) (A : Option Addr) (c : Nat) (bs : List UInt8) (pl : Nat) (fe fa : Int) (hp : pl ≤ bs.length) (hb : bs.length ≤ 1000000000) (hf : fe = 0 → fa = 0) (hr : RdL W l A (bs.map B)) (high : Int) (H : Sat W w (yrd p A bs.length c pl fe fa :: l)) :
    Calls Tryz.prog 94 #[.pointer (some ⟨p, 0, none⟩), .int .i64 high] w fun e w' =>
      e = .returned (.int .i64 (toldInt bs pl fe fa 0 high 3).n) ∧ Sat W w' (yrd p A bs.length c (toldInt bs pl fe fa 0 high 3).pl (toldInt bs pl fe fa 0 high 3).fe (toldInt bs pl fe fa 0 high 3).fa :: l) := by
  have hpl : (pl : Int) ≤ 1000000000 := by omega
  by_cases h0 : fe = 0
  · subst h0
    obtain rfl : fa = 0 := hf rfl
    have hk := ypeek_any p A c bs pl hp hb hr 0 high 3 H
    unfold toldInt
    rw [if_pos rfl]
    have hback := numAt_back bs pl 0 high 3
    generalize numAt bs pl 0 high 3 = R at hk hback ⊢
    cases R with
    | ok N k =>
      obtain ⟨_, hkl, hN, _, _⟩ := hback N k hp rfl
      have HK := Lib.hid hk
      clear hk hback
      dsimp only
      go_enter Tryz.func94, Tryz.ntmps94
      go_wp2_with fail
      refine HK.out.mono ?_
      rintro e w1 ⟨rfl, H1⟩
      have p1 : w1.cell? ⟨p, 1, none⟩ = some (.int .i64 pl) := H1.cell 1
      have f1 := H1.frz 1
      go_wp2
      go_ret
      exact ⟨rfl, H1.setCell 1 (.int .i64 ((pl + k : Nat) : Int))⟩
    | bad er a =>
      have HK := Lib.hid hk
      clear hk hback
      dsimp only
      go_enter Tryz.func94, Tryz.ntmps94
      go_wp2_with fail
      refine HK.out.mono ?_
      rintro e w1 ⟨rfl, H1⟩
      have p1 : w1.cell? ⟨p, 1, none⟩ = some (.int .i64 pl) := H1.cell 1
      have f1 := H1.frz 1
      go_wp2
      go_ret
      exact ⟨rfl, H1.setCell 1 (.int .i64 (pl : Int))⟩
  · unfold toldInt
    rw [if_neg h0]
    dsimp only
    go_enter Tryz.func94, Tryz.ntmps94
    go_wp2_with fail
    refine (ypeek_stuck p A bs.length c pl fe fa h0 0 high 3 H).mono ?_
    rintro e _ ⟨rfl, rfl⟩
    have p1 : w.cell? ⟨p, 1, none⟩ = some (.int .i64 pl) := H.cell 1
    have f1 := H.frz 1
    go_wp2
    go_ret
    exact ⟨rfl, H.setCell 1 (.int .i64 (pl : Int))⟩

set_option maxRecDepth 100000 in
theorem ypass_stuck {W w : World} {l : List SL} (p : Nat) (A : Option Addr) (m c : Nat) (pl : Nat) (fe fa : Int) (hf : ¬ fe = 0) (k n : Int) (H : Sat W w (yrd p A m c pl fe fa :: l)) :
    Calls Tryz.prog 129 #[.pointer (some ⟨p, 0, none⟩), .int .i64 k, .int .i64 n] w fun e w' => e = .returned (.slice none 0 0) ∧ w = w' := by
  have p1 : w.cell? ⟨p, 1, none⟩ = some (.int .i64 pl) := H.cell 1
  have p2 : w.cell? ⟨p, 2, none⟩ = some (.int .i64 fe) := H.cell 2
  have e1 : (fe != 0) = true := by simpa using hf
  go_enter Tryz.func129, Tryz.ntmps129
  go_wp2
  go_ret
  exact ⟨rfl, rfl⟩

set_option maxRecDepth 100000 in
theorem ypass_short {W w : World} {l : List SL} (p : Nat) (A : Option Addr) (c : Nat) (bs : List UInt8) (pl : Nat) (hb : bs.length ≤ 1000000000) (k n : Nat) (hp : pl + k ≤ bs.length) (hn : bs.length - (pl + k) < n) (_hn63 : n < 9223372036854775808) (H : Sat W w (yrd p A bs.length c pl 0 0 :: l)) :
    Calls Tryz.prog 129 #[.pointer (some ⟨p, 0, none⟩), .int .i64 k, .int .i64 n] w fun e w' => e = .returned (.slice none 0 0) ∧ Sat W w' (yrd p A bs.length c pl 4 bs.length :: l) := by
  have p0 : w.cell? ⟨p, 0, none⟩ = some (.slice A bs.length c) := H.cell 0
  have p1 : w.cell? ⟨p, 1, none⟩ = some (.int .i64 pl) := H.cell 1
  have p2 : w.cell? ⟨p, 2, none⟩ = some (.int .i64 0) := H.cell 2
  have p3 : w.cell? ⟨p, 3, none⟩ = some (.int .i64 0) := H.cell 3
  have f2 := H.frz 2
  have f3 := H.frz 3
  have hd : decide ((bs.length : Int) - ((pl : Int) + (k : Int)) < (n : Int)) = true := by simp; omega
  go_enter Tryz.func129, Tryz.ntmps129
  go_wp2
  go_ret
  exact ⟨rfl, (H.setCell 2 (.int .i64 4)).setCell 3 (.int .i64 bs.length)⟩

set_option maxRecDepth 100000 in
theorem ypass_fits {W w : World} {l l0 : List SL} (p : Nat) (A : Option Addr) (c : Nat) (bs : List UInt8) (pl : Nat) (hb : bs.length ≤ 1000000000) (hA : Bsl A bs.length c) (hr : RdL W l0 A (bs.map B)) (hl0 : ∀ w, Sat W w l → Sat W w l0) (k n : Nat) (hp : pl + k ≤ bs.length) (hn : n ≤ bs.length - (pl + k)) (H : Sat W w (yrd p A bs.length c pl 0 0 :: l)) :
    Calls Tryz.prog 129 #[.pointer (some ⟨p, 0, none⟩), .int .i64 k, .int .i64 n] w fun e w' => ∃ A' c', e = .returned (.slice A' n c') ∧ Sat W w' (yrd p A bs.length c (pl + k + n) 0 0 :: l) ∧ RdL W l0 A' (((bs.drop (pl + k)).take n).map B) := by
  have p0 : w.cell? ⟨p, 0, none⟩ = some (.slice A bs.length c) := H.cell 0
  have p1 : w.cell? ⟨p, 1, none⟩ = some (.int .i64 pl) := H.cell 1
  have p2 : w.cell? ⟨p, 2, none⟩ = some (.int .i64 0) := H.cell 2
  have f1 := H.frz 1
  have hd : decide ((bs.length : Int) - ((pl : Int) + (k : Int)) < (n : Int)) = false := by simp; omega
  obtain ⟨hle, hnone, hmax⟩ := hA
  unfold maxLen at hmax
  have H2 := H.setCell 1 (.int .i64 ((pl + k + n : Nat) : Int))
  cases A with
  | none =>
    obtain rfl : c = 0 := hnone rfl
    obtain rfl : n = 0 := by omega
    obtain rfl : k = 0 := by omega
    obtain rfl : pl = 0 := by omega
    clear hnone
    go_enter Tryz.func129, Tryz.ntmps129
    go_wp2
    go_ret
    exact ⟨none, 0, rfl, H2, fun _ _ => Rd.nil _ _⟩
  | some ad =>
    clear hnone
    by_cases hcp : c = pl + k
    · subst hcp
      obtain rfl : n = 0 := by omega
      go_enter Tryz.func129, Tryz.ntmps129
      go_wp2
      go_ret
      exact ⟨some ad, _, rfl, H2, fun _ _ => Rd.nil _ _⟩
    · have hlt : pl + k < c := by omega
      clear hcp
      have e0 : (0 : Int) ≤ (pl : Int) + (k : Int) := by omega
      have e1 : (pl : Int) + (k : Int) ≤ (pl : Int) + (k : Int) + (n : Int) := by omega
      have e2 : (pl : Int) + (k : Int) + (n : Int) ≤ (c : Int) := by omega
      have e3 : ((pl : Int) + (k : Int)).toNat = pl + k := by omega
      by_cases hbs : bs = []
      · subst hbs
        simp only [List.length_nil] at *
        obtain rfl : n = 0 := by omega
        obtain rfl : k = 0 := by omega
        obtain rfl : pl = 0 := by omega
        go_enter Tryz.func129, Tryz.ntmps129
        go_wp2
        go_ret
        exact ⟨_, _, rfl, H2, fun _ _ => by simpa using Rd.nil _ _⟩
      · obtain ⟨b, o, hbo⟩ := (hr _ (hl0 _ H.tail)).open (by simpa using hbs)
        cases hbo
        go_enter Tryz.func129, Tryz.ntmps129
        go_wp2
        go_ret
        refine ⟨some ⟨b, o + (pl + k), none⟩, c - (pl + k), ?_, H2, fun w' h => by rw [List.map_take, List.map_drop]; exact ((hr w' h).drop (pl + k)).take n⟩
        show Ending.returned (.slice (some ⟨b, o + (pl + k), none⟩) (pl + k + n - (pl + k)) (c - (pl + k))) = _
        rw [show pl + k + n - (pl + k) = n by omega]

set_option maxRecDepth 100000 in
theorem yEnd_any {W w : World} {l : List SL} (p : Nat) (A : Option Addr) (c : Nat) (bs : List UInt8) (pl : Nat) (fe fa : Int) (hp : pl ≤ bs.length) (H : Sat W w (yrd p A bs.length c pl fe fa :: l)) :
    Calls Tryz.prog 96 #[.pointer (some ⟨p, 0, none⟩)] w fun e w' => e = .returned (.agg #[.int .i64 (endF bs pl fe fa).1, .int .i64 (endF bs pl fe fa).2]) ∧ Sat W w' (yrd p A bs.length c pl fe fa :: l) := by
  obtain ⟨S, HT⟩ : ∃ S, Hid (endF bs pl fe fa = S) := ⟨_, rfl⟩
  rw [HT.out]
  have H0 : Sat W (w.alloc (.cells #[.int .i64 0, .int .i64 0] 45)) (yrd p A bs.length c pl fe fa :: pt w.heap.size #[.int .i64 0, .int .i64 0] 45 :: l) := (H.alloc _ _).swap
  have hlt := H.lt
  go_enter Tryz.func96, Tryz.ntmps96
  go_wp2
  generalize w.alloc (.cells #[.int .i64 0, .int .i64 0] 45) = w1 at H0 ⊢
  generalize w.heap.size = q at H0 ⊢
  have p0 : w1.cell? ⟨p, 0, none⟩ = some (.slice A bs.length c) := H0.cell 0
  have p1 : w1.cell? ⟨p, 1, none⟩ = some (.int .i64 pl) := H0.cell 1
  have p2 : w1.cell? ⟨p, 2, none⟩ = some (.int .i64 fe) := H0.cell 2
  have p3 : w1.cell? ⟨p, 3, none⟩ = some (.int .i64 fa) := H0.cell 3
  have q0 : w1.cell? ⟨q, 0, none⟩ = some (.int .i64 0) := H0.swap.cell 0
  have q1 : w1.cell? ⟨q, 1, none⟩ = some (.int .i64 0) := H0.swap.cell 1
  have g0 := H0.swap.frz 0
  have g1 := H0.swap.frz 1
  by_cases h0 : fe = 0
  · have e0 : (fe != 0) = false := by simpa using h0
    by_cases h1 : pl = bs.length
    · have e1 : ((pl : Int) == (bs.length : Int)) = true := by simp [h1]
      obtain rfl : (fe, fa) = S := by rw [← HT.out, endF, if_neg (by omega)]
      clear h0 h1
      go_quiet (fail)
      have H3 := (((H0.swap.drewN nq).setCell 0 (.int .i64 fe)).setCell 1 (.int .i64 fa))
      have z0 : (((w1.drewN nq).setCell ⟨q, 0, none⟩ (.int .i64 fe)).setCell ⟨q, 1, none⟩ (.int .i64 fa)).cell? ⟨q, 0, none⟩ = some (.int .i64 fe) := H3.cell 0
      have z1 : (((w1.drewN nq).setCell ⟨q, 0, none⟩ (.int .i64 fe)).setCell ⟨q, 1, none⟩ (.int .i64 fa)).cell? ⟨q, 1, none⟩ = some (.int .i64 fa) := H3.cell 1
      go_wp2
      refine bodyPost_ret (v := .agg #[.int .i64 fe, .int .i64 fa]) ?_ rfl ⟨rfl, H3.tail⟩
      simp [results, Tryz.results96, go_sem, z0, z1]
    · have e1 : ((pl : Int) == (bs.length : Int)) = false := by simp; omega
      obtain rfl : (4, (pl : Int)) = S := by rw [← HT.out, endF, if_pos ⟨h0, by omega⟩]
      clear h0 h1
      go_quiet (fail)
      have H3 := (((H0.swap.drewN nq).setCell 0 (.int .i64 4)).setCell 1 (.int .i64 (pl : Int)))
      have z0 : (((w1.drewN nq).setCell ⟨q, 0, none⟩ (.int .i64 4)).setCell ⟨q, 1, none⟩ (.int .i64 (pl : Int))).cell? ⟨q, 0, none⟩ = some (.int .i64 4) := H3.cell 0
      have z1 : (((w1.drewN nq).setCell ⟨q, 0, none⟩ (.int .i64 4)).setCell ⟨q, 1, none⟩ (.int .i64 (pl : Int))).cell? ⟨q, 1, none⟩ = some (.int .i64 (pl : Int)) := H3.cell 1
      go_wp2
      refine bodyPost_ret (v := .agg #[.int .i64 4, .int .i64 (pl : Int)]) ?_ rfl ⟨rfl, H3.tail⟩
      simp [results, Tryz.results96, go_sem, z0, z1]
  · have e0 : (fe != 0) = true := by simpa using h0
    obtain rfl : (fe, fa) = S := by rw [← HT.out, endF, if_neg (by omega)]
    clear h0
    go_quiet (fail)
    have H3 := (((H0.swap.drewN nq).setCell 0 (.int .i64 fe)).setCell 1 (.int .i64 fa))
    have z0 : (((w1.drewN nq).setCell ⟨q, 0, none⟩ (.int .i64 fe)).setCell ⟨q, 1, none⟩ (.int .i64 fa)).cell? ⟨q, 0, none⟩ = some (.int .i64 fe) := H3.cell 0
    have z1 : (((w1.drewN nq).setCell ⟨q, 0, none⟩ (.int .i64 fe)).setCell ⟨q, 1, none⟩ (.int .i64 fa)).cell? ⟨q, 1, none⟩ = some (.int .i64 fa) := H3.cell 1
    go_wp2
    refine bodyPost_ret (v := .agg #[.int .i64 fe, .int .i64 fa]) ?_ rfl ⟨rfl, H3.tail⟩
    simp [results, Tryz.results96, go_sem, z0, z1]

set_option maxRecDepth 100000 in
set_option maxHeartbeats 800000 in
theorem yText_any {W w : World} {l : List SL} (p : Nat) (A : Option Addr) (c : Nat) (bs : List UInt8) (pl : Nat) (fe fa : Int) (hp : pl ≤ bs.length) (hb : bs.length ≤ 1000000000) (hf : fe = 0 → fa = 0) (hA : Bsl A bs.length c) (hr : RdL W l A (bs.map B)) (high : Int) (H : Sat W w (yrd p A bs.length c pl fe fa :: l)) :
    Calls Tryz.prog 95 #[.pointer (some ⟨p, 0, none⟩), .int .i64 high] w fun e w' =>
      e = .returned (.string ⟨(toldTxt bs pl fe fa high).s.toArray⟩) ∧ Sat W w' (yrd p A bs.length c (toldTxt bs pl fe fa high).pl (toldTxt bs pl fe fa high).fe (toldTxt bs pl fe fa high).fa :: l) := by
  have hcv0 : ∀ w', (convert 30 9 (.slice none 0 0)).run Tryz.prog w' = .ok (.string ⟨#[]⟩) w' := fun w' => run_str (P := Tryz.prog) (w := w') 30 9 5 Tryz.underlying30 Tryz.underlying5 Tryz.underlying9 none 0 0 [] rfl (Rd.nil _ _)
  by_cases h0 : fe = 0
  · subst h0
    obtain rfl : fa = 0 := hf rfl
    have hk := ypeek_any p A c bs pl hp hb hr 0 high 3 H
    unfold toldTxt txtAt
    rw [if_pos rfl]
    have hback := numAt_back bs pl 0 high 3
    have hbad := numAt_bad bs pl 0 high
    generalize hR : numAt bs pl 0 high 3 = R at hk hback ⊢
    cases R with
    | ok N k =>
      obtain ⟨_, hkl, hN, _, _⟩ := hback N k hp rfl
      have HK := Lib.hid hk
      clear hk hback hR hbad
      dsimp only
      by_cases hfit : N ≤ bs.length - (pl + k)
      · rw [if_pos hfit]
        dsimp only
        go_enter Tryz.func95, Tryz.ntmps95
        go_wp2_with fail
        refine HK.out.mono ?_
        rintro e w1 ⟨rfl, H1⟩
        go_wp2_with fail
        refine (ypass_fits p A c bs pl hb hA hr (fun _ h => h) k N hkl hfit H1).mono ?_
        rintro e w2 ⟨A', c', rfl, H2, hr2⟩
        have hl : ((bs.drop (pl + k)).take N).length = N := by rw [List.length_take, List.length_drop]; omega
        have hcv := run_str (P := Tryz.prog) (w := w2) 30 9 5 Tryz.underlying30 Tryz.underlying5 Tryz.underlying9 A' N c' ((bs.drop (pl + k)).take N) hl (hr2 _ H2.tail)
        clear hl
        go_wp2
        go_ret
        exact ⟨rfl, by rw [← Nat.add_assoc]; exact H2⟩
      · rw [if_neg hfit]
        dsimp only
        go_enter Tryz.func95, Tryz.ntmps95
        go_wp2_with fail
        refine HK.out.mono ?_
        rintro e w1 ⟨rfl, H1⟩
        go_wp2_with fail
        refine (ypass_short p A c bs pl hb k N hkl (by omega) hN H1).mono ?_
        rintro e w2 ⟨rfl, H2⟩
        go_wp2
        go_ret
        exact ⟨rfl, H2⟩
    | bad er a =>
      have her : ¬ er = 0 := hbad 3 er a (by decide) hR
      have HK := Lib.hid hk
      clear hk hback hR hbad
      dsimp only
      go_enter Tryz.func95, Tryz.ntmps95
      go_wp2_with fail
      refine HK.out.mono ?_
      rintro e w1 ⟨rfl, H1⟩
      go_wp2_with fail
      refine (ypass_stuck p A bs.length c pl er a her 0 0 H1).mono ?_
      rintro e _ ⟨rfl, rfl⟩
      go_wp2
      go_ret
      exact ⟨rfl, H1⟩
  · unfold toldTxt
    rw [if_neg h0]
    dsimp only
    go_enter Tryz.func95, Tryz.ntmps95
    go_wp2_with fail
    refine (ypeek_stuck p A bs.length c pl fe fa h0 0 high 3 H).mono ?_
    rintro e _ ⟨rfl, rfl⟩
    go_wp2_with fail
    refine (ypass_stuck p A bs.length c pl fe fa h0 0 0 H).mono ?_
    rintro e _ ⟨rfl, rfl⟩
    go_wp2
    go_ret
    exact ⟨rfl, H⟩

/-- The first j bytes, noughts behind them. -/
def idF (d : List UInt8) (j : Nat) : List UInt8 := d.take j ++ List.replicate (32 - j) 0
theorem idF_len (d : List UInt8) (hd : d.length = 32) (j : Nat) (hj : j ≤ 32) : (idF d j).length = 32 := by
  simp only [idF, List.length_append, List.length_take, List.length_replicate]; omega
theorem idF_end (d : List UInt8) (hd : d.length = 32) : idF d 32 = d := by
  rw [idF, List.take_of_length_le (by omega)]; simp
theorem idF_step (d : List UInt8) (hd : d.length = 32) (j : Nat) (x : UInt8) (hx : d[j]? = some x) : ((idF d j).map B).toArray.setIfInBounds j (B x) = ((idF d (j + 1)).map B).toArray := by
  obtain ⟨hj, _⟩ := List.getElem?_eq_some_iff.1 hx
  apply Array.toList_inj.1
  rw [Array.toList_setIfInBounds]
  show ((idF d j).map B).set j (B x) = (idF d (j + 1)).map B
  rw [← List.map_set]
  congr 1
  unfold idF
  rw [List.take_add_one, hx, show 32 - j = (32 - (j + 1)) + 1 by omega, List.replicate_succ, List.set_append_right _ _ (by rw [List.length_take]; omega), List.length_take, show j - min j d.length = 0 by omega]
  simp
theorem idF_at (d : List UInt8) (hd : d.length = 32) (j : Nat) (hj : j < 32) : ((idF d j).map B).toArray[j]? = some (.int .u8 0) := by
  have : (idF d j)[j]? = some 0 := by
    unfold idF
    rw [List.getElem?_append_right (by rw [List.length_take]; omega), List.getElem?_replicate, if_pos (by rw [List.length_take]; omega)]
  simp [this, B]

end Go.Proofs.YtodbmeklbamcfaaGreat
