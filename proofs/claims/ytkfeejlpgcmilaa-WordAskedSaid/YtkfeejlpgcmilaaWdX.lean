/- The document's own reader: Int, Count, Text, ID, Left, End. -/
import Derived.Test.YtkfeejlpgcmilaaWdW
import Derived.Test.YtkfeejlpgcmilaaWdN
import Derived.Test.YtkfeejlpgcmilaaWeV
import Derived.Test.YtkfeejlpgcmilaaWdU
import Derived.Laws.Rows
namespace Go.Proofs.Ytkfeejlpgcmilaa
open Go.RowKit Go.Rt

set_option maxHeartbeats 800000 in
theorem yInt_any {W w : World} {l : List SL} (p : Nat) (A : Option Addr) (c : Nat) (bs : List UInt8) (pl : Nat) (fe fa : Int) (hp : pl ≤ bs.length) (hb : bs.length ≤ 1000000000) (hf : fe = 0 → fa = 0) (hr : RdL W l A (bs.map B)) (low high : Int) (H : Sat W w (yrd p A bs.length c pl fe fa :: l)) :
    Calls Try.prog 41 #[.pointer (some ⟨p, 0, none⟩), .int .i64 low, .int .i64 high] w fun e w' =>
      e = .returned (.int .i64 (toldInt bs pl fe fa low high 5).n) ∧ Sat W w' (yrd p A bs.length c (toldInt bs pl fe fa low high 5).pl (toldInt bs pl fe fa low high 5).fe (toldInt bs pl fe fa low high 5).fa :: l) := by
  have hpl : (pl : Int) ≤ 1000000000 := by omega
  by_cases h0 : fe = 0
  · subst h0
    obtain rfl : fa = 0 := hf rfl
    have hk := ypeek_any p A c bs pl hp hb hr low high 5 H
    unfold toldInt
    rw [if_pos rfl]
    have hback := numAt_back bs pl low high 5
    generalize numAt bs pl low high 5 = R at hk hback ⊢
    cases R with
    | ok N k =>
      obtain ⟨_, hkl, hN, _, _⟩ := hback N k hp rfl
      have HK := Lib.hid hk
      clear hk hback
      dsimp only
      go_enter Try.func41, Try.ntmps41
      go_wp2_with fail
      refine HK.out.mono ?_
      rintro e w1 ⟨rfl, H1⟩
      have p1 : w1.cell? ⟨p, 1, none⟩ = some (.int .i64 pl) := H1.cell 1
      have f1 := H1.frz 1
      go_wp2
      go_ret
      exact ⟨rfl, H1.setCell 1 (.int .i64 ((pl + k : Nat) : Int))⟩
    | bad er a =>
      have HK := Lib.hid hk
      clear hk hback
      dsimp only
      go_enter Try.func41, Try.ntmps41
      go_wp2_with fail
      refine HK.out.mono ?_
      rintro e w1 ⟨rfl, H1⟩
      have p1 : w1.cell? ⟨p, 1, none⟩ = some (.int .i64 pl) := H1.cell 1
      have f1 := H1.frz 1
      go_wp2
      go_ret
      exact ⟨rfl, H1.setCell 1 (.int .i64 (pl : Int))⟩
  · unfold toldInt
    rw [if_neg h0]
    dsimp only
    go_enter Try.func41, Try.ntmps41
    go_wp2_with fail
    refine (ypeek_stuck p A bs.length c pl fe fa h0 low high 5 H).mono ?_
    rintro e _ ⟨rfl, rfl⟩
    have p1 : w.cell? ⟨p, 1, none⟩ = some (.int .i64 pl) := H.cell 1
    have f1 := H.frz 1
    go_wp2
    go_ret
    exact ⟨rfl, H.setCell 1 (.int .i64 (pl : Int))⟩

set_option maxHeartbeats 800000 in
theorem yCount_any {W w : World} {l : List SL} (p : Nat) (A : Option Addr) (c : Nat) (bs : List UInt8) (pl : Nat) (fe fa : Int) (hp : pl ≤ bs.length) (hb : bs.length ≤ 1000000000) (hf : fe = 0 → fa = 0) (hr : RdL W l A (bs.map B)) (high : Int) (H : Sat W w (yrd p A bs.length c pl fe fa :: l)) :
    Calls Try.prog 43 #[.pointer (some ⟨p, 0, none⟩), .int .i64 high] w fun e w' =>
      e = .returned (.int .i64 (toldInt bs pl fe fa 0 high 3).n) ∧ Sat W w' (yrd p A bs.length c (toldInt bs pl fe fa 0 high 3).pl (toldInt bs pl fe fa 0 high 3).fe (toldInt bs pl fe fa 0 high 3).fa :: l) := by
  have hpl : (pl : Int) ≤ 1000000000 := by omega
  by_cases h0 : fe = 0
  · subst h0
    obtain rfl : fa = 0 := hf rfl
    have hk := ypeek_any p A c bs pl hp hb hr 0 high 3 H
    unfold toldInt
    rw [if_pos rfl]
    have hback := numAt_back bs pl 0 high 3
    generalize numAt bs pl 0 high 3 = R at hk hback ⊢
    cases R with
    | ok N k =>
      obtain ⟨_, hkl, hN, _, _⟩ := hback N k hp rfl
      have HK := Lib.hid hk
      clear hk hback
      dsimp only
      go_enter Try.func43, Try.ntmps43
      go_wp2_with fail
      refine HK.out.mono ?_
      rintro e w1 ⟨rfl, H1⟩
      have p1 : w1.cell? ⟨p, 1, none⟩ = some (.int .i64 pl) := H1.cell 1
      have f1 := H1.frz 1
      go_wp2
      go_ret
      exact ⟨rfl, H1.setCell 1 (.int .i64 ((pl + k : Nat) : Int))⟩
    | bad er a =>
      have HK := Lib.hid hk
      clear hk hback
      dsimp only
      go_enter Try.func43, Try.ntmps43
      go_wp2_with fail
      refine HK.out.mono ?_
      rintro e w1 ⟨rfl, H1⟩
      have p1 : w1.cell? ⟨p, 1, none⟩ = some (.int .i64 pl) := H1.cell 1
      have f1 := H1.frz 1
      go_wp2
      go_ret
      exact ⟨rfl, H1.setCell 1 (.int .i64 (pl : Int))⟩
  · unfold toldInt
    rw [if_neg h0]
    dsimp only
    go_enter Try.func43, Try.ntmps43
    go_wp2_with fail
    refine (ypeek_stuck p A bs.length c pl fe fa h0 0 high 3 H).mono ?_
    rintro e _ ⟨rfl, rfl⟩
    have p1 : w.cell? ⟨p, 1, none⟩ = some (.int .i64 pl) := H.cell 1
    have f1 := H.frz 1
    go_wp2
    go_ret
    exact ⟨rfl, H.setCell 1 (.int .i64 (pl : Int))⟩

theorem ypass_stuck {W w : World} {l : List SL} (p : Nat) (A : Option Addr) (m c : Nat) (pl : Nat) (fe fa : Int) (hf : ¬ fe = 0) (k n : Int) (H : Sat W w (yrd p A m c pl fe fa :: l)) :
    Calls Try.prog 65 #[.pointer (some ⟨p, 0, none⟩), .int .i64 k, .int .i64 n] w fun e w' => e = .returned (.slice none 0 0) ∧ w = w' := by
  have p1 : w.cell? ⟨p, 1, none⟩ = some (.int .i64 pl) := H.cell 1
  have p2 : w.cell? ⟨p, 2, none⟩ = some (.int .i64 fe) := H.cell 2
  have e1 : (fe != 0) = true := by simpa using hf
  go_enter Try.func65, Try.ntmps65
  go_wp2
  go_ret
  exact ⟨rfl, rfl⟩

theorem ypass_short {W w : World} {l : List SL} (p : Nat) (A : Option Addr) (c : Nat) (bs : List UInt8) (pl : Nat) (hb : bs.length ≤ 1000000000) (k n : Nat) (hp : pl + k ≤ bs.length) (hn : bs.length - (pl + k) < n) (_hn63 : n < 9223372036854775808) (H : Sat W w (yrd p A bs.length c pl 0 0 :: l)) :
    Calls Try.prog 65 #[.pointer (some ⟨p, 0, none⟩), .int .i64 k, .int .i64 n] w fun e w' => e = .returned (.slice none 0 0) ∧ Sat W w' (yrd p A bs.length c pl 4 bs.length :: l) := by
  have p0 : w.cell? ⟨p, 0, none⟩ = some (.slice A bs.length c) := H.cell 0
  have p1 : w.cell? ⟨p, 1, none⟩ = some (.int .i64 pl) := H.cell 1
  have p2 : w.cell? ⟨p, 2, none⟩ = some (.int .i64 0) := H.cell 2
  have p3 : w.cell? ⟨p, 3, none⟩ = some (.int .i64 0) := H.cell 3
  have f2 := H.frz 2
  have f3 := H.frz 3
  have hd : decide ((bs.length : Int) - ((pl : Int) + (k : Int)) < (n : Int)) = true := by simp; omega
  go_enter Try.func65, Try.ntmps65
  go_wp2
  go_ret
  exact ⟨rfl, (H.setCell 2 (.int .i64 4)).setCell 3 (.int .i64 bs.length)⟩

theorem ypass_fits {W w : World} {l l0 : List SL} (p : Nat) (A : Option Addr) (c : Nat) (bs : List UInt8) (pl : Nat) (hb : bs.length ≤ 1000000000) (hA : Bsl A bs.length c) (hr : RdL W l0 A (bs.map B)) (hl0 : ∀ w, Sat W w l → Sat W w l0) (k n : Nat) (hp : pl + k ≤ bs.length) (hn : n ≤ bs.length - (pl + k)) (H : Sat W w (yrd p A bs.length c pl 0 0 :: l)) :
    Calls Try.prog 65 #[.pointer (some ⟨p, 0, none⟩), .int .i64 k, .int .i64 n] w fun e w' => ∃ A' c', e = .returned (.slice A' n c') ∧ Sat W w' (yrd p A bs.length c (pl + k + n) 0 0 :: l) ∧ RdL W l0 A' (((bs.drop (pl + k)).take n).map B) := by
  have p0 : w.cell? ⟨p, 0, none⟩ = some (.slice A bs.length c) := H.cell 0
  have p1 : w.cell? ⟨p, 1, none⟩ = some (.int .i64 pl) := H.cell 1
  have p2 : w.cell? ⟨p, 2, none⟩ = some (.int .i64 0) := H.cell 2
  have f1 := H.frz 1
  have hd : decide ((bs.length : Int) - ((pl : Int) + (k : Int)) < (n : Int)) = false := by simp; omega
  obtain ⟨hle, hnone, hmax⟩ := hA
  unfold maxLen at hmax
  have H2 := H.setCell 1 (.int .i64 ((pl + k + n : Nat) : Int))
  cases A with
  | none =>
    obtain rfl : c = 0 := hnone rfl
    obtain rfl : n = 0 := by omega
    obtain rfl : k = 0 := by omega
    obtain rfl : pl = 0 := by omega
    clear hnone
    go_enter Try.func65, Try.ntmps65
    go_wp2
    go_ret
    exact ⟨none, 0, rfl, H2, fun _ _ => Rd.nil _ _⟩
  | some ad =>
    clear hnone
    by_cases hcp : c = pl + k
    · subst hcp
      obtain rfl : n = 0 := by omega
      go_enter Try.func65, Try.ntmps65
      go_wp2
      go_ret
      exact ⟨some ad, _, rfl, H2, fun _ _ => Rd.nil _ _⟩
    · have hlt : pl + k < c := by omega
      clear hcp
      have e0 : (0 : Int) ≤ (pl : Int) + (k : Int) := by omega
      have e1 : (pl : Int) + (k : Int) ≤ (pl : Int) + (k : Int) + (n : Int) := by omega
      have e2 : (pl : Int) + (k : Int) + (n : Int) ≤ (c : Int) := by omega
      have e3 : ((pl : Int) + (k : Int)).toNat = pl + k := by omega
      by_cases hbs : bs = []
      · subst hbs
        simp only [List.length_nil] at *
        obtain rfl : n = 0 := by omega
        obtain rfl : k = 0 := by omega
        obtain rfl : pl = 0 := by omega
        go_enter Try.func65, Try.ntmps65
        go_wp2
        go_ret
        exact ⟨_, _, rfl, H2, fun _ _ => by simpa using Rd.nil _ _⟩
      · obtain ⟨b, o, hbo⟩ := (hr _ (hl0 _ H.tail)).open (by simpa using hbs)
        cases hbo
        go_enter Try.func65, Try.ntmps65
        go_wp2
        go_ret
        refine ⟨some ⟨b, o + (pl + k), none⟩, c - (pl + k), ?_, H2, fun w' h => by rw [List.map_take, List.map_drop]; exact ((hr w' h).drop (pl + k)).take n⟩
        show Ending.returned (.slice (some ⟨b, o + (pl + k), none⟩) (pl + k + n - (pl + k)) (c - (pl + k))) = _
        rw [show pl + k + n - (pl + k) = n by omega]

theorem yLeft_any {W w : World} {l : List SL} (p : Nat) (A : Option Addr) (c : Nat) (bs : List UInt8) (pl : Nat) (fe fa : Int) (hp : pl ≤ bs.length) (hb : bs.length ≤ 1000000000) (H : Sat W w (yrd p A bs.length c pl fe fa :: l)) :
    Calls Try.prog 47 #[.pointer (some ⟨p, 0, none⟩)] w fun e w' => e = .returned (.int .i64 ((bs.length - pl : Nat) : Int)) ∧ Sat W w' (yrd p A bs.length c pl fe fa :: l) := by
  have p0 : w.cell? ⟨p, 0, none⟩ = some (.slice A bs.length c) := H.cell 0
  have p1 : w.cell? ⟨p, 1, none⟩ = some (.int .i64 pl) := H.cell 1
  have hs : IntKind.i64.wrap ((bs.length : Int) - pl) = (bs.length : Int) - pl := IntWalk.i64_in _ (by omega)
  go_enter Try.func47, Try.ntmps47
  go_wp2
  go_quiet (fail)
  go_wp2
  go_ret
  refine ⟨?_, H.drewN nq⟩
  show Ending.returned (.int .i64 ((bs.length : Int) - pl)) = _
  congr 2
  omega

theorem yEnd_any {W w : World} {l : List SL} (p : Nat) (A : Option Addr) (c : Nat) (bs : List UInt8) (pl : Nat) (fe fa : Int) (hp : pl ≤ bs.length) (H : Sat W w (yrd p A bs.length c pl fe fa :: l)) :
    Calls Try.prog 49 #[.pointer (some ⟨p, 0, none⟩)] w fun e w' => e = .returned (.agg #[.int .i64 (endF bs pl fe fa).1, .int .i64 (endF bs pl fe fa).2]) ∧ Sat W w' (yrd p A bs.length c pl fe fa :: l) := by
  obtain ⟨S, HT⟩ : ∃ S, Hid (endF bs pl fe fa = S) := ⟨_, rfl⟩
  rw [HT.out]
  have H0 : Sat W (w.alloc (.cells #[.int .i64 0, .int .i64 0] 58)) (yrd p A bs.length c pl fe fa :: pt w.heap.size #[.int .i64 0, .int .i64 0] 58 :: l) := (H.alloc _ _).swap
  have hlt := H.lt
  go_enter Try.func49, Try.ntmps49
  go_wp2
  generalize w.alloc (.cells #[.int .i64 0, .int .i64 0] 58) = w1 at H0 ⊢
  generalize w.heap.size = q at H0 ⊢
  have p0 : w1.cell? ⟨p, 0, none⟩ = some (.slice A bs.length c) := H0.cell 0
  have p1 : w1.cell? ⟨p, 1, none⟩ = some (.int .i64 pl) := H0.cell 1
  have p2 : w1.cell? ⟨p, 2, none⟩ = some (.int .i64 fe) := H0.cell 2
  have p3 : w1.cell? ⟨p, 3, none⟩ = some (.int .i64 fa) := H0.cell 3
  have q0 : w1.cell? ⟨q, 0, none⟩ = some (.int .i64 0) := H0.swap.cell 0
  have q1 : w1.cell? ⟨q, 1, none⟩ = some (.int .i64 0) := H0.swap.cell 1
  have g0 := H0.swap.frz 0
  have g1 := H0.swap.frz 1
  by_cases h0 : fe = 0
  · have e0 : (fe != 0) = false := by simpa using h0
    by_cases h1 : pl = bs.length
    · have e1 : ((pl : Int) == (bs.length : Int)) = true := by simp [h1]
      obtain rfl : (fe, fa) = S := by rw [← HT.out, endF, if_neg (by omega)]
      clear h0 h1
      go_quiet (fail)
      have H3 := (((H0.swap.drewN nq).setCell 0 (.int .i64 fe)).setCell 1 (.int .i64 fa))
      have z0 : (((w1.drewN nq).setCell ⟨q, 0, none⟩ (.int .i64 fe)).setCell ⟨q, 1, none⟩ (.int .i64 fa)).cell? ⟨q, 0, none⟩ = some (.int .i64 fe) := H3.cell 0
      have z1 : (((w1.drewN nq).setCell ⟨q, 0, none⟩ (.int .i64 fe)).setCell ⟨q, 1, none⟩ (.int .i64 fa)).cell? ⟨q, 1, none⟩ = some (.int .i64 fa) := H3.cell 1
      go_wp2
      refine bodyPost_ret (v := .agg #[.int .i64 fe, .int .i64 fa]) ?_ rfl ⟨rfl, H3.tail⟩
      simp [results, Try.results49, go_sem, z0, z1]
    · have e1 : ((pl : Int) == (bs.length : Int)) = false := by simp; omega
      obtain rfl : (4, (pl : Int)) = S := by rw [← HT.out, endF, if_pos ⟨h0, by omega⟩]
      clear h0 h1
      go_quiet (fail)
      have H3 := (((H0.swap.drewN nq).setCell 0 (.int .i64 4)).setCell 1 (.int .i64 (pl : Int)))
      have z0 : (((w1.drewN nq).setCell ⟨q, 0, none⟩ (.int .i64 4)).setCell ⟨q, 1, none⟩ (.int .i64 (pl : Int))).cell? ⟨q, 0, none⟩ = some (.int .i64 4) := H3.cell 0
      have z1 : (((w1.drewN nq).setCell ⟨q, 0, none⟩ (.int .i64 4)).setCell ⟨q, 1, none⟩ (.int .i64 (pl : Int))).cell? ⟨q, 1, none⟩ = some (.int .i64 (pl : Int)) := H3.cell 1
      go_wp2
      refine bodyPost_ret (v := .agg #[.int .i64 4, .int .i64 (pl : Int)]) ?_ rfl ⟨rfl, H3.tail⟩
      simp [results, Try.results49, go_sem, z0, z1]
  · have e0 : (fe != 0) = true := by simpa using h0
    obtain rfl : (fe, fa) = S := by rw [← HT.out, endF, if_neg (by omega)]
    clear h0
    go_quiet (fail)
    have H3 := (((H0.swap.drewN nq).setCell 0 (.int .i64 fe)).setCell 1 (.int .i64 fa))
    have z0 : (((w1.drewN nq).setCell ⟨q, 0, none⟩ (.int .i64 fe)).setCell ⟨q, 1, none⟩ (.int .i64 fa)).cell? ⟨q, 0, none⟩ = some (.int .i64 fe) := H3.cell 0
    have z1 : (((w1.drewN nq).setCell ⟨q, 0, none⟩ (.int .i64 fe)).setCell ⟨q, 1, none⟩ (.int .i64 fa)).cell? ⟨q, 1, none⟩ = some (.int .i64 fa) := H3.cell 1
    go_wp2
    refine bodyPost_ret (v := .agg #[.int .i64 fe, .int .i64 fa]) ?_ rfl ⟨rfl, H3.tail⟩
    simp [results, Try.results49, go_sem, z0, z1]

set_option maxHeartbeats 800000 in
theorem yText_any {W w : World} {l : List SL} (p : Nat) (A : Option Addr) (c : Nat) (bs : List UInt8) (pl : Nat) (fe fa : Int) (hp : pl ≤ bs.length) (hb : bs.length ≤ 1000000000) (hf : fe = 0 → fa = 0) (hA : Bsl A bs.length c) (hr : RdL W l A (bs.map B)) (high : Int) (H : Sat W w (yrd p A bs.length c pl fe fa :: l)) :
    Calls Try.prog 44 #[.pointer (some ⟨p, 0, none⟩), .int .i64 high] w fun e w' =>
      e = .returned (.string ⟨(toldTxt bs pl fe fa high).s.toArray⟩) ∧ Sat W w' (yrd p A bs.length c (toldTxt bs pl fe fa high).pl (toldTxt bs pl fe fa high).fe (toldTxt bs pl fe fa high).fa :: l) := by
  have hcv0 : ∀ w', (convert 28 9 (.slice none 0 0)).run Try.prog w' = .ok (.string ⟨#[]⟩) w' := fun w' => run_str (P := Try.prog) (w := w') 28 9 5 Try.underlying28 Try.underlying5 Try.underlying9 none 0 0 [] rfl (Rd.nil _ _)
  by_cases h0 : fe = 0
  · subst h0
    obtain rfl : fa = 0 := hf rfl
    have hk := ypeek_any p A c bs pl hp hb hr 0 high 3 H
    unfold toldTxt txtAt
    rw [if_pos rfl]
    have hback := numAt_back bs pl 0 high 3
    have hbad := numAt_bad bs pl 0 high
    generalize hR : numAt bs pl 0 high 3 = R at hk hback ⊢
    cases R with
    | ok N k =>
      obtain ⟨_, hkl, hN, _, _⟩ := hback N k hp rfl
      have HK := Lib.hid hk
      clear hk hback hR hbad
      dsimp only
      by_cases hfit : N ≤ bs.length - (pl + k)
      · rw [if_pos hfit]
        dsimp only
        go_enter Try.func44, Try.ntmps44
        go_wp2_with fail
        refine HK.out.mono ?_
        rintro e w1 ⟨rfl, H1⟩
        go_wp2_with fail
        refine (ypass_fits p A c bs pl hb hA hr (fun _ h => h) k N hkl hfit H1).mono ?_
        rintro e w2 ⟨A', c', rfl, H2, hr2⟩
        have hl : ((bs.drop (pl + k)).take N).length = N := by rw [List.length_take, List.length_drop]; omega
        have hcv := run_str (P := Try.prog) (w := w2) 28 9 5 Try.underlying28 Try.underlying5 Try.underlying9 A' N c' ((bs.drop (pl + k)).take N) hl (hr2 _ H2.tail)
        clear hl
        go_wp2
        go_ret
        exact ⟨rfl, by rw [← Nat.add_assoc]; exact H2⟩
      · rw [if_neg hfit]
        dsimp only
        go_enter Try.func44, Try.ntmps44
        go_wp2_with fail
        refine HK.out.mono ?_
        rintro e w1 ⟨rfl, H1⟩
        go_wp2_with fail
        refine (ypass_short p A c bs pl hb k N hkl (by omega) hN H1).mono ?_
        rintro e w2 ⟨rfl, H2⟩
        go_wp2
        go_ret
        exact ⟨rfl, H2⟩
    | bad er a =>
      have her : ¬ er = 0 := hbad 3 er a (by decide) hR
      have HK := Lib.hid hk
      clear hk hback hR hbad
      dsimp only
      go_enter Try.func44, Try.ntmps44
      go_wp2_with fail
      refine HK.out.mono ?_
      rintro e w1 ⟨rfl, H1⟩
      go_wp2_with fail
      refine (ypass_stuck p A bs.length c pl er a her 0 0 H1).mono ?_
      rintro e _ ⟨rfl, rfl⟩
      go_wp2
      go_ret
      exact ⟨rfl, H1⟩
  · unfold toldTxt
    rw [if_neg h0]
    dsimp only
    go_enter Try.func44, Try.ntmps44
    go_wp2_with fail
    refine (ypeek_stuck p A bs.length c pl fe fa h0 0 high 3 H).mono ?_
    rintro e _ ⟨rfl, rfl⟩
    go_wp2_with fail
    refine (ypass_stuck p A bs.length c pl fe fa h0 0 0 H).mono ?_
    rintro e _ ⟨rfl, rfl⟩
    go_wp2
    go_ret
    exact ⟨rfl, H⟩

/-- The first j bytes, noughts behind them. -/
def idF (d : List UInt8) (j : Nat) : List UInt8 := d.take j ++ List.replicate (32 - j) 0
theorem idF_len (d : List UInt8) (hd : d.length = 32) (j : Nat) (hj : j ≤ 32) : (idF d j).length = 32 := by
  simp only [idF, List.length_append, List.length_take, List.length_replicate]; omega
theorem idF_end (d : List UInt8) (hd : d.length = 32) : idF d 32 = d := by
  rw [idF, List.take_of_length_le (by omega)]; simp
theorem idF_step (d : List UInt8) (hd : d.length = 32) (j : Nat) (x : UInt8) (hx : d[j]? = some x) : ((idF d j).map B).toArray.setIfInBounds j (B x) = ((idF d (j + 1)).map B).toArray := by
  obtain ⟨hj, _⟩ := List.getElem?_eq_some_iff.1 hx
  apply Array.toList_inj.1
  rw [Array.toList_setIfInBounds]
  show ((idF d j).map B).set j (B x) = (idF d (j + 1)).map B
  rw [← List.map_set]
  congr 1
  unfold idF
  rw [List.take_add_one, hx, show 32 - j = (32 - (j + 1)) + 1 by omega, List.replicate_succ, List.set_append_right _ _ (by rw [List.length_take]; omega), List.length_take, show j - min j d.length = 0 by omega]
  simp
theorem idF_at (d : List UInt8) (hd : d.length = 32) (j : Nat) (hj : j < 32) : ((idF d j).map B).toArray[j]? = some (.int .u8 0) := by
  have : (idF d j)[j]? = some 0 := by
    unfold idF
    rw [List.getElem?_append_right (by rw [List.length_take]; omega), List.getElem?_replicate, if_pos (by rw [List.length_take]; omega)]
  simp [this, B]

set_option maxRecDepth 100000 in
set_option maxHeartbeats 1600000 in
theorem yID_any {W w : World} {l : List SL} (p : Nat) (A : Option Addr) (c : Nat) (bs : List UInt8) (pl : Nat) (fe fa : Int) (hp : pl ≤ bs.length) (hb : bs.length ≤ 1000000000) (hf : fe = 0 → fa = 0) (hA : Bsl A bs.length c) (hr : RdL W l A (bs.map B)) (H : Sat W w (yrd p A bs.length c pl fe fa :: l)) :
    Calls Try.prog 46 #[.pointer (some ⟨p, 0, none⟩)] w fun e w' =>
      e = .returned (idv (toldID bs pl fe fa).d) ∧ Sat W w' (yrd p A bs.length c (toldID bs pl fe fa).pl (toldID bs pl fe fa).fe (toldID bs pl fe fa).fa :: l) := by
  have hZ : Hid ((Try.prog.info? 33).map (·.size) = some (noID.map B).length) := by show _ = _; kernel_rfl
  have H0 : Sat W ((w.alloc (.cells (noID.map B).toArray 33)).alloc (.cells (noID.map B).toArray 33)) (yrd p A bs.length c pl fe fa :: pt (w.heap.size + 1) (noID.map B).toArray 33 :: pt w.heap.size (noID.map B).toArray 33 :: l) := by
    have h := (H.alloc (noID.map B).toArray 33).alloc (noID.map B).toArray 33
    simp only [World.size_alloc] at h
    exact h.pull 2
  by_cases hfit : fe = 0 ∧ 32 ≤ bs.length - pl
  · obtain ⟨rfl, hfit⟩ := hfit
    obtain rfl : fa = 0 := hf rfl
    unfold toldID
    rw [if_pos rfl, if_pos hfit]
    dsimp only
    have hd : ((bs.drop pl).take 32).length = 32 := by rw [List.length_take, List.length_drop]; omega
    have hps := fun w' (h : Sat W w' (yrd p A bs.length c pl 0 0 :: pt (w.heap.size + 1) (noID.map B).toArray 33 :: pt w.heap.size (noID.map B).toArray 33 :: l)) => ypass_fits (w := w') p A c bs pl hb hA hr (fun _ h => h.tail.tail) 0 32 (by omega) (by omega) h
    generalize hdd : (bs.drop pl).take 32 = d at hd ⊢
    have HD := Lib.hid hdd
    clear hdd
    have HPS := Lib.hid hps
    clear hps
    go_enter Try.func46, Try.ntmps46
    go_wp2_with fail
    refine (HPS.out _ H0).mono ?_
    rintro e w1 ⟨A', c', rfl, H1, hrd⟩
    generalize w.heap.size + 1 = g at H1 hrd ⊢
    generalize w.heap.size = q at H1 hrd ⊢
    simp only [Nat.add_zero] at H1 hrd
    rw [HD.out] at hrd
    have H2 := H1.swap
    go_wp2
    go_loopw [5] (fun i wc => ∃ (j : Nat), j ≤ 32 ∧ i = .int .i64 j ∧ Sat W wc (pt g ((idF d j).map B).toArray 33 :: yrd p A bs.length c (pl + 32) 0 0 :: pt q (noID.map B).toArray 33 :: l)) (fun i _ => 32 - (intOf i).toNat)
    case atStart => exact ⟨0, by omega, rfl, H2⟩
    case round =>
      obtain ⟨j, hj, rfl, H3⟩ := hrel
      clear H1 H2
      by_cases hlt : j < 32
      · obtain ⟨x, hx⟩ : ∃ x, d[j]? = some x := ⟨_, List.getElem?_eq_getElem (by omega)⟩
        have hstep := idF_step d hd j x hx
        have hat := idF_at d hd j hlt
        have hr3 := hrd _ (((H3.tail).tail).tail)
        obtain ⟨b, o, rfl⟩ := hr3.open (by intro h; simp at h; rw [h] at hd; simp at hd)
        have hcx : wr.cell? ⟨b, o + j, none⟩ = some (.int .u8 (x.toNat : Int)) := hr3.at j (by rw [List.getElem?_map, hx]; rfl)
        have hcg : wr.cell? ⟨g, j, none⟩ = some (.int .u8 0) := by rw [H3.cell j]; exact hat
        have hfg := H3.frz j
        have HST := Lib.hid hstep
        clear hstep hat hr3 hx
        go_wp2
        refine ⟨⟨j + 1, by omega, by go_num, ?_⟩, by simp [intOf]; omega⟩
        rw [← HST.out]
        exact H3.setCell j (B x)
      · obtain rfl : j = 32 := by omega
        rw [idF_end d hd] at H3
        have hrg : Rd wr (some ⟨g, 0, none⟩) (d.map B) := RdL.pt _ H3
        have hZd : Hid ((Try.prog.info? 33).map (·.size) = some (d.map B).length) := by show _ = _; rw [List.length_map, hd]; kernel_rfl
        have hdl : Hid ((noID.map B).toArray.size = (d.map B).length) := by show _ = _; rw [List.length_map, hd]; rfl
        go_wp2_with (first
          | refine wpList_load_rd rfl (.tmp 3) 33 rfl g 0 (d.map B) (by rw [Try.underlying33]) hZd.out (by simp [Act.eval]) hrg ?_
          | (refine wpList_store_pt rfl rfl (.tmp 2) (.tmp 20) 33 rfl q (noID.map B).toArray 33 (d.map B) hZd.out rfl rfl hdl.out (B_one d) (H3.pull 2) ?_
             intro w4 H4))
        exact bodyPost_ret (v := idv d) (results_cell_row Try.results46 _ w4 q 33 (d.map B).toArray (0, 0) _ rfl H4.heap Try.underlying33 rfl (by simpa using hZd.out)) rfl ⟨rfl, H4.tail.tail⟩
  · have hps : ∃ fe' fa', toldID bs pl fe fa = ⟨noID, pl, fe', fa'⟩ ∧ ∀ (w0 : World) (l0 : List SL), Sat W w0 (yrd p A bs.length c pl fe fa :: l0) → Calls Try.prog 65 #[.pointer (some ⟨p, 0, none⟩), .int .i64 0, .int .i64 32] w0 fun e w' => e = .returned (.slice none 0 0) ∧ Sat W w' (yrd p A bs.length c pl fe' fa' :: l0) := by
      by_cases h0 : fe = 0
      · subst h0
        obtain rfl : fa = 0 := hf rfl
        refine ⟨4, bs.length, by unfold toldID; rw [if_pos rfl, if_neg (by omega)], fun w0 l0 h => ?_⟩
        exact ypass_short p A c bs pl hb 0 32 (by omega) (by omega) (by omega) h
      · refine ⟨fe, fa, by unfold toldID; rw [if_neg h0], fun w0 l0 h => ?_⟩
        exact (ypass_stuck p A bs.length c pl fe fa h0 0 32 h).mono fun e w' ⟨he, hw⟩ => ⟨he, by subst hw; exact h⟩
    obtain ⟨fe', fa', hT, hps⟩ := hps
    rw [hT]
    dsimp only
    have HPS := Lib.hid hps
    clear hps hT
    have hdl : Hid ((noID.map B).toArray.size = (noID.map B).length) := by show _ = _; rfl
    go_enter Try.func46, Try.ntmps46
    go_wp2_with fail
    refine (HPS.out _ _ H0).mono ?_
    rintro e w1 ⟨rfl, H1⟩
    generalize w.heap.size + 1 = g at H1 ⊢
    generalize w.heap.size = q at H1 ⊢
    go_wp2
    go_loopw [5] (fun i wc => i = .int .i64 0 ∧ Sat W wc (yrd p A bs.length c pl fe' fa' :: pt g (noID.map B).toArray 33 :: pt q (noID.map B).toArray 33 :: l)) (fun _ _ => 0)
    case atStart => exact ⟨rfl, H1⟩
    case round =>
      obtain ⟨rfl, H3⟩ := hrel
      have hrg : Rd wr (some ⟨g, 0, none⟩) (noID.map B) := RdL.pt _ H3.swap
      go_wp2_with (first
        | refine wpList_load_rd rfl (.tmp 3) 33 rfl g 0 (noID.map B) (by rw [Try.underlying33]) hZ.out (by simp [Act.eval]) hrg ?_
        | (refine wpList_store_pt rfl rfl (.tmp 2) (.tmp 20) 33 rfl q (noID.map B).toArray 33 (noID.map B) hZ.out rfl rfl hdl.out (B_one noID) (H3.pull 2) ?_
           intro w4 H4))
      exact bodyPost_ret (v := idv noID) (results_cell_row Try.results46 _ w4 q 33 (noID.map B).toArray (0, 0) _ rfl H4.heap Try.underlying33 rfl (by simpa using hZ.out)) rfl ⟨rfl, H4.tail.swap.tail⟩
end Go.Proofs.Ytkfeejlpgcmilaa
