/- Package word's reader: Count, At, Left, End. -/
import Derived.Test.YtkfeejlpgcmilaaWdJ
namespace Go.Proofs.Ytkfeejlpgcmilaa
open Go.RowKit Go.Rt

theorem rCount1_any {W w : World} {l : List SL} (b1 b3 b4 : Nat) (p : Nat) (bs : List UInt8) (pl : Nat) (high : Int) (hp : pl ≤ bs.length) (hb : bs.length ≤ 1000000000)
    (H : Sat W w (rdr p bs pl 0 0 :: ([pt b4 #[.int .i64 0] 3, pt b3 #[.int .i64 high] 3, pt b1 #[.pointer (some ⟨p, 0, none⟩)] 52] ++ l))) :
    Calls Try.prog 64 #[.pointer (some ⟨b1, 0, none⟩), .pointer (some ⟨b3, 0, none⟩), .pointer (some ⟨b4, 0, none⟩)] w fun e w' =>
      match numAt bs pl 0 high 3 with
      | .ok n k => e = .returned (.tuple #[]) ∧ Sat W w' (rdr p bs (pl + k) 0 0 :: ([pt b4 #[.int .i64 n] 3, pt b3 #[.int .i64 high] 3, pt b1 #[.pointer (some ⟨p, 0, none⟩)] 52] ++ l))
      | .bad fe fa => e = .panicked (gone fe fa) ∧ ∃ pl', Sat W w' (rdr p bs pl' 0 0 :: ([pt b4 #[.int .i64 0] 3, pt b3 #[.int .i64 high] 3, pt b1 #[.pointer (some ⟨p, 0, none⟩)] 52] ++ l)) := by
  have h1 : w.cell? ⟨b1, 0, none⟩ = some (.pointer (some ⟨p, 0, none⟩)) := (H.pull 3).cell 0
  have h3 : w.cell? ⟨b3, 0, none⟩ = some (.int .i64 high) := (H.pull 2).cell 0
  have hn := number_any 0 high 3 hp hb H
  generalize numAt bs pl 0 high 3 = r at hn ⊢
  have HN := Lib.hid hn
  clear hn
  cases r with
  | bad fe fa =>
    go_enter Try.func64, Try.ntmps64
    go_wp2_with fail
    refine HN.out.mono ?_
    rintro e w1 ⟨rfl, h⟩
    exact ⟨rfl, rfl, h⟩
  | ok n k =>
    go_enter Try.func64, Try.ntmps64
    go_wp2_with fail
    refine HN.out.mono ?_
    rintro e w1 ⟨rfl, H1, hk⟩
    have h4 : w1.cell? ⟨b4, 0, none⟩ = some (.int .i64 0) := (H1.pull 1).cell 0
    have f4 := (H1.pull 1).frz 0
    go_wp2
    go_end0
    exact ⟨rfl, ((H1.swap).setCell 0 (.int .i64 n)).swap⟩

theorem rCount_any {W w : World} {l : List SL} (p : Nat) (bs : List UInt8) (pl : Nat) (fe fa : Int) (high : Int) (hp : pl ≤ bs.length) (hb : bs.length ≤ 1000000000) (hf : fe = 0 → fa = 0)
    (H : Sat W w (rdr p bs pl fe fa :: l)) :
    Calls Try.prog 42 #[.pointer (some ⟨p, 0, none⟩), .int .i64 high] w fun e w' =>
      e = .returned (.int .i64 (toldInt bs pl fe fa 0 high 3).n) ∧ Sat W w' (rdr p bs (toldInt bs pl fe fa 0 high 3).pl (toldInt bs pl fe fa 0 high 3).fe (toldInt bs pl fe fa 0 high 3).fa :: l) := by
  have hmf : ∀ (fn : Fn) (first cap : Array Value) (w : World), (Instr.makeFunc fn first cap).run Try.prog w = .ok (.func fn first cap) w := fun _ _ _ _ => rfl
  have H0 := (((H.alloc #[.pointer (some ⟨p, 0, none⟩)] 52).alloc #[.int .i64 high] 3).alloc #[.int .i64 0] 3)
  simp only [World.size_alloc] at H0
  obtain ⟨T, HT⟩ : ∃ T, Hid (toldInt bs pl fe fa 0 high 3 = T) := ⟨_, rfl⟩
  rw [HT.out]
  go_enter Try.func42, Try.ntmps42
  go_wp2_with fail
  generalize ((w.alloc _).alloc _).alloc _ = wo at *
  generalize w.heap.size + 1 + 1 = b4 at *
  generalize w.heap.size + 1 = b3 at *
  generalize w.heap.size = b1 at *
  have H1 : Sat W wo (rdr p bs pl fe fa :: ([pt b4 #[.int .i64 0] 3, pt b3 #[.int .i64 high] 3, pt b1 #[.pointer (some ⟨p, 0, none⟩)] 52] ++ l)) := H0.pull 3
  clear H0 hmf
  by_cases h0 : fe = 0
  · subst h0
    obtain rfl := hf rfl
    have hI := fun (L : List SL) (w1 : World) (h : Sat W w1 (rdr p bs pl 0 0 :: ([pt b4 #[.int .i64 0] 3, pt b3 #[.int .i64 high] 3, pt b1 #[.pointer (some ⟨p, 0, none⟩)] 52] ++ L))) => rCount1_any b1 b3 b4 p bs pl high hp hb h
    have ht : T = (match numAt bs pl 0 high 3 with | .ok n k => ⟨n, pl + k, 0, 0⟩ | .bad e a => ⟨0, pl, e, a⟩) := HT.out.symm
    clear HT hf
    generalize numAt bs pl 0 high 3 = r at hI ht
    have HI := Lib.hid hI
    clear hI
    cases r with
    | ok n k =>
      obtain rfl : T = ⟨n, pl + k, 0, 0⟩ := ht
      refine (try_fine p bs pl (pl + k) 64 _ _ _ HI.out (fun w1 => by simp [go_sem]) H1).mono ?_
      rintro e w2 ⟨rfl, H2⟩
      have hc : w2.cell? ⟨b4, 0, none⟩ = some (.int .i64 n) := (H2.pull 1).cell 0
      go_wp2
      go_ret
      exact ⟨rfl, H2.swap.tail.swap.tail.swap.tail⟩
    | bad er ea =>
      obtain rfl : T = ⟨0, pl, er, ea⟩ := ht
      refine (try_gone p bs pl er ea 64 _ _ _ HI.out (fun w1 => by simp [go_sem]) H1).mono ?_
      rintro e w2 ⟨rfl, H2⟩
      go_wp2
      go_ret
      exact ⟨rfl, H2.swap.tail.swap.tail.swap.tail⟩
  · obtain rfl : T = ⟨0, pl, fe, fa⟩ := by rw [← HT.out]; simp only [toldInt]; rw [if_neg h0]
    clear HT
    refine (try_stuck p bs pl fe fa _ h0 H1).mono ?_
    rintro e w2 ⟨rfl, H2⟩
    go_wp2
    go_ret
    exact ⟨rfl, H2.swap.tail.swap.tail.swap.tail⟩
theorem rAt_any {W w : World} {l : List SL} (p : Nat) (bs : List UInt8) (pl : Nat) (fe fa : Int) (H : Sat W w (rdr p bs pl fe fa :: l)) :
    Calls Try.prog 33 #[.pointer (some ⟨p, 0, none⟩)] w fun e w' => e = .returned (.int .i64 pl) ∧ w = w' := by
  obtain ⟨A, c, H1⟩ := rdr_open H
  have hc0 : w.cell? ⟨p, 0, none⟩ = some (.bool true) := H1.cell 0
  have hc4 : w.cell? ⟨p, 4, none⟩ = some (.int .i64 pl) := H1.cell 4
  go_enter Try.func33, Try.ntmps33
  go_wp2_with (go_at_call 60; refine (none_any _ _ true _ hc0).mono ?_; rintro e w' ⟨rfl, rfl⟩)
  go_ret
  exact ⟨rfl, rfl⟩

theorem rLeft_any {W w : World} {l : List SL} (p : Nat) (bs : List UInt8) (pl : Nat) (fe fa : Int) (hp : pl ≤ bs.length) (hb : bs.length ≤ 1000000000) (H : Sat W w (rdr p bs pl fe fa :: l)) :
    Calls Try.prog 36 #[.pointer (some ⟨p, 0, none⟩)] w fun e w' => e = .returned (.int .i64 ((bs.length - pl : Nat) : Int)) ∧ Sat W w' (rdr p bs pl fe fa :: l) := by
  obtain ⟨A, c, H1⟩ := rdr_open H
  have hc0 : w.cell? ⟨p, 0, none⟩ = some (.bool true) := H1.cell 0
  have hc1 : w.cell? ⟨p, 1, none⟩ = some (.slice A bs.length c) := H1.cell 1
  have hc4 : w.cell? ⟨p, 4, none⟩ = some (.int .i64 pl) := H1.cell 4
  have hs1 : IntKind.i64.wrap ((bs.length : Int) - pl) = (bs.length : Int) - pl := IntWalk.i64_in _ (by omega)
  have hs2 : Hid ((bs.length : Int) - pl = ((bs.length - pl : Nat) : Int)) := by show _ = _; omega
  go_enter Try.func36, Try.ntmps36
  go_wp2_with (go_at_call 60; refine (none_any _ _ true _ hc0).mono ?_; rintro e w' ⟨rfl, rfl⟩)
  go_quiet (fail)
  go_wp2
  go_ret
  exact ⟨by rw [hs2.out]; rfl, H.drewN _⟩

/-- What a reader says at its end. -/
def endF (bs : List UInt8) (pl : Nat) (fe fa : Int) : Int × Int := if fe = 0 ∧ pl < bs.length then (4, (pl : Int)) else (fe, fa)
theorem rEnd_any {W w : World} {l : List SL} (p : Nat) (bs : List UInt8) (pl : Nat) (fe fa : Int) (hp : pl ≤ bs.length) (hb : bs.length ≤ 1000000000) (H : Sat W w (rdr p bs pl fe fa :: l)) :
    Calls Try.prog 48 #[.pointer (some ⟨p, 0, none⟩)] w fun e w' => e = .returned (.agg #[.int .i64 (endF bs pl fe fa).1, .int .i64 (endF bs pl fe fa).2]) ∧ Sat W w' (rdr p bs pl fe fa :: l) := by
  have H0 : Sat W (w.alloc (.cells #[.int .i64 0, .int .i64 0] 58)) (rdr p bs pl fe fa :: pt w.heap.size #[.int .i64 0, .int .i64 0] 58 :: l) := (H.alloc _ _).swap
  obtain ⟨r, hr⟩ : ∃ r, Hid (endF bs pl fe fa = r) := ⟨_, rfl⟩
  rw [hr.out]
  go_enter Try.func48, Try.ntmps48
  go_wp2_with fail
  refine (rFault_any p bs pl fe fa H0).mono ?_
  rintro e w1 ⟨rfl, H1⟩
  generalize w.heap.size = b at H1 ⊢
  have H2 : Sat W (w1.alloc (.cells #[.int .i64 fe, .int .i64 fa] 58)) (rdr p bs pl fe fa :: pt w1.heap.size #[.int .i64 fe, .int .i64 fa] 58 :: pt b #[.int .i64 0, .int .i64 0] 58 :: l) := (H1.alloc _ _).swap
  have c0 := (H2.pull 2).cell 0
  have c1 := (H2.pull 2).cell 1
  have f0 := (H2.pull 2).frz 0
  have f1 := (H2.pull 2).frz 1
  by_cases h0 : fe = 0
  · subst h0
    by_cases hpl : pl < bs.length
    · have hd : decide (((bs.length - pl : Nat) : Int) > 0) = true := by simp; omega
      have er : r = (4, (pl : Int)) := by rw [← hr.out, endF, if_pos ⟨rfl, hpl⟩]
      subst er
      go_wp2_with fail
      refine (rLeft_any p bs pl 0 fa hp hb H2).mono ?_
      rintro e w2 ⟨rfl, H3⟩
      clear c0 c1 f0 f1
      have H4 := H3.swap
      have c0 := (H3.pull 2).cell 0
      have c1 := (H3.pull 2).cell 1
      have f0 := (H3.pull 2).frz 0
      have f1 := (H3.pull 2).frz 1
      have d0 := H4.cell 0
      have d1 := H4.cell 1
      have g0 := H4.frz 0
      have g1 := H4.frz 1
      have hne : ¬ w1.heap.size = b := H3.tail.ne
      obtain ⟨A, c, H5⟩ := rdr_open H3
      have e4 : w2.cell? ⟨p, 4, none⟩ = some (.int .i64 pl) := H5.cell 4
      go_wp2_with fail
      have H6 := ((((H4.setCell 0 (.int .i64 4)).setCell 1 (.int .i64 pl)).pull 2).setCell 0 (.int .i64 4)).setCell 1 (.int .i64 pl)
      generalize (((w2.setCell _ _).setCell _ _).setCell _ _).setCell _ _ = wF at H6 ⊢
      have k0 : wF.cell? ⟨b, 0, none⟩ = some (.int .i64 4) := H6.cell 0
      have k1 : wF.cell? ⟨b, 1, none⟩ = some (.int .i64 pl) := H6.cell 1
      exact bodyPost_ret (v := .agg #[.int .i64 4, .int .i64 pl]) (by simp [results, Try.results48, go_sem, k0, k1]) rfl ⟨rfl, H6.tail.tail⟩
    · have hd : decide (((bs.length - pl : Nat) : Int) > 0) = false := by simp; omega
      have er : r = (0, fa) := by rw [← hr.out, endF, if_neg (fun h => hpl h.2)]
      subst er
      go_wp2_with fail
      refine (rLeft_any p bs pl 0 fa hp hb H2).mono ?_
      rintro e w2 ⟨rfl, H3⟩
      clear c0 c1 f0 f1
      have c0 := (H3.pull 2).cell 0
      have c1 := (H3.pull 2).cell 1
      have f0 := (H3.pull 2).frz 0
      have f1 := (H3.pull 2).frz 1
      have d0 := H3.swap.cell 0
      have d1 := H3.swap.cell 1
      go_wp2_with fail
      have H6 := ((H3.pull 2).setCell 0 (.int .i64 0)).setCell 1 (.int .i64 fa)
      generalize (w2.setCell _ _).setCell _ _ = wF at H6 ⊢
      have k0 : wF.cell? ⟨b, 0, none⟩ = some (.int .i64 0) := H6.cell 0
      have k1 : wF.cell? ⟨b, 1, none⟩ = some (.int .i64 fa) := H6.cell 1
      exact bodyPost_ret (v := .agg #[.int .i64 0, .int .i64 fa]) (by simp [results, Try.results48, go_sem, k0, k1]) rfl ⟨rfl, H6.tail.swap.tail⟩
  · have hd : decide (fe = 0) = false := by simpa using h0
    have er : r = (fe, fa) := by rw [← hr.out, endF, if_neg (fun h => h0 h.1)]
    subst er
    have H6 := ((H1.swap.setCell 0 (.int .i64 fe)).setCell 1 (.int .i64 fa)).alloc' (.cells #[.int .i64 fe, .int .i64 fa] 58)
    have hbl : b < w1.heap.size := H1.swap.lt
    have i0 : w1.cell? ⟨b, 0, none⟩ = some (.int .i64 0) := H1.swap.cell 0
    have i1 : w1.cell? ⟨b, 1, none⟩ = some (.int .i64 0) := H1.swap.cell 1
    have j0 := H1.swap.frz 0
    have j1 := H1.swap.frz 1
    clear c0 c1 f0 f1
    go_wp2_with fail
    generalize ((w1.setCell _ _).setCell _ _).alloc _ = wF at H6 ⊢
    have k0 : wF.cell? ⟨b, 0, none⟩ = some (.int .i64 fe) := H6.cell 0
    have k1 : wF.cell? ⟨b, 1, none⟩ = some (.int .i64 fa) := H6.cell 1
    exact bodyPost_ret (v := .agg #[.int .i64 fe, .int .i64 fa]) (by simp [results, Try.results48, go_sem, k0, k1]) rfl ⟨rfl, H6.tail⟩
end Go.Proofs.Ytkfeejlpgcmilaa
