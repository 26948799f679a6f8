/- Package word's reader: Int and Count. -/
import Derived.Test.YtflcmhmbmippfaaWdF
namespace Go.Proofs.Ytflcmhmbmippfaa
open Go.RowKit Go.Rt

set_option maxRecDepth 100000 in
theorem rInt1_any {W w : World} {l : List SL} (b1 b2 b3 b4 : Nat) (p : Nat) (bs : List UInt8) (pl : Nat) (low high : Int) (hp : pl ≤ bs.length) (hb : bs.length ≤ 1000000000)
    (H : Sat W w (rdr p bs pl 0 0 :: ([pt b4 #[.int .i64 0] 3, pt b3 #[.int .i64 high] 3, pt b2 #[.int .i64 low] 3, pt b1 #[.pointer (some ⟨p, 0, none⟩)] 61] ++ l))) :
    Calls Try.prog 77 #[.pointer (some ⟨b1, 0, none⟩), .pointer (some ⟨b2, 0, none⟩), .pointer (some ⟨b3, 0, none⟩), .pointer (some ⟨b4, 0, none⟩)] w fun e w' =>
      match numAt bs pl low high 5 with
      | .ok n k => e = .returned (.tuple #[]) ∧ Sat W w' (rdr p bs (pl + k) 0 0 :: ([pt b4 #[.int .i64 n] 3, pt b3 #[.int .i64 high] 3, pt b2 #[.int .i64 low] 3, pt b1 #[.pointer (some ⟨p, 0, none⟩)] 61] ++ l))
      | .bad fe fa => e = .panicked (gone fe fa) ∧ ∃ pl', Sat W w' (rdr p bs pl' 0 0 :: ([pt b4 #[.int .i64 0] 3, pt b3 #[.int .i64 high] 3, pt b2 #[.int .i64 low] 3, pt b1 #[.pointer (some ⟨p, 0, none⟩)] 61] ++ l)) := by
  have h1 : w.cell? ⟨b1, 0, none⟩ = some (.pointer (some ⟨p, 0, none⟩)) := (H.pull 4).cell 0
  have h2 : w.cell? ⟨b2, 0, none⟩ = some (.int .i64 low) := (H.pull 3).cell 0
  have h3 : w.cell? ⟨b3, 0, none⟩ = some (.int .i64 high) := (H.pull 2).cell 0
  have hn := number_any low high 5 hp hb H
  generalize numAt bs pl low high 5 = r at hn ⊢
  have HN := Lib.hid hn
  clear hn
  cases r with
  | bad fe fa =>
    go_enter Try.func77, Try.ntmps77
    go_wp2_with fail
    refine HN.out.mono ?_
    rintro e w1 ⟨rfl, h⟩
    exact ⟨rfl, rfl, h⟩
  | ok n k =>
    go_enter Try.func77, Try.ntmps77
    go_wp2_with fail
    refine HN.out.mono ?_
    rintro e w1 ⟨rfl, H1, hk⟩
    have h4 : w1.cell? ⟨b4, 0, none⟩ = some (.int .i64 0) := (H1.pull 1).cell 0
    have f4 := (H1.pull 1).frz 0
    go_wp2
    go_end0
    exact ⟨rfl, ((H1.swap).setCell 0 (.int .i64 n)).swap⟩

/-- What a reader tells and becomes: a result, its place and its fault. -/
structure Told where
  n : Int
  pl : Nat
  fe : Int
  fa : Int
def toldInt (bs : List UInt8) (pl : Nat) (fe fa : Int) (low high above : Int) : Told :=
  if fe = 0 then (match numAt bs pl low high above with
    | .ok n k => ⟨n, pl + k, 0, 0⟩
    | .bad e a => ⟨0, pl, e, a⟩) else ⟨0, pl, fe, fa⟩

set_option maxRecDepth 100000 in
theorem rInt_any {W w : World} {l : List SL} (p : Nat) (bs : List UInt8) (pl : Nat) (fe fa : Int) (low high : Int) (hp : pl ≤ bs.length) (hb : bs.length ≤ 1000000000) (hf : fe = 0 → fa = 0)
    (H : Sat W w (rdr p bs pl fe fa :: l)) :
    Calls Try.prog 43 #[.pointer (some ⟨p, 0, none⟩), .int .i64 low, .int .i64 high] w fun e w' =>
      e = .returned (.int .i64 (toldInt bs pl fe fa low high 5).n) ∧ Sat W w' (rdr p bs (toldInt bs pl fe fa low high 5).pl (toldInt bs pl fe fa low high 5).fe (toldInt bs pl fe fa low high 5).fa :: l) := by
  have hmf : ∀ (fn : Fn) (first cap : Array Value) (w : World), (Instr.makeFunc fn first cap).run Try.prog w = .ok (.func fn first cap) w := fun _ _ _ _ => rfl
  have H0 := ((((H.alloc #[.pointer (some ⟨p, 0, none⟩)] 61).alloc #[.int .i64 low] 3).alloc #[.int .i64 high] 3).alloc #[.int .i64 0] 3)
  simp only [World.size_alloc] at H0
  obtain ⟨T, HT⟩ : ∃ T, Hid (toldInt bs pl fe fa low high 5 = T) := ⟨_, rfl⟩
  rw [HT.out]
  go_enter Try.func43, Try.ntmps43
  go_wp2_with fail
  generalize (((w.alloc _).alloc _).alloc _).alloc _ = wo at *
  generalize w.heap.size + 1 + 1 + 1 = b4 at *
  generalize w.heap.size + 1 + 1 = b3 at *
  generalize w.heap.size + 1 = b2 at *
  generalize w.heap.size = b1 at *
  have H1 : Sat W wo (rdr p bs pl fe fa :: ([pt b4 #[.int .i64 0] 3, pt b3 #[.int .i64 high] 3, pt b2 #[.int .i64 low] 3, pt b1 #[.pointer (some ⟨p, 0, none⟩)] 61] ++ l)) := H0.pull 4
  clear H0 hmf
  by_cases h0 : fe = 0
  · subst h0
    obtain rfl := hf rfl
    have hI := fun (L : List SL) (w1 : World) (h : Sat W w1 (rdr p bs pl 0 0 :: ([pt b4 #[.int .i64 0] 3, pt b3 #[.int .i64 high] 3, pt b2 #[.int .i64 low] 3, pt b1 #[.pointer (some ⟨p, 0, none⟩)] 61] ++ L))) => rInt1_any b1 b2 b3 b4 p bs pl low high hp hb h
    have ht : T = (match numAt bs pl low high 5 with | .ok n k => ⟨n, pl + k, 0, 0⟩ | .bad e a => ⟨0, pl, e, a⟩) := HT.out.symm
    clear HT hf
    generalize numAt bs pl low high 5 = r at hI ht
    have HI := Lib.hid hI
    clear hI
    cases r with
    | ok n k =>
      obtain rfl : T = ⟨n, pl + k, 0, 0⟩ := ht
      refine (try_fine p bs pl (pl + k) 77 _ _ _ HI.out (fun w1 => by simp [go_sem]) H1).mono ?_
      rintro e w2 ⟨rfl, H2⟩
      have hc : w2.cell? ⟨b4, 0, none⟩ = some (.int .i64 n) := (H2.pull 1).cell 0
      go_wp2
      go_ret
      exact ⟨rfl, H2.swap.tail.swap.tail.swap.tail.swap.tail⟩
    | bad er ea =>
      obtain rfl : T = ⟨0, pl, er, ea⟩ := ht
      refine (try_gone p bs pl er ea 77 _ _ _ HI.out (fun w1 => by simp [go_sem]) H1).mono ?_
      rintro e w2 ⟨rfl, H2⟩
      go_wp2
      go_ret
      exact ⟨rfl, H2.swap.tail.swap.tail.swap.tail.swap.tail⟩
  · obtain rfl : T = ⟨0, pl, fe, fa⟩ := by rw [← HT.out]; simp only [toldInt]; rw [if_neg h0]
    clear HT
    refine (try_stuck p bs pl fe fa _ h0 H1).mono ?_
    rintro e w2 ⟨rfl, H2⟩
    go_wp2
    go_ret
    exact ⟨rfl, H2.swap.tail.swap.tail.swap.tail.swap.tail⟩
end Go.Proofs.Ytflcmhmbmippfaa
