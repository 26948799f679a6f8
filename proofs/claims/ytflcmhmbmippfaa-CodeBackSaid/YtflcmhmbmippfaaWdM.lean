/- Package word's reader: Text, whole. -/
import Derived.Test.YtflcmhmbmippfaaWdL
namespace Go.Proofs.Ytflcmhmbmippfaa
open Go.RowKit Go.Rt

/-- What a reader tells of a text and becomes. -/
structure ToldT where
  s : List UInt8
  pl : Nat
  fe : Int
  fa : Int
def toldTxt (bs : List UInt8) (pl : Nat) (fe fa : Int) (high : Int) : ToldT :=
  if fe = 0 then (match txtAt bs pl high with
    | .ok s k => ⟨s, pl + k, 0, 0⟩
    | .bad e a => ⟨[], pl, e, a⟩) else ⟨[], pl, fe, fa⟩

set_option maxRecDepth 100000 in
theorem rText_any {W w : World} {l : List SL} (p : Nat) (bs : List UInt8) (pl : Nat) (fe fa : Int) (high : Int) (hp : pl ≤ bs.length) (hb : bs.length ≤ 1000000000) (hf : fe = 0 → fa = 0)
    (H : Sat W w (rdr p bs pl fe fa :: l)) :
    Calls Try.prog 45 #[.pointer (some ⟨p, 0, none⟩), .int .i64 high] w fun e w' =>
      e = .returned (.string ⟨(toldTxt bs pl fe fa high).s.toArray⟩) ∧ Sat W w' (rdr p bs (toldTxt bs pl fe fa high).pl (toldTxt bs pl fe fa high).fe (toldTxt bs pl fe fa high).fa :: l) := by
  have hmf : ∀ (fn : Fn) (first cap : Array Value) (w : World), (Instr.makeFunc fn first cap).run Try.prog w = .ok (.func fn first cap) w := fun _ _ _ _ => rfl
  have H0 := (((H.alloc #[.pointer (some ⟨p, 0, none⟩)] 61).alloc #[.int .i64 high] 3).alloc #[.string ⟨#[]⟩] 9)
  simp only [World.size_alloc] at H0
  obtain ⟨T, HT⟩ : ∃ T, Hid (toldTxt bs pl fe fa high = T) := ⟨_, rfl⟩
  rw [HT.out]
  go_enter Try.func45, Try.ntmps45
  go_wp2_with fail
  generalize ((w.alloc _).alloc _).alloc _ = wo at *
  generalize w.heap.size + 1 + 1 = b4 at *
  generalize w.heap.size + 1 = b3 at *
  generalize w.heap.size = b1 at *
  have H1 : Sat W wo (rdr p bs pl fe fa :: ([pt b4 #[.string ⟨#[]⟩] 9, pt b3 #[.int .i64 high] 3, pt b1 #[.pointer (some ⟨p, 0, none⟩)] 61] ++ l)) := H0.pull 3
  clear H0 hmf
  by_cases h0 : fe = 0
  · subst h0
    obtain rfl := hf rfl
    have hI := fun (L : List SL) (w1 : World) (h : Sat W w1 (rdr p bs pl 0 0 :: ([pt b4 #[.string ⟨#[]⟩] 9, pt b3 #[.int .i64 high] 3, pt b1 #[.pointer (some ⟨p, 0, none⟩)] 61] ++ L))) => rText1_any b1 b3 b4 p bs pl high hp hb h
    have ht : T = (match txtAt bs pl high with | .ok s k => ⟨s, pl + k, 0, 0⟩ | .bad e a => ⟨[], pl, e, a⟩) := HT.out.symm
    clear HT hf
    generalize txtAt bs pl high = r at hI ht
    have HI := Lib.hid hI
    clear hI
    cases r with
    | ok s k =>
      obtain rfl : T = ⟨s, pl + k, 0, 0⟩ := ht
      refine (try_fine p bs pl (pl + k) 79 _ _ _ (fun L w1 h => (HI.out L w1 h).mono fun e w' h' => ⟨h'.1, h'.2.1⟩) (fun w1 => by simp [go_sem]) H1).mono ?_
      rintro e w2 ⟨rfl, H2⟩
      have hc : w2.cell? ⟨b4, 0, none⟩ = some (.string ⟨s.toArray⟩) := (H2.pull 1).cell 0
      go_wp2
      go_ret
      exact ⟨rfl, H2.swap.tail.swap.tail.swap.tail⟩
    | bad er ea =>
      obtain rfl : T = ⟨[], pl, er, ea⟩ := ht
      refine (try_gone p bs pl er ea 79 _ _ _ HI.out (fun w1 => by simp [go_sem]) H1).mono ?_
      rintro e w2 ⟨rfl, H2⟩
      go_wp2
      go_ret
      exact ⟨rfl, H2.swap.tail.swap.tail.swap.tail⟩
  · obtain rfl : T = ⟨[], pl, fe, fa⟩ := by rw [← HT.out]; simp only [toldTxt]; rw [if_neg h0]
    clear HT
    refine (try_stuck p bs pl fe fa _ h0 H1).mono ?_
    rintro e w2 ⟨rfl, H2⟩
    go_wp2
    go_ret
    exact ⟨rfl, H2.swap.tail.swap.tail.swap.tail⟩
end Go.Proofs.Ytflcmhmbmippfaa
