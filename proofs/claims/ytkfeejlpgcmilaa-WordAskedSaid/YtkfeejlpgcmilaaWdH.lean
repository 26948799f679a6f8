/- The laws' own helpers over package word: a thing is written. -/
import Derived.Test.YtkfeejlpgcmilaaWdG
import Derived.Test.YtkfeejlpgcmilaaRtC
namespace Go.Proofs.Ytkfeejlpgcmilaa
open Go.RowKit Go.Rt

/-- A thing: its kind, its number, its text, its ID. -/
structure Th where
  k : Int
  n : Int
  s : ByteArray
  d : List UInt8
structure Th.Ok (x : Th) : Prop where
  n : x.n ≤ 9223372036854775807
  s : x.s.size ≤ 1000000000
  d : x.d.length = 32
def Th.cs (x : Th) : List Value := .int .i64 x.k :: .int .i64 x.n :: .string x.s :: x.d.map B
def Th.v (x : Th) : Value := .agg x.cs.toArray
def Th.put (x : Th) (bs : List UInt8) : List UInt8 :=
  if x.k = 0 then wrInt x.n bs else if x.k = 1 then bs ++ sev x.s.size ++ x.s.data.toList else if x.k = 2 then bs ++ x.d else bs
def Th.bad (x : Th) : Bool := decide (x.k = 0) && decide (x.n < 0)

theorem lwrite_any {W w : World} {l : List SL} {p : Nat} {bs : List UInt8} {bad : Bool} (x : Th) (hx : x.Ok) (hb : bs.length ≤ 900000000) (H : Sat W w (wr p bs bad :: l)) :
    Calls Try.prog 15 #[.pointer (some ⟨p, 0, none⟩), x.v] w fun e w' => e = .returned (.tuple #[]) ∧ Sat W w' (wr p (x.put bs) (bad || x.bad) :: l) := by
  obtain ⟨k, n, s, d⟩ := x
  obtain ⟨hn, hs, hd⟩ := hx
  dsimp only at hn hs hd
  unfold Th.v
  obtain ⟨cs, hcs⟩ : ∃ cs, cs = Th.cs ⟨k, n, s, d⟩ := ⟨_, rfl⟩
  rw [← hcs]
  have g0 : cs[0]? = some (.int .i64 k) := by rw [hcs]; rfl
  have g1 : cs[1]? = some (.int .i64 n) := by rw [hcs]; rfl
  have g2 : cs[2]? = some (.string s) := by rw [hcs]; rfl
  have HC := Lib.hid hcs
  clear hcs
  go_enter Try.func15, Try.ntmps15
  have H1 : Sat W (w.alloc (.cells cs.toArray 35)) (wr p bs bad :: pt w.heap.size cs.toArray 35 :: l) := (H.alloc _ _).swap
  have H2 : Sat W (w.alloc (.cells cs.toArray 35)) (wr p bs bad :: l) := H.alloc' _
  unfold Th.put Th.bad
  by_cases hk0 : k = 0
  · subst hk0
    go_wp2_with (go_at_call 52; refine (wInt_all n hn (by omega) H2).mono ?_; rintro e w' ⟨rfl, H3⟩)
    go_end0
    simpa using H3
  have hk0' : decide (k = 0) = false := by simpa using hk0
  by_cases hk1 : k = 1
  · subst hk1
    go_wp2_with (go_at_call 53; refine (wText_any s hs hb H2).mono ?_; rintro e w' ⟨rfl, H3⟩)
    go_end0
    simpa using H3
  have hk1' : decide (k = 1) = false := by simpa using hk1
  by_cases hk2 : k = 2
  · subst hk2
    have hr : Rd (w.alloc (.cells cs.toArray 35)) (some ⟨w.heap.size, 0 + 3, none⟩) (cs.drop 3) := (Rd.new w cs.toArray 35).drop 3
    have hdr : cs.drop 3 = d.map B := by rw [HC.out]; rfl
    rw [hdr] at hr
    clear hdr
    have hL : (Try.prog.info? 33).map (·.size) = some (d.map B).length := by rw [List.length_map, hd]; kernel_rfl
    have HL := Lib.hid hL
    clear hL
    go_wp2_with (first
      | (go_at_call 54; refine (wID_any d hd (by omega) H2).mono ?_; rintro e w' ⟨rfl, H3⟩)
      | refine wpList_load_rd rfl (.tmp 21) 33 rfl w.heap.size 3 (d.map B) (by rw [Try.underlying33]) HL.out (by simp [Act.eval]) hr ?_)
    go_end0
    simpa using H3
  have hk2' : decide (k = 2) = false := by simpa using hk2
  go_wp2
  go_end0
  simpa [hk0, hk1, hk2] using H2
end Go.Proofs.Ytkfeejlpgcmilaa
