/- MkB, in one text: WdH, WdI, WdJ, WdK, WdL, WdM, RtD, WdN, WdQ, WeR, WeS, WeT, WeU, WeV, WeW, WoB, WeX, RtE, RtF, RtG, RtH, RtI, WdU, RtR. -/
import Derived.Test.YtflcmhmbmippfaaMkA
import Derived.Deep.RegionHeld3
import Derived.Laws.Rows
import Derived.Laws.RangeString
import Derived.BigFrame
import Derived.Laws.Slices
import Derived.ArgAppend
import Derived.ChangeKeysEq
import Derived.ProofKit
/- The laws' own helpers over package word: a thing is written. -/
namespace Go.Proofs.Ytflcmhmbmippfaa
open Go.RowKit Go.Rt

/-- A thing: its kind, its number, its text, its ID. -/
structure Th where
  k : Int
  n : Int
  s : ByteArray
  d : List UInt8
structure Th.Ok (x : Th) : Prop where
  n : x.n ≤ 9223372036854775807
  s : x.s.size ≤ 1000000000
  d : x.d.length = 32
def Th.cs (x : Th) : List Value := .int .i64 x.k :: .int .i64 x.n :: .string x.s :: x.d.map B
def Th.v (x : Th) : Value := .agg x.cs.toArray
def Th.put (x : Th) (bs : List UInt8) : List UInt8 :=
  if x.k = 0 then wrInt x.n bs else if x.k = 1 then bs ++ sev x.s.size ++ x.s.data.toList else if x.k = 2 then bs ++ x.d else bs
def Th.bad (x : Th) : Bool := decide (x.k = 0) && decide (x.n < 0)

end Go.Proofs.Ytflcmhmbmippfaa

/- The laws' own helpers over package word: all things are written. -/
namespace Go.Proofs.Ytflcmhmbmippfaa
open Go.RowKit Go.Rt

/-- The cells of things in a row. -/
def thC (ts : List Th) : List Value := ts.flatMap Th.cs
/-- What a thing takes at most. -/
def Th.wt (x : Th) : Nat := x.s.size + 41
def wts (ts : List Th) : Nat := (ts.map Th.wt).sum
def putAll (ts : List Th) : List UInt8 := ts.foldl (fun b x => x.put b) []
def badAll (ts : List Th) : Bool := ts.any Th.bad

theorem Th.put_len (x : Th) (h : x.Ok) (bs : List UInt8) : (x.put bs).length ≤ bs.length + x.wt := by
  have h9 := sevF_len 9 x.n.toNat
  have h9' := sevF_len 9 x.s.size
  have hs := strC_len x.s
  have hd := h.d
  unfold Th.put wrInt Th.wt sev
  split
  · split
    · omega
    · simp only [List.length_append]; omega
  · split
    · simp only [List.length_append]; omega
    · split
      · simp only [List.length_append]; omega
      · omega
theorem putAll_snoc (ts : List Th) (x : Th) : putAll (ts ++ [x]) = x.put (putAll ts) := by simp [putAll]
theorem badAll_snoc (ts : List Th) (x : Th) : badAll (ts ++ [x]) = (badAll ts || x.bad) := by simp [badAll]
theorem wts_snoc (ts : List Th) (x : Th) : wts (ts ++ [x]) = wts ts + x.wt := by simp [wts]
theorem wts_append (ts us : List Th) : wts (ts ++ us) = wts ts + wts us := by simp [wts]
theorem put_fold_len (ts : List Th) (h : ∀ x ∈ ts, x.Ok) : ∀ bs : List UInt8, (ts.foldl (fun b (x : Th) => x.put b) bs).length ≤ bs.length + wts ts := by
  induction ts with
  | nil => intro bs; simp [wts]
  | cons x ts ih =>
    intro bs
    have h1 := Th.put_len x (h x (by simp)) bs
    have h2 := ih (fun y hy => h y (by simp [hy])) (x.put bs)
    simp only [List.foldl_cons, wts, List.map_cons, List.sum_cons] at h2 ⊢
    omega
theorem putAll_len (ts : List Th) (h : ∀ x ∈ ts, x.Ok) : (putAll ts).length ≤ wts ts := by
  have := put_fold_len ts h []
  simpa [putAll] using this
theorem Th.cs_len (x : Th) (h : x.Ok) : x.cs.length = 35 := by simp [Th.cs, h.d]
theorem thC_len (ts : List Th) (h : ∀ x ∈ ts, x.Ok) : (thC ts).length = ts.length * 35 := by
  induction ts with
  | nil => rfl
  | cons x ts ih =>
    have := ih fun y hy => h y (by simp [hy])
    have h1 := x.cs_len (h x (by simp))
    simp only [thC, List.flatMap_cons, List.length_append, List.length_cons] at this ⊢
    omega
theorem thC_at (ts : List Th) (h : ∀ x ∈ ts, x.Ok) (j : Nat) (x : Th) (hj : ts[j]? = some x) : ((thC ts).drop (j * 35)).take 35 = x.cs := by
  induction ts generalizing j with
  | nil => simp at hj
  | cons y ts ih =>
    have h1 := y.cs_len (h y (by simp))
    have e : thC (y :: ts) = y.cs ++ thC ts := rfl
    cases j with
    | zero =>
      simp at hj; subst hj
      rw [e, Nat.zero_mul, List.drop_zero, List.take_left' h1]
    | succ j =>
      rw [e, List.drop_append, List.drop_eq_nil_of_le (by omega), List.nil_append, h1]
      rw [show (j + 1) * 35 - 35 = j * 35 by omega]
      exact ih (fun z hz => h z (by simp [hz])) j (by simpa using hj)
theorem rd_thing {w : World} {A : Option Addr} {ts : List Th} (h : Rd w A (thC ts)) (hts : ∀ x ∈ ts, x.Ok) (j : Nat) (x : Th) (hj : ts[j]? = some x) :
    ∃ b o, A = some ⟨b, o, none⟩ ∧ Rd w (some ⟨b, o + j * 35, none⟩) x.cs := by
  have h1 := thC_at ts hts j x hj
  have hx : (thC ts) ≠ [] := by
    intro e
    rw [e] at h1
    simp [Th.cs] at h1
  obtain ⟨b, o, rfl⟩ := h.open hx
  exact ⟨b, o, rfl, by rw [← h1]; exact (h.drop (j * 35)).take 35⟩

/-- What is told of things that were written at once. -/
def AllPost (W : World) (l : List SL) (ts : List Th) (e : Ending) (w' : World) : Prop :=
  if badAll ts then e = .returned (.tuple #[.slice none 0 0, .bool false]) ∧ Sat W w' l
  else ∃ A' c', e = .returned (.tuple #[.slice A' (putAll ts).length c', .bool true]) ∧ Sat W w' (row 5 zB (.slice A' (putAll ts).length c') (putAll ts).length ((putAll ts).map B) :: l)

end Go.Proofs.Ytflcmhmbmippfaa

/- The laws' own helpers over package word: one number's bytes, a wrong reading, awake. -/
namespace Go.Proofs.Ytflcmhmbmippfaa
open Go.RowKit Go.Rt

def noID : List UInt8 := List.replicate 32 0
set_option maxRecDepth 100000 in
theorem rFault_any {W w : World} {l : List SL} (p : Nat) (bs : List UInt8) (pl : Nat) (fe fa : Int) (H : Sat W w (rdr p bs pl fe fa :: l)) :
    Calls Try.prog 48 #[.pointer (some ⟨p, 0, none⟩)] w fun e w' => e = .returned (.agg #[.int .i64 fe, .int .i64 fa]) ∧ Sat W w' (rdr p bs pl fe fa :: l) := by
  obtain ⟨A, c, H1⟩ := rdr_open H
  have hlt := H1.lt
  have hc0 : w.cell? ⟨p, 0, none⟩ = some (.bool true) := H1.cell 0
  have hc2 : w.cell? ⟨p, 2, none⟩ = some (.int .i64 fe) := H1.cell 2
  have hc3 : w.cell? ⟨p, 3, none⟩ = some (.int .i64 fa) := H1.cell 3
  have k0 : ∀ o, (w.alloc o).cell? ⟨p, 0, none⟩ = some (.bool true) := fun o => by rw [World.cell?_alloc_lt _ _ _ hlt]; exact hc0
  go_enter Try.func48, Try.ntmps48
  go_wp2_with (go_at_call 81; refine (none_any _ _ true _ (k0 _)).mono ?_; rintro e w' ⟨rfl, rfl⟩)
  exact bodyPost_ret (v := .agg #[.int .i64 fe, .int .i64 fa]) (by simp [results, Try.results48, go_sem]) rfl ⟨rfl, H.alloc' _⟩

end Go.Proofs.Ytflcmhmbmippfaa

/- Package word's reader: Count, At, Left, End. -/
namespace Go.Proofs.Ytflcmhmbmippfaa
open Go.RowKit Go.Rt

set_option maxRecDepth 100000 in
theorem rCount1_any {W w : World} {l : List SL} (b1 b3 b4 : Nat) (p : Nat) (bs : List UInt8) (pl : Nat) (high : Int) (hp : pl ≤ bs.length) (hb : bs.length ≤ 1000000000)
    (H : Sat W w (rdr p bs pl 0 0 :: ([pt b4 #[.int .i64 0] 3, pt b3 #[.int .i64 high] 3, pt b1 #[.pointer (some ⟨p, 0, none⟩)] 61] ++ l))) :
    Calls Try.prog 86 #[.pointer (some ⟨b1, 0, none⟩), .pointer (some ⟨b3, 0, none⟩), .pointer (some ⟨b4, 0, none⟩)] w fun e w' =>
      match numAt bs pl 0 high 3 with
      | .ok n k => e = .returned (.tuple #[]) ∧ Sat W w' (rdr p bs (pl + k) 0 0 :: ([pt b4 #[.int .i64 n] 3, pt b3 #[.int .i64 high] 3, pt b1 #[.pointer (some ⟨p, 0, none⟩)] 61] ++ l))
      | .bad fe fa => e = .panicked (gone fe fa) ∧ ∃ pl', Sat W w' (rdr p bs pl' 0 0 :: ([pt b4 #[.int .i64 0] 3, pt b3 #[.int .i64 high] 3, pt b1 #[.pointer (some ⟨p, 0, none⟩)] 61] ++ l)) := by
  have h1 : w.cell? ⟨b1, 0, none⟩ = some (.pointer (some ⟨p, 0, none⟩)) := (H.pull 3).cell 0
  have h3 : w.cell? ⟨b3, 0, none⟩ = some (.int .i64 high) := (H.pull 2).cell 0
  have hn := number_any 0 high 3 hp hb H
  generalize numAt bs pl 0 high 3 = r at hn ⊢
  have HN := Lib.hid hn
  clear hn
  cases r with
  | bad fe fa =>
    go_enter Try.func86, Try.ntmps86
    go_wp2_with fail
    refine HN.out.mono ?_
    rintro e w1 ⟨rfl, h⟩
    exact ⟨rfl, rfl, h⟩
  | ok n k =>
    go_enter Try.func86, Try.ntmps86
    go_wp2_with fail
    refine HN.out.mono ?_
    rintro e w1 ⟨rfl, H1, hk⟩
    have h4 : w1.cell? ⟨b4, 0, none⟩ = some (.int .i64 0) := (H1.pull 1).cell 0
    have f4 := (H1.pull 1).frz 0
    go_wp2
    go_end0
    exact ⟨rfl, ((H1.swap).setCell 0 (.int .i64 n)).swap⟩

set_option maxRecDepth 100000 in
theorem rCount_any {W w : World} {l : List SL} (p : Nat) (bs : List UInt8) (pl : Nat) (fe fa : Int) (high : Int) (hp : pl ≤ bs.length) (hb : bs.length ≤ 1000000000) (hf : fe = 0 → fa = 0)
    (H : Sat W w (rdr p bs pl fe fa :: l)) :
    Calls Try.prog 62 #[.pointer (some ⟨p, 0, none⟩), .int .i64 high] w fun e w' =>
      e = .returned (.int .i64 (toldInt bs pl fe fa 0 high 3).n) ∧ Sat W w' (rdr p bs (toldInt bs pl fe fa 0 high 3).pl (toldInt bs pl fe fa 0 high 3).fe (toldInt bs pl fe fa 0 high 3).fa :: l) := by
  have hmf : ∀ (fn : Fn) (first cap : Array Value) (w : World), (Instr.makeFunc fn first cap).run Try.prog w = .ok (.func fn first cap) w := fun _ _ _ _ => rfl
  have H0 := (((H.alloc #[.pointer (some ⟨p, 0, none⟩)] 61).alloc #[.int .i64 high] 3).alloc #[.int .i64 0] 3)
  simp only [World.size_alloc] at H0
  obtain ⟨T, HT⟩ : ∃ T, Hid (toldInt bs pl fe fa 0 high 3 = T) := ⟨_, rfl⟩
  rw [HT.out]
  go_enter Try.func62, Try.ntmps62
  go_wp2_with fail
  generalize ((w.alloc _).alloc _).alloc _ = wo at *
  generalize w.heap.size + 1 + 1 = b4 at *
  generalize w.heap.size + 1 = b3 at *
  generalize w.heap.size = b1 at *
  have H1 : Sat W wo (rdr p bs pl fe fa :: ([pt b4 #[.int .i64 0] 3, pt b3 #[.int .i64 high] 3, pt b1 #[.pointer (some ⟨p, 0, none⟩)] 61] ++ l)) := H0.pull 3
  clear H0 hmf
  by_cases h0 : fe = 0
  · subst h0
    obtain rfl := hf rfl
    have hI := fun (L : List SL) (w1 : World) (h : Sat W w1 (rdr p bs pl 0 0 :: ([pt b4 #[.int .i64 0] 3, pt b3 #[.int .i64 high] 3, pt b1 #[.pointer (some ⟨p, 0, none⟩)] 61] ++ L))) => rCount1_any b1 b3 b4 p bs pl high hp hb h
    have ht : T = (match numAt bs pl 0 high 3 with | .ok n k => ⟨n, pl + k, 0, 0⟩ | .bad e a => ⟨0, pl, e, a⟩) := HT.out.symm
    clear HT hf
    generalize numAt bs pl 0 high 3 = r at hI ht
    have HI := Lib.hid hI
    clear hI
    cases r with
    | ok n k =>
      obtain rfl : T = ⟨n, pl + k, 0, 0⟩ := ht
      refine (try_fine p bs pl (pl + k) 86 _ _ _ HI.out (fun w1 => by simp [go_sem]) H1).mono ?_
      rintro e w2 ⟨rfl, H2⟩
      have hc : w2.cell? ⟨b4, 0, none⟩ = some (.int .i64 n) := (H2.pull 1).cell 0
      go_wp2
      go_ret
      exact ⟨rfl, H2.swap.tail.swap.tail.swap.tail⟩
    | bad er ea =>
      obtain rfl : T = ⟨0, pl, er, ea⟩ := ht
      refine (try_gone p bs pl er ea 86 _ _ _ HI.out (fun w1 => by simp [go_sem]) H1).mono ?_
      rintro e w2 ⟨rfl, H2⟩
      go_wp2
      go_ret
      exact ⟨rfl, H2.swap.tail.swap.tail.swap.tail⟩
  · obtain rfl : T = ⟨0, pl, fe, fa⟩ := by rw [← HT.out]; simp only [toldInt]; rw [if_neg h0]
    clear HT
    refine (try_stuck p bs pl fe fa _ h0 H1).mono ?_
    rintro e w2 ⟨rfl, H2⟩
    go_wp2
    go_ret
    exact ⟨rfl, H2.swap.tail.swap.tail.swap.tail⟩
set_option maxRecDepth 100000 in
theorem rAt_any {W w : World} {l : List SL} (p : Nat) (bs : List UInt8) (pl : Nat) (fe fa : Int) (H : Sat W w (rdr p bs pl fe fa :: l)) :
    Calls Try.prog 49 #[.pointer (some ⟨p, 0, none⟩)] w fun e w' => e = .returned (.int .i64 pl) ∧ w = w' := by
  obtain ⟨A, c, H1⟩ := rdr_open H
  have hc0 : w.cell? ⟨p, 0, none⟩ = some (.bool true) := H1.cell 0
  have hc4 : w.cell? ⟨p, 4, none⟩ = some (.int .i64 pl) := H1.cell 4
  go_enter Try.func49, Try.ntmps49
  go_wp2_with (go_at_call 81; refine (none_any _ _ true _ hc0).mono ?_; rintro e w' ⟨rfl, rfl⟩)
  go_ret
  exact ⟨rfl, rfl⟩

/-- What a reader says at its end. -/
def endF (bs : List UInt8) (pl : Nat) (fe fa : Int) : Int × Int := if fe = 0 ∧ pl < bs.length then (4, (pl : Int)) else (fe, fa)
end Go.Proofs.Ytflcmhmbmippfaa

/- Package word's reader: Text. -/
namespace Go.Proofs.Ytflcmhmbmippfaa
open Go.RowKit Go.Rt

/-- What a text asked for comes to: its bytes and how many bytes are passed, or a fault. -/
inductive Txt where
  | ok (s : List UInt8) (k : Nat)
  | bad (e a : Int)
def txtAt (bs : List UInt8) (pl : Nat) (most : Int) : Txt :=
  match numAt bs pl 0 most 3 with
  | .ok n k => if n ≤ bs.length - (pl + k) then .ok ((bs.drop (pl + k)).take n) (k + n) else .bad 4 bs.length
  | .bad e a => .bad e a

set_option maxRecDepth 100000 in
set_option maxHeartbeats 1600000 in
theorem rText1_any {W w : World} {l : List SL} (b1 b3 b4 : Nat) (p : Nat) (bs : List UInt8) (pl : Nat) (high : Int) (hp : pl ≤ bs.length) (hb : bs.length ≤ 1000000000)
    (H : Sat W w (rdr p bs pl 0 0 :: ([pt b4 #[.string ⟨#[]⟩] 9, pt b3 #[.int .i64 high] 3, pt b1 #[.pointer (some ⟨p, 0, none⟩)] 61] ++ l))) :
    Calls Try.prog 79 #[.pointer (some ⟨b1, 0, none⟩), .pointer (some ⟨b3, 0, none⟩), .pointer (some ⟨b4, 0, none⟩)] w fun e w' =>
      match txtAt bs pl high with
      | .ok s k => e = .returned (.tuple #[]) ∧ Sat W w' (rdr p bs (pl + k) 0 0 :: ([pt b4 #[.string ⟨s.toArray⟩] 9, pt b3 #[.int .i64 high] 3, pt b1 #[.pointer (some ⟨p, 0, none⟩)] 61] ++ l)) ∧ pl + k ≤ bs.length
      | .bad fe fa => e = .panicked (gone fe fa) ∧ ∃ pl', Sat W w' (rdr p bs pl' 0 0 :: ([pt b4 #[.string ⟨#[]⟩] 9, pt b3 #[.int .i64 high] 3, pt b1 #[.pointer (some ⟨p, 0, none⟩)] 61] ++ l)) := by
  have h1 : w.cell? ⟨b1, 0, none⟩ = some (.pointer (some ⟨p, 0, none⟩)) := (H.pull 3).cell 0
  have h3 : w.cell? ⟨b3, 0, none⟩ = some (.int .i64 high) := (H.pull 2).cell 0
  have hn := number_any 0 high 3 hp hb H.drew
  unfold txtAt
  generalize numAt bs pl 0 high 3 = r at hn ⊢
  have HN := Lib.hid hn
  clear hn
  cases r with
  | bad fe fa =>
    dsimp only
    clear H
    go_enter Try.func79, Try.ntmps79
    refine wp_region_held_drew (S := fun w => w.cell? ⟨b1, 0, none⟩ = some (.pointer (some ⟨p, 0, none⟩)) ∧ w.cell? ⟨b3, 0, none⟩ = some (.int .i64 high)) (by kernel_rfl) ⟨h1, h3⟩ (fun hS => ?_)
    refine wpAnyH_take (i := 0) (v := ?_) rfl (by kernel_rfl) (by kernel_rfl) (by kernel_rfl) (fun _ _ _ h => h) (Or.inl ⟨by rfl, ?_⟩) hS ?_
    rotate_left
    · intro w hw
      obtain ⟨g1, g3⟩ := hw
      go_simp
      try with_reducible rfl
    simp only [Act.put, List.getElem_toArray, List.getElem_cons_zero, List.setIfInBounds_toArray, List.set_cons_zero, List.set_cons_succ]
    refine wpAnyH_take (i := 1) (v := ?_) rfl (by kernel_rfl) (by kernel_rfl) (by kernel_rfl) (fun _ _ _ h => h) (Or.inl ⟨by rfl, ?_⟩) hS ?_
    rotate_left
    · intro w hw
      obtain ⟨g1, g3⟩ := hw
      go_simp
      try with_reducible rfl
    simp only [Act.put, List.getElem_toArray, List.getElem_cons_zero, List.getElem_cons_succ, List.setIfInBounds_toArray, List.set_cons_zero, List.set_cons_succ]
    refine wpAnyH_take (i := 2) (v := ?_) rfl (by kernel_rfl) (by kernel_rfl) (by kernel_rfl) (fun _ _ _ h => h) (Or.inl ⟨by rfl, ?_⟩) hS ?_
    rotate_left
    · intro w hw
      obtain ⟨g1, g3⟩ := hw
      go_simp
      try with_reducible rfl
    simp only [Act.put, List.getElem_toArray, List.getElem_cons_zero, List.getElem_cons_succ, List.setIfInBounds_toArray, List.set_cons_zero, List.set_cons_succ]
    refine wpAnyH_ready (rs := [3]) (by kernel_rfl) (by simp) ?_
    refine AllReadyH.cons rfl (fun K hK => ?_) AllReadyH.nil
    go_simp
    refine HN.out.mono ?_
    rintro e w1 ⟨rfl, h⟩
    exact ⟨rfl, rfl, h⟩
  | ok n k =>
    dsimp only
    by_cases hfit : n ≤ bs.length - (pl + k)
    · rw [if_pos hfit]
      go_enter Try.func79, Try.ntmps79
      go_region_law (first
        | (go_simp; go_at_call 78; refine HN.out.mono ?_
           rintro e w1 ⟨rfl, H1, hk⟩
           have h1' : w1.cell? ⟨b1, 0, none⟩ = some (.pointer (some ⟨p, 0, none⟩)) := (H1.pull 3).cell 0)
        | (go_simp; go_at_call 80; refine (some_fits n hk hb hfit H1).mono ?_
           rintro e w2 ⟨A, c, rfl, H2, hr⟩
           have hl : ((bs.drop (pl + k)).take n).length = n := by rw [List.length_take, List.length_drop]; omega
           have hcv := run_str (P := Try.prog) (w := w2) 22 9 5 Try.underlying22 Try.underlying5 Try.underlying9 A n c ((bs.drop (pl + k)).take n) hl hr
           have h4 : w2.cell? ⟨b4, 0, none⟩ = some (.string ⟨#[]⟩) := (H2.pull 1).cell 0
           have f4 := (H2.pull 1).frz 0))
      all_goals
        go_end0
        refine ⟨rfl, ?_, by omega⟩
        rw [← Nat.add_assoc]
        exact ((H2.swap).setCell 0 (.string ⟨((bs.drop (pl + k)).take n).toArray⟩)).swap
    · rw [if_neg hfit]
      go_enter Try.func79, Try.ntmps79
      refine wp_region_held_drew (S := fun w => w.cell? ⟨b1, 0, none⟩ = some (.pointer (some ⟨p, 0, none⟩)) ∧ w.cell? ⟨b3, 0, none⟩ = some (.int .i64 high)) (by kernel_rfl) ⟨h1, h3⟩ (fun hS => ?_)
      refine wpAnyH_take (i := 0) (v := ?_) rfl (by kernel_rfl) (by kernel_rfl) (by kernel_rfl) (fun _ _ _ h => h) (Or.inl ⟨by rfl, ?_⟩) hS ?_
      rotate_left
      · intro w hw
        obtain ⟨g1, g3⟩ := hw
        go_simp
        try with_reducible rfl
      simp only [Act.put, List.getElem_toArray, List.getElem_cons_zero, List.setIfInBounds_toArray, List.set_cons_zero, List.set_cons_succ]
      refine wpAnyH_take (i := 1) (v := ?_) rfl (by kernel_rfl) (by kernel_rfl) (by kernel_rfl) (fun _ _ _ h => h) (Or.inl ⟨by rfl, ?_⟩) hS ?_
      rotate_left
      · intro w hw
        obtain ⟨g1, g3⟩ := hw
        go_simp
        try with_reducible rfl
      simp only [Act.put, List.getElem_toArray, List.getElem_cons_zero, List.getElem_cons_succ, List.setIfInBounds_toArray, List.set_cons_zero, List.set_cons_succ]
      refine wpAnyH_take (i := 2) (v := ?_) rfl (by kernel_rfl) (by kernel_rfl) (by kernel_rfl) (fun _ _ _ h => h) (Or.inl ⟨by rfl, ?_⟩) hS ?_
      rotate_left
      · intro w hw
        obtain ⟨g1, g3⟩ := hw
        go_simp
        try with_reducible rfl
      simp only [Act.put, List.getElem_toArray, List.getElem_cons_zero, List.getElem_cons_succ, List.setIfInBounds_toArray, List.set_cons_zero, List.set_cons_succ]
      refine wpAnyH_ready (rs := [3]) (by kernel_rfl) (by simp) ?_
      refine AllReadyH.cons rfl (fun K hK => ?_) AllReadyH.nil
      go_simp
      refine HN.out.mono ?_
      rintro e w1 ⟨rfl, H1, hk⟩
      refine hK.out _ _ ⟨(H1.pull 3).cell 0, (H1.pull 2).cell 0⟩ (fun hS1 => ?_)
      clear hK K
      refine wpAnyH_ready (rs := [4]) (by kernel_rfl) (by simp) ?_
      refine AllReadyH.cons rfl (fun K hK => ?_) AllReadyH.nil
      go_simp
      refine (some_short n hk hb (by omega) H1).mono ?_
      rintro e w2 ⟨rfl, H2⟩
      exact ⟨rfl, rfl, _, H2⟩
end Go.Proofs.Ytflcmhmbmippfaa

/- Package word's reader: Text, whole. -/
namespace Go.Proofs.Ytflcmhmbmippfaa
open Go.RowKit Go.Rt

/-- What a reader tells of a text and becomes. -/
structure ToldT where
  s : List UInt8
  pl : Nat
  fe : Int
  fa : Int
def toldTxt (bs : List UInt8) (pl : Nat) (fe fa : Int) (high : Int) : ToldT :=
  if fe = 0 then (match txtAt bs pl high with
    | .ok s k => ⟨s, pl + k, 0, 0⟩
    | .bad e a => ⟨[], pl, e, a⟩) else ⟨[], pl, fe, fa⟩

set_option maxRecDepth 100000 in
theorem rText_any {W w : World} {l : List SL} (p : Nat) (bs : List UInt8) (pl : Nat) (fe fa : Int) (high : Int) (hp : pl ≤ bs.length) (hb : bs.length ≤ 1000000000) (hf : fe = 0 → fa = 0)
    (H : Sat W w (rdr p bs pl fe fa :: l)) :
    Calls Try.prog 45 #[.pointer (some ⟨p, 0, none⟩), .int .i64 high] w fun e w' =>
      e = .returned (.string ⟨(toldTxt bs pl fe fa high).s.toArray⟩) ∧ Sat W w' (rdr p bs (toldTxt bs pl fe fa high).pl (toldTxt bs pl fe fa high).fe (toldTxt bs pl fe fa high).fa :: l) := by
  have hmf : ∀ (fn : Fn) (first cap : Array Value) (w : World), (Instr.makeFunc fn first cap).run Try.prog w = .ok (.func fn first cap) w := fun _ _ _ _ => rfl
  have H0 := (((H.alloc #[.pointer (some ⟨p, 0, none⟩)] 61).alloc #[.int .i64 high] 3).alloc #[.string ⟨#[]⟩] 9)
  simp only [World.size_alloc] at H0
  obtain ⟨T, HT⟩ : ∃ T, Hid (toldTxt bs pl fe fa high = T) := ⟨_, rfl⟩
  rw [HT.out]
  go_enter Try.func45, Try.ntmps45
  go_wp2_with fail
  generalize ((w.alloc _).alloc _).alloc _ = wo at *
  generalize w.heap.size + 1 + 1 = b4 at *
  generalize w.heap.size + 1 = b3 at *
  generalize w.heap.size = b1 at *
  have H1 : Sat W wo (rdr p bs pl fe fa :: ([pt b4 #[.string ⟨#[]⟩] 9, pt b3 #[.int .i64 high] 3, pt b1 #[.pointer (some ⟨p, 0, none⟩)] 61] ++ l)) := H0.pull 3
  clear H0 hmf
  by_cases h0 : fe = 0
  · subst h0
    obtain rfl := hf rfl
    have hI := fun (L : List SL) (w1 : World) (h : Sat W w1 (rdr p bs pl 0 0 :: ([pt b4 #[.string ⟨#[]⟩] 9, pt b3 #[.int .i64 high] 3, pt b1 #[.pointer (some ⟨p, 0, none⟩)] 61] ++ L))) => rText1_any b1 b3 b4 p bs pl high hp hb h
    have ht : T = (match txtAt bs pl high with | .ok s k => ⟨s, pl + k, 0, 0⟩ | .bad e a => ⟨[], pl, e, a⟩) := HT.out.symm
    clear HT hf
    generalize txtAt bs pl high = r at hI ht
    have HI := Lib.hid hI
    clear hI
    cases r with
    | ok s k =>
      obtain rfl : T = ⟨s, pl + k, 0, 0⟩ := ht
      refine (try_fine p bs pl (pl + k) 79 _ _ _ (fun L w1 h => (HI.out L w1 h).mono fun e w' h' => ⟨h'.1, h'.2.1⟩) (fun w1 => by simp [go_sem]) H1).mono ?_
      rintro e w2 ⟨rfl, H2⟩
      have hc : w2.cell? ⟨b4, 0, none⟩ = some (.string ⟨s.toArray⟩) := (H2.pull 1).cell 0
      go_wp2
      go_ret
      exact ⟨rfl, H2.swap.tail.swap.tail.swap.tail⟩
    | bad er ea =>
      obtain rfl : T = ⟨[], pl, er, ea⟩ := ht
      refine (try_gone p bs pl er ea 79 _ _ _ HI.out (fun w1 => by simp [go_sem]) H1).mono ?_
      rintro e w2 ⟨rfl, H2⟩
      go_wp2
      go_ret
      exact ⟨rfl, H2.swap.tail.swap.tail.swap.tail⟩
  · obtain rfl : T = ⟨[], pl, fe, fa⟩ := by rw [← HT.out]; simp only [toldTxt]; rw [if_neg h0]
    clear HT
    refine (try_stuck p bs pl fe fa _ h0 H1).mono ?_
    rintro e w2 ⟨rfl, H2⟩
    go_wp2
    go_ret
    exact ⟨rfl, H2.swap.tail.swap.tail.swap.tail⟩
end Go.Proofs.Ytflcmhmbmippfaa

/- A law on copying into an array of bytes that the call owns. No program in sight. -/
namespace Go.Rt
open Go.RowKit
section
variable {P : Program} {W w : World} {l : List SL}

theorem Sat.setPt {b : Nat} {c : Array Value} {t : TypeId} (H : Sat W w (pt b c t :: l)) (cur : Array Value) : Sat W (w.setRow b cur) (pt b cur t :: l) := by
  have hge := H.ge
  have hb : Below W.heap.size W (w.setRow b cur) := H.bel.trans ⟨rfl, rfl, rfl, by simp, fun k hk => setRow_other w b k _ (by omega)⟩
  refine H.put hb fun a ha hh => ⟨fun k => if k = b then some (.cells cur t (0, 0)) else none, by simp [pt], fun k hk => ?_, fun k o e => ?_, fun k hk _ => ?_⟩
  · by_cases e : k = b
    · subst e; left; have : a k = _ := ha; rw [this]; simp
    · simp [e] at hk
  · by_cases e1 : k = b
    · subst e1
      simp at e
      subst e
      have h1 := hh k _ ha
      exact ⟨h1.2, setRow_heap w k _ cur t _ h1.1⟩
    · simp [e1] at e
  · exact setRow_other w b k cur (by rintro rfl; have : a k = _ := ha; rw [this] at hk; cases hk)

/-- 'copy(a[:], s)' into an array of bytes. -/
theorem wp_copy_pt {o : Oper} {a : Act} {K : Act → World → Prop} {Q : Exit → Act → World → Prop} (d s : Operand) (dT sT : TypeId)
    (ho : o.op = .call { callee := .builtin .copy, args := #[d, s], argTypes := #[dT, sT] })
    (e : TypeId) (i : TypeInfo) (hu : P.underlying dT = some (.slice e)) (hi : P.info? e = some i) (hsize : i.size = 1)
    (g n : Nat) (cur : Array Value) (tag : TypeId) (hd : a.eval d = .slice (some ⟨g, 0, none⟩) n n) (hn : cur.size = n) (H : Sat W w (pt g cur tag :: l))
    (A : Option Addr) (m c' : Nat) (news : List Value) (hx : a.eval s = .slice A m c') (hl : news.length = m) (hr : Rd w A news) (h1 : ∀ u ∈ news, u.oneCell' = true) (hmn : m ≤ n)
    (h : ∀ w', Sat W w' (pt g (news ++ cur.toList.drop m).toArray tag :: l) → K (a.put o.dst (goInt m)) w') : o.wp P a w K Q := by
  have hg := H.heap
  have hmin : Nat.min m n = m := Nat.min_eq_left hmn
  have hf : (Builtin.firstCells i.size m (.slice A m c')).run P w = .ok news.toArray w := by
    cases A with
    | none =>
      have : news = [] := by
        cases news with
        | nil => rfl
        | cons x r => obtain ⟨_, _, h⟩ := hr.open (by simp); cases h
      subst this
      exact run_firstCells_none w _ _ _ _
    | some ad =>
      refine run_firstCells_some w i.size m ad m c' news (by rw [hsize]; omega) fun j u hu => ?_
      obtain ⟨b, o, h, hc⟩ := hr j u hu
      cases h
      unfold Addr.add
      split
      · rename_i hj; subst hj; simpa using hc
      · exact hc
  have hst := run_storeCells_at P g 0 tag news 0 cur w hg (by omega) h1
  simp only [Nat.add_zero, Nat.zero_add, List.take_zero, List.nil_append] at hst
  have hrun : (Builtin.copy_ #[dT, sT] o.type #[.slice (some ⟨g, 0, none⟩) n n, .slice A m c']).run P w = .ok (goInt m) (w.setRow g (news ++ cur.toList.drop m).toArray) := by
    subst hl
    simp [Builtin.copy_, run_underlying hu, Builtin.lenOf, sizeOf, typeInfo, hi, hmin, hf, hst]
  unfold Oper.wp execOp
  simp only [ho, resolve, invoke, builtin, Sem.run_bind, Sem.run_pure, Result.andThen_ok, List.map_toArray, List.map_cons, List.map_nil, hd, hx, hrun]
  exact h _ (H.setPt _)

theorem step_copy_pt {ops : Array Oper} {o : Oper} {a : Act} {K : Act → World → Prop} {Q : Exit → Act → World → Prop} {E : Prop} (hgd : o.guard = none) (d s : Operand) (dT sT : TypeId)
    (ho : o.op = .call { callee := .builtin .copy, args := #[d, s], argTypes := #[dT, sT] })
    (e : TypeId) (i : TypeInfo) (hu : P.underlying dT = some (.slice e)) (hi : P.info? e = some i) (hsize : i.size = 1)
    (g n : Nat) (cur : Array Value) (tag : TypeId) (hd : a.eval d = .slice (some ⟨g, 0, none⟩) n n) (hn : cur.size = n) (H : Sat W w (pt g cur tag :: l))
    (A : Option Addr) (m c' : Nat) (news : List Value) (hx : a.eval s = .slice A m c') (hl : news.length = m) (hr : Rd w A news) (h1 : ∀ u ∈ news, u.oneCell' = true) (hmn : m ≤ n)
    (h : ∀ w', Sat W w' (pt g (news ++ cur.toList.drop m).toArray tag :: l) → K (a.put o.dst (goInt m)) w') :
    if Region.wanted o (yielded ops a.tmps) = true then Oper.wp P o a w K Q else E := by
  have hw : Region.wanted o (yielded ops a.tmps) = true := by simp [Region.wanted, hgd]
  rw [if_pos hw]
  exact wp_copy_pt d s dT sT ho e i hu hi hsize g n cur tag hd hn H A m c' news hx hl hr h1 hmn h

set_option maxRecDepth 100000 in
/-- A variable of several cells is written at once. -/
theorem wpList_store_pt {ops : Array Oper} {rest : List Oper} {o : Oper} {a : Act} {Q : Exit → Act → World → Prop} (hg : o.guard = none) (hdst : o.dst = none) (x y : Operand) (t : TypeId) (hop : o.op = Op.store t x y)
    (g : Nat) (cur : Array Value) (tag : TypeId) (cs : List Value) (hsz : (P.info? t).map (·.size) = some cs.length) (hx : a.eval x = .pointer (some ⟨g, 0, none⟩)) (hy : a.eval y = .agg cs.toArray)
    (hn : cur.size = cs.length) (h1 : ∀ u ∈ cs, u.oneCell' = true) (H : Sat W w (pt g cur tag :: l)) (hK : ∀ w', Sat W w' (pt g cs.toArray tag :: l) → wpList P ops Q rest a w') : wpList P ops Q (o :: rest) a w := by
  refine wpList_plain hg fun K hK' => ?_
  have hgg := H.heap
  have hst := run_storeCells_at P g 0 tag cs 0 cur w hgg (by omega) h1
  simp only [Nat.add_zero, Nat.zero_add, List.take_zero, List.nil_append] at hst
  have hdr : cur.toList.drop cs.length = [] := List.drop_eq_nil_of_le (by simp [hn])
  rw [hdr, List.append_nil] at hst
  have hso : ∀ w, (sizeOf t).run P w = .ok cs.length w := fun w => by
    cases hi : P.info? t with
    | none => simp [hi] at hsz
    | some i => simp [hi] at hsz; simp [sizeOf, typeInfo, hi, Result.andThen, hsz]
  have hrun : (storeVar t ⟨g, 0, none⟩ (.agg cs.toArray)).run P w = .ok () (w.setRow g cs.toArray) := by
    simp [storeVar, Value.cells, hso, hst, Result.andThen]
  unfold Oper.wp
  simp [execOp, hop, hx, hy, Instr.storeAt, Instr.sureAddr, hrun, Result.andThen]
  refine hK' _ _ ?_
  rw [hdst]
  exact hK _ (H.setPt _)
end
end Go.Rt

/- Package word's reader: ID. -/
namespace Go.Proofs.Ytflcmhmbmippfaa
open Go.RowKit Go.Rt

/-- What an ID asked for comes to: its 32 bytes, or a fault. -/
def idAt (bs : List UInt8) (pl : Nat) : Option (List UInt8) := if 32 ≤ bs.length - pl then some ((bs.drop pl).take 32) else none

structure ToldI where
  d : List UInt8
  pl : Nat
  fe : Int
  fa : Int
def toldID (bs : List UInt8) (pl : Nat) (fe fa : Int) : ToldI :=
  if fe = 0 then (if 32 ≤ bs.length - pl then ⟨(bs.drop pl).take 32, pl + 32, 0, 0⟩ else ⟨noID, pl, 4, bs.length⟩) else ⟨noID, pl, fe, fa⟩
theorem toldID_len (bs : List UInt8) (pl : Nat) (fe fa : Int) : (toldID bs pl fe fa).d.length = 32 := by
  unfold toldID
  split
  · split
    · simp only [List.length_take, List.length_drop]; omega
    · rfl
  · rfl

end Go.Proofs.Ytflcmhmbmippfaa

/- The laws' own helper over package word: one thing is asked. -/
namespace Go.Proofs.Ytflcmhmbmippfaa
open Go.RowKit Go.Rt

theorem th_one (x : Th) : ∀ u ∈ x.cs, u.oneCell' = true := by
  intro u hu
  simp only [Th.cs, List.mem_cons] at hu
  rcases hu with rfl | rfl | rfl | hu
  · rfl
  · rfl
  · rfl
  · exact B_one _ u hu

/-- What is asked for: its kind, its least and its greatest number. -/
structure Qn where
  k : Int
  low : Int
  n : Int
def Qn.cs (x : Qn) : List Value := [.int .i64 x.k, .int .i64 x.low, .int .i64 x.n]
def Qn.v (x : Qn) : Value := .agg x.cs.toArray
/-- What is told and what the reader becomes. -/
structure ToldA where
  x : Th
  pl : Nat
  fe : Int
  fa : Int
def toldA (bs : List UInt8) (pl : Nat) (fe fa : Int) (q : Qn) : ToldA :=
  if q.k = 0 then ⟨⟨0, (toldInt bs pl fe fa q.low q.n 5).n, ⟨#[]⟩, noID⟩, (toldInt bs pl fe fa q.low q.n 5).pl, (toldInt bs pl fe fa q.low q.n 5).fe, (toldInt bs pl fe fa q.low q.n 5).fa⟩
  else if q.k = 1 then ⟨⟨0, (toldInt bs pl fe fa 0 q.n 3).n, ⟨#[]⟩, noID⟩, (toldInt bs pl fe fa 0 q.n 3).pl, (toldInt bs pl fe fa 0 q.n 3).fe, (toldInt bs pl fe fa 0 q.n 3).fa⟩
  else if q.k = 2 then ⟨⟨1, 0, ⟨(toldTxt bs pl fe fa q.n).s.toArray⟩, noID⟩, (toldTxt bs pl fe fa q.n).pl, (toldTxt bs pl fe fa q.n).fe, (toldTxt bs pl fe fa q.n).fa⟩
  else if q.k = 3 then ⟨⟨2, 0, ⟨#[]⟩, (toldID bs pl fe fa).d⟩, (toldID bs pl fe fa).pl, (toldID bs pl fe fa).fe, (toldID bs pl fe fa).fa⟩
  else ⟨⟨3, 0, ⟨#[]⟩, noID⟩, pl, fe, fa⟩

end Go.Proofs.Ytflcmhmbmippfaa

/- Plain laws: what is read at a place where a number, a text, an ID was written. No program in sight. -/
namespace Go.Proofs.Ytflcmhmbmippfaa

theorem numAt_here (pre rest : List UInt8) (n : Nat) (hn : n < 9223372036854775808) (low high above : Int) :
    numAt (pre ++ (sev n ++ rest)) pre.length low high above = if (n : Int) < low then .bad 5 pre.length else if high < (n : Int) then .bad above pre.length else .ok n (sev n).length := by
  unfold numAt
  rw [List.drop_left, dec_of_sev n hn rest]

theorem txtAt_here (pre rest L : List UInt8) (hL : L.length < 9223372036854775808) (most : Int) :
    txtAt (pre ++ (sev L.length ++ (L ++ rest))) pre.length most = if most < (L.length : Int) then .bad 3 pre.length else .ok L ((sev L.length).length + L.length) := by
  unfold txtAt
  rw [numAt_here pre (L ++ rest) L.length hL 0 most 3, if_neg (by omega)]
  by_cases h : most < (L.length : Int)
  · rw [if_pos h, if_pos h]
  · rw [if_neg h, if_neg h]
    dsimp only
    rw [if_pos (by simp only [List.length_append]; omega)]
    congr 1
    rw [← List.append_assoc, ← List.length_append, List.drop_left, List.take_left]

theorem toldInt_here (pre rest : List UInt8) (n : Nat) (hn : n < 9223372036854775808) (low high above : Int) (h1 : low ≤ n) (h2 : (n : Int) ≤ high) :
    toldInt (pre ++ (sev n ++ rest)) pre.length 0 0 low high above = ⟨n, pre.length + (sev n).length, 0, 0⟩ := by
  unfold toldInt
  rw [if_pos rfl, numAt_here pre rest n hn, if_neg (by omega), if_neg (by omega)]
theorem toldTxt_here (pre rest L : List UInt8) (hL : L.length < 9223372036854775808) (most : Int) (h : (L.length : Int) ≤ most) :
    toldTxt (pre ++ (sev L.length ++ (L ++ rest))) pre.length 0 0 most = ⟨L, pre.length + ((sev L.length).length + L.length), 0, 0⟩ := by
  unfold toldTxt
  rw [if_pos rfl, txtAt_here pre rest L hL, if_neg (by omega)]
theorem toldID_here (pre rest d : List UInt8) (hd : d.length = 32) : toldID (pre ++ (d ++ rest)) pre.length 0 0 = ⟨d, pre.length + 32, 0, 0⟩ := by
  unfold toldID
  rw [if_pos rfl, if_pos (by simp only [List.length_append]; omega), List.drop_left, ← hd, List.take_left]
end Go.Proofs.Ytflcmhmbmippfaa

/- Plain laws: what was told was written so. No program in sight. -/
namespace Go.Proofs.Ytflcmhmbmippfaa

theorem numAt_back (bs : List UInt8) (pl : Nat) (low high above : Int) (n k : Nat) (hp : pl ≤ bs.length) (h : numAt bs pl low high above = .ok n k) :
    bs.take (pl + k) = bs.take pl ++ sev n ∧ pl + k ≤ bs.length ∧ n < 9223372036854775808 ∧ low ≤ (n : Int) ∧ (n : Int) ≤ high := by
  unfold numAt at h
  cases hd : dec (bs.drop pl) with
  | ok N K =>
    rw [hd] at h
    dsimp only at h
    by_cases h1 : (N : Int) < low
    · rw [if_pos h1] at h; cases h
    · rw [if_neg h1] at h
      by_cases h2 : high < (N : Int)
      · rw [if_pos h2] at h; cases h
      · rw [if_neg h2] at h
        cases h
        obtain ⟨rfl, ⟨rest, hr⟩, hlt⟩ := sev_of_dec _ _ _ hd
        have hlen : (sev n).length ≤ bs.length - pl := by
          have := congrArg List.length hr
          rw [List.length_drop, List.length_append] at this
          omega
        refine ⟨?_, by omega, hlt, by omega, by omega⟩
        rw [List.take_add, hr, List.take_left]
  | short => rw [hd] at h; cases h
  | zero => rw [hd] at h; cases h
  | long => rw [hd] at h; cases h

theorem txtAt_back (bs : List UInt8) (pl : Nat) (most : Int) (L : List UInt8) (k : Nat) (hp : pl ≤ bs.length) (h : txtAt bs pl most = .ok L k) :
    bs.take (pl + k) = bs.take pl ++ sev L.length ++ L ∧ pl + k ≤ bs.length := by
  unfold txtAt at h
  cases hn : numAt bs pl 0 most 3 with
  | bad e a => rw [hn] at h; cases h
  | ok n j =>
    rw [hn] at h
    dsimp only at h
    by_cases hf : n ≤ bs.length - (pl + j)
    · rw [if_pos hf] at h
      cases h
      obtain ⟨h1, h2, h3, _, _⟩ := numAt_back bs pl 0 most 3 n j hp hn
      have hl : ((bs.drop (pl + j)).take n).length = n := by rw [List.length_take, List.length_drop]; omega
      rw [hl]
      refine ⟨?_, by omega⟩
      rw [← Nat.add_assoc, List.take_add, h1]
    · rw [if_neg hf] at h; cases h
end Go.Proofs.Ytflcmhmbmippfaa

/- Plain law: a thing that was told, written again, is what was passed. No program in sight. -/
namespace Go.Proofs.Ytflcmhmbmippfaa

theorem numAt_bad (bs : List UInt8) (pl : Nat) (low high above e a : Int) (ha : above ≠ 0) (h : numAt bs pl low high above = .bad e a) : e ≠ 0 := by
  unfold numAt at h
  cases hd : dec (bs.drop pl) with
  | ok N K =>
    rw [hd] at h
    dsimp only at h
    by_cases h1 : (N : Int) < low
    · rw [if_pos h1] at h; cases h; decide
    · rw [if_neg h1] at h
      by_cases h2 : high < (N : Int)
      · rw [if_pos h2] at h; cases h; exact ha
      · rw [if_neg h2] at h; cases h
  | short => rw [hd] at h; cases h; decide
  | zero => rw [hd] at h; cases h; decide
  | long => rw [hd] at h; cases h; decide
theorem txtAt_bad (bs : List UInt8) (pl : Nat) (most e a : Int) (h : txtAt bs pl most = .bad e a) : e ≠ 0 := by
  unfold txtAt at h
  cases hn : numAt bs pl 0 most 3 with
  | bad e' a' => rw [hn] at h; cases h; exact numAt_bad _ _ _ _ _ _ _ (by decide) hn
  | ok n j =>
    rw [hn] at h
    dsimp only at h
    by_cases hf : n ≤ bs.length - (pl + j)
    · rw [if_pos hf] at h; cases h
    · rw [if_neg hf] at h; cases h; decide

theorem int_back (bs : List UInt8) (pl : Nat) (low high above : Int) (ha : above ≠ 0) (hp : pl ≤ bs.length) (h : (toldInt bs pl 0 0 low high above).fe = 0) :
    wrInt (toldInt bs pl 0 0 low high above).n (bs.take pl) = bs.take (toldInt bs pl 0 0 low high above).pl ∧ (toldInt bs pl 0 0 low high above).pl ≤ bs.length ∧ pl ≤ (toldInt bs pl 0 0 low high above).pl := by
  unfold toldInt at h ⊢
  rw [if_pos rfl] at h ⊢
  cases hn : numAt bs pl low high above with
  | bad e a => rw [hn] at h; exact absurd h (numAt_bad _ _ _ _ _ _ _ ha hn)
  | ok n k =>
    obtain ⟨h1, h2, _, _, _⟩ := numAt_back bs pl low high above n k hp hn
    dsimp only
    refine ⟨?_, h2, by omega⟩
    rw [h1, wrInt, if_neg (by omega), Int.toNat_natCast]
theorem txt_back (bs : List UInt8) (pl : Nat) (most : Int) (hp : pl ≤ bs.length) (h : (toldTxt bs pl 0 0 most).fe = 0) :
    bs.take pl ++ sev (toldTxt bs pl 0 0 most).s.length ++ (toldTxt bs pl 0 0 most).s = bs.take (toldTxt bs pl 0 0 most).pl ∧ (toldTxt bs pl 0 0 most).pl ≤ bs.length ∧ pl ≤ (toldTxt bs pl 0 0 most).pl := by
  unfold toldTxt at h ⊢
  rw [if_pos rfl] at h ⊢
  cases hn : txtAt bs pl most with
  | bad e a => rw [hn] at h; exact absurd h (txtAt_bad _ _ _ _ _ hn)
  | ok L k =>
    obtain ⟨h1, h2⟩ := txtAt_back bs pl most L k hp hn
    exact ⟨h1.symm, h2, by show pl ≤ pl + k; omega⟩
theorem id_back (bs : List UInt8) (pl : Nat) (h : (toldID bs pl 0 0).fe = 0) (hp : pl ≤ bs.length) :
    bs.take pl ++ (toldID bs pl 0 0).d = bs.take (toldID bs pl 0 0).pl ∧ (toldID bs pl 0 0).pl ≤ bs.length ∧ pl ≤ (toldID bs pl 0 0).pl := by
  unfold toldID at h ⊢
  rw [if_pos rfl] at h ⊢
  by_cases h1 : 32 ≤ bs.length - pl
  · rw [if_pos h1]
    refine ⟨?_, ?_, ?_⟩
    · show bs.take pl ++ (bs.drop pl).take 32 = bs.take (pl + 32)
      rw [List.take_add]
    · show pl + 32 ≤ bs.length; omega
    · show pl ≤ pl + 32; omega
  · rw [if_neg h1] at h
    exact absurd (show (4 : Int) = 0 from h) (by decide)
end Go.Proofs.Ytflcmhmbmippfaa

/- Plain law: a thing that ask told, written again, is what was passed. No program in sight. -/
namespace Go.Proofs.Ytflcmhmbmippfaa

theorem toldA_back (bs : List UInt8) (pl : Nat) (q : Qn) (hp : pl ≤ bs.length) (h : (toldA bs pl 0 0 q).fe = 0) :
    (toldA bs pl 0 0 q).x.put (bs.take pl) = bs.take (toldA bs pl 0 0 q).pl ∧ (toldA bs pl 0 0 q).pl ≤ bs.length ∧ pl ≤ (toldA bs pl 0 0 q).pl := by
  unfold toldA at h ⊢
  by_cases h0 : q.k = 0
  · rw [if_pos h0] at h ⊢
    exact int_back bs pl q.low q.n 5 (by decide) hp h
  · rw [if_neg h0] at h ⊢
    by_cases h1 : q.k = 1
    · rw [if_pos h1] at h ⊢
      exact int_back bs pl 0 q.n 3 (by decide) hp h
    · rw [if_neg h1] at h ⊢
      by_cases h2 : q.k = 2
      · rw [if_pos h2] at h ⊢
        exact txt_back bs pl q.n hp h
      · rw [if_neg h2] at h ⊢
        by_cases h3 : q.k = 3
        · rw [if_pos h3] at h ⊢
          exact id_back bs pl h hp
        · rw [if_neg h3] at h ⊢
          exact ⟨rfl, hp, Nat.le_refl _⟩
end Go.Proofs.Ytflcmhmbmippfaa

/- Plain laws: where a fault lies; what is told may be written. No program in sight. -/
namespace Go.Proofs.Ytflcmhmbmippfaa

theorem numAt_where (bs : List UInt8) (pl : Nat) (low high above e a : Int) (hp : pl ≤ bs.length) (h : numAt bs pl low high above = .bad e a) : (pl : Int) ≤ a ∧ a ≤ bs.length := by
  unfold numAt at h
  cases hd : dec (bs.drop pl) with
  | ok N K =>
    rw [hd] at h
    dsimp only at h
    by_cases h1 : (N : Int) < low
    · rw [if_pos h1] at h; cases h; omega
    · rw [if_neg h1] at h
      by_cases h2 : high < (N : Int)
      · rw [if_pos h2] at h; cases h; omega
      · rw [if_neg h2] at h; cases h
  | short => rw [hd] at h; cases h; omega
  | zero => rw [hd] at h; cases h; omega
  | long => rw [hd] at h; cases h; omega
theorem txtAt_where (bs : List UInt8) (pl : Nat) (most e a : Int) (hp : pl ≤ bs.length) (h : txtAt bs pl most = .bad e a) : (pl : Int) ≤ a ∧ a ≤ bs.length := by
  unfold txtAt at h
  cases hn : numAt bs pl 0 most 3 with
  | bad e' a' => rw [hn] at h; cases h; exact numAt_where _ _ _ _ _ _ _ hp hn
  | ok n j =>
    rw [hn] at h
    dsimp only at h
    by_cases hf : n ≤ bs.length - (pl + j)
    · rw [if_pos hf] at h; cases h
    · rw [if_neg hf] at h; cases h; omega

theorem toldInt_where (bs : List UInt8) (pl : Nat) (low high above : Int) (hp : pl ≤ bs.length) (h : (toldInt bs pl 0 0 low high above).fe ≠ 0) :
    (toldInt bs pl 0 0 low high above).pl = pl ∧ (pl : Int) ≤ (toldInt bs pl 0 0 low high above).fa ∧ (toldInt bs pl 0 0 low high above).fa ≤ bs.length := by
  unfold toldInt at h ⊢
  rw [if_pos rfl] at h ⊢
  cases hn : numAt bs pl low high above with
  | bad e a => exact ⟨rfl, numAt_where _ _ _ _ _ _ _ hp hn⟩
  | ok n k => rw [hn] at h; exact absurd rfl h
theorem toldTxt_where (bs : List UInt8) (pl : Nat) (most : Int) (hp : pl ≤ bs.length) (h : (toldTxt bs pl 0 0 most).fe ≠ 0) :
    (toldTxt bs pl 0 0 most).pl = pl ∧ (pl : Int) ≤ (toldTxt bs pl 0 0 most).fa ∧ (toldTxt bs pl 0 0 most).fa ≤ bs.length := by
  unfold toldTxt at h ⊢
  rw [if_pos rfl] at h ⊢
  cases hn : txtAt bs pl most with
  | bad e a => exact ⟨rfl, txtAt_where _ _ _ _ _ hp hn⟩
  | ok L k => rw [hn] at h; exact absurd rfl h
theorem toldID_where (bs : List UInt8) (pl : Nat) (hp : pl ≤ bs.length) (h : (toldID bs pl 0 0).fe ≠ 0) :
    (toldID bs pl 0 0).pl = pl ∧ (pl : Int) ≤ (toldID bs pl 0 0).fa ∧ (toldID bs pl 0 0).fa ≤ bs.length := by
  unfold toldID at h ⊢
  rw [if_pos rfl] at h ⊢
  by_cases h1 : 32 ≤ bs.length - pl
  · rw [if_pos h1] at h; exact absurd rfl h
  · rw [if_neg h1]
    exact ⟨rfl, by show (pl : Int) ≤ (bs.length : Int); omega, Int.le_refl _⟩
theorem toldA_where (bs : List UInt8) (pl : Nat) (q : Qn) (hp : pl ≤ bs.length) (h : (toldA bs pl 0 0 q).fe ≠ 0) :
    (toldA bs pl 0 0 q).pl = pl ∧ (pl : Int) ≤ (toldA bs pl 0 0 q).fa ∧ (toldA bs pl 0 0 q).fa ≤ bs.length := by
  unfold toldA at h ⊢
  by_cases h0 : q.k = 0
  · rw [if_pos h0] at h ⊢; exact toldInt_where bs pl q.low q.n 5 hp h
  · rw [if_neg h0] at h ⊢
    by_cases h1 : q.k = 1
    · rw [if_pos h1] at h ⊢; exact toldInt_where bs pl 0 q.n 3 hp h
    · rw [if_neg h1] at h ⊢
      by_cases h2 : q.k = 2
      · rw [if_pos h2] at h ⊢; exact toldTxt_where bs pl q.n hp h
      · rw [if_neg h2] at h ⊢
        by_cases h3 : q.k = 3
        · rw [if_pos h3] at h ⊢; exact toldID_where bs pl hp h
        · rw [if_neg h3] at h; exact absurd rfl h

theorem le63 : (0 : Int) ≤ 9223372036854775807 := by decide
theorem toldInt_n (bs : List UInt8) (pl : Nat) (fe fa low high above : Int) (hp : pl ≤ bs.length) : 0 ≤ (toldInt bs pl fe fa low high above).n ∧ (toldInt bs pl fe fa low high above).n ≤ 9223372036854775807 := by
  unfold toldInt
  split
  · cases hn : numAt bs pl low high above with
    | bad e a => exact ⟨Int.le_refl 0, le63⟩
    | ok n k =>
      have := (numAt_back bs pl low high above n k hp hn).2.2.1
      exact ⟨by show (0 : Int) ≤ (n : Int); omega, by show (n : Int) ≤ 9223372036854775807; omega⟩
  · exact ⟨Int.le_refl 0, le63⟩
theorem toldTxt_s (bs : List UInt8) (pl : Nat) (fe fa most : Int) : (toldTxt bs pl fe fa most).s.length ≤ bs.length := by
  unfold toldTxt
  split
  · unfold txtAt
    cases numAt bs pl 0 most 3 with
    | bad e a => exact Nat.zero_le _
    | ok n k =>
      by_cases h : n ≤ bs.length - (pl + k)
      · dsimp only; rw [if_pos h]; dsimp only; rw [List.length_take, List.length_drop]; omega
      · dsimp only; rw [if_neg h]; exact Nat.zero_le _
  · exact Nat.zero_le _
theorem toldA_ok (bs : List UInt8) (pl : Nat) (fe fa : Int) (q : Qn) (hp : pl ≤ bs.length) (hb : bs.length ≤ 1000000000) :
    (toldA bs pl fe fa q).x.Ok ∧ (toldA bs pl fe fa q).x.bad = false ∧ (toldA bs pl fe fa q).x.s.size ≤ bs.length := by
  unfold toldA
  by_cases h0 : q.k = 0
  · rw [if_pos h0]
    have h := toldInt_n bs pl fe fa q.low q.n 5 hp
    exact ⟨⟨h.2, Nat.zero_le _, rfl⟩, by simp [Th.bad]; omega, Nat.zero_le _⟩
  · rw [if_neg h0]
    by_cases h1 : q.k = 1
    · rw [if_pos h1]
      have h := toldInt_n bs pl fe fa 0 q.n 3 hp
      exact ⟨⟨h.2, Nat.zero_le _, rfl⟩, by simp [Th.bad]; omega, Nat.zero_le _⟩
    · rw [if_neg h1]
      by_cases h2 : q.k = 2
      · rw [if_pos h2]
        have h := toldTxt_s bs pl fe fa q.n
        have h' : (ByteArray.mk (toldTxt bs pl fe fa q.n).s.toArray).size ≤ bs.length := by simpa [ByteArray.size] using h
        exact ⟨⟨le63, Nat.le_trans h' hb, rfl⟩, by simp [Th.bad], h'⟩
      · rw [if_neg h2]
        by_cases h3 : q.k = 3
        · rw [if_pos h3]
          exact ⟨⟨le63, Nat.zero_le _, toldID_len bs pl fe fa⟩, by simp [Th.bad], Nat.zero_le _⟩
        · rw [if_neg h3]
          exact ⟨⟨le63, Nat.zero_le _, rfl⟩, by simp [Th.bad], Nat.zero_le _⟩
theorem toldInt_fa (bs : List UInt8) (pl : Nat) (low high above : Int) (ha : above ≠ 0) (h : (toldInt bs pl 0 0 low high above).fe = 0) : (toldInt bs pl 0 0 low high above).fa = 0 := by
  unfold toldInt at h ⊢
  rw [if_pos rfl] at h ⊢
  cases hn : numAt bs pl low high above with
  | bad e a => rw [hn] at h; exact absurd h (numAt_bad _ _ _ _ _ _ _ ha hn)
  | ok n k => rfl
theorem toldTxt_fa (bs : List UInt8) (pl : Nat) (most : Int) (h : (toldTxt bs pl 0 0 most).fe = 0) : (toldTxt bs pl 0 0 most).fa = 0 := by
  unfold toldTxt at h ⊢
  rw [if_pos rfl] at h ⊢
  cases hn : txtAt bs pl most with
  | bad e a => rw [hn] at h; exact absurd h (txtAt_bad _ _ _ _ _ hn)
  | ok L k => rfl
theorem toldID_fa (bs : List UInt8) (pl : Nat) (h : (toldID bs pl 0 0).fe = 0) : (toldID bs pl 0 0).fa = 0 := by
  unfold toldID at h ⊢
  rw [if_pos rfl] at h ⊢
  by_cases h1 : 32 ≤ bs.length - pl
  · rw [if_pos h1]
  · rw [if_neg h1] at h; exact absurd (show (4 : Int) = 0 from h) (by decide)
theorem toldA_fa (bs : List UInt8) (pl : Nat) (q : Qn) (h : (toldA bs pl 0 0 q).fe = 0) : (toldA bs pl 0 0 q).fa = 0 := by
  unfold toldA at h ⊢
  by_cases h0 : q.k = 0
  · rw [if_pos h0] at h ⊢; exact toldInt_fa bs pl q.low q.n 5 (by decide) h
  · rw [if_neg h0] at h ⊢
    by_cases h1 : q.k = 1
    · rw [if_pos h1] at h ⊢; exact toldInt_fa bs pl 0 q.n 3 (by decide) h
    · rw [if_neg h1] at h ⊢
      by_cases h2 : q.k = 2
      · rw [if_pos h2] at h ⊢; exact toldTxt_fa bs pl q.n h
      · rw [if_neg h2] at h ⊢
        by_cases h3 : q.k = 3
        · rw [if_pos h3] at h ⊢; exact toldID_fa bs pl h
        · rw [if_neg h3]
end Go.Proofs.Ytflcmhmbmippfaa

/- Plain laws for WordBounds: what is told of a text and a number behind it; a reader with a fault tells nothing. No program in sight. -/
namespace Go.Proofs.Ytflcmhmbmippfaa

theorem bounds_txt (L : List UInt8) (n : Nat) (hL : L.length ≤ 300) : toldTxt (sev L.length ++ L ++ sev n) 0 0 0 300 = ⟨L, (sev L.length ++ L).length, 0, 0⟩ := by
  have h := toldTxt_here [] (sev n) L (by omega) 300 (by omega)
  rw [List.nil_append, List.length_nil, Nat.zero_add] at h
  rw [List.append_assoc, h, List.length_append]
theorem bounds_int (L : List UInt8) (n : Nat) (hn : n < 9223372036854775808) (low high above : Int) : toldInt (sev L.length ++ L ++ sev n) (sev L.length ++ L).length 0 0 low high above =
    if (n : Int) < low then ⟨0, (sev L.length ++ L).length, 5, (sev L.length ++ L).length⟩ else if high < (n : Int) then ⟨0, (sev L.length ++ L).length, above, (sev L.length ++ L).length⟩ else ⟨n, (sev L.length ++ L ++ sev n).length, 0, 0⟩ := by
  have h := numAt_here (sev L.length ++ L) [] n hn low high above
  rw [List.append_nil] at h
  unfold toldInt
  rw [if_pos rfl, h]
  by_cases h1 : (n : Int) < low
  · rw [if_pos h1, if_pos h1]
  · rw [if_neg h1, if_neg h1]
    by_cases h2 : high < (n : Int)
    · rw [if_pos h2, if_pos h2]
    · rw [if_neg h2, if_neg h2]
      simp only [List.length_append]
theorem toldA_stuck (bs : List UInt8) (pl : Nat) (fe fa : Int) (q : Qn) (h : fe ≠ 0) : ∃ k, toldA bs pl fe fa q = ⟨⟨k, 0, ⟨#[]⟩, noID⟩, pl, fe, fa⟩ := by
  unfold toldA
  by_cases h0 : q.k = 0
  · exact ⟨0, by rw [if_pos h0]; simp [toldInt, if_neg h]⟩
  · rw [if_neg h0]
    by_cases h1 : q.k = 1
    · exact ⟨0, by rw [if_pos h1]; simp [toldInt, if_neg h]⟩
    · rw [if_neg h1]
      by_cases h2 : q.k = 2
      · exact ⟨1, by rw [if_pos h2]; simp [toldTxt, if_neg h]⟩
      · rw [if_neg h2]
        by_cases h3 : q.k = 3
        · exact ⟨2, by rw [if_pos h3]; simp [toldID, if_neg h]⟩
        · exact ⟨3, by rw [if_neg h3]⟩
end Go.Proofs.Ytflcmhmbmippfaa

/- The laws' own helpers over package word: bulky; the sizes of any number. -/
namespace Go.Proofs.Ytflcmhmbmippfaa
open Go.RowKit Go.Rt

def bulk31 (ts : List Th) (j : Nat) : Nat := ((ts.take j).map (·.s.size)).sum
def bulkyB (ts : List Th) : Bool := decide (30 < ts.length) || decide (2000 < bulk31 ts 31)
theorem bulk31_step (ts : List Th) (j : Nat) (x : Th) (h : ts[j]? = some x) : bulk31 ts (j + 1) = bulk31 ts j + x.s.size := by
  unfold bulk31
  rw [List.take_add_one, h]
  simp
theorem bulk31_le (ts : List Th) (j : Nat) : bulk31 ts j ≤ (ts.map (·.s.size)).sum := by
  unfold bulk31
  have h : (ts.map (·.s.size)).sum = ((ts.take j).map (·.s.size)).sum + ((ts.drop j).map (·.s.size)).sum := by
    rw [← List.sum_append, ← List.map_append, List.take_append_drop]
  omega
theorem bulk31_reach (ts : List Th) (h : ∀ x ∈ ts, x.s.size ≤ 140737488355328) (j : Nat) : bulk31 ts j ≤ j * 140737488355328 := by
  induction j with
  | zero => simp [bulk31]
  | succ j ih =>
    cases hx : ts[j]? with
    | none =>
      have : bulk31 ts (j + 1) = bulk31 ts j := by unfold bulk31; rw [List.take_add_one, hx]; simp
      omega
    | some x =>
      rw [bulk31_step ts j x hx]
      have := h x (List.mem_of_getElem? hx)
      omega
theorem bulk31_all (ts : List Th) (j : Nat) (h : ts.length ≤ j) : bulk31 ts j = (ts.map (·.s.size)).sum := by unfold bulk31; rw [List.take_of_length_le h]
theorem wts_eq (ts : List Th) : wts ts = (ts.map (·.s.size)).sum + 41 * ts.length := by
  induction ts with
  | nil => rfl
  | cons x ts ih => simp only [wts, Th.wt, List.map_cons, List.sum_cons, List.length_cons] at ih ⊢; omega

/-- A thing's cells in a world in which they are read. -/
theorem th_at {w : World} {b o : Nat} {ts : List Th} (h : Rd w (some ⟨b, o, none⟩) (thC ts)) (hd : ∀ x ∈ ts, x.d.length = 32) (j : Nat) (x : Th) (hj : ts[j]? = some x) : Rd w (some ⟨b, o + j * 35, none⟩) x.cs := by
  have key : ((thC ts).drop (j * 35)).take 35 = x.cs := by
    clear h
    induction ts generalizing j with
    | nil => simp at hj
    | cons y ts ih =>
      have h1 : y.cs.length = 35 := by simp [Th.cs, hd y (by simp)]
      have e : thC (y :: ts) = y.cs ++ thC ts := rfl
      cases j with
      | zero =>
        simp at hj; subst hj
        rw [e, Nat.zero_mul, List.drop_zero, List.take_left' h1]
      | succ j =>
        rw [e, List.drop_append, List.drop_eq_nil_of_le (by omega), List.nil_append, h1]
        rw [show (j + 1) * 35 - 35 = j * 35 by omega]
        exact ih (fun z hz => hd z (by simp [hz])) j (by simpa using hj)
  rw [← key]; exact (h.drop (j * 35)).take 35
theorem th_open {w : World} {A : Option Addr} {ts : List Th} (h : Rd w A (thC ts)) (j : Nat) (x : Th) (hj : ts[j]? = some x) : ∃ b o, A = some ⟨b, o, none⟩ := by
  refine h.open fun e => ?_
  have h1 : x.cs = [] := by
    have := List.mem_of_getElem? hj
    simp only [thC, List.flatMap_eq_nil_iff] at e
    exact e x this
  simp [Th.cs] at h1

/-- A number's size, any number's. -/
def szN (n : Int) : Nat := if n < 0 then 0 else (sev n.toNat).length
theorem size_all (n : Int) (hn : n ≤ 9223372036854775807) (w : World) : Calls Try.prog 67 #[.int .i64 n] w fun e w' => e = .returned (.int .i64 (szN n)) ∧ w = w' := by
  unfold szN
  by_cases h : n < 0
  · rw [if_pos h]; exact size_neg n h w
  · rw [if_neg h]
    obtain ⟨m, rfl⟩ : ∃ m : Nat, n = m := ⟨n.toNat, by omega⟩
    exact size_any m (by omega) w
end Go.Proofs.Ytflcmhmbmippfaa

/- Plain laws: a list of things as bytes, thing by thing. No program in sight. -/
namespace Go.Proofs.Ytflcmhmbmippfaa

def Th.bytes (x : Th) : List UInt8 :=
  if x.k = 0 then (if x.n < 0 then [] else sev x.n.toNat) else if x.k = 1 then sev x.s.size ++ x.s.data.toList else if x.k = 2 then x.d else []
theorem put_bytes (x : Th) (bs : List UInt8) : x.put bs = bs ++ x.bytes := by
  unfold Th.put Th.bytes wrInt
  by_cases h0 : x.k = 0
  · rw [if_pos h0, if_pos h0]
    by_cases h : x.n < 0
    · rw [if_pos h, if_pos h, List.append_nil]
    · rw [if_neg h, if_neg h]
  · rw [if_neg h0, if_neg h0]
    by_cases h1 : x.k = 1
    · rw [if_pos h1, if_pos h1, List.append_assoc]
    · rw [if_neg h1, if_neg h1]
      by_cases h2 : x.k = 2
      · rw [if_pos h2, if_pos h2]
      · rw [if_neg h2, if_neg h2, List.append_nil]
theorem put_fold (ts : List Th) : ∀ bs : List UInt8, ts.foldl (fun b (x : Th) => x.put b) bs = bs ++ ts.flatMap Th.bytes := by
  induction ts with
  | nil => intro bs; simp
  | cons x ts ih => intro bs; rw [List.foldl_cons, ih, put_bytes, List.append_assoc]; rfl
theorem putAll_bytes (ts : List Th) : putAll ts = ts.flatMap Th.bytes := by rw [putAll, put_fold, List.nil_append]
theorem putAll_append (ls ms : List Th) : putAll (ls ++ ms) = putAll ls ++ putAll ms := by simp [putAll_bytes]
theorem badAll_append (ls ms : List Th) : badAll (ls ++ ms) = (badAll ls || badAll ms) := by simp [badAll]
theorem putAll_at (ts : List Th) (j : Nat) (x : Th) (h : ts[j]? = some x) : ∃ rest, putAll ts = putAll (ts.take j) ++ (x.bytes ++ rest) ∧ putAll (ts.take (j + 1)) = putAll (ts.take j) ++ x.bytes := by
  obtain ⟨hj, hx⟩ := List.getElem?_eq_some_iff.1 h
  refine ⟨putAll (ts.drop (j + 1)), ?_, ?_⟩
  · have e : ts = ts.take j ++ ([x] ++ ts.drop (j + 1)) := by
      have h1 := (List.take_append_drop j ts).symm
      rw [List.drop_eq_getElem_cons hj, hx] at h1
      exact h1
    have h2 := congrArg putAll e
    rw [putAll_append, putAll_append] at h2
    rw [h2]
    congr 2
  · rw [List.take_add_one, h]
    simp [putAll_bytes]
theorem thC_append (ls ms : List Th) : thC (ls ++ ms) = thC ls ++ thC ms := by simp [thC]
theorem bad_of_all (ts : List Th) (h : badAll ts = false) (x : Th) (hx : x ∈ ts) : x.bad = false := by
  simp only [badAll, List.any_eq_false] at h
  simpa using h x hx
end Go.Proofs.Ytflcmhmbmippfaa

/- Laws on a slice's literal of one element of several cells, and on a variable of several cells at its birth. No program in sight. -/
namespace Go.Rt
open Go.RowKit

/-- A slice of bytes as it came in: nothing lies where there is no array. -/
structure Bsl (A : Option Addr) (n c : Nat) : Prop where
  le : n ≤ c
  none : A = none → c = 0
  max : c ≤ maxLen

theorem foldl_set (l : List Value) (off k : Nat) : ∀ (acc : Array Value) (pre old post : List Value), acc.toList = pre ++ old ++ post → old.length = l.length → pre.length = off + k →
    ((l.zipIdx k).foldl (fun (cs : Array Value) (p : Value × Nat) => cs.setIfInBounds (off + p.2) p.1) acc).toList = pre ++ l ++ post := by
  induction l generalizing k with
  | nil =>
    intro acc pre old post h1 h2 _
    have : old = [] := List.eq_nil_of_length_eq_zero h2
    subst this
    simpa using h1
  | cons x l ih =>
    intro acc pre old post h1 h2 h3
    match old, h2 with
    | y :: old, h2 =>
      simp only [List.zipIdx_cons, List.foldl_cons]
      have h4 : (acc.setIfInBounds (off + k) x).toList = (pre ++ [x]) ++ old ++ post := by
        rw [Array.toList_setIfInBounds, h1, ← h3]
        simp
      have := ih (k + 1) _ (pre ++ [x]) old post h4 (by simpa using h2) (by simp; omega)
      simpa using this

/-- A row is a row of fewer elements, too. -/
theorem Sat.shrink {W w : World} {l : List SL} {e : TypeId} {zc : List Value} {A : Option Addr} {m c : Nat} {xs : List Value} (H : Sat W w (row e zc (.slice A m c) m xs :: l)) (n : Nat) (hn : n ≤ m) (hz : A = none → n = 0) : Sat W w (row e zc (.slice A n c) n (xs.take (n * zc.length)) :: l) := by
  refine H.head fun h ⟨hx, hh⟩ => ⟨?_, ?_⟩
  · rw [List.length_take, hx]; exact Nat.min_eq_left (Nat.mul_le_mul_right _ hn)
  · rcases hh with ⟨hv, hm⟩ | ⟨g, cap, cur, hv, hg, h1, h2, h3, h4, h5⟩
    · cases hv
      exact .inl ⟨by rw [hz rfl], hz rfl⟩
    · cases hv
      refine .inr ⟨g, c, cur, rfl, hg, Nat.le_trans hn h1, h2, h3, ?_, h5⟩
      rw [← h4, List.take_take, Nat.min_eq_left (Nat.mul_le_mul_right _ hn)]

theorem Sat.drops {W w : World} : ∀ (a : List SL) {b : List SL}, Sat W w (a ++ b) → Sat W w b
  | [], _, H => H
  | _ :: a, _, H => Sat.drops a (Sat.tail H)
/-- The first n things alone. -/
theorem Sat.takes {W w : World} {l : List SL} (n : Nat) (H : Sat W w l) : Sat W w (l.take n) := by
  have h1 : l.Perm (l.drop n ++ l.take n) := by
    have := List.perm_append_comm (l₁ := l.take n) (l₂ := l.drop n)
    rwa [List.take_append_drop] at this
  exact Sat.drops _ (H.perm h1)

section
variable {P : Program} {W w : World} {l : List SL}

/-- '[]T{x}' where x has several cells. -/
theorem run_buildSlice_one (t e : TypeId) (i : TypeInfo) (z : Value) (cs : List Value) (v : Value) (hv : v.cells = cs.toArray) (ht : P.underlying t = some (.slice e)) (hi : P.info? e = some i) (hz : i.zero = some z) (hzs : z.cells.size = cs.length) (hsize : i.size = cs.length)
    (hpos : 0 < cs.length) (hsm : cs.length ≤ 1000000) :
    (Instr.buildSlice t 1 #[(0, v)]).run P w = .ok (.slice (some ⟨w.heap.size, 0, none⟩) 1 1) (w.alloc (.cells cs.toArray e)) := by
  have h0 : (sizeOf e).run P w = .ok cs.length w := by simp [sizeOf, typeInfo, hi, Result.andThen, hsize]
  have hzv : (zeroValue e).run P w = .ok z w := by simp [zeroValue, typeInfo, hi, hz, Result.andThen]
  have hfill : Instr.fill (fun i => some (i * cs.length, cs.length)) ((Array.range (1 * cs.length)).map fun x => z.cells[x % z.cells.size]!) [(0, v)] = some cs.toArray := by
    simp only [Instr.fill, hv, List.size_toArray, Nat.zero_mul, Nat.zero_add]
    rw [if_neg (by simp)]
    congr 1
    apply Array.toList_inj.1
    have hf := foldl_set cs 0 0 ((Array.range (1 * cs.length)).map fun x => z.cells[x % z.cells.size]!) [] ((Array.range (1 * cs.length)).map fun x => z.cells[x % z.cells.size]!).toList [] (by simp) (by simp) rfl
    simp only [Nat.zero_add, List.append_nil, List.nil_append] at hf
    simpa using hf
  have hcs : ¬ cs = [] := by rintro rfl; simp at hpos
  have hbig : ¬ 16777216 < cs.length := by omega
  simp only [Nat.one_mul] at hfill
  simp [Instr.buildSlice, run_underlying ht, h0, hzv, hcs, hbig, newRow, Result.andThen]
  rw [hfill]
  simp [Result.andThen]

set_option maxRecDepth 100000 in
theorem wpList_buildSlice_one {ops : Array Oper} {rest : List Oper} {o : Oper} {a : Act} {Q : Exit → Act → World → Prop} (hg : o.guard = none) (x : Operand) (t : TypeId) (hop : o.op = Op.buildSlice t 1 #[(0, x)])
    (e : TypeId) (i : TypeInfo) (z : Value) (cs : List Value) (hx : a.eval x = .agg cs.toArray) (ht : P.underlying t = some (.slice e)) (hi : P.info? e = some i) (hz : i.zero = some z) (hzs : z.cells.size = cs.length) (hsize : i.size = cs.length)
    (hpos : 0 < cs.length) (hsm : cs.length ≤ 1000000)
    (hK : wpList P ops Q rest (a.put o.dst (.slice (some ⟨w.heap.size, 0, none⟩) 1 1)) (w.alloc (.cells cs.toArray e))) : wpList P ops Q (o :: rest) a w := by
  refine wpList_plain hg fun K hK' => ?_
  have hrun := run_buildSlice_one (P := P) (w := w) t e i z cs (a.eval x) (by rw [hx]; rfl) ht hi hz hzs hsize hpos hsm
  unfold Oper.wp
  simp [execOp, hop, hrun, Result.andThen]
  exact hK' _ _ hK
end
end Go.Rt

/- Laws on a range over a string, its iterator owned like any other thing. No program in sight. -/
namespace Go.Rt
open Go.RowKit

/-- An iterator over a string, so far on. -/
def itr (k : Nat) (s : ByteArray) (pos : Nat) : SL := fun h => h k = some (.stringIter s pos)

section
variable {P : Program} {W w : World} {l : List SL}

theorem Sat.iter (H : Sat W w l) (s : ByteArray) : Sat W (w.iter s 0) (itr w.heap.size s 0 :: l) := by
  refine H.add (a := fun k => if k = w.heap.size then some (.stringIter s 0) else none) _ ((Below.refl _ _).alloc (Nat.le_refl _) _) (by simp [itr]) fun k o e => ?_
  by_cases hk : k = w.heap.size
  · subst hk
    simp at e
    subst e
    exact ⟨Nat.le_refl _, heap_new w _⟩
  · simp [hk] at e

theorem Sat.iter_heap {k : Nat} {s : ByteArray} {pos : Nat} (H : Sat W w (itr k s pos :: l)) : w.heap[k]? = some (.stringIter s pos) := by
  obtain ⟨_, h, ⟨a, r, d, rfl, ha, _⟩, hh⟩ := H
  exact (hh k _ (join_left ha)).2
theorem Sat.iter_ge {k : Nat} {s : ByteArray} {pos : Nat} (H : Sat W w (itr k s pos :: l)) : W.heap.size ≤ k := by
  obtain ⟨_, h, ⟨a, r, d, rfl, ha, _⟩, hh⟩ := H
  exact (hh k _ (join_left ha)).1

def setIter (w : World) (k : Nat) (s : ByteArray) (pos : Nat) : World := { w with heap := w.heap.setIfInBounds k (.stringIter s pos) }
theorem Sat.iter_set {k : Nat} {s : ByteArray} {pos : Nat} (H : Sat W w (itr k s pos :: l)) (pos' : Nat) : Sat W (setIter w k s pos') (itr k s pos' :: l) := by
  have hge := H.iter_ge
  have hlt : k < w.heap.size := (Array.getElem?_eq_some_iff.1 H.iter_heap).1
  have hb : Below W.heap.size W (setIter w k s pos') := by
    refine H.bel.trans ⟨rfl, rfl, rfl, by simp [setIter], fun j hj => ?_⟩
    have hne : k ≠ j := by omega
    simp [setIter, hne]
  refine H.put hb fun a ha hh => ⟨fun j => if j = k then some (.stringIter s pos') else none, by simp [itr], fun j hj => ?_, fun j o e => ?_, fun j hj _ => ?_⟩
  · by_cases e : j = k
    · subst e; left; have : a j = _ := ha; rw [this]; simp
    · simp [e] at hj
  · by_cases e1 : j = k
    · subst e1
      simp at e
      subst e
      exact ⟨hge, by simp [setIter, hlt]⟩
    · simp [e1] at e
  · have hne : k ≠ j := by rintro rfl; have : a k = _ := ha; rw [this] at hj; cases hj
    simp [setIter, hne]

theorem run_next_more {k : Nat} {s : ByteArray} {pos : Nat} (ty : TypeId) (hk : w.heap[k]? = some (.stringIter s pos)) (h : pos < s.size) (ha : (s[pos]'h).toNat < 128) :
    (Instr.next (.pointer (some ⟨k, 0, none⟩)) true ty).run P w = .ok (.tuple #[.bool true, .int .i64 pos, .int .i32 (s[pos]'h).toNat]) (setIter w k s (pos + 1)) := by
  simp only [Instr.next, getObj, setObj, Sem.run_bind, Sem.run, hk, Result.andThen, h, if_true, decode_ascii s pos h ha]
  simp [goInt, setIter]
theorem run_next_over {k : Nat} {s : ByteArray} {pos : Nat} (ty : TypeId) (hk : w.heap[k]? = some (.stringIter s pos)) (h : ¬ pos < s.size) :
    (Instr.next (.pointer (some ⟨k, 0, none⟩)) true ty).run P w = .ok (.tuple #[.bool false]) w := by
  simp [Instr.next, getObj, Sem.run, hk, h]

set_option maxRecDepth 100000 in
theorem wpList_next_more {ops : Array Oper} {rest : List Oper} {o : Oper} {a : Act} {Q : Exit → Act → World → Prop} (hg : o.guard = none) (it : Operand) (hop : o.op = Op.next it true)
    (k : Nat) (s : ByteArray) (pos : Nat) (hit : a.eval it = .pointer (some ⟨k, 0, none⟩)) (H : Sat W w (itr k s pos :: l)) (c : Nat) (h : pos < s.size) (hc : (s[pos]'h).toNat = c) (ha : c < 128)
    (hK : ∀ w', Sat W w' (itr k s (pos + 1) :: l) → wpList P ops Q rest (a.put o.dst (.tuple #[.bool true, .int .i64 pos, .int .i32 c])) w') : wpList P ops Q (o :: rest) a w := by
  refine wpList_plain hg fun K hK' => ?_
  subst hc
  have hrun := run_next_more (P := P) (w := w) o.type H.iter_heap h ha
  unfold Oper.wp
  simp [execOp, hop, hit, hrun, Result.andThen]
  exact hK' _ _ (hK _ (H.iter_set (pos + 1)))
set_option maxRecDepth 100000 in
theorem wpList_next_over {ops : Array Oper} {rest : List Oper} {o : Oper} {a : Act} {Q : Exit → Act → World → Prop} (hg : o.guard = none) (it : Operand) (hop : o.op = Op.next it true)
    (k : Nat) (s : ByteArray) (pos : Nat) (hit : a.eval it = .pointer (some ⟨k, 0, none⟩)) (H : Sat W w (itr k s pos :: l)) (h : ¬ pos < s.size)
    (hK : wpList P ops Q rest (a.put o.dst (.tuple #[.bool false])) w) : wpList P ops Q (o :: rest) a w := by
  refine wpList_plain hg fun K hK' => ?_
  have hrun := run_next_over (P := P) (w := w) o.type H.iter_heap h
  unfold Oper.wp
  simp [execOp, hop, hit, hrun, Result.andThen]
  exact hK' _ _ hK
end
end Go.Rt

/- Laws on a part of a slice of one-cell elements. No program in sight. -/
namespace Go.Rt
open Go.RowKit

/-- Where a part of a slice begins. -/
def subA (A : Option Addr) (c l : Nat) : Option Addr := if c = l then A else A.map (·.add l)
theorem subA_rd {w : World} {A : Option Addr} {n c : Nat} {xs : List Value} (h : Rd w A xs) (hn : xs.length = n) (hc : n ≤ c) (l m : Nat) (hl : l + m ≤ n) : Rd w (subA A c l) ((xs.drop l).take m) := by
  unfold subA
  by_cases hcl : c = l
  · obtain rfl : m = 0 := by omega
    rw [if_pos hcl, List.take_zero]
    exact Rd.nil _ _
  · rw [if_neg hcl]
    by_cases hx : xs = []
    · subst hx; simp only [List.drop_nil, List.take_nil]; exact Rd.nil _ _
    · obtain ⟨b, o, rfl⟩ := h.open hx
      have e : (some (⟨b, o, none⟩ : Addr)).map (·.add l) = some ⟨b, o + l, none⟩ := by
        simp only [Option.map_some, Option.some.injEq]
        unfold Addr.add
        split
        · rename_i h0; subst h0; rfl
        · rfl
      rw [e]
      exact (h.drop l).take m
theorem subA_bsl {A : Option Addr} {n c : Nat} (h : Bsl A n c) (l m : Nat) (hl : l + m ≤ n) : Bsl (subA A c l) m (c - l) := by
  have h1 := h.le
  have h2 := h.max
  refine ⟨by omega, (fun e => ?_), by omega⟩
  unfold subA at e
  by_cases hcl : c = l
  · omega
  · rw [if_neg hcl] at e
    have := h.none (by simpa using e)
    omega

section
variable {P : Program} {w : World}
theorem run_slice_part (t e : TypeId) (i : TypeInfo) (hu : P.underlying t = some (.slice e)) (hi : P.info? e = some i) (hs : i.size = 1) (A : Option Addr) (n c l h : Nat) (hl : l ≤ h) (hh : h ≤ c) :
    (Instr.slice t (.slice A n c) (some (.int .i64 l)) (some (.int .i64 h)) none).run P w = .ok (.slice (subA A c l) (h - l) (c - l)) w := by
  have h1 := run_sliceBound (P := P) (w := w) .i64 (h : Int) c .sliceAcap (by omega) (by omega)
  have h2 := run_sliceBound (P := P) (w := w) .i64 (l : Int) h .sliceB (by omega) (by omega)
  simp only [Int.toNat_natCast] at h1 h2
  simp [Instr.slice, run_underlying hu, Instr.sliceBounds, h1, h2, sizeOf, typeInfo, hi, hs, Result.andThen, subA]
theorem run_slice_from (t e : TypeId) (i : TypeInfo) (hu : P.underlying t = some (.slice e)) (hi : P.info? e = some i) (hs : i.size = 1) (A : Option Addr) (n c l : Nat) (hl : l ≤ n) :
    (Instr.slice t (.slice A n c) (some (.int .i64 l)) none none).run P w = .ok (.slice (subA A c l) (n - l) (c - l)) w := by
  have h2 := run_sliceBound (P := P) (w := w) .i64 (l : Int) n .sliceB (by omega) (by omega)
  simp only [Int.toNat_natCast] at h2
  simp [Instr.slice, run_underlying hu, Instr.sliceBounds, h2, sizeOf, typeInfo, hi, hs, Result.andThen, subA]
theorem run_slice_to (t e : TypeId) (i : TypeInfo) (hu : P.underlying t = some (.slice e)) (hi : P.info? e = some i) (A : Option Addr) (n c h : Nat) (hh : h ≤ c) :
    (Instr.slice t (.slice A n c) none (some (.int .i64 h)) none).run P w = .ok (.slice (subA A c 0) h c) w := by
  have h1 := run_sliceBound (P := P) (w := w) .i64 (h : Int) c .sliceAcap (by omega) (by omega)
  simp only [Int.toNat_natCast] at h1
  simp [Instr.slice, run_underlying hu, Instr.sliceBounds, h1, sizeOf, typeInfo, hi, Result.andThen, subA]

theorem wpList_slice_from {ops : Array Oper} {rest : List Oper} {o : Oper} {a : Act} {Q : Exit → Act → World → Prop} (hw : Region.wanted o (yielded ops a.tmps) = true) (x lo : Operand) (t : TypeId) (hop : o.op = Op.slice t x (some lo) none none)
    (e : TypeId) (i : TypeInfo) (hu : P.underlying t = some (.slice e)) (hi : P.info? e = some i) (hs : i.size = 1) (A : Option Addr) (n c l : Nat) (hx : a.eval x = .slice A n c) (hlo : a.eval lo = .int .i64 l) (hl : l ≤ n)
    (hK : wpList P ops Q rest (a.put o.dst (.slice (subA A c l) (n - l) (c - l))) w) : wpList P ops Q (o :: rest) a w := by
  refine BigFrame.wpList_want hw fun K hK' => ?_
  have hrun := run_slice_from (P := P) (w := w) t e i hu hi hs A n c l hl
  unfold Oper.wp
  simp [execOp, hop, hx, hlo, Instr.sliceAt, run_underlying hu, hrun, Result.andThen]
  exact hK' _ _ hK
theorem wpList_slice_part {ops : Array Oper} {rest : List Oper} {o : Oper} {a : Act} {Q : Exit → Act → World → Prop} (hw : Region.wanted o (yielded ops a.tmps) = true) (x lo hi' : Operand) (t : TypeId) (hop : o.op = Op.slice t x (some lo) (some hi') none)
    (e : TypeId) (i : TypeInfo) (hu : P.underlying t = some (.slice e)) (hi : P.info? e = some i) (hs : i.size = 1) (A : Option Addr) (n c l h : Nat) (hx : a.eval x = .slice A n c) (hlo : a.eval lo = .int .i64 l) (hhi : a.eval hi' = .int .i64 h) (hl : l ≤ h) (hh : h ≤ c)
    (hK : wpList P ops Q rest (a.put o.dst (.slice (subA A c l) (h - l) (c - l))) w) : wpList P ops Q (o :: rest) a w := by
  refine BigFrame.wpList_want hw fun K hK' => ?_
  have hrun := run_slice_part (P := P) (w := w) t e i hu hi hs A n c l h hl hh
  unfold Oper.wp
  simp [execOp, hop, hx, hlo, hhi, Instr.sliceAt, run_underlying hu, hrun, Result.andThen]
  exact hK' _ _ hK
theorem wpList_slice_to {ops : Array Oper} {rest : List Oper} {o : Oper} {a : Act} {Q : Exit → Act → World → Prop} (hw : Region.wanted o (yielded ops a.tmps) = true) (x hi' : Operand) (t : TypeId) (hop : o.op = Op.slice t x none (some hi') none)
    (e : TypeId) (i : TypeInfo) (hu : P.underlying t = some (.slice e)) (hi : P.info? e = some i) (A : Option Addr) (n c h : Nat) (hx : a.eval x = .slice A n c) (hhi : a.eval hi' = .int .i64 h) (hh : h ≤ c)
    (hK : wpList P ops Q rest (a.put o.dst (.slice (subA A c 0) h c)) w) : wpList P ops Q (o :: rest) a w := by
  refine BigFrame.wpList_want hw fun K hK' => ?_
  have hrun := run_slice_to (P := P) (w := w) t e i hu hi A n c h hh
  unfold Oper.wp
  simp [execOp, hop, hx, hhi, Instr.sliceAt, run_underlying hu, hrun, Result.andThen]
  exact hK' _ _ hK
end
end Go.Rt

/- Laws: an element of several cells is stored in a slice; a number is appended where there is room; a slice's literal of several elements of several cells. No program in sight. -/
namespace Go.Rt
open Go.RowKit
theorem flat_at {α : Type} (cs : α → List Value) (sz : Nat) (ts : List α) (h : ∀ x ∈ ts, (cs x).length = sz) (j : Nat) (x : α) (hj : ts[j]? = some x) : ((ts.flatMap cs).drop (j * sz)).take sz = cs x := by
  induction ts generalizing j with
  | nil => simp at hj
  | cons y ts ih =>
    have h1 := h y (by simp)
    have e : (y :: ts).flatMap cs = cs y ++ ts.flatMap cs := rfl
    cases j with
    | zero =>
      simp at hj; subst hj
      rw [e, Nat.zero_mul, List.drop_zero, List.take_left' h1]
    | succ j =>
      rw [e, List.drop_append, List.drop_eq_nil_of_le (by rw [h1, Nat.succ_mul]; omega), List.nil_append, h1]
      rw [show (j + 1) * sz - sz = j * sz by rw [Nat.succ_mul]; omega]
      exact ih (fun z hz => h z (by simp [hz])) j (by simpa using hj)
theorem flat_len {α : Type} (cs : α → List Value) (sz : Nat) (ts : List α) (h : ∀ x ∈ ts, (cs x).length = sz) : (ts.flatMap cs).length = ts.length * sz := by
  induction ts with
  | nil => simp
  | cons x ts ih =>
    have h1 := h x (by simp)
    rw [List.flatMap_cons, List.length_append, h1, ih fun z hz => h z (by simp [hz]), List.length_cons, Nat.succ_mul]
    omega
theorem rd_elem {α : Type} {w : World} {A : Option Addr} (cs : α → List Value) (sz : Nat) (h0 : 0 < sz) {ts : List α} (h : Rd w A (ts.flatMap cs)) (hts : ∀ x ∈ ts, (cs x).length = sz) (j : Nat) (x : α) (hj : ts[j]? = some x) :
    ∃ b o, A = some ⟨b, o, none⟩ ∧ Rd w (some ⟨b, o + j * sz, none⟩) (cs x) := by
  have h1 := flat_at cs sz ts hts j x hj
  have hx : ts.flatMap cs ≠ [] := by
    intro e
    rw [e] at h1
    have := hts x (List.mem_of_getElem? hj)
    rw [← h1] at this
    simp at this
    omega
  obtain ⟨b, o, rfl⟩ := h.open hx
  exact ⟨b, o, rfl, by rw [← h1]; exact (h.drop (j * sz)).take sz⟩

section
variable {P : Program} {W w : World} {l : List SL} {e : TypeId} {zc xs : List Value} {n c g : Nat}

theorem Sat.setEl (H : Sat W w (row e zc (.slice (some ⟨g, 0, none⟩) n c) n xs :: l)) (j : Nat) (hj : j < n) (cs : List Value) (hcs : cs.length = zc.length) (hty : Typed zc cs) :
    ∃ cur, w.heap[g]? = some (.cells cur e (0, 0)) ∧ cur.size = c * zc.length ∧ n ≤ c ∧ Sat W (w.setRow g (cur.toList.take (j * zc.length) ++ cs ++ cur.toList.drop (j * zc.length + zc.length)).toArray) (row e zc (.slice (some ⟨g, 0, none⟩) n c) n ((cur.toList.take (j * zc.length) ++ cs ++ cur.toList.drop (j * zc.length + zc.length)).take (n * zc.length)) :: l) := by
  obtain ⟨cur, hg, h1, h2, h3, h4, h5⟩ := H.row_blk
  have hm : (j + 1) * zc.length ≤ c * zc.length := Nat.mul_le_mul_right _ (by omega)
  rw [Nat.succ_mul] at hm
  have hcl : cur.toList.length = c * zc.length := by simpa using h3
  have hlt : (cur.toList.take (j * zc.length)).length = j * zc.length := by rw [List.length_take, hcl]; omega
  refine ⟨cur, hg, h3, h1, ?_⟩
  have hT : Typed zc (cur.toList.take (j * zc.length) ++ cs ++ cur.toList.drop (j * zc.length + zc.length)) := by
    refine Typed.append (Typed.append (Typed.take h5 _) hty (by rw [hlt]; exact Nat.mul_mod_left _ _)) (Typed.drop h5 _ ?_) ?_
    · rw [← Nat.succ_mul]; exact Nat.mul_mod_left _ _
    · rw [List.length_append, hlt, hcs, ← Nat.succ_mul]; exact Nat.mul_mod_left _ _
  have := H.setRow (cur.toList.take (j * zc.length) ++ cs ++ cur.toList.drop (j * zc.length + zc.length)).toArray n h1 (by simp only [List.size_toArray, List.length_append, hlt, hcs, List.length_drop, hcl]; omega) (by simpa using hT)
  simpa using this

set_option maxRecDepth 100000 in
/-- An element of several cells is written in a row: what it holds then, is told by its length alone. -/
theorem wpList_store_el {ops : Array Oper} {rest : List Oper} {o : Oper} {a : Act} {Q : Exit → Act → World → Prop} (hg : o.guard = none) (hdst : o.dst = none) (x y : Operand) (t : TypeId) (hop : o.op = Op.store t x y)
    (j : Nat) (hj : j < n) (cs : List Value) (hsz : (P.info? t).map (·.size) = some zc.length) (hcs : cs.length = zc.length) (hx : a.eval x = .pointer (some ⟨g, j * zc.length, none⟩)) (hy : a.eval y = .agg cs.toArray)
    (h1 : ∀ u ∈ cs, u.oneCell' = true) (hty : Typed zc cs) (H : Sat W w (row e zc (.slice (some ⟨g, 0, none⟩) n c) n xs :: l)) (hK : ∀ w' ys, Sat W w' (row e zc (.slice (some ⟨g, 0, none⟩) n c) n ys :: l) → wpList P ops Q rest a w') : wpList P ops Q (o :: rest) a w := by
  refine wpList_plain hg fun K hK' => ?_
  obtain ⟨cur, hgg, hcur, hnc, H'⟩ := H.setEl j hj cs hcs hty
  have hm : (j + 1) * zc.length ≤ c * zc.length := Nat.mul_le_mul_right _ (by omega)
  rw [Nat.succ_mul] at hm
  have hst := run_storeCells_at P g (j * zc.length) e cs 0 cur w hgg (by omega) h1
  simp only [Nat.add_zero, hcs] at hst
  have hso : ∀ w, (sizeOf t).run P w = .ok zc.length w := fun w => by
    cases hi : P.info? t with
    | none => simp [hi] at hsz
    | some i => simp [hi] at hsz; simp [sizeOf, typeInfo, hi, Result.andThen, hsz]
  have hrun : (storeVar t ⟨g, j * zc.length, none⟩ (.agg cs.toArray)).run P w = .ok () (w.setRow g (cur.toList.take (j * zc.length) ++ cs ++ cur.toList.drop (j * zc.length + zc.length)).toArray) := by
    simp [storeVar, Value.cells, hso, hst, Result.andThen, hcs]
  unfold Oper.wp
  simp [execOp, hop, hx, hy, Instr.storeAt, Instr.sureAddr, hrun, Result.andThen]
  refine hK' _ _ ?_
  rw [hdst]
  exact hK _ _ (by simpa using H')

set_option maxRecDepth 100000 in
/-- A number is appended to a slice of a variable's cells, in which there is room. -/
theorem wpList_append_room {ops : Array Oper} {rest : List Oper} {o : Oper} {a : Act} {Q : Exit → Act → World → Prop} (hg : o.guard = none) (s x : Operand) (t : TypeId) (hop : o.op = Op.call { callee := Callee.builtin Builtin.append, args := #[s, x], argTypes := #[t, t] })
    (el : TypeId) (i : TypeInfo) (ht : P.underlying t = some (.slice el)) (hi : P.info? el = some i) (hsize : i.size = 1) (cur : Array Value) (tag : TypeId) (hs : a.eval s = .slice (some ⟨g, 0, none⟩) n c) (hn : n < c) (hc : c ≤ cur.size)
    (A : Option Addr) (c' : Nat) (v : Value) (hx : a.eval x = .slice A 1 c') (hr : Rd w A [v]) (h1 : v.oneCell' = true) (H : Sat W w (pt g cur tag :: l))
    (hK : ∀ w', Sat W w' (pt g (cur.setIfInBounds n v) tag :: l) → wpList P ops Q rest (a.put o.dst (.slice (some ⟨g, 0, none⟩) (n + 1) c)) w') : wpList P ops Q (o :: rest) a w := by
  refine wpList_plain hg fun K hK' => ?_
  obtain ⟨b, off, rfl⟩ := hr.open (by simp)
  have hcell : (w.cell? ⟨g, n, none⟩).isSome = true := by rw [H.cell]; simp; omega
  have hfro := H.frz n
  have hrun := run_append_room_cells (P := P) w t o.type el i ht hi g 0 n c ⟨b, off, none⟩ 1 c' [v] (by simp [hsize]) (fun j u hj => by rw [Addr.add_lit]; exact hr.at j hj) (by simpa using h1) (by omega)
    (fun j hj => by simp at hj; subst hj; simpa [hsize] using hcell) (fun j hj => by simp at hj; subst hj; simpa [hsize] using hfro)
  have hw : w.setCells g (0 + n * i.size) [v] = w.setCell ⟨g, n, none⟩ v := by rw [hsize, Nat.zero_add, Nat.mul_one]; rfl
  rw [hw] at hrun
  unfold Oper.wp
  simp [execOp, hop, resolve, invoke, builtin, hs, hx, hrun, Result.andThen]
  exact hK' _ _ (hK _ (H.setCell n v))
end
end Go.Rt

/- A slice's literal of several elements of several cells each. No program in sight. -/
namespace Go.Rt
open Go.RowKit

theorem fill_many (sz : Nat) : ∀ (css : List (List Value)) (k : Nat) (acc : Array Value) (pre old post : List Value), (∀ c ∈ css, c.length = sz) → acc.toList = pre ++ old ++ post → old.length = css.length * sz → pre.length = k * sz →
    ∃ r : Array Value, Instr.fill (fun i => some (i * sz, sz)) acc ((css.zipIdx k).map fun p => (p.2, Value.agg p.1.toArray)) = some r ∧ r.toList = pre ++ css.flatten ++ post
  | [], k, acc, pre, old, post, _, h2, h3, _ => by
    have : old = [] := List.eq_nil_of_length_eq_zero (by simpa using h3)
    subst this
    exact ⟨acc, rfl, by simpa using h2⟩
  | c :: css, k, acc, pre, old, post, h1, h2, h3, h4 => by
    have hc := h1 c (by simp)
    have h3' : old.length = css.length * sz + sz := by rw [h3, List.length_cons, Nat.succ_mul]
    have hsz : acc.size = k * sz + (css.length * sz + sz) + post.length := by
      have := congrArg List.length h2
      simp only [List.length_append, h3', h4, Array.length_toList] at this
      exact this
    have hf := foldl_set c (k * sz) 0 acc pre (old.take sz) (old.drop sz ++ post) (by rw [h2, List.append_assoc, List.append_assoc, ← List.append_assoc (old.take sz), List.take_append_drop]) (by rw [List.length_take, h3', hc]; omega) (by rw [h4]; omega)
    obtain ⟨r, hr1, hr2⟩ := fill_many sz css (k + 1) ((c.zipIdx 0).foldl (fun (cs : Array Value) (p : Value × Nat) => cs.setIfInBounds (k * sz + p.2) p.1) acc) (pre ++ c) (old.drop sz) post (fun x hx => h1 x (by simp [hx])) (by rw [hf]; simp) (by rw [List.length_drop, h3']; omega) (by rw [List.length_append, h4, hc, Nat.succ_mul])
    refine ⟨r, ?_, by rw [hr2]; simp⟩
    rw [← hr1]
    simp only [List.zipIdx_cons, List.map_cons, Instr.fill, Value.cells, List.size_toArray, hc]
    rw [if_neg (by simp; omega)]
    congr 1
    simp

section
variable {P : Program} {W w : World} {l : List SL}
theorem run_buildSlice_many (t e : TypeId) (i : TypeInfo) (z : Value) (sz : Nat) (css : List (List Value)) (hc : ∀ c ∈ css, c.length = sz) (ht : P.underlying t = some (.slice e)) (hi : P.info? e = some i) (hz : i.zero = some z) (hsize : i.size = sz)
    (hpos : 0 < sz) (hn : 0 < css.length) (hsm : css.length * sz ≤ 1000000) (parts : Array (Nat × Value)) (hp : parts.toList = css.zipIdx.map fun p => (p.2, Value.agg p.1.toArray)) :
    (Instr.buildSlice t css.length parts).run P w = .ok (.slice (some ⟨w.heap.size, 0, none⟩) css.length css.length) (w.alloc (.cells css.flatten.toArray e)) := by
  have h0 : (sizeOf e).run P w = .ok sz w := by simp [sizeOf, typeInfo, hi, Result.andThen, hsize]
  have hzv : (zeroValue e).run P w = .ok z w := by simp [zeroValue, typeInfo, hi, hz, Result.andThen]
  obtain ⟨r, hr1, hr2⟩ := fill_many sz css 0 ((Array.range (css.length * sz)).map fun x => z.cells[x % z.cells.size]!) [] ((Array.range (css.length * sz)).map fun x => z.cells[x % z.cells.size]!).toList [] hc (by simp) (by simp) (by simp)
  have hr3 : r = css.flatten.toArray := by apply Array.toList_inj.1; rw [hr2]; simp
  subst hr3
  have hpz : ¬ css.length * sz = 0 := by have := Nat.mul_pos hn hpos; omega
  have hbig : ¬ 16777216 < css.length * sz := by omega
  rw [← hp] at hr1
  simp [Instr.buildSlice, run_underlying ht, h0, hbig, newRow, Result.andThen]
  rw [if_neg hpz]
  simp [hzv, hr1, Result.andThen]

set_option maxRecDepth 100000 in
theorem wpList_buildSlice_many {ops : Array Oper} {rest : List Oper} {o : Oper} {a : Act} {Q : Exit → Act → World → Prop} (hw : Region.wanted o (yielded ops a.tmps) = true) (xs : Array (Nat × Operand)) (t : TypeId) (n : Nat) (hop : o.op = Op.buildSlice t n xs)
    (e : TypeId) (i : TypeInfo) (z : Value) (sz : Nat) (css : List (List Value)) (hn' : css.length = n) (hc : ∀ c ∈ css, c.length = sz) (hx : (xs.map fun p => (p.1, a.eval p.2)).toList = css.zipIdx.map fun p => (p.2, Value.agg p.1.toArray))
    (ht : P.underlying t = some (.slice e)) (hi : P.info? e = some i) (hz : i.zero = some z) (hsize : i.size = sz) (hpos : 0 < sz) (hn : 0 < n) (hsm : n * sz ≤ 1000000)
    (hK : wpList P ops Q rest (a.put o.dst (.slice (some ⟨w.heap.size, 0, none⟩) n n)) (w.alloc (.cells css.flatten.toArray e))) : wpList P ops Q (o :: rest) a w := by
  subst hn'
  refine BigFrame.wpList_want hw fun K hK' => ?_
  have hrun := run_buildSlice_many (P := P) (w := w) t e i z sz css hc ht hi hz hsize hpos hn hsm (xs.map fun p => (p.1, a.eval p.2)) hx
  unfold Oper.wp
  simp [execOp, hop, hrun, Result.andThen]
  exact hK' _ _ hK
end
end Go.Rt

/- Two arrays of bytes held against each other; a variable of several cells read behind a guard. -/
namespace Go.Proofs.Ytflcmhmbmippfaa
open Go.RowKit Go.Rt

theorem B_beq (a b : UInt8) : ((a.toNat : Int) == (b.toNat : Int)) = (a == b) := by
  rw [Bool.eq_iff_iff, beq_iff_eq, beq_iff_eq]
  constructor
  · intro h; exact UInt8.toNat_inj.1 (by omega)
  · intro h; rw [h]

section
variable {P : Program} {w : World}
theorem run_eqItems_bytes (e : TypeId) (he : P.underlying e = some (.int .u8)) (d : Nat) (us vs : List UInt8) (m : Nat) : ∀ k, us.length = k + m → vs.length = k + m →
    (Op.eqItems (d + 1) e 1 (us.map B).toArray (vs.map B).toArray (List.range' k m)).run P w = .ok (us.drop k == vs.drop k) w := by
  induction m with
  | zero =>
    intro k ha hb
    rw [List.drop_eq_nil_of_le (by omega), List.drop_eq_nil_of_le (by omega)]
    simp [Op.eqItems]
  | succ m ih =>
    intro k ha hb
    have hp : P.plainKey e = true := by unfold Program.plainKey; rw [he]
    obtain ⟨x, hx⟩ : ∃ x, us[k]? = some x := ⟨_, List.getElem?_eq_getElem (by omega)⟩
    obtain ⟨y, hy⟩ : ∃ y, vs[k]? = some y := ⟨_, List.getElem?_eq_getElem (by omega)⟩
    have h1 := run_part_plain (P := P) w hp (xs := (us.map B).toArray) (off := k * 1) (v := B x) (by simp [hx])
    have h2 := run_part_plain (P := P) w hp (xs := (vs.map B).toArray) (off := k * 1) (v := B y) (by simp [hy])
    have h3 := run_equalIn_int (P := P) w d e .u8 .u8 (x.toNat : Int) (y.toNat : Int) he
    have h3' : (Op.equalIn (d + 1) e (B x) (B y)).run P w = .ok (x == y) w := by rw [← B_beq]; exact h3
    have ea : us.drop k = x :: us.drop (k + 1) := by rw [List.drop_eq_getElem_cons (by omega)]; congr 1; exact Option.some.inj (by rw [← List.getElem?_eq_getElem, hx])
    have eb : vs.drop k = y :: vs.drop (k + 1) := by rw [List.drop_eq_getElem_cons (by omega)]; congr 1; exact Option.some.inj (by rw [← List.getElem?_eq_getElem, hy])
    simp only [List.range'_succ, Op.eqItems, Sem.run_bind, h1, h2, h3', Result.andThen_ok]
    rw [ea, eb]
    cases hxy : x == y with
    | true => simp only [Bool.not_true, Bool.false_eq_true, if_false]; rw [ih (k + 1) (by omega) (by omega)]; simp [hxy]
    | false => simp [hxy]

theorem run_equal_bytes (d : Nat) (t e : TypeId) (n : Nat) (i : TypeInfo) (hu : P.underlying t = some (.array n e)) (hi : P.info? e = some i) (hc : P.cellsOf e = 1) (he : P.underlying e = some (.int .u8)) (us vs : List UInt8) (ha : us.length = n) (hb : vs.length = n) :
    (Op.equalIn (d + 2) t (.agg (us.map B).toArray) (.agg (vs.map B).toArray)).run P w = .ok (us == vs) w := by
  rw [run_equalIn_array w (d + 1) _ _ hu hi, hc, List.range_eq_range']
  have := run_eqItems_bytes (P := P) (w := w) e he d us vs n 0 (by omega) (by omega)
  simpa using this

set_option maxRecDepth 100000 in
theorem wpList_eqb {ops : Array Oper} {rest : List Oper} {o : Oper} {a : Act} {Q : Exit → Act → World → Prop} (hw : Region.wanted o (yielded ops a.tmps) = true) (x y : Operand) (t t2 : TypeId) (neq : Bool) (hop : o.op = Op.binOp (if neq then .neq else .eql) t x y t2)
    (e : TypeId) (n : Nat) (i : TypeInfo) (hu : P.underlying t = some (.array n e)) (hi : P.info? e = some i) (hc : P.cellsOf e = 1) (he : P.underlying e = some (.int .u8)) (hm : P.eqGuardType P.depth t = false) (us vs : List UInt8) (ha : us.length = n) (hb : vs.length = n)
    (hx : a.eval x = .agg (us.map B).toArray) (hy : a.eval y = .agg (vs.map B).toArray) (hK : wpList P ops Q rest (a.put o.dst (.bool (xor neq (us == vs)))) w) : wpList P ops Q (o :: rest) a w := by
  refine BigFrame.wpList_want hw fun K hK' => ?_
  have h0 := run_equal_bytes (P := P) (w := w) 9998 t e n i hu hi hc he us vs ha hb
  have h1 : ∀ op, (eqGuard op t x y (.agg (us.map B).toArray) (.agg (vs.map B).toArray)).run P w = .ok () w := fun op => run_eqGuard_agg (P := P) w op t x y _ _ hm
  unfold Oper.wp
  cases neq with
  | true =>
    have h2 := run_neq_struct (P := P) w t (us.map B).toArray (vs.map B).toArray
    rw [h0] at h2
    simp only [Result.andThen_ok] at h2
    simp only [execOp, hop, if_true, hx, hy, Sem.run_bind, h1, h2, Result.andThen_ok]
    exact hK' _ _ (by simpa using hK)
  | false =>
    have h2 := run_eql_struct (P := P) w t (us.map B).toArray (vs.map B).toArray
    rw [h0] at h2
    simp only [Result.andThen_ok] at h2
    simp only [execOp, hop, Bool.false_eq_true, if_false, hx, hy, Sem.run_bind, h1, h2, Result.andThen_ok]
    exact hK' _ _ (by simpa using hK)

set_option maxRecDepth 100000 in
theorem wpList_load_rdw {ops : Array Oper} {rest : List Oper} {o : Oper} {a : Act} {Q : Exit → Act → World → Prop} (hw : Region.wanted o (yielded ops a.tmps) = true) (x : Operand) (t : TypeId) (hop : o.op = Op.load t x)
    (b off : Nat) (cs : List Value) (hagg : (match P.underlying t with | some (.struct _) | some (.array _ _) => true | _ => false) = true) (hsz : (P.info? t).map (·.size) = some cs.length) (ha : a.eval x = .pointer (some ⟨b, off, none⟩))
    (hr : Rd w (some ⟨b, off, none⟩) cs) (hK : wpList P ops Q rest (a.put o.dst (.agg cs.toArray)) w) : wpList P ops Q (o :: rest) a w := by
  refine BigFrame.wpList_want hw fun K hK' => ?_
  have h1 := run_loadVar_rd (P := P) t b off cs hagg hsz hr
  unfold Oper.wp
  simp [execOp, hop, ha, Instr.loadAt, Instr.sureAddr, h1, Result.andThen]
  exact hK' _ _ hK
theorem step_load_rd {ops : Array Oper} {o : Oper} {a : Act} {K : Act → World → Prop} {Q : Exit → Act → World → Prop} {E : Prop} (hg : o.guard = none) (x : Operand) (t : TypeId) (hop : o.op = Op.load t x)
    (b off : Nat) (cs : List Value) (hagg : (match P.underlying t with | some (.struct _) | some (.array _ _) => true | _ => false) = true) (hsz : (P.info? t).map (·.size) = some cs.length) (ha : a.eval x = .pointer (some ⟨b, off, none⟩))
    (hr : Rd w (some ⟨b, off, none⟩) cs) (h : K (a.put o.dst (.agg cs.toArray)) w) : if Region.wanted o (yielded ops a.tmps) = true then Oper.wp P o a w K Q else E := by
  have hw : Region.wanted o (yielded ops a.tmps) = true := by simp [Region.wanted, hg]
  rw [if_pos hw]
  have h1 := run_loadVar_rd (P := P) t b off cs hagg hsz hr
  unfold Oper.wp
  simp [execOp, hop, ha, Instr.loadAt, Instr.sureAddr, h1, Result.andThen]
  exact h

theorem step_eqb {ops : Array Oper} {o : Oper} {a : Act} {K : Act → World → Prop} {Q : Exit → Act → World → Prop} {E : Prop} (hg : o.guard = none) (x y : Operand) (t t2 : TypeId) (neq : Bool) (hop : o.op = Op.binOp (if neq then .neq else .eql) t x y t2)
    (e : TypeId) (n : Nat) (i : TypeInfo) (hu : P.underlying t = some (.array n e)) (hi : P.info? e = some i) (hc : P.cellsOf e = 1) (he : P.underlying e = some (.int .u8)) (hm : P.eqGuardType P.depth t = false) (us vs : List UInt8) (ha : us.length = n) (hb : vs.length = n)
    (hx : a.eval x = .agg (us.map B).toArray) (hy : a.eval y = .agg (vs.map B).toArray) (h : K (a.put o.dst (.bool (xor neq (us == vs)))) w) : if Region.wanted o (yielded ops a.tmps) = true then Oper.wp P o a w K Q else E := by
  have hw : Region.wanted o (yielded ops a.tmps) = true := by simp [Region.wanted, hg]
  rw [if_pos hw]
  have h0 := run_equal_bytes (P := P) (w := w) 9998 t e n i hu hi hc he us vs ha hb
  have h1 : ∀ op, (eqGuard op t x y (.agg (us.map B).toArray) (.agg (vs.map B).toArray)).run P w = .ok () w := fun op => run_eqGuard_agg (P := P) w op t x y _ _ hm
  unfold Oper.wp
  cases neq with
  | true =>
    have h2 := run_neq_struct (P := P) w t (us.map B).toArray (vs.map B).toArray
    rw [h0] at h2
    simp only [Result.andThen_ok] at h2
    simp only [execOp, hop, if_true, hx, hy, Sem.run_bind, h1, h2, Result.andThen_ok]
    show K (a.put o.dst _) w
    simpa using h
  | false =>
    have h2 := run_eql_struct (P := P) w t (us.map B).toArray (vs.map B).toArray
    rw [h0] at h2
    simp only [Result.andThen_ok] at h2
    simp only [execOp, hop, Bool.false_eq_true, if_false, hx, hy, Sem.run_bind, h1, h2, Result.andThen_ok]
    show K (a.put o.dst _) w
    simpa using h

set_option maxRecDepth 100000 in
theorem wpList_append_slw {W : World} {l : List SL} {ops : Array Oper} {rest : List Oper} {o : Oper} {a : Act} {Q : Exit → Act → World → Prop} (hw : Region.wanted o (yielded ops a.tmps) = true) (s x : Operand) (t : TypeId)
    (ho : o.op = .call { callee := .builtin .append, args := #[s, x], argTypes := #[t, t] })
    (e : TypeId) (i : TypeInfo) (z : Value) (zc : List Value) (bytes : Nat) (ht : P.underlying t = some (.slice e)) (hi : P.info? e = some i) (hz : i.zero = some z) (hzc : z.cells = zc.toArray)
    (hsize : i.size = zc.length) (hby : i.bytes = bytes) (hpos : 0 < zc.length) (hzz : LikeZ zc)
    (v : Value) (n : Nat) (xs : List Value) (hs : a.eval s = v) (H : Sat W w (row e zc v n xs :: l))
    (A : Option Addr) (m c : Nat) (news : List Value) (hx : a.eval x = .slice A m c) (hl : news.length = m * zc.length) (hr : Rd w A news) (h1 : ∀ u ∈ news, u.oneCell' = true) (hty : Typed zc news)
    (h63 : n + m ≤ maxLen) (hbytes : (n + m) * bytes ≤ 140737488355328)
    (h : ∀ A' c' w', Sat W w' (row e zc (.slice A' (n + m) c') (n + m) (xs ++ news) :: l) → wpList P ops Q rest (a.put o.dst (.slice A' (n + m) c')) w') : wpList P ops Q (o :: rest) a w :=
  BigFrame.wpList_want hw fun _ hK => wp_append_sl s x t ho e i z zc bytes ht hi hz hzc hsize hby hpos hzz v n xs hs H A m c news hx hl hr h1 hty h63 hbytes fun A' c' w' H' => hK _ _ (h A' c' w' H')
end
end Go.Proofs.Ytflcmhmbmippfaa

/- The last step of a row whose law answers true and leaves all that was handed in as it was. No program in sight. -/
namespace Go.Rt
open Go.RowKit Go.ChangeShapes Go.WideShapes
variable {H : Type} {enc : TypeId × Value → H} {P : Program}

/-- All arguments read as before, where below the heap's old size nothing has turned. -/
theorem trodAll_kept (hl : laidOutB P = true) {W W' : World} (hb : Below W.heap.size W W') {sp : Nat → Bool} :
    ∀ {ts : List TypeId} {vs : List Value} {ds : List (DataW H)} {ps : List MemPlace}, (∀ t ∈ ts, P.readableRec t = true ∧ t < P.types.size) →
      DataW.TrodAll enc P W 0 (fun _ => true) true ts vs ds ps → (∀ p ∈ ps, p.block < W.heap.size) → (∀ p ∈ ps, sp p.block = true) → DataW.TrodAll enc P W' 0 sp true ts vs ds ps
  | [], [], [], _, _, h, _, _ => h
  | [], [], _ :: _, _, _, h, _, _ => h.elim
  | [], _ :: _, _, _, _, h, _, _ => h.elim
  | _ :: _, [], _, _, _, h, _, _ => h.elim
  | _ :: _, _ :: _, [], _, _, h, _, _ => h.elim
  | t :: ts, v :: vs, d :: ds, ps, hr, h, hlt, hs => by
    obtain ⟨p, q, h1, h2, rfl⟩ := h
    have ht := hr t (by simp)
    exact ⟨p, q, WideElems.Trod_stays hl ht.1 ht.2 h1 (fun x hx => hb.same (hlt x (by simp [hx]))) (fun x hx => hs x (by simp [hx])),
      trodAll_kept hl hb (fun u hu => hr u (by simp [hu])) h2 (fun x hx => hlt x (by simp [hx])) (fun x hx => hs x (by simp [hx])), rfl⟩

theorem agg_of_cells {v : Value} {cs : List Value} (h : v.cells.toList = cs) (hl : cs.length ≠ 1) : v = .agg cs.toArray := by
  subst h
  cases v <;> first | rfl | (exfalso; exact hl rfl)
theorem trodAll_five {w : World} {base : Nat} {spare : Nat → Bool} {held : Bool} {t0 t1 t2 t3 t4 : TypeId} {args : Array Value} {ds : List (DataW H)} {ps : List MemPlace} (h : DataW.TrodAll enc P w base spare held [t0, t1, t2, t3, t4] args.toList ds ps) :
    ∃ v0 v1 v2 v3 v4 d0 d1 d2 d3 d4 p0 p1 p2 p3 p4, args = #[v0, v1, v2, v3, v4] ∧ ds = [d0, d1, d2, d3, d4] ∧ ps = p0 ++ (p1 ++ (p2 ++ (p3 ++ p4))) ∧ DataW.Trod enc P w base spare held t0 v0 d0 p0 ∧ DataW.Trod enc P w base spare held t1 v1 d1 p1 ∧ DataW.Trod enc P w base spare held t2 v2 d2 p2 ∧ DataW.Trod enc P w base spare held t3 v3 d3 p3 ∧ DataW.Trod enc P w base spare held t4 v4 d4 p4 := by
  obtain ⟨v0, vs0, d0, ds0, p0, q0, ha, rfl, rfl, h0, r0⟩ := trodAll_cons h
  obtain ⟨v1, vs1, d1, ds1, p1, q1, rfl, rfl, rfl, h1, r1⟩ := trodAll_cons r0
  obtain ⟨v2, vs2, d2, ds2, p2, q2, rfl, rfl, rfl, h2, r2⟩ := trodAll_cons r1
  obtain ⟨v3, vs3, d3, ds3, p3, q3, rfl, rfl, rfl, h3, r3⟩ := trodAll_cons r2
  obtain ⟨v4, vs4, d4, ds4, p4, q4, rfl, rfl, rfl, h4, r4⟩ := trodAll_cons r3
  obtain ⟨rfl, rfl, rfl⟩ := trodAll_nil r4
  exact ⟨v0, v1, v2, v3, v4, d0, d1, d2, d3, d4, p0, p1, p2, p3, p4, by apply Array.toList_inj.1; rw [ha], rfl, by simp, h0, h1, h2, h3, h4⟩

theorem post_law {f : Func} {s : ChangeSpec} {apart fresh handsOn again : Bool} {W W' : World} {args : Array Value} {ds : List (DataW H)} {before : List MemPlace} {tB : TypeId}
    (hW : DataW.Whole enc P f.params.toList s.vars apart W args.toList ds [] before) (hsv : s.vars = []) (hfn : s.fn H (ds ++ []) = { results := [.lit (.bool true)], args := ds })
    (hrt : f.resultTypes = #[tB]) (htb : P.underlying tB = some .bool) (hl : laidOutB P = true) (hts : ∀ t ∈ f.params.toList, P.readableRec t = true ∧ t < P.types.size)
    (hb : Below W.heap.size W W') : s.post enc P f apart fresh handsOn again W args (.bool true) W' := by
  have hlt : ∀ p ∈ before, p.block < W.heap.size := fun p hp => hW.lt p hp
  have hW' := hW
  obtain ⟨pa, pv, hA, hV, hps, hz, hn⟩ := hW'
  rw [hsv] at hV
  have hpv : pv = [] := hV
  subst hpv
  rw [List.append_nil] at hps
  subst hps
  have hres : ∀ (b : Nat) (sp : Nat → Bool) (hd : Bool), DataW.TrodAll enc P W' b sp hd f.resultTypes.toList ((Value.bool true).resultList f.resultTypes.size) (s.fn H (ds ++ [])).results [] := fun b sp hd => by
    rw [hrt, hfn]
    exact trodAll_mk1 (shut_bool htb true)
  have hargs : ∀ sp : Nat → Bool, (∀ p ∈ before, sp p.block = true) → DataW.TrodAll enc P W' 0 sp true f.params.toList args.toList (s.fn H (ds ++ [])).args before := fun sp hs => by rw [hfn]; exact trodAll_kept hl hb hts hA hlt hs
  have hvars : ∀ sp : Nat → Bool, DataW.TrodVars enc P W' sp s.vars (s.fn H (ds ++ [])).vars [] := fun sp => by rw [hsv, hfn]; rfl
  have hold : ∀ p ∈ before, (fun b => decide (b < W.heap.size)) p.block = true := fun p hp => by simpa using hlt p hp
  refine ⟨ds, [], before, [], before, [], hW, hres _ _ _, hargs _ hold, hvars _, World.keptBut_mono (fun p hp => ⟨hp, Or.inr (Or.inl hp)⟩) (hb.frame (· ∈ before)), fun _ => ?_⟩
  refine ⟨ok_one hrt rfl (okWide_bool_mk htb true), _, _, ([] ++ before) ++ [], ⟨[] ++ before, [], trodAll_append (hargs _ (fun _ _ => rfl)) (hres _ _ _), hvars _, rfl, ?_, ?_⟩, ?_⟩
  · intro b off hp
    have hin : MemPlace.cell b off ∈ before := by simpa using hp
    rw [hb.frozen (hlt _ hin)]
    exact hz b off hin
  · intro ha
    simpa using hn ha
  · intro p hp _
    simpa using hp
end Go.Rt
