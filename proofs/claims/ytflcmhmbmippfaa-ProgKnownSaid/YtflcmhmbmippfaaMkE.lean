/- MkE, in one text: CpG, CeA, CeB, CeC, CeD, CeE, CeF, CeG, CeH, CpH, OpL, CoA, CoB. -/
import Derived.Test.YtflcmhmbmippfaaMkC
import Derived.Test.YtflcmhmbmippfaaMkB
import Derived.Test.YtflcmhmbmippfaaMkD
/- Plain laws on transactions: which may be, as which bytes they are written, which stand in bytes. No program in sight. -/
namespace Go.Proofs.Ytflcmhmbmippfaa

/-- The first place below n that has p. -/
def firstP (p : Nat → Bool) (n : Nat) : Option Nat := (List.range n).find? p
theorem firstP_none {p : Nat → Bool} {n : Nat} (h : ∀ k, k < n → p k = false) : firstP p n = none := by
  unfold firstP
  rw [List.find?_eq_none]
  intro k hk
  simp [h k (List.mem_range.1 hk)]
theorem firstP_some {p : Nat → Bool} {n j : Nat} (hj : j < n) (hp : p j = true) (h : ∀ k, k < j → p k = false) : firstP p n = some j := by
  unfold firstP
  rw [List.find?_range_eq_some]
  exact ⟨hp, List.mem_range.2 hj, fun k hk => by simp [h k hk]⟩
theorem firstP_is {p : Nat → Bool} {n j : Nat} (h : firstP p n = some j) : j < n ∧ p j = true ∧ ∀ k, k < j → p k = false := by
  unfold firstP at h
  rw [List.find?_range_eq_some] at h
  exact ⟨List.mem_range.1 h.2.1, h.1, fun k hk => by simpa using h.2.2 k hk⟩
theorem firstP_no {p : Nat → Bool} {n : Nat} (h : firstP p n = none) : ∀ k, k < n → p k = false := by
  unfold firstP at h
  rw [List.find?_eq_none] at h
  intro k hk
  simpa using h k (List.mem_range.2 hk)

def insN (l : List Ins) (k : Nat) : Ins := l.getD k Ins.zero
theorem insN_at {l : List Ins} {k : Nat} {x : Ins} (h : l[k]? = some x) : insN l k = x := by simp [insN, List.getD, h]
/-- Does an instruction pass over more than stand behind it? -/
def passB (l : List Ins) (k : Nat) : Bool := (decide ((insN l k).op = 12) || decide ((insN l k).op = 13)) && decide ((l.length : Int) - 1 - k < (insN l k).n)
/-- How long the first k are, behind the count. -/
def sizeP (l : List Ins) (k : Nat) : Nat := (sev l.length).length + ((l.take k).map fun i => (insBytes i).length).sum
def progBytes (l : List Ins) : List UInt8 := sev l.length ++ l.flatMap insBytes
/-- Why a transaction may not be, and where. -/
def checkP (l : List Ins) : Int × Int :=
  if 60 < l.length then (3, 60) else
  match firstP (fun k => !mayB (insN l k)) l.length with
  | some k => (2, k)
  | none => match firstP (passB l) l.length with
    | some k => (5, k)
    | none => match firstP (fun k => decide (512 < sizeP l (k + 1))) l.length with
      | some k => (3, k)
      | none => (0, 0)
theorem sizeP_zero (l : List Ins) : sizeP l 0 = (sev l.length).length := by simp [sizeP]
theorem sizeP_succ (l : List Ins) (k : Nat) (x : Ins) (h : l[k]? = some x) : sizeP l (k + 1) = sizeP l k + (insBytes x).length := by
  have h2 : l.take (k + 1) = l.take k ++ [x] := by
    obtain ⟨h1, h2⟩ := List.getElem?_eq_some_iff.1 h
    rw [List.take_add_one, h]; rfl
  unfold sizeP
  rw [h2, List.map_append, List.sum_append]
  simp [Nat.add_assoc]
theorem sizeP_mono (l : List Ins) (j k : Nat) (h : j ≤ k) : sizeP l j ≤ sizeP l k := by
  unfold sizeP
  have h1 : l.take j = (l.take k).take j := by rw [List.take_take, Nat.min_eq_left h]
  have h2 : (l.take k).map (fun i => (insBytes i).length) = ((l.take k).take j).map (fun i => (insBytes i).length) ++ ((l.take k).drop j).map (fun i => (insBytes i).length) := by
    rw [← List.map_append, List.take_append_drop]
  rw [h1, h2, List.sum_append]
  omega
theorem sizeP_bytes (l : List Ins) : sizeP l l.length = (progBytes l).length := by
  unfold sizeP progBytes
  rw [List.take_length, List.length_append, List.length_flatMap]
theorem checkP_fine {l : List Ins} (h : (checkP l).1 = 0) : l.length ≤ 60 ∧ (∀ x ∈ l, mayB x = true) ∧ (∀ k, k < l.length → passB l k = false) ∧ (progBytes l).length ≤ 512 ∧ checkP l = (0, 0) := by
  unfold checkP at h ⊢
  by_cases h0 : 60 < l.length
  · rw [if_pos h0] at h; cases h
  rw [if_neg h0] at h ⊢
  cases h1 : firstP (fun k => !mayB (insN l k)) l.length with
  | some k => rw [h1] at h; cases h
  | none =>
    rw [h1] at h
    cases h2 : firstP (passB l) l.length with
    | some k => rw [h2] at h; cases h
    | none =>
      rw [h2] at h
      cases h3 : firstP (fun k => decide (512 < sizeP l (k + 1))) l.length with
      | some k => rw [h3] at h; cases h
      | none =>
        refine ⟨by omega, fun x hx => ?_, firstP_no h2, ?_, rfl⟩
        · obtain ⟨k, hk⟩ := List.getElem?_of_mem hx
          have := firstP_no h1 k (List.getElem?_eq_some_iff.1 hk).1
          rw [insN_at hk] at this
          simpa using this
        · rw [← sizeP_bytes]
          cases hl : l.length with
          | zero => rw [sizeP_zero]; have := sevF_len 9 l.length; unfold sev; omega
          | succ n =>
            have := firstP_no h3 n (by omega)
            simpa using this
theorem checkP_ok {l : List Ins} (h0 : l.length ≤ 60) (h1 : ∀ x ∈ l, mayB x = true) (h2 : ∀ k, k < l.length → passB l k = false) (h3 : (progBytes l).length ≤ 512) : checkP l = (0, 0) := by
  unfold checkP
  rw [if_neg (by omega), firstP_none (p := fun k => !mayB (insN l k)) (fun k hk => ?_)]
  · dsimp only
    rw [firstP_none h2]
    dsimp only
    rw [firstP_none (p := fun k => decide (512 < sizeP l (k + 1))) (fun k hk => ?_)]
    have := sizeP_mono l (k + 1) l.length (by omega)
    rw [sizeP_bytes] at this
    simp; omega
  · have := h1 l[k] (List.getElem_mem hk)
    simp [insN, List.getD, hk, this]

/-- A reader's way through a transaction: what was read, where each begins, the place, the fault. -/
structure PSt where
  out : List Ins
  pls : List Int
  pl : Int
  fe : Int
  fa : Int
def stepP (bs : List UInt8) (s : PSt) : PSt :=
  if s.fe ≠ 0 then s else if (insAt bs s.pl).2.2.1 ≠ 0 then ⟨s.out, s.pls, s.pl, (insAt bs s.pl).2.2.1, (insAt bs s.pl).2.2.2⟩
  else ⟨s.out ++ [(insAt bs s.pl).1], s.pls ++ [s.pl], (insAt bs s.pl).2.1, 0, 0⟩
def accP (bs : List UInt8) (pl : Int) : Nat → PSt
  | 0 => ⟨[], [], pl, 0, 0⟩
  | n + 1 => stepP bs (accP bs pl n)
theorem accP_stuck {bs : List UInt8} {pl : Int} {j : Nat} (h : (accP bs pl j).fe ≠ 0) : ∀ k, accP bs pl (j + k) = accP bs pl j
  | 0 => rfl
  | k + 1 => by
    have ih := accP_stuck h k
    show stepP bs (accP bs pl (j + k)) = _
    rw [ih, stepP, if_pos h]
theorem accP_len {bs : List UInt8} {pl : Int} : ∀ {j : Nat}, (accP bs pl j).fe = 0 → (accP bs pl j).out.length = j ∧ (accP bs pl j).pls.length = j
  | 0, _ => ⟨rfl, rfl⟩
  | j + 1, h => by
    have h' : (stepP bs (accP bs pl j)).fe = 0 := h
    unfold stepP at h'
    by_cases h0 : (accP bs pl j).fe ≠ 0
    · rw [if_pos h0] at h'; exact absurd h' h0
    · rw [if_neg h0] at h'
      have ih := accP_len (j := j) (by simpa using h0)
      by_cases h1 : (insAt bs (accP bs pl j).pl).2.2.1 ≠ 0
      · rw [if_pos h1] at h'; exact absurd h' h1
      · show (stepP bs (accP bs pl j)).out.length = _ ∧ (stepP bs (accP bs pl j)).pls.length = _
        unfold stepP
        rw [if_neg h0, if_neg h1]
        simp [ih.1, ih.2]
theorem accP_bad {bs : List UInt8} {pl : Int} {j n : Nat} (h0 : (accP bs pl j).fe = 0) (hj : j < n) {i : Ins} {e fe fa : Int} (hi : insAt bs (accP bs pl j).pl = (i, e, fe, fa)) (h : fe ≠ 0) : (accP bs pl n).fe = fe ∧ (accP bs pl n).fa = fa := by
  have h1 : accP bs pl (j + 1) = ⟨(accP bs pl j).out, (accP bs pl j).pls, (accP bs pl j).pl, fe, fa⟩ := by
    show stepP bs (accP bs pl j) = _
    rw [stepP, if_neg (by simpa using h0), hi, if_pos h]
  obtain ⟨k, rfl⟩ : ∃ k, n = j + 1 + k := ⟨n - (j + 1), by omega⟩
  rw [accP_stuck (by rw [h1]; exact h), h1]
  exact ⟨rfl, rfl⟩
theorem accP_more {bs : List UInt8} {pl : Int} {j : Nat} (h0 : (accP bs pl j).fe = 0) {i : Ins} {e fa : Int} (hi : insAt bs (accP bs pl j).pl = (i, e, 0, fa)) : accP bs pl (j + 1) = ⟨(accP bs pl j).out ++ [i], (accP bs pl j).pls ++ [(accP bs pl j).pl], e, 0, 0⟩ := by
  show stepP bs (accP bs pl j) = _
  rw [stepP, if_neg (by simpa using h0), hi, if_neg (by simp)]

/-- Behind the instructions: nothing may be left, none may pass over too much. -/
def endP (bs : List UInt8) (s : PSt) : List Ins × Int × Int :=
  if s.fe ≠ 0 then ([], s.fe, s.fa) else if s.pl < bs.length then ([], 4, s.pl) else
  match firstP (passB s.out) s.out.length with
  | some k => ([], 5, s.pls.getD k 0)
  | none => (s.out, 0, 0)
/-- The transaction of bytes, or the fault. -/
def readP (bs : List UInt8) : List Ins × Int × Int :=
  if 512 < bs.length then ([], 3, 512) else
  if (toldInt bs 0 0 0 0 60 3).fe ≠ 0 then ([], (toldInt bs 0 0 0 0 60 3).fe, (toldInt bs 0 0 0 0 60 3).fa) else
  endP bs (accP bs (toldInt bs 0 0 0 0 60 3).pl (toldInt bs 0 0 0 0 60 3).n.toNat)
end Go.Proofs.Ytflcmhmbmippfaa

/- Lists of instructions: their cells; which pass over too much; two held against each other. -/
namespace Go.Proofs.Ytflcmhmbmippfaa
open Go.RowKit Go.Rt

def insC (l : List Ins) : List Value := l.flatMap Ins.cs
abbrev zI : List Value := [.int .i64 0, .int .i64 0, .int .i64 0, .int .i64 0, .int .i64 0, .string ⟨#[]⟩]
theorem insC_len (l : List Ins) : (insC l).length = l.length * 6 := flat_len Ins.cs 6 l fun _ _ => rfl
theorem ins_rd {w : World} {A : Option Addr} {l : List Ins} (h : Rd w A (insC l)) (k : Nat) (x : Ins) (hx : l[k]? = some x) : ∃ b o, A = some ⟨b, o, none⟩ ∧ Rd w (some ⟨b, o + k * 6, none⟩) x.cs :=
  rd_elem Ins.cs 6 (by omega) h (fun _ _ => rfl) k x hx
theorem insC_append (l m : List Ins) : insC (l ++ m) = insC l ++ insC m := by simp [insC]
theorem insC_one (x : Ins) : insC [x] = x.cs := by simp [insC]
theorem zI_like : LikeZ zI := by
  intro j u h
  match j, h with
  | 0, h | 1, h | 2, h | 3, h | 4, h | 5, h => simp at h; subst h; rfl
  | j + 6, h => simp at h
theorem ins_typed (x : Ins) : Typed zI x.cs := by
  intro j u h
  match j, h with
  | 0, h | 1, h | 2, h | 3, h | 4, h | 5, h => simp [Ins.cs] at h; subst h; rfl
  | j + 6, h => simp [Ins.cs] at h
theorem insC_oneC (l : List Ins) : ∀ u ∈ insC l, u.oneCell' = true := by
  intro u hu
  obtain ⟨x, _, h⟩ := List.mem_flatMap.1 hu
  exact ins_one x u h
theorem insC_typed (l : List Ins) : Typed zI (insC l) := by
  induction l with
  | nil => exact Typed.nil _
  | cons x l ih => exact Typed.append (ins_typed x) ih (show 6 % 6 = 0 from rfl)

set_option maxRecDepth 100000 in
theorem ppasses_any {w : World} (A : Option Addr) (c : Nat) (l : List Ins) (k : Nat) (hk : k < l.length) (hl : l.length ≤ maxLen) (hr : Rd w A (insC l)) :
    Calls Try.prog 87 #[.slice A l.length c, .int .i64 k] w fun e w' => e = .returned (.bool (passB l k)) ∧ w = w' := by
  obtain ⟨x, hx⟩ : ∃ x, l[k]? = some x := ⟨_, List.getElem?_eq_getElem hk⟩
  unfold maxLen at hl
  obtain ⟨b, o, rfl, hc⟩ := ins_rd hr k x hx
  have c0 : w.cell? ⟨b, o + k * 6, none⟩ = some (.int .i64 x.op) := hc.at 0 rfl
  have c4 : w.cell? ⟨b, o + k * 6 + 4, none⟩ = some (.int .i64 x.n) := hc.at 4 rfl
  have hw1 : IntKind.i64.wrap ((l.length : Int) - 1) = (l.length : Int) - 1 := IntWalk.i64_in _ (by omega)
  have hw2 : IntKind.i64.wrap ((l.length : Int) - 1 - k) = (l.length : Int) - 1 - k := IntWalk.i64_in _ (by omega)
  unfold passB
  rw [insN_at hx]
  clear hr hc hx
  go_enter Try.func87, Try.ntmps87
  by_cases h1 : x.op = 12
  · have e1 : (x.op == 12) = true := by simpa using h1
    go_wp2
    go_ret
    exact ⟨by simp [h1], rfl⟩
  · have e1 : (x.op == 12) = false := by simpa using h1
    by_cases h2 : x.op = 13
    · have e2 : (x.op == 13) = true := by simpa using h2
      go_wp2
      go_ret
      exact ⟨by simp [h2], rfl⟩
    · have e2 : (x.op == 13) = false := by simpa using h2
      go_wp2
      go_ret
      exact ⟨by simp [h1, h2], rfl⟩
set_option maxRecDepth 100000 in
theorem qbeyond_any {w : World} (A : Option Addr) (c : Nat) (l : List Ins) (k : Nat) (hk : k < l.length) (hl : l.length ≤ maxLen) (hr : Rd w A (insC l)) :
    Calls Try.prog 66 #[.slice A l.length c, .int .i64 k] w fun e w' => e = .returned (.bool (passB l k)) ∧ w = w' := by
  obtain ⟨x, hx⟩ : ∃ x, l[k]? = some x := ⟨_, List.getElem?_eq_getElem hk⟩
  unfold maxLen at hl
  obtain ⟨b, o, rfl, hc⟩ := ins_rd hr k x hx
  have c0 : w.cell? ⟨b, o + k * 6, none⟩ = some (.int .i64 x.op) := hc.at 0 rfl
  have c4 : w.cell? ⟨b, o + k * 6 + 4, none⟩ = some (.int .i64 x.n) := hc.at 4 rfl
  have hw1 : IntKind.i64.wrap ((l.length : Int) - 1) = (l.length : Int) - 1 := IntWalk.i64_in _ (by omega)
  have hw2 : IntKind.i64.wrap ((l.length : Int) - 1 - k) = (l.length : Int) - 1 - k := IntWalk.i64_in _ (by omega)
  unfold passB
  rw [insN_at hx]
  clear hr hc hx
  go_enter Try.func66, Try.ntmps66
  by_cases h1 : x.op = 12
  · have e1 : (x.op == 12) = true := by simpa using h1
    go_wp2
    go_ret
    exact ⟨by simp [h1], rfl⟩
  · have e1 : (x.op == 12) = false := by simpa using h1
    by_cases h2 : x.op = 13
    · have e2 : (x.op == 13) = true := by simpa using h2
      go_wp2
      go_ret
      exact ⟨by simp [h2], rfl⟩
    · have e2 : (x.op == 13) = false := by simpa using h2
      go_wp2
      go_ret
      exact ⟨by simp [h1, h2], rfl⟩
end Go.Proofs.Ytflcmhmbmippfaa

/- The first instruction that passes over too much; lists of instructions held against each other. -/
namespace Go.Proofs.Ytflcmhmbmippfaa
open Go.RowKit Go.Rt

theorem below_drewN {n : Nat} {w w' : World} (h : Below n w w') (k : Nat) : Below n w (w'.drewN k) := h.trans ⟨rfl, rfl, rfl, Nat.le_refl _, fun _ _ => rfl⟩
def farP (l : List Ins) : Int := match firstP (passB l) l.length with | some k => (k : Int) | none => -1

set_option maxRecDepth 100000 in
theorem pfar_any {w : World} (A : Option Addr) (c : Nat) (l : List Ins) (hl : l.length ≤ maxLen) (hr : Rd w A (insC l)) :
    Calls Try.prog 63 #[.slice A l.length c] w fun e w' => e = .returned (.int .i64 (farP l)) ∧ w = w' := by
  have hl' := hl
  unfold maxLen at hl'
  go_enter Try.func63, Try.ntmps63
  go_wp2
  go_loop [6] (fun i => ∃ j : Nat, j ≤ l.length ∧ i = .int .i64 j ∧ Hid (∀ k, k < j → passB l k = false)) (fun i => l.length - (intOf i).toNat)
  case atStart => exact ⟨0, by omega, rfl, fun k hk => by omega⟩
  case round =>
    obtain ⟨j, hj, rfl, hN⟩ := hrel
    by_cases hlt : j < l.length
    · have hp := ppasses_any A c l j hlt hl hr
      cases hb : passB l j with
      | true =>
        rw [hb] at hp
        have hf : farP l = (j : Int) := by unfold farP; rw [firstP_some hlt hb hN.out]
        go_wp2_with (go_at_call 87; refine hp.mono ?_; rintro e _ ⟨rfl, rfl⟩)
        go_ret
        exact ⟨by first | rfl | (rw [hf]; rfl), rfl⟩
      | false =>
        rw [hb] at hp
        go_wp2_with (go_at_call 87; refine hp.mono ?_; rintro e _ ⟨rfl, rfl⟩)
        exact ⟨⟨j + 1, by omega, by go_num, fun k hk => by
          rcases Nat.lt_or_ge k j with h | h
          · exact hN.out k h
          · obtain rfl : k = j := by omega
            exact hb⟩, by simp [intOf]; omega⟩
    · obtain rfl : j = l.length := by omega
      have hf : farP l = -1 := by unfold farP; rw [firstP_none hN.out]
      go_wp2
      go_ret
      exact ⟨by first | rfl | (rw [hf]; rfl), rfl⟩

def sameP : List Ins → List Ins → Bool
  | [], [] => true
  | x :: l, y :: m => insEq x y && sameP l m
  | _, _ => false
theorem sameP_iff : ∀ (l m : List Ins), sameP l m = true ↔ l = m
  | [], [] => by simp [sameP]
  | x :: l, y :: m => by simp [sameP, insEq_iff, sameP_iff l m]
  | [], y :: m => by simp [sameP]
  | x :: l, [] => by simp [sameP]
theorem sameP_len {l m : List Ins} (h : l.length ≠ m.length) : sameP l m = false := by
  cases hs : sameP l m with
  | false => rfl
  | true => exact absurd (by rw [(sameP_iff l m).1 hs]) h
theorem sameP_at {l m : List Ins} {j : Nat} {x y : Ins} (h1 : l[j]? = some x) (h2 : m[j]? = some y) (h : insEq x y = false) : sameP l m = false := by
  cases hs : sameP l m with
  | false => rfl
  | true =>
    have e := (sameP_iff l m).1 hs
    rw [e, h2] at h1
    cases h1
    rw [(insEq_iff x x).2 rfl] at h
    cases h
theorem sameP_all {l m : List Ins} (hl : l.length = m.length) (h : ∀ k, k < l.length → insN l k = insN m k) : sameP l m = true := by
  refine (sameP_iff l m).2 (List.ext_getElem hl fun k h1 h2 => ?_)
  have := h k h1
  simpa [insN, List.getD, h1, h2] using this

set_option maxRecDepth 100000 in
set_option maxHeartbeats 4000000 in
theorem SameProg_any {w : World} (A A' : Option Addr) (c c' : Nat) (l m : List Ins) (hl : l.length ≤ maxLen) (hr : Rd w A (insC l)) (hr' : Rd w A' (insC m)) :
    Calls Try.prog 31 #[.slice A l.length c, .slice A' m.length c'] w fun e w' => e = .returned (.bool (sameP l m)) ∧ Below w.heap.size w w' := by
  have hl' := hl
  unfold maxLen at hl'
  by_cases hlm : l.length = m.length
  · go_enter Try.func31, Try.ntmps31
    go_wp2
    go_loopw [5] (fun i wc => ∃ j : Nat, j ≤ l.length ∧ i = .int .i64 j ∧ Hid (∀ k, k < j → insN l k = insN m k) ∧ Below w.heap.size w wc) (fun i _ => l.length - (intOf i).toNat)
    case atStart => exact ⟨0, by omega, rfl, (fun k hk => by omega), Below.refl _ _⟩
    case round =>
      obtain ⟨j, hj, rfl, hN, hB⟩ := hrel
      by_cases hlt : j < l.length
      · obtain ⟨x, hx⟩ : ∃ x, l[j]? = some x := ⟨_, List.getElem?_eq_getElem hlt⟩
        obtain ⟨y, hy⟩ : ∃ y, m[j]? = some y := ⟨_, List.getElem?_eq_getElem (by omega)⟩
        obtain ⟨b, o, rfl, hc⟩ := ins_rd (hr.below hB) j x hx
        obtain ⟨b', o', rfl, hc'⟩ := ins_rd (hr'.below hB) j y hy
        have c0 : wr.cell? ⟨b, o + j * 6, none⟩ = some (.int .i64 x.op) := hc.at 0 rfl
        have c1 : wr.cell? ⟨b, o + j * 6 + 1, none⟩ = some (.int .i64 x.a) := hc.at 1 rfl
        have c2 : wr.cell? ⟨b, o + j * 6 + 2, none⟩ = some (.int .i64 x.b) := hc.at 2 rfl
        have c3 : wr.cell? ⟨b, o + j * 6 + 3, none⟩ = some (.int .i64 x.c) := hc.at 3 rfl
        have c4 : wr.cell? ⟨b, o + j * 6 + 4, none⟩ = some (.int .i64 x.n) := hc.at 4 rfl
        have c5 : wr.cell? ⟨b, o + j * 6 + 5, none⟩ = some (.string ⟨x.s.toArray⟩) := hc.at 5 rfl
        have d0 : wr.cell? ⟨b', o' + j * 6, none⟩ = some (.int .i64 y.op) := hc'.at 0 rfl
        have d1 : wr.cell? ⟨b', o' + j * 6 + 1, none⟩ = some (.int .i64 y.a) := hc'.at 1 rfl
        have d2 : wr.cell? ⟨b', o' + j * 6 + 2, none⟩ = some (.int .i64 y.b) := hc'.at 2 rfl
        have d3 : wr.cell? ⟨b', o' + j * 6 + 3, none⟩ = some (.int .i64 y.c) := hc'.at 3 rfl
        have d4 : wr.cell? ⟨b', o' + j * 6 + 4, none⟩ = some (.int .i64 y.n) := hc'.at 4 rfl
        have d5 : wr.cell? ⟨b', o' + j * 6 + 5, none⟩ = some (.string ⟨y.s.toArray⟩) := hc'.at 5 rfl
        have hE : ∀ w, (Op.equalIn 10000 26 (.agg #[.int .i64 x.op, .int .i64 x.a, .int .i64 x.b, .int .i64 x.c, .int .i64 x.n, .string ⟨x.s.toArray⟩]) (.agg #[.int .i64 y.op, .int .i64 y.a, .int .i64 y.b, .int .i64 y.c, .int .i64 y.n, .string ⟨y.s.toArray⟩])).run Try.prog w = .ok (insEq x y) w := ins_equal x y
        clear hc hc' hr hr'
        cases hq : insEq x y with
        | true =>
          rw [hq] at hE
          have hxy : insN l j = insN m j := by rw [insN_at hx, insN_at hy]; exact (insEq_iff x y).1 hq
          clear hq
          go_wp2
          go_quiet (fail)
          go_wp2
          exact ⟨⟨j + 1, by omega, by go_num, fun k hk => by
            rcases Nat.lt_or_ge k j with h | h
            · exact hN.out k h
            · obtain rfl : k = j := by omega
              exact hxy, below_drewN hB _⟩, by simp [intOf]; omega⟩
        | false =>
          rw [hq] at hE
          have hf := sameP_at hx hy hq
          clear hq
          go_wp2
          go_quiet (fail)
          go_wp2
          go_ret
          exact ⟨by first | rfl | (rw [hf]; rfl), below_drewN hB _⟩
      · obtain rfl : j = l.length := by omega
        have hf := sameP_all hlm hN.out
        go_wp2
        go_ret
        exact ⟨by first | rfl | (rw [hf]; rfl), hB⟩
  · have e1 := sameP_len hlm
    rw [e1]
    go_enter Try.func31, Try.ntmps31
    go_wp2
    go_ret
    exact ⟨rfl, Below.refl _ _⟩

set_option maxRecDepth 100000 in
set_option maxHeartbeats 4000000 in
theorem pEqual_any {w : World} (A A' : Option Addr) (c c' : Nat) (l m : List Ins) (hl : l.length ≤ maxLen) (hr : Rd w A (insC l)) (hr' : Rd w A' (insC m)) :
    Calls Try.prog 69 #[.slice A l.length c, .slice A' m.length c'] w fun e w' => e = .returned (.bool (sameP l m)) ∧ Below w.heap.size w w' := by
  have hl' := hl
  unfold maxLen at hl'
  by_cases hlm : l.length = m.length
  · go_enter Try.func69, Try.ntmps69
    go_wp2
    go_loopw [13] (fun i wc => ∃ j : Nat, j ≤ l.length ∧ i = .int .i64 j ∧ Hid (∀ k, k < j → insN l k = insN m k) ∧ Below w.heap.size w wc) (fun i _ => l.length - (intOf i).toNat)
    case atStart => exact ⟨0, by omega, rfl, (fun k hk => by omega), Below.refl _ _⟩
    case round =>
      obtain ⟨j, hj, rfl, hN, hB⟩ := hrel
      by_cases hlt : j < l.length
      · obtain ⟨x, hx⟩ : ∃ x, l[j]? = some x := ⟨_, List.getElem?_eq_getElem hlt⟩
        obtain ⟨y, hy⟩ : ∃ y, m[j]? = some y := ⟨_, List.getElem?_eq_getElem (by omega)⟩
        obtain ⟨b, o, rfl, hc⟩ := ins_rd (hr.below hB) j x hx
        obtain ⟨b', o', rfl, hc'⟩ := ins_rd (hr'.below hB) j y hy
        have c0 : wr.cell? ⟨b, o + j * 6, none⟩ = some (.int .i64 x.op) := hc.at 0 rfl
        have c1 : wr.cell? ⟨b, o + j * 6 + 1, none⟩ = some (.int .i64 x.a) := hc.at 1 rfl
        have c2 : wr.cell? ⟨b, o + j * 6 + 2, none⟩ = some (.int .i64 x.b) := hc.at 2 rfl
        have c3 : wr.cell? ⟨b, o + j * 6 + 3, none⟩ = some (.int .i64 x.c) := hc.at 3 rfl
        have c4 : wr.cell? ⟨b, o + j * 6 + 4, none⟩ = some (.int .i64 x.n) := hc.at 4 rfl
        have c5 : wr.cell? ⟨b, o + j * 6 + 5, none⟩ = some (.string ⟨x.s.toArray⟩) := hc.at 5 rfl
        have d0 : wr.cell? ⟨b', o' + j * 6, none⟩ = some (.int .i64 y.op) := hc'.at 0 rfl
        have d1 : wr.cell? ⟨b', o' + j * 6 + 1, none⟩ = some (.int .i64 y.a) := hc'.at 1 rfl
        have d2 : wr.cell? ⟨b', o' + j * 6 + 2, none⟩ = some (.int .i64 y.b) := hc'.at 2 rfl
        have d3 : wr.cell? ⟨b', o' + j * 6 + 3, none⟩ = some (.int .i64 y.c) := hc'.at 3 rfl
        have d4 : wr.cell? ⟨b', o' + j * 6 + 4, none⟩ = some (.int .i64 y.n) := hc'.at 4 rfl
        have d5 : wr.cell? ⟨b', o' + j * 6 + 5, none⟩ = some (.string ⟨y.s.toArray⟩) := hc'.at 5 rfl
        have hE : ∀ w, (Op.equalIn 10000 26 (.agg #[.int .i64 x.op, .int .i64 x.a, .int .i64 x.b, .int .i64 x.c, .int .i64 x.n, .string ⟨x.s.toArray⟩]) (.agg #[.int .i64 y.op, .int .i64 y.a, .int .i64 y.b, .int .i64 y.c, .int .i64 y.n, .string ⟨y.s.toArray⟩])).run Try.prog w = .ok (insEq x y) w := ins_equal x y
        clear hc hc' hr hr'
        cases hq : insEq x y with
        | true =>
          rw [hq] at hE
          have hxy : insN l j = insN m j := by rw [insN_at hx, insN_at hy]; exact (insEq_iff x y).1 hq
          clear hq
          go_wp2
          go_quiet (fail)
          go_wp2
          exact ⟨⟨j + 1, by omega, by go_num, fun k hk => by
            rcases Nat.lt_or_ge k j with h | h
            · exact hN.out k h
            · obtain rfl : k = j := by omega
              exact hxy, below_drewN hB _⟩, by simp [intOf]; omega⟩
        | false =>
          rw [hq] at hE
          have hf := sameP_at hx hy hq
          clear hq
          go_wp2
          go_quiet (fail)
          go_wp2
          go_ret
          exact ⟨by first | rfl | (rw [hf]; rfl), below_drewN hB _⟩
      · obtain rfl : j = l.length := by omega
        have hf := sameP_all hlm hN.out
        go_wp2
        go_ret
        exact ⟨by first | rfl | (rw [hf]; rfl), hB⟩
  · have e1 := sameP_len hlm
    rw [e1]
    go_enter Try.func69, Try.ntmps69
    go_wp2
    go_ret
    exact ⟨rfl, Below.refl _ _⟩
end Go.Proofs.Ytflcmhmbmippfaa

/- The laws' own helpers over transactions: a copy, all written over, too big. -/
namespace Go.Proofs.Ytflcmhmbmippfaa
open Go.RowKit Go.Rt

theorem infoIns : (Try.prog.info? 26).map (fun i => (i.zero, i.size, i.bytes)) = some (some (.agg #[.int .i64 0, .int .i64 0, .int .i64 0, .int .i64 0, .int .i64 0, .string ⟨#[]⟩]), 6, 56) := by kernel_rfl
theorem infoInt : (Try.prog.info? 3).map (fun i => (i.zero, i.size, i.bytes)) = some (some (.int .i64 0), 1, 8) := by kernel_rfl

set_option maxRecDepth 100000 in
theorem CopyProg_any {W w : World} {L : List SL} (A : Option Addr) (c : Nat) (l : List Ins) (hl : l.length ≤ 1000000000) (hr : Rd w A (insC l)) (H : Sat W w L) :
    Calls Try.prog 36 #[.slice A l.length c] w fun e w' => ∃ A' c', e = .returned (.slice A' l.length c') ∧ Sat W w' (row 26 zI (.slice A' l.length c') l.length (insC l) :: L) := by
  obtain ⟨i0, hi, hz0, hz1, hz2⟩ := info_parts infoIns
  go_enter Try.func36, Try.ntmps36
  go_wp2_with (first
    | (at_builtin
       refine wpList_append_sl rfl (.tmp 3) (.tmp 4) 45 rfl 26 i0 _ zI 56 Try.underlying45 hi hz0 rfl hz1 hz2 (by simp) zI_like _ 0 [] rfl (H.made #[] 26 zI 0 0 (by omega) (by unfold maxLen; omega) rfl (Typed.nil _)) A l.length c (insC l) rfl (insC_len l) (hr.below ((Below.refl _ _).alloc (Nat.le_refl _) _)) (insC_oneC l) (insC_typed l) (by unfold maxLen; omega) (by omega) ?_
       intro A2 c2 w2 H2))
  go_ret
  refine ⟨A2, c2, by simp, ?_⟩
  simpa using H2

set_option maxRecDepth 100000 in
theorem OverProg_any {W w : World} {L : List SL} (A : Option Addr) (n c : Nat) (xs : List Value) (H : Sat W w (row 26 zI (.slice A n c) n xs :: L)) :
    Calls Try.prog 32 #[.slice A n c] w fun e w' => e = .returned (.tuple #[]) ∧ Sat W w' L := by
  obtain ⟨_, A0, c0, hv, hnc, hcm, hA0, _⟩ := H.slice
  cases hv
  unfold maxLen at hcm
  have hL : (Try.prog.info? 26).map (·.size) = some zI.length := ins_size Ins.zero
  have HL := Lib.hid hL
  clear hL
  go_enter Try.func32, Try.ntmps32
  go_wp2
  go_loopw [2] (fun i wc => ∃ (j : Nat) (ys : List Value), j ≤ n ∧ i = .int .i64 j ∧ Sat W wc (row 26 zI (.slice A n c) n ys :: L)) (fun i _ => n - (intOf i).toNat)
  case atStart => exact ⟨0, _, by omega, rfl, H⟩
  case round =>
    obtain ⟨j, ys, hj, rfl, H'⟩ := hrel
    by_cases hlt : j < n
    · cases A with
      | none => have := (hA0 rfl).1; omega
      | some ad =>
        obtain ⟨_, A1, c1, hv, _, _, _, hA1⟩ := H'.slice
        cases hv
        obtain ⟨h0, hsp, _, _⟩ := hA1 ad rfl
        obtain ⟨g, off, sp⟩ := ad
        dsimp only at h0 hsp
        subst h0 hsp
        clear hA0 hA1
        go_wp2_with (first
          | (refine wpList_store_el rfl rfl (.tmp 12) (.tmp 11) 26 rfl j hlt (Ins.cs ⟨-7, 0, 0, 0, 0, []⟩) HL.out rfl (by simp [Act.eval]) rfl (ins_one _) (ins_typed _) H' ?_
             intro w2 zs H2))
        exact ⟨⟨j + 1, _, by omega, by go_num, H2⟩, by simp [intOf]; omega⟩
    · go_wp2
      go_end0
      exact ⟨rfl, H'.tail⟩

/-- How long the texts of the first ones are. -/
def txtN (l : List Ins) (k : Nat) : Nat := ((l.take k).map (·.s.length)).sum
theorem txtN_step (l : List Ins) (j : Nat) (x : Ins) (h : l[j]? = some x) : txtN l (j + 1) = txtN l j + x.s.length := by
  unfold txtN
  rw [List.take_add_one, h]
  simp
theorem txtN_reach (l : List Ins) (h : ∀ x ∈ l, x.s.length ≤ 140737488355328) (j : Nat) : txtN l j ≤ j * 140737488355328 := by
  induction j with
  | zero => simp [txtN]
  | succ j ih =>
    cases hx : l[j]? with
    | none =>
      have : txtN l (j + 1) = txtN l j := by unfold txtN; rw [List.take_add_one, hx]; simp
      omega
    | some x =>
      rw [txtN_step l j x hx]
      have := h x (List.mem_of_getElem? hx)
      omega
theorem txtN_all (l : List Ins) (j : Nat) (h : l.length ≤ j) : txtN l j = (l.map (·.s.length)).sum := by unfold txtN; rw [List.take_of_length_le h]
theorem txtN_le (l : List Ins) (x : Ins) (h : x ∈ l) : x.s.length ≤ txtN l l.length := by
  rw [txtN_all l _ (Nat.le_refl _)]
  induction l with
  | nil => cases h
  | cons y l ih =>
    simp only [List.map_cons, List.sum_cons]
    rcases List.mem_cons.1 h with rfl | h
    · omega
    · have := ih h; omega
def bigP (l : List Ins) : Bool := decide (70 < l.length) || decide (2000 < txtN l 71)
theorem bigP_no {l : List Ins} (h : bigP l = false) : l.length ≤ 70 ∧ ∀ x ∈ l, x.s.length ≤ 2000 := by
  simp only [bigP, Bool.or_eq_false_iff, decide_eq_false_iff_not] at h
  refine ⟨by omega, fun x hx => ?_⟩
  have h1 := txtN_le l x hx
  rw [txtN_all l _ (Nat.le_refl _), ← txtN_all l 71 (by omega)] at h1
  omega

set_option maxRecDepth 100000 in
theorem BigProg_any {w : World} (A : Option Addr) (c : Nat) (l : List Ins) (hb : ∀ x ∈ l, x.s.length ≤ 140737488355328) (hl : l.length ≤ maxLen) (hr : Rd w A (insC l)) :
    Calls Try.prog 33 #[.slice A l.length c, .int .i64 70, .int .i64 2000] w fun e w' => e = .returned (.bool (bigP l)) ∧ w = w' := by
  unfold maxLen at hl
  obtain ⟨B0, HB⟩ : ∃ B0, Hid (bigP l = B0) := ⟨_, rfl⟩
  rw [HB.out]
  go_enter Try.func33, Try.ntmps33
  go_wp2
  go_loop [7, 8] (fun n i => ∃ j : Nat, j ≤ l.length ∧ j ≤ 71 ∧ i = .int .i64 j ∧ n = .int .i64 (txtN l j)) (fun _ i => 71 - (intOf i).toNat)
  case atStart => exact ⟨0, by omega, by omega, rfl, rfl⟩
  case round =>
    obtain ⟨j, hj, hj31, rfl, rfl⟩ := hrel
    have hle : txtN l j ≤ 10000000000000000 := Nat.le_trans (txtN_reach l hb j) (by omega)
    by_cases hlt : j < l.length ∧ j < 71
    · obtain ⟨h1, h2⟩ := hlt
      obtain ⟨x, hx⟩ : ∃ x, l[j]? = some x := ⟨_, List.getElem?_eq_getElem h1⟩
      obtain ⟨b, o, rfl, hc⟩ := ins_rd hr j x hx
      have hcell : w.cell? ⟨b, o + j * 6 + 5, none⟩ = some (.string ⟨x.s.toArray⟩) := hc.at 5 rfl
      have hst := Lib.hid (txtN_step l j x hx)
      have hle2 : txtN l (j + 1) ≤ 10000000000000000 := Nat.le_trans (txtN_reach l hb (j + 1)) (by omega)
      rw [hst.out] at hle2
      generalize txtN l j = N at hle hst hle2 ⊢
      clear hc
      go_wp2
      exact ⟨⟨j + 1, by omega, by omega, by go_num, by rw [hst.out]; go_num⟩, by simp [intOf]; omega⟩
    · have hor : ¬ j < l.length ∨ (j < l.length ∧ ¬ j < 71) := by omega
      rcases hor with h1 | ⟨h1, h2⟩
      · obtain rfl : j = l.length := by omega
        have e31 : txtN l 71 = txtN l l.length := by rw [txtN_all l 71 hj31, txtN_all l _ (Nat.le_refl _)]
        have HE : Hid (B0 = (decide (70 < l.length) || decide (2000 < txtN l l.length))) := by show _ = _; rw [← HB.out, bigP, e31]
        clear e31
        generalize txtN l l.length = N at hle HE ⊢
        by_cases h30 : 70 < l.length
        · go_wp2
          go_ret
          exact ⟨by rw [HE.out]; simp [h30], rfl⟩
        · by_cases h2 : 2000 < N
          all_goals
            go_wp2
            go_ret
            exact ⟨by rw [HE.out]; simp [h30, h2]; omega, rfl⟩
      · obtain rfl : j = 71 := by omega
        have h30 : 70 < l.length := by omega
        have HE : Hid (B0 = true) := by show _ = _; rw [← HB.out, bigP]; simp [h30]
        generalize txtN l 71 = N at hle ⊢
        go_wp2
        go_ret
        exact ⟨by rw [HE.out]; simp, rfl⟩
end Go.Proofs.Ytflcmhmbmippfaa

/- Which transactions may be: the program's own answer. -/
namespace Go.Proofs.Ytflcmhmbmippfaa
open Go.RowKit Go.Rt

theorem ins_cells {w : World} {b o : Nat} {op a₁ b₁ c₁ n₁ : Int} {s : List UInt8} (h : Rd w (some ⟨b, o, none⟩) (Ins.cs ⟨op, a₁, b₁, c₁, n₁, s⟩)) :
    w.cell? ⟨b, o, none⟩ = some (.int .i64 op) ∧ w.cell? ⟨b, o + 1, none⟩ = some (.int .i64 a₁) ∧ w.cell? ⟨b, o + 2, none⟩ = some (.int .i64 b₁) ∧ w.cell? ⟨b, o + 3, none⟩ = some (.int .i64 c₁) ∧ w.cell? ⟨b, o + 4, none⟩ = some (.int .i64 n₁) ∧ w.cell? ⟨b, o + 5, none⟩ = some (.string ⟨s.toArray⟩) :=
  ⟨h.at 0 rfl, h.at 1 rfl, h.at 2 rfl, h.at 3 rfl, h.at 4 rfl, h.at 5 rfl⟩

set_option maxRecDepth 100000 in
set_option maxHeartbeats 4000000 in
theorem pCheck_any {W w : World} {L : List SL} (A : Option Addr) (c : Nat) (l : List Ins) (hb : ∀ x ∈ l, x.s.length ≤ maxLen) (hl : l.length ≤ maxLen) (hr : RdL W L A (insC l)) (H : Sat W w L) :
    Calls Try.prog 34 #[.slice A l.length c] w fun e w' => e = .returned (.tuple #[.int .i64 (checkP l).1, .int .i64 (checkP l).2]) ∧ Sat W w' L := by
  obtain ⟨C, HC⟩ : ∃ C, Hid (checkP l = C) := ⟨_, rfl⟩
  rw [HC.out]
  have hl' := hl
  unfold maxLen at hl'
  by_cases h60 : 60 < l.length
  · obtain rfl : C = (3, 60) := by rw [← HC.out, checkP, if_pos h60]
    go_enter Try.func34, Try.ntmps34
    go_wp2
    go_ret2
    exact ⟨rfl, H⟩
  · have hC : C = (match firstP (fun k => !mayB (insN l k)) l.length with
      | some k => (2, (k : Int))
      | none => match firstP (passB l) l.length with
        | some k => (5, (k : Int))
        | none => match firstP (fun k => decide (512 < sizeP l (k + 1))) l.length with
          | some k => (3, (k : Int))
          | none => (0, 0)) := by rw [← HC.out, checkP, if_neg h60] <;> rfl
    have HC2 := Lib.hid hC
    clear hC HC
    go_enter Try.func34, Try.ntmps34
    go_wp2
    go_loopw [15] (fun i wc => ∃ j : Nat, j ≤ l.length ∧ i = .int .i64 j ∧ Hid (∀ k, k < j → (!mayB (insN l k)) = false) ∧ Sat W wc L) (fun i _ => l.length - (intOf i).toNat)
    case atStart => exact ⟨0, by omega, rfl, (fun k hk => by omega), H⟩
    case round =>
      obtain ⟨j, hj, rfl, hN, H1⟩ := hrel
      by_cases hlt : j < l.length
      · obtain ⟨x, hx⟩ : ∃ x, l[j]? = some x := ⟨_, List.getElem?_eq_getElem hlt⟩
        have hxs := hb x (List.mem_of_getElem? hx)
        have hxn : mayB (insN l j) = mayB x := by rw [insN_at hx]
        obtain ⟨b, o, rfl, hc⟩ := ins_rd (hr _ H1) j x hx
        have hck := fun (w0 : World) (l0 : List SL) (h : Sat W w0 l0) => cCheck_any x hxs h
        obtain ⟨op, ia, ib, ic, im, is⟩ := x
        obtain ⟨c0, c1, c2, c3, c4, c5⟩ := ins_cells hc
        have HCK := Lib.hid hck
        clear hck hc
        have H2 := H1.alloc #[.int .i64 op, .int .i64 ia, .int .i64 ib, .int .i64 ic, .int .i64 im, .string ⟨is.toArray⟩] 26
        cases hm : mayB ⟨op, ia, ib, ic, im, is⟩ with
        | true =>
          rw [hm] at HCK hxn
          go_wp2_with fail
          refine (HCK.out _ _ H2).mono ?_
          rintro e w3 ⟨rfl, H3⟩
          clear HCK
          go_wp2
          exact ⟨⟨j + 1, by omega, by go_num, fun k hk => by
            rcases Nat.lt_or_ge k j with h | h
            · exact hN.out k h
            · obtain rfl : k = j := by omega
              rw [hxn]; rfl, H3.tail⟩, by simp [intOf]; omega⟩
        | false =>
          rw [hm] at HCK hxn
          obtain rfl : C = (2, (j : Int)) := by rw [HC2.out, firstP_some hlt (by rw [hxn]; rfl) hN.out]
          go_wp2_with fail
          refine (HCK.out _ _ H2).mono ?_
          rintro e w3 ⟨rfl, H3⟩
          clear HCK
          go_wp2
          go_ret2
          exact ⟨rfl, H3.tail⟩
      · obtain rfl : j = l.length := by omega
        have hall : ∀ k, k < l.length → mayB (insN l k) = true := fun k hk => by simpa using hN.out k hk
        have HALL := Lib.hid hall
        have HC3 : Hid (C = (match firstP (passB l) l.length with
          | some k => (5, (k : Int))
          | none => match firstP (fun k => decide (512 < sizeP l (k + 1))) l.length with
            | some k => (3, (k : Int))
            | none => (0, 0))) := by show _ = _; rw [HC2.out, firstP_none hN.out]
        clear HC2 hall
        have hfar := pfar_any A c l hl (hr _ H1)
        go_wp2_with fail
        cases hf : firstP (passB l) l.length with
        | some k =>
          obtain rfl : C = (5, (k : Int)) := by rw [HC3.out, hf]
          rw [show farP l = (k : Int) by unfold farP; rw [hf]] at hfar
          refine hfar.mono ?_
          rintro e _ ⟨rfl, rfl⟩
          go_wp2
          go_ret2
          exact ⟨rfl, H1⟩
        | none =>
          have HC4 : Hid (C = (match firstP (fun k => decide (512 < sizeP l (k + 1))) l.length with
            | some k => (3, (k : Int))
            | none => (0, 0))) := by show _ = _; rw [HC3.out, hf]
          rw [show farP l = -1 by unfold farP; rw [hf]] at hfar
          clear HC3 hf
          refine hfar.mono ?_
          rintro e _ ⟨rfl, rfl⟩
          clear hfar
          have hsz := size_any l.length (by omega)
          have h9 := sevF_len 9 l.length
          go_wp2_with (go_at_call 67; refine (hsz _).mono ?_; rintro e _ ⟨rfl, rfl⟩)
          clear hsz
          go_loopw [7, 35] (fun n i wc => ∃ j : Nat, j ≤ l.length ∧ i = .int .i64 j ∧ n = .int .i64 (sizeP l j : Nat) ∧ sizeP l j ≤ 512 ∧ Hid (∀ k, k < j → decide (512 < sizeP l (k + 1)) = false) ∧ Sat W wc L) (fun _ i _ => l.length - (intOf i).toNat)
          case atStart => exact ⟨0, by omega, rfl, by rw [sizeP_zero], by rw [sizeP_zero]; unfold sev; omega, (fun k hk => by omega), H1⟩
          case round =>
            obtain ⟨j, hj, rfl, rfl, hle, hN, H1⟩ := hrel
            by_cases hlt : j < l.length
            · obtain ⟨x, hx⟩ : ∃ x, l[j]? = some x := ⟨_, List.getElem?_eq_getElem hlt⟩
              have hxm : mayB x = true := by have := HALL.out j hlt; rwa [insN_at hx] at this
              have hst := sizeP_succ l j x hx
              have hx4 := insBytes_len x hxm
              obtain ⟨b, o, rfl, hc⟩ := ins_rd (hr _ H1) j x hx
              have hck := fun (w0 : World) (l0 : List SL) (h : Sat W w0 l0) => cSize_fine x hxm h
              obtain ⟨op, ia, ib, ic, im, is⟩ := x
              obtain ⟨c0, c1, c2, c3, c4, c5⟩ := ins_cells hc
              have HCK := Lib.hid hck
              have HST := Lib.hid hst
              clear hck hc hst
              generalize (insBytes ⟨op, ia, ib, ic, im, is⟩).length = N at *
              have H2 := H1.alloc #[.int .i64 op, .int .i64 ia, .int .i64 ib, .int .i64 ic, .int .i64 im, .string ⟨is.toArray⟩] 26
              go_wp2_with fail
              refine (HCK.out _ _ H2).mono ?_
              rintro e w3 ⟨rfl, H3⟩
              clear HCK
              by_cases h5 : 512 < sizeP l j + N
              · obtain rfl : C = (3, (j : Int)) := by rw [HC4.out, firstP_some hlt (by rw [HST.out]; simpa using h5) hN.out]
                generalize sizeP l j = M at *
                go_wp2
                go_ret2
                exact ⟨rfl, H3.tail⟩
              · have hN2 : ∀ k, k < j + 1 → decide (512 < sizeP l (k + 1)) = false := fun k hk => by
                  rcases Nat.lt_or_ge k j with h | h
                  · exact hN.out k h
                  · obtain rfl : k = j := by omega
                    rw [HST.out]; simpa using h5
                have hle2 : sizeP l (j + 1) ≤ 512 := by rw [HST.out]; omega
                have HN2 := Lib.hid hN2
                have HLE := Lib.hid hle2
                clear hN2 hle2 hN
                generalize sizeP l j = M at *
                go_wp2
                exact ⟨⟨j + 1, by omega, by go_num, by rw [HST.out]; go_num, HLE.out, HN2, H3.tail⟩, by simp [intOf]; omega⟩
            · obtain rfl : j = l.length := by omega
              obtain rfl : C = (0, 0) := by rw [HC4.out, firstP_none hN.out]
              go_wp2
              go_ret2
              exact ⟨rfl, H1⟩
end Go.Proofs.Ytflcmhmbmippfaa

/- A transaction's bytes: the program's own answer. -/
namespace Go.Proofs.Ytflcmhmbmippfaa
open Go.RowKit Go.Rt

/-- A list of bytes as a slice's value. -/
abbrev bsV (p : Option Addr × Nat × List UInt8) : Value := .slice p.1 p.2.2.length p.2.1

/-- Lists, one behind the other. -/
def catP (ps : List (Option Addr × Nat × List UInt8)) : List UInt8 := ps.flatMap (·.2.2)
theorem catP_append (a b : List (Option Addr × Nat × List UInt8)) : catP (a ++ b) = catP a ++ catP b := by simp [catP]

set_option maxRecDepth 100000 in
set_option maxHeartbeats 4000000 in
theorem pjoin_any {W w : World} {L : List SL} (b o c : Nat) (ps : List (Option Addr × Nat × List UInt8)) (hr : RdL W L (some ⟨b, o, none⟩) (ps.map bsV)) (hp : ∀ p ∈ ps, RdL W L p.1 (p.2.2.map B)) (hn : ps.length ≤ 1000000) (hb : (catP ps).length ≤ 1000000000) (H : Sat W w L) :
    Calls Try.prog 68 #[.slice (some ⟨b, o, none⟩) ps.length c] w fun e w' => ∃ A' c', e = .returned (.slice A' (catP ps).length c') ∧ Sat W w' (row 5 zB (.slice A' (catP ps).length c') (catP ps).length ((catP ps).map B) :: L) := by
  obtain ⟨i0, hi, hz0, hz1, hz2⟩ := info_parts infoU8
  have hlen : ∀ j, (catP (ps.take j)).length ≤ (catP ps).length := fun j => by
    have h2 : catP ps = catP (ps.take j) ++ catP (ps.drop j) := by rw [← catP_append, List.take_append_drop]
    rw [h2, List.length_append]; omega
  have HLEN := Lib.hid hlen
  clear hlen
  have H0 := H.nil 5 zB
  go_enter Try.func68, Try.ntmps68
  go_wp2
  go_loopw [3, 8] (fun v i wc => ∃ (j : Nat) (A' : Option Addr) (c' : Nat), j ≤ ps.length ∧ i = .int .i64 j ∧ v = .slice A' (catP (ps.take j)).length c' ∧ Sat W wc (row 5 zB (.slice A' (catP (ps.take j)).length c') (catP (ps.take j)).length ((catP (ps.take j)).map B) :: L)) (fun _ i _ => ps.length - (intOf i).toNat)
  case atStart => exact ⟨0, none, 0, by omega, rfl, rfl, H0⟩
  case round =>
    obtain ⟨j, A', c', hj, rfl, rfl, H1⟩ := hrel
    by_cases hlt : j < ps.length
    · obtain ⟨p, hx⟩ : ∃ p, ps[j]? = some p := ⟨_, List.getElem?_eq_getElem hlt⟩
      have hrp := hp p (List.mem_of_getElem? hx) _ H1.tail
      have hcell : wr.cell? ⟨b, o + j, none⟩ = some (.slice p.1 p.2.2.length p.2.1) := (hr _ H1.tail).at j (by simp [hx])
      have hst : catP (ps.take (j + 1)) = catP (ps.take j) ++ p.2.2 := by
        rw [List.take_add_one, hx, catP_append]; simp [catP]
      have hl1 := HLEN.out (j + 1)
      rw [hst, List.length_append] at hl1
      obtain ⟨Ap, cp, xs⟩ := p
      dsimp only at hrp hcell hst hl1
      have HST := Lib.hid hst
      clear hst
      generalize catP (ps.take j) = acc at *
      go_wp2_with (first
        | (at_builtin
           refine wpList_append_sl rfl (.tmp 12) (.tmp 13) 22 rfl 5 i0 (.int .u8 0) zB 1 Try.underlying22 hi hz0 rfl hz1 hz2 (by simp) zB_like _ acc.length _ rfl H1 Ap xs.length cp (xs.map B) rfl (by simp) hrp (B_one xs) (Typed.bytes xs) (by unfold maxLen; omega) (by omega) ?_
           intro A2 c2 w2 H2))
      have H3 : Sat W w2 (row 5 zB (.slice A2 (catP (ps.take (j + 1))).length c2) (catP (ps.take (j + 1))).length ((catP (ps.take (j + 1))).map B) :: L) := by
        rw [HST.out, List.length_append, List.map_append]
        exact H2
      exact ⟨⟨j + 1, A2, c2, by omega, by go_num, by rw [HST.out, List.length_append], H3⟩, by simp [intOf]; omega⟩
    · obtain rfl : j = ps.length := by omega
      rw [List.take_length] at H1
      go_wp2
      go_ret
      exact ⟨A', c', by first | rfl | (rw [List.take_length]; rfl), H1⟩

/-- What is told of a transaction as bytes. -/
def outP (l : List Ins) : List UInt8 := if (checkP l).1 = 0 then progBytes l else []
theorem outP_fine {l : List Ins} (h : (checkP l).1 = 0) : outP l = progBytes l := by rw [outP, if_pos h]
theorem outP_bad {l : List Ins} (h : (checkP l).1 ≠ 0) : outP l = [] := by rw [outP, if_neg h]
theorem progBytes_take (l : List Ins) (j : Nat) (x : Ins) (h : l[j]? = some x) : (l.take (j + 1)).flatMap insBytes = (l.take j).flatMap insBytes ++ insBytes x := by
  rw [List.take_add_one, h]; simp
theorem progBytes_part (l : List Ins) (j : Nat) : (sev l.length ++ (l.take j).flatMap insBytes).length ≤ (progBytes l).length := by
  have h : l.flatMap insBytes = (l.take j).flatMap insBytes ++ (l.drop j).flatMap insBytes := by rw [← List.flatMap_append, List.take_append_drop]
  unfold progBytes
  rw [h, List.length_append, List.length_append, List.length_append]
  omega

set_option maxRecDepth 100000 in
set_option maxHeartbeats 8000000 in
theorem pBytes_any {W w : World} {L : List SL} (A : Option Addr) (c : Nat) (l : List Ins) (hb : ∀ x ∈ l, x.s.length ≤ maxLen) (hl : l.length ≤ maxLen) (hr : RdL W L A (insC l)) (H : Sat W w L) :
    Calls Try.prog 35 #[.slice A l.length c] w fun e w' => ∃ A' c', e = .returned (.tuple #[.slice A' (outP l).length c', .int .i64 (checkP l).1]) ∧ Sat W w' (row 5 zB (.slice A' (outP l).length c') (outP l).length ((outP l).map B) :: L) := by
  have hck := pCheck_any A c l hb hl hr H
  by_cases h0 : (checkP l).1 = 0
  · obtain ⟨g0, g1, g2, g3, g4⟩ := checkP_fine h0
    rw [outP_fine h0]
    rw [g4] at hck ⊢
    have HCK := Lib.hid hck
    have hpart := progBytes_part l
    obtain ⟨X, HX⟩ : ∃ X, Hid (progBytes l = X) := ⟨_, rfl⟩
    rw [HX.out] at g3 hpart ⊢
    have HPART := Lib.hid hpart
    have G1 := Lib.hid g1
    clear hck hpart g1 g2 g4 h0
    go_enter Try.func35, Try.ntmps35
    go_wp2_with fail
    refine HCK.out.mono ?_
    rintro e w1 ⟨rfl, H1⟩
    clear HCK
    go_wp2_with fail
    refine (new_any H1).mono ?_
    rintro e w2 ⟨rfl, H2⟩
    generalize w1.heap.size = p at H2 ⊢
    go_wp2_with fail
    refine (wInt_any l.length (by omega) (by simp) H2).mono ?_
    rintro e w3 ⟨rfl, H3⟩
    rw [List.nil_append] at H3
    have h9 := sev_len l.length
    have hX0 : sev l.length ++ (l.take 0).flatMap insBytes = sev l.length := by simp
    rw [← hX0] at H3
    go_wp2_with fail
    refine (wOut_any (by rw [hX0]; omega) H3).mono ?_
    rintro e w4 ⟨A4, c4, rfl, H4⟩
    have H5 := H4.swap.tail
    clear H4 H3 H2 H1 hX0
    go_wp2
    go_loopw [7, 33] (fun v i wc => ∃ (j : Nat) (A' : Option Addr) (c' : Nat), j ≤ l.length ∧ i = .int .i64 j ∧ v = .slice A' (sev l.length ++ (l.take j).flatMap insBytes).length c' ∧ Sat W wc (row 5 zB (.slice A' (sev l.length ++ (l.take j).flatMap insBytes).length c') (sev l.length ++ (l.take j).flatMap insBytes).length ((sev l.length ++ (l.take j).flatMap insBytes).map B) :: L)) (fun _ i _ => l.length - (intOf i).toNat)
    case atStart => exact ⟨0, A4, c4, by omega, rfl, by simp, H5⟩
    case round =>
      obtain ⟨j, A', c', hj, rfl, rfl, H6⟩ := hrel
      clear H5
      by_cases hlt : j < l.length
      · obtain ⟨x, hx⟩ : ∃ x, l[j]? = some x := ⟨_, List.getElem?_eq_getElem hlt⟩
        have hxm := G1.out x (List.mem_of_getElem? hx)
        have hst := progBytes_take l j x hx
        have hx4 := insBytes_len x hxm
        have hp1 := HPART.out (j + 1)
        have hp0 := HPART.out j
        rw [hst, ← List.append_assoc] at hp1
        obtain ⟨b, o, rfl, hc⟩ := ins_rd (hr _ H6.tail) j x hx
        have hck := fun (w0 : World) (l0 : List SL) (h : Sat W w0 l0) => cBytes_fine x hxm h
        obtain ⟨op, ia, ib, ic, im, is⟩ := x
        obtain ⟨c0, c1, c2, c3, c4, c5⟩ := ins_cells hc
        have HCK := Lib.hid hck
        have HST := Lib.hid hst
        clear hck hc hst
        generalize insBytes ⟨op, ia, ib, ic, im, is⟩ = xs at *
        have HACC : Hid (sev l.length ++ (l.take (j + 1)).flatMap insBytes = (sev l.length ++ (l.take j).flatMap insBytes) ++ xs) := by show _ = _; rw [HST.out, List.append_assoc]
        generalize sev l.length ++ (l.take j).flatMap insBytes = acc at *
        have H7 := H6.alloc #[.int .i64 op, .int .i64 ia, .int .i64 ib, .int .i64 ic, .int .i64 im, .string ⟨is.toArray⟩] 26
        go_wp2_with fail
        refine (HCK.out _ _ H7).mono ?_
        rintro e w8 ⟨A8, c8, rfl, H8⟩
        clear HCK HST
        have H9 := H8.alloc #[.slice A' acc.length c', .slice A8 xs.length c8] 22
        have hj1 := pjoin_any (W := W) (w := w8.alloc (.cells #[.slice A' acc.length c', .slice A8 xs.length c8] 22)) w8.heap.size 0 2 [(A', c', acc), (A8, c8, xs)] RdL.pt (fun p hp => by
          simp only [List.mem_cons, List.not_mem_nil, or_false] at hp
          rcases hp with rfl | rfl
          · exact RdL.tail (RdL.tail (RdL.tail RdL.row))
          · exact RdL.tail RdL.row) (by simp) (by simp only [catP, List.flatMap_cons, List.flatMap_nil, List.append_nil, List.length_append] at hp1 ⊢; omega) H9
        have hcat : catP [(A', c', acc), (A8, c8, xs)] = acc ++ xs := by simp [catP]
        rw [hcat] at hj1
        have HJ := Lib.hid hj1
        clear hj1 hcat
        go_wp2_with fail
        refine HJ.out.mono ?_
        rintro e w10 ⟨A10, c10, rfl, H10⟩
        clear HJ
        have H11 : Sat W w10 (row 5 zB (.slice A10 (acc ++ xs).length c10) (acc ++ xs).length ((acc ++ xs).map B) :: L) := H10.swap.tail.swap.tail.swap.tail.swap.tail
        rw [← HACC.out] at H11
        go_wp2
        exact ⟨⟨j + 1, A10, c10, by omega, by go_num, by rw [HACC.out, List.length_append], H11⟩, by simp [intOf]; omega⟩
      · obtain rfl : j = l.length := by omega
        rw [List.take_length] at H6
        have hX : sev l.length ++ l.flatMap insBytes = X := HX.out
        rw [hX] at H6
        go_wp2
        go_ret2
        refine ⟨A', c', ?_, H6⟩
        rw [List.take_length, hX]
        rfl
  · rw [outP_bad h0]
    generalize (checkP l).1 = E at *
    generalize (checkP l).2 = E2 at *
    have hE : (E == 0) = false := by simpa using h0
    have HCK := Lib.hid hck
    clear hck h0
    go_enter Try.func35, Try.ntmps35
    go_wp2_with fail
    refine HCK.out.mono ?_
    rintro e w1 ⟨rfl, H1⟩
    clear HCK
    go_wp2
    go_ret2
    exact ⟨none, 0, rfl, H1.nil _ _⟩
end Go.Proofs.Ytflcmhmbmippfaa

/- The transaction of bytes: the program's own answer. -/
namespace Go.Proofs.Ytflcmhmbmippfaa
open Go.RowKit Go.Rt

/-- What is told of bytes as a transaction: its instructions in a new list, a fault. -/
def PReadPost (W : World) (L : List SL) (r : List Ins × Int × Int) (e : Ending) (w' : World) : Prop :=
  ∃ A c, e = .returned (.tuple #[.slice A r.1.length c, .agg #[.int .i64 r.2.1, .int .i64 r.2.2]]) ∧ Sat W w' (row 26 zI (.slice A r.1.length c) r.1.length (insC r.1) :: L)
theorem cnt60 (bs : List UInt8) : 0 ≤ (toldInt bs 0 0 0 0 60 3).n ∧ (toldInt bs 0 0 0 0 60 3).n ≤ 60 := by
  refine ⟨(toldInt_n bs 0 0 0 0 60 3 (by omega)).1, ?_⟩
  unfold toldInt
  rw [if_pos rfl]
  cases hn : numAt bs 0 0 60 3 with
  | bad e a => exact (by decide : (0 : Int) ≤ 60)
  | ok n k => exact (numAt_back bs 0 0 60 3 n k (by omega) hn).2.2.2.2
abbrev z60 : Array Value := #[.int .i64 0, .int .i64 0, .int .i64 0, .int .i64 0, .int .i64 0, .int .i64 0, .int .i64 0, .int .i64 0, .int .i64 0, .int .i64 0, .int .i64 0, .int .i64 0, .int .i64 0, .int .i64 0, .int .i64 0, .int .i64 0, .int .i64 0, .int .i64 0, .int .i64 0, .int .i64 0, .int .i64 0, .int .i64 0, .int .i64 0, .int .i64 0, .int .i64 0, .int .i64 0, .int .i64 0, .int .i64 0, .int .i64 0, .int .i64 0, .int .i64 0, .int .i64 0, .int .i64 0, .int .i64 0, .int .i64 0, .int .i64 0, .int .i64 0, .int .i64 0, .int .i64 0, .int .i64 0, .int .i64 0, .int .i64 0, .int .i64 0, .int .i64 0, .int .i64 0, .int .i64 0, .int .i64 0, .int .i64 0, .int .i64 0, .int .i64 0, .int .i64 0, .int .i64 0, .int .i64 0, .int .i64 0, .int .i64 0, .int .i64 0, .int .i64 0, .int .i64 0, .int .i64 0, .int .i64 0]
abbrev IV (n : Int) : Value := .int .i64 n
theorem take_set (cur : Array Value) (j : Nat) (h : j < cur.size) (v : Value) (pre : List Value) (hp : cur.toList.take j = pre) : (cur.setIfInBounds j v).toList.take (j + 1) = pre ++ [v] := by
  have hl : j < cur.toList.length := by simpa using h
  obtain ⟨u, hu⟩ : ∃ u, cur.toList[j]? = some u := ⟨_, List.getElem?_eq_getElem hl⟩
  rw [Array.toList_setIfInBounds, List.take_set, List.take_add_one, hu, hp]
  have hpl : pre.length = j := by rw [← hp, List.length_take]; omega
  simp only [Option.toList_some]
  subst hpl
  rw [List.set_append_right _ _ (Nat.le_refl _), Nat.sub_self]
  rfl
theorem take_at {cur : Array Value} {j k : Nat} {pre : List Value} (hp : cur.toList.take j = pre) (hk : k < j) {v : Value} (hv : pre[k]? = some v) : cur[k]? = some v := by
  rw [← hp, List.getElem?_take, if_pos hk] at hv
  simpa using hv

set_option maxRecDepth 100000 in
set_option maxHeartbeats 8000000 in
theorem pRead_any {W w : World} {L : List SL} (A : Option Addr) (c : Nat) (bs : List UInt8) (hA : Bsl A bs.length c) (hr : RdL W L A (bs.map B)) (hb : bs.length ≤ 1000000000) (H : Sat W w L) :
    Calls Try.prog 29 #[.slice A bs.length c] w fun e w' => PReadPost W L (readP bs) e w' := by
  obtain ⟨iS, hiS, hS0, hS1, hS2⟩ := info_parts infoIns
  obtain ⟨iI, hiI, hI0, hI1, hI2⟩ := info_parts infoInt
  obtain ⟨T, HT⟩ : ∃ T, Hid (readP bs = T) := ⟨_, rfl⟩
  rw [HT.out]
  have H1 := H.alloc #[.int .i64 0, .int .i64 0] 29
  by_cases h512 : 512 < bs.length
  · obtain rfl : T = ([], 3, 512) := by rw [← HT.out, readP, if_pos h512]
    go_enter Try.func29, Try.ntmps29
    go_wp2
    refine bodyPost_ret (v := .tuple #[.slice none 0 0, .agg #[.int .i64 3, .int .i64 512]]) ?_ rfl ⟨none, 0, rfl, ?_⟩
    · simp [results, Try.results29, go_sem]
    · exact (H.alloc' _).nil _ _
  · have hT : T = (if (toldInt bs 0 0 0 0 60 3).fe ≠ 0 then ([], (toldInt bs 0 0 0 0 60 3).fe, (toldInt bs 0 0 0 0 60 3).fa) else
        endP bs (accP bs (toldInt bs 0 0 0 0 60 3).pl (toldInt bs 0 0 0 0 60 3).n.toNat)) := by rw [← HT.out, readP, if_neg h512]
    have hcnt := fun (p : Nat) w0 (L0 : List SL) (h : Sat W w0 (rdr p bs 0 0 0 :: L0)) => rCount_any p bs 0 0 0 60 (by omega) hb (fun _ => rfl) h
    have h60 := cnt60 bs
    generalize toldInt bs 0 0 0 0 60 3 = tc at *
    obtain ⟨tn, tpl, tfe, tfa⟩ := tc
    dsimp only at hT hcnt h60
    obtain ⟨n, rfl⟩ : ∃ n : Nat, tn = n := ⟨tn.toNat, by omega⟩
    rw [Int.toNat_natCast] at hT
    have hn60 : n ≤ 60 := by omega
    have HT2 := Lib.hid hT
    have HCNT := Lib.hid hcnt
    clear hT hcnt HT h60
    go_enter Try.func29, Try.ntmps29
    go_wp2_with fail
    refine (open_any A c bs (RdL.tail hr) hb H1).mono ?_
    rintro e w1 ⟨r, rfl, H2⟩
    clear H1
    generalize w.heap.size = q3 at H2 ⊢
    go_wp2_with fail
    refine (HCNT.out r _ _ H2).mono ?_
    rintro e w2 ⟨rfl, H3⟩
    clear HCNT
    go_wp2_with fail
    refine (rFault_any r bs tpl tfe tfa H3).mono ?_
    rintro e w3 ⟨rfl, H4⟩
    have H5 := H4.alloc #[.int .i64 tfe, .int .i64 tfa] 29
    by_cases h0 : tfe = 0
    · subst h0
      have HT3 : Hid (T = endP bs (accP bs tpl n)) := by show _ = _; rw [HT2.out, if_neg (by simp)]
      clear HT2
      go_wp2_with fail
      refine (rAt_any r bs tpl 0 tfa H5.swap).mono ?_
      rintro e _ ⟨rfl, rfl⟩
      have H6 : Sat W ((w3.alloc (.cells #[.int .i64 0, .int .i64 tfa] 29)).alloc (.cells z60 84)) (row 26 zI (.slice none 0 0) 0 [] :: pt (w3.heap.size + 1) z60 84 :: pt q3 #[.int .i64 0, .int .i64 0] 29 :: L) := by
        have h := (((H5.tail.tail).alloc z60 84).nil 26 zI)
        simp only [World.size_alloc] at h
        exact h
      clear H5 H4 H3 H2
      go_wp2
      generalize w3.heap.size + 1 = q8 at H6 ⊢
      generalize w3.heap.size = q6 at H6 ⊢
      go_loopw [7, 9, 10, 33] (fun at_ bg ou ix wc => ∃ (j : Nat) (A' : Option Addr) (c' : Nat) (cur : Array Value), j ≤ n ∧ ix = .int .i64 j ∧ at_ = .int .i64 (accP bs tpl j).pl ∧ bg = .slice (some ⟨q8, 0, none⟩) j 60 ∧ ou = .slice A' (accP bs tpl j).out.length c' ∧ Hid ((accP bs tpl j).fe = 0) ∧ cur.size = 60 ∧ Hid (cur.toList.take j = (accP bs tpl j).pls.map IV) ∧
        Sat W wc (row 26 zI (.slice A' (accP bs tpl j).out.length c') (accP bs tpl j).out.length (insC (accP bs tpl j).out) :: pt q8 cur 84 :: pt q3 #[.int .i64 0, .int .i64 0] 29 :: L)) (fun _ _ _ ix _ => n - (intOf ix).toNat)
      case atStart => exact ⟨0, none, 0, z60, by omega, rfl, rfl, rfl, rfl, rfl, rfl, rfl, H6⟩
      case round =>
        obtain ⟨j, A', c', cur, hj, rfl, rfl, rfl, rfl, hF, hcur, hC, H7⟩ := hrel
        clear H6
        have hlen := accP_len hF.out
        by_cases hlt : j < n
        · have hbad := fun (i : Ins) (e fe fa : Int) => @accP_bad bs tpl j n hF.out hlt i e fe fa
          have hmore := fun (i : Ins) (e fa : Int) => @accP_more bs tpl j hF.out i e fa
          generalize hst : accP bs tpl j = st at *
          obtain ⟨out, pls, pl, fe0, fa0⟩ := st
          dsimp only at hbad hmore hlen hC H7 ⊢
          have hrc := cRead_any A c bs hA (RdL.tail (RdL.tail (RdL.tail hr))) hb pl H7
          generalize hins : insAt bs pl = ia at *
          obtain ⟨⟨op, xa, xb, xc, xn, xs⟩, e, fe, fa⟩ := ia
          have HRC := Lib.hid hrc
          have hlo : out.length = j := hlen.1
          have HST := Lib.hid hst
          have HINS := Lib.hid hins
          clear hrc hlen hF hst hins
          subst hlo
          go_wp2_with fail
          refine HRC.out.mono ?_
          rintro ee w4 hp4
          obtain ⟨rfl, H8⟩ : ee = .returned (.tuple #[.agg #[.int .i64 op, .int .i64 xa, .int .i64 xb, .int .i64 xc, .int .i64 xn, .string ⟨xs.toArray⟩], .int .i64 e, .agg #[.int .i64 fe, .int .i64 fa]]) ∧ Sat W w4 _ := hp4
          clear HRC H7
          have H9 := (H8.alloc #[.int .i64 op, .int .i64 xa, .int .i64 xb, .int .i64 xc, .int .i64 xn, .string ⟨xs.toArray⟩] 26).alloc #[.int .i64 fe, .int .i64 fa] 29
          by_cases h1 : fe = 0
          · subst h1
            have hm := hmore _ _ _ rfl
            have HM := Lib.hid hm
            clear hm hmore hbad
            simp only [World.size_alloc] at H9
            have H10 := (H9.alloc #[.int .i64 pl] 3).pull 4
            have hrd1 : Rd _ (some ⟨_, 0, none⟩) [.int .i64 pl] := RdL.pt _ (H9.alloc #[.int .i64 pl] 3)
            simp only [World.size_alloc] at H10 hrd1
            go_wp2_with (first
              | (refine wpList_append_room rfl (.tmp 46) (.tmp 48) 85 rfl 3 iI Try.underlying85 hiI hI1 cur 84 rfl (by omega) (by omega) (some ⟨_, 0, none⟩) 1 (.int .i64 pl) rfl hrd1 rfl H10 ?_
                 intro w5 H11
                 have i0 : w5.cell? ⟨w4.heap.size, 0, none⟩ = some (.int .i64 op) := (H11.pull 3).cell 0
                 have i1 : w5.cell? ⟨w4.heap.size, 1, none⟩ = some (.int .i64 xa) := (H11.pull 3).cell 1
                 have i2 : w5.cell? ⟨w4.heap.size, 2, none⟩ = some (.int .i64 xb) := (H11.pull 3).cell 2
                 have i3 : w5.cell? ⟨w4.heap.size, 3, none⟩ = some (.int .i64 xc) := (H11.pull 3).cell 3
                 have i4 : w5.cell? ⟨w4.heap.size, 4, none⟩ = some (.int .i64 xn) := (H11.pull 3).cell 4
                 have i5 : w5.cell? ⟨w4.heap.size, 5, none⟩ = some (.string ⟨xs.toArray⟩) := (H11.pull 3).cell 5)
              | (refine wpList_buildSlice_one rfl (.tmp 51) 45 rfl 26 iS _ (Ins.cs ⟨op, xa, xb, xc, xn, xs⟩) rfl Try.underlying45 hiS hS0 rfl hS1 (by simp [Ins.cs]) (by simp [Ins.cs]) ?_
                 have H12 := H11.alloc (Ins.cs ⟨op, xa, xb, xc, xn, xs⟩).toArray 26
                 have hrd2 : Rd _ (some ⟨w5.heap.size, 0, none⟩) (Ins.cs ⟨op, xa, xb, xc, xn, xs⟩) := RdL.pt _ H12)
              | (refine wpList_append_sl rfl (.tmp 50) (.tmp 52) 45 rfl 26 iS _ zI 56 Try.underlying45 hiS hS0 rfl hS1 hS2 (by simp) zI_like _ out.length _ rfl (H12.pull 5) (some ⟨w5.heap.size, 0, none⟩) 1 1 (Ins.cs ⟨op, xa, xb, xc, xn, xs⟩) rfl rfl hrd2 (ins_one _) (ins_typed _) (by unfold maxLen; omega) (by omega) ?_
                 intro A6 c6 w6 H13))
            have H14 : Sat W w6 (row 26 zI (.slice A6 (out.length + 1) c6) (out.length + 1) (insC out ++ Ins.cs ⟨op, xa, xb, xc, xn, xs⟩) :: pt q8 (cur.setIfInBounds out.length (.int .i64 pl)) 84 :: pt q3 #[.int .i64 0, .int .i64 0] 29 :: L) := (((H13.swap.tail.pull 2).tail.pull 2).tail.pull 2).tail
            have hcl : (out ++ [⟨op, xa, xb, xc, xn, xs⟩] : List Ins).length = out.length + 1 := by simp
            have hcc : insC (out ++ [⟨op, xa, xb, xc, xn, xs⟩]) = insC out ++ Ins.cs ⟨op, xa, xb, xc, xn, xs⟩ := by rw [insC_append, insC_one]
            refine ⟨⟨out.length + 1, A6, c6, cur.setIfInBounds out.length (.int .i64 pl), by omega, by go_num, ?_, rfl, ?_, ?_, ?_, ?_, ?_⟩, by simp [intOf]; omega⟩
            · rw [HM.out]
            · rw [HM.out]; dsimp only; rw [hcl]
            · show _ = _; rw [HM.out]
            · simpa using hcur
            · show _ = _
              rw [HM.out]
              dsimp only
              rw [List.map_append]
              exact take_set cur out.length (by omega) _ _ hC.out
            · rw [HM.out]
              dsimp only
              rw [hcl, hcc]
              exact H14
          · have hb1 : fe ≠ 0 → (accP bs tpl n).fe = fe ∧ (accP bs tpl n).fa = fa := hbad _ _ _ _ rfl
            obtain rfl : T = ([], fe, fa) := by rw [HT3.out, endP, if_pos (by rw [(hb1 h1).1]; exact h1), (hb1 h1).1, (hb1 h1).2]
            have e1 : (fe != 0) = true := by simpa using h1
            clear hbad hmore hb1 h1
            simp only [World.size_alloc] at H9
            go_wp2
            generalize w4.heap.size + 1 = q13 at H9 ⊢
            generalize (w4.alloc (.cells #[.int .i64 op, .int .i64 xa, .int .i64 xb, .int .i64 xc, .int .i64 xn, .string ⟨xs.toArray⟩] 26)).alloc (.cells #[.int .i64 fe, .int .i64 fa] 29) = w5 at H9 ⊢
            have m0 : w5.cell? ⟨q13, 0, none⟩ = some (.int .i64 fe) := H9.cell 0
            have m1 : w5.cell? ⟨q13, 1, none⟩ = some (.int .i64 fa) := H9.cell 1
            have hne : q3 ≠ q13 := (H9.pull 4).ne
            have hne' : q13 ≠ q3 := fun h => hne h.symm
            have z30 : w5.cell? ⟨q3, 0, none⟩ = some (.int .i64 0) := (H9.pull 4).cell 0
            have z31 : w5.cell? ⟨q3, 1, none⟩ = some (.int .i64 0) := (H9.pull 4).cell 1
            have f30 := (H9.pull 4).frz 0
            have f31 := (H9.pull 4).frz 1
            go_region_law (fail)
            all_goals
              have HZ := (((H9.pull 4).setCell 0 (.int .i64 (fe))).setCell 1 (.int .i64 (fa))).drew
              generalize ((w5.setCell ⟨q3, 0, none⟩ (.int .i64 (fe))).setCell ⟨q3, 1, none⟩ (.int .i64 (fa))).drew = wz at HZ ⊢
              have y0 : wz.cell? ⟨q3, 0, none⟩ = some (.int .i64 (fe)) := HZ.cell 0
              have y1 : wz.cell? ⟨q3, 1, none⟩ = some (.int .i64 (fa)) := HZ.cell 1
              go_wp2
              refine bodyPost_ret (v := .tuple #[.slice none 0 0, .agg #[.int .i64 (fe), .int .i64 (fa)]]) ?_ rfl ⟨none, 0, rfl, HZ.tail.tail.tail.tail.tail.nil _ _⟩
              simp [results, Try.results29, go_sem, y0, y1]
        · obtain rfl : j = n := by omega
          generalize hst : accP bs tpl j = st at *
          obtain ⟨out, pls, pl, fe0, fa0⟩ := st
          have hF' : fe0 = 0 := hF.out
          subst hF'
          dsimp only at hlen hC H7 HT3 ⊢
          obtain ⟨hlo, hlp⟩ := hlen
          subst hlo
          have hT4 : T = (if pl < bs.length then (([] : List Ins), (4 : Int), pl) else match firstP (passB out) out.length with
            | some k => ([], 5, pls.getD k 0)
            | none => (out, 0, 0)) := by rw [HT3.out, endP, if_neg (by simp)] <;> rfl
          have HT4 := Lib.hid hT4
          have HLP := Lib.hid hlp
          clear hT4 hst hF HT3 hlp
          by_cases hpl : pl < bs.length
          · obtain rfl : T = ([], 4, pl) := by rw [HT4.out, if_pos hpl]
            have z30 : wr.cell? ⟨q3, 0, none⟩ = some (.int .i64 0) := (H7.pull 2).cell 0
            have z31 : wr.cell? ⟨q3, 1, none⟩ = some (.int .i64 0) := (H7.pull 2).cell 1
            have f30 := (H7.pull 2).frz 0
            have f31 := (H7.pull 2).frz 1
            go_wp2
            all_goals
              have HZ := (((H7.pull 2).setCell 0 (.int .i64 (4))).setCell 1 (.int .i64 (pl)))
              generalize ((wr.setCell ⟨q3, 0, none⟩ (.int .i64 (4))).setCell ⟨q3, 1, none⟩ (.int .i64 (pl))) = wz at HZ ⊢
              have y0 : wz.cell? ⟨q3, 0, none⟩ = some (.int .i64 (4)) := HZ.cell 0
              have y1 : wz.cell? ⟨q3, 1, none⟩ = some (.int .i64 (pl)) := HZ.cell 1
              refine bodyPost_ret (v := .tuple #[.slice none 0 0, .agg #[.int .i64 (4), .int .i64 (pl)]]) ?_ rfl ⟨none, 0, rfl, HZ.tail.tail.tail.nil _ _⟩
              simp [results, Try.results29, go_sem, y0, y1]
          · have HT5 : Hid (T = (match firstP (passB out) out.length with
              | some k => ([], 5, pls.getD k 0)
              | none => (out, 0, 0))) := by show _ = _; rw [HT4.out, if_neg hpl]
            clear HT4
            have hfar := pfar_any A' c' out (by unfold maxLen; omega) H7.rd
            cases hf : firstP (passB out) out.length with
            | some k =>
              rw [show farP out = (k : Int) by unfold farP; rw [hf]] at hfar
              have hT6 : T = ([], 5, pls.getD k 0) := by rw [HT5.out, hf]
              have hk := (firstP_is hf).1
              have hkp : k < pls.length := by rw [HLP.out]; exact hk
              have hpk : pls[k]? = some (pls.getD k 0) := by simp [List.getD, hkp]
              have hck : (pls.map IV)[k]? = some (IV (pls.getD k 0)) := by rw [List.getElem?_map, hpk]; rfl
              have hcell : wr.cell? ⟨q8, k, none⟩ = some (.int .i64 (pls.getD k 0)) := by rw [H7.swap.cell k]; exact take_at hC.out hk hck
              generalize pls.getD k 0 = pk at *
              subst hT6
              clear hf hpk hck HT5 hkp
              go_wp2_with fail
              refine hfar.mono ?_
              rintro ee _ ⟨rfl, rfl⟩
              clear hfar
              go_wp2
              have z30 : wr.cell? ⟨q3, 0, none⟩ = some (.int .i64 0) := (H7.pull 2).cell 0
              have z31 : wr.cell? ⟨q3, 1, none⟩ = some (.int .i64 0) := (H7.pull 2).cell 1
              have f30 := (H7.pull 2).frz 0
              have f31 := (H7.pull 2).frz 1
              go_region_law (fail)
              all_goals
                have HZ := (((H7.pull 2).setCell 0 (.int .i64 (5))).setCell 1 (.int .i64 (pk))).drew
                generalize ((wr.setCell ⟨q3, 0, none⟩ (.int .i64 (5))).setCell ⟨q3, 1, none⟩ (.int .i64 (pk))).drew = wz at HZ ⊢
                have y0 : wz.cell? ⟨q3, 0, none⟩ = some (.int .i64 (5)) := HZ.cell 0
                have y1 : wz.cell? ⟨q3, 1, none⟩ = some (.int .i64 (pk)) := HZ.cell 1
                go_wp2
                refine bodyPost_ret (v := .tuple #[.slice none 0 0, .agg #[.int .i64 (5), .int .i64 (pk)]]) ?_ rfl ⟨none, 0, rfl, HZ.tail.tail.tail.nil _ _⟩
                simp [results, Try.results29, go_sem, y0, y1]
            | none =>
              rw [show farP out = -1 by unfold farP; rw [hf]] at hfar
              obtain rfl : T = (out, 0, 0) := by rw [HT5.out, hf]
              clear hf HT5
              go_wp2_with fail
              refine hfar.mono ?_
              rintro ee _ ⟨rfl, rfl⟩
              clear hfar
              have z30 : wr.cell? ⟨q3, 0, none⟩ = some (.int .i64 0) := (H7.pull 2).cell 0
              have z31 : wr.cell? ⟨q3, 1, none⟩ = some (.int .i64 0) := (H7.pull 2).cell 1
              have f30 := (H7.pull 2).frz 0
              have f31 := (H7.pull 2).frz 1
              go_wp2
              all_goals
                have HZ := (((H7.pull 2).setCell 0 (.int .i64 (0))).setCell 1 (.int .i64 (0)))
                generalize ((wr.setCell ⟨q3, 0, none⟩ (.int .i64 (0))).setCell ⟨q3, 1, none⟩ (.int .i64 (0))) = wz at HZ ⊢
                have y0 : wz.cell? ⟨q3, 0, none⟩ = some (.int .i64 (0)) := HZ.cell 0
                have y1 : wz.cell? ⟨q3, 1, none⟩ = some (.int .i64 (0)) := HZ.cell 1
                refine bodyPost_ret (v := .tuple #[.slice A' out.length c', .agg #[.int .i64 (0), .int .i64 (0)]]) ?_ rfl ⟨A', c', rfl, HZ.tail.swap.tail⟩
                simp [results, Try.results29, go_sem, y0, y1]
    · have e0 : (tfe != 0) = true := by simpa using h0
      obtain rfl : T = ([], tfe, tfa) := by rw [HT2.out, if_pos h0]
      go_wp2
      generalize w3.heap.size = q6 at H5 ⊢
      generalize w3.alloc (.cells #[.int .i64 tfe, .int .i64 tfa] 29) = w4 at H5 ⊢
      have m0 : w4.cell? ⟨q6, 0, none⟩ = some (.int .i64 tfe) := H5.cell 0
      have m1 : w4.cell? ⟨q6, 1, none⟩ = some (.int .i64 tfa) := H5.cell 1
      have hne : q3 ≠ q6 := (H5.pull 2).ne
      have hne' : q6 ≠ q3 := fun h => hne h.symm
      have z30 : w4.cell? ⟨q3, 0, none⟩ = some (.int .i64 0) := (H5.pull 2).cell 0
      have z31 : w4.cell? ⟨q3, 1, none⟩ = some (.int .i64 0) := (H5.pull 2).cell 1
      have f30 := (H5.pull 2).frz 0
      have f31 := (H5.pull 2).frz 1
      go_region_law (fail)
      all_goals
        have HZ := (((H5.pull 2).setCell 0 (.int .i64 (tfe))).setCell 1 (.int .i64 (tfa))).drew
        generalize ((w4.setCell ⟨q3, 0, none⟩ (.int .i64 (tfe))).setCell ⟨q3, 1, none⟩ (.int .i64 (tfa))).drew = wz at HZ ⊢
        have y0 : wz.cell? ⟨q3, 0, none⟩ = some (.int .i64 (tfe)) := HZ.cell 0
        have y1 : wz.cell? ⟨q3, 1, none⟩ = some (.int .i64 (tfa)) := HZ.cell 1
        go_wp2
        refine bodyPost_ret (v := .tuple #[.slice none 0 0, .agg #[.int .i64 (tfe), .int .i64 (tfa)]]) ?_ rfl ⟨none, 0, rfl, HZ.tail.tail.tail.nil _ _⟩
        simp [results, Try.results29, go_sem, y0, y1]
end Go.Proofs.Ytflcmhmbmippfaa

/- The transaction of bytes: the document's answer. -/
namespace Go.Proofs.Ytflcmhmbmippfaa
open Go.RowKit Go.Rt

abbrev zN : List Value := [.int .i64 0]
theorem zN_like : LikeZ zN := by
  intro j u h
  match j, h with
  | 0, h => simp at h; subst h; rfl
  | j + 1, h => simp at h
theorem Typed.ints (l : List Int) : Typed zN (l.map IV) := fun j u h => by
  rw [List.getElem?_map] at h
  cases hl : l[j]? with
  | none => rw [hl] at h; cases h
  | some x => rw [hl] at h; simp at h; subst h; simp [like, Nat.mod_one]

set_option maxRecDepth 100000 in
set_option maxHeartbeats 8000000 in
theorem qRead_any {W w : World} {L : List SL} (A : Option Addr) (c : Nat) (bs : List UInt8) (hA : Bsl A bs.length c) (hr : RdL W L A (bs.map B)) (hb : bs.length ≤ 1000000000) (H : Sat W w L) :
    Calls Try.prog 30 #[.slice A bs.length c] w fun e w' => PReadPost W L (readP bs) e w' := by
  obtain ⟨iS, hiS, hS0, hS1, hS2⟩ := info_parts infoIns
  obtain ⟨iI, hiI, hI0, hI1, hI2⟩ := info_parts infoInt
  obtain ⟨T, HT⟩ : ∃ T, Hid (readP bs = T) := ⟨_, rfl⟩
  rw [HT.out]
  have H1 := H.alloc #[.int .i64 0, .int .i64 0] 29
  by_cases h512 : 512 < bs.length
  · obtain rfl : T = ([], 3, 512) := by rw [← HT.out, readP, if_pos h512]
    go_enter Try.func30, Try.ntmps30
    go_wp2
    refine bodyPost_ret (v := .tuple #[.slice none 0 0, .agg #[.int .i64 3, .int .i64 512]]) ?_ rfl ⟨none, 0, rfl, ?_⟩
    · simp [results, Try.results30, go_sem]
    · exact (H.alloc' _).nil _ _
  · have hT : T = (if (toldInt bs 0 0 0 0 60 3).fe ≠ 0 then ([], (toldInt bs 0 0 0 0 60 3).fe, (toldInt bs 0 0 0 0 60 3).fa) else
        endP bs (accP bs (toldInt bs 0 0 0 0 60 3).pl (toldInt bs 0 0 0 0 60 3).n.toNat)) := by rw [← HT.out, readP, if_neg h512]
    have hcnt := fun (p : Nat) w0 (L0 : List SL) (hr0 : RdL W L0 A (bs.map B)) (h : Sat W w0 (yrd p A bs.length c 0 0 0 :: L0)) => yCount_any p A c bs 0 0 0 (by omega) hb (fun _ => rfl) hr0 60 h
    have h60 := cnt60 bs
    generalize toldInt bs 0 0 0 0 60 3 = tc at *
    obtain ⟨tn, tpl, tfe, tfa⟩ := tc
    dsimp only at hT hcnt h60
    obtain ⟨n, rfl⟩ : ∃ n : Nat, tn = n := ⟨tn.toNat, by omega⟩
    rw [Int.toNat_natCast] at hT
    have hn60 : n ≤ 60 := by omega
    have HT2 := Lib.hid hT
    have HCNT := Lib.hid hcnt
    clear hT hcnt HT h60
    go_enter Try.func30, Try.ntmps30
    go_wp2_with fail
    refine (xOpen_any A bs.length c H1).mono ?_
    rintro e w1 ⟨rfl, H2⟩
    clear H1
    generalize (w.alloc (.cells #[.int .i64 0, .int .i64 0] 29)).heap.size = r at H2 ⊢
    generalize w.heap.size = q3 at H2 ⊢
    go_wp2_with fail
    refine (HCNT.out r _ _ (RdL.tail hr) H2).mono ?_
    rintro e w2 ⟨rfl, H3⟩
    clear HCNT
    have r1 : w2.cell? ⟨r, 1, none⟩ = some (.int .i64 tpl) := H3.cell 1
    have r2 : w2.cell? ⟨r, 2, none⟩ = some (.int .i64 tfe) := H3.cell 2
    have r3 : w2.cell? ⟨r, 3, none⟩ = some (.int .i64 tfa) := H3.cell 3
    by_cases h0 : tfe = 0
    · subst h0
      have HT3 : Hid (T = endP bs (accP bs tpl n)) := by show _ = _; rw [HT2.out, if_neg (by simp)]
      clear HT2
      have H6 : Sat W w2 (row 26 zI (.slice none 0 0) 0 [] :: row 3 zN (.slice none 0 0) 0 [] :: pt q3 #[.int .i64 0, .int .i64 0] 29 :: L) := (H3.tail.nil _ _).nil _ _
      go_wp2
      clear r1 r2 r3 H3 H2
      go_loopw [6, 7, 8, 9] (fun at_ ou pc ix wc => ∃ (j : Nat) (A' : Option Addr) (c' : Nat) (A2 : Option Addr) (c2 : Nat), j ≤ n ∧ ix = .int .i64 j ∧ at_ = .int .i64 (accP bs tpl j).pl ∧ ou = .slice A' (accP bs tpl j).out.length c' ∧ pc = .slice A2 (accP bs tpl j).pls.length c2 ∧ Hid ((accP bs tpl j).fe = 0) ∧
        Sat W wc (row 26 zI (.slice A' (accP bs tpl j).out.length c') (accP bs tpl j).out.length (insC (accP bs tpl j).out) :: row 3 zN (.slice A2 (accP bs tpl j).pls.length c2) (accP bs tpl j).pls.length ((accP bs tpl j).pls.map IV) :: pt q3 #[.int .i64 0, .int .i64 0] 29 :: L)) (fun _ _ _ ix _ => n - (intOf ix).toNat)
      case atStart => exact ⟨0, none, 0, none, 0, by omega, rfl, rfl, rfl, rfl, rfl, H6⟩
      case round =>
        obtain ⟨j, A', c', A2, c2, hj, rfl, rfl, rfl, rfl, hF, H7⟩ := hrel
        clear H6
        have hlen := accP_len hF.out
        by_cases hlt : j < n
        · have hbad := fun (i : Ins) (e fe fa : Int) => @accP_bad bs tpl j n hF.out hlt i e fe fa
          have hmore := fun (i : Ins) (e fa : Int) => @accP_more bs tpl j hF.out i e fa
          generalize hst : accP bs tpl j = st at *
          obtain ⟨out, pls, pl, fe0, fa0⟩ := st
          dsimp only at hbad hmore hlen H7 ⊢
          have hrc := kRead_any A c bs hA (RdL.tail (RdL.tail (RdL.tail hr))) hb pl H7
          generalize hins : insAt bs pl = ia at *
          obtain ⟨⟨op, xa, xb, xc, xn, xs⟩, e, fe, fa⟩ := ia
          have HRC := Lib.hid hrc
          obtain ⟨hlo, hlp⟩ := hlen
          have HST := Lib.hid hst
          have HINS := Lib.hid hins
          have HLP := Lib.hid (show pls.length ≤ 60 by omega)
          have hol : out.length ≤ 60 := by omega
          have HOL := Lib.hid hlo
          clear hrc hF hst hins hlo hlp
          go_wp2_with fail
          refine HRC.out.mono ?_
          rintro ee w4 hp4
          obtain ⟨rfl, H8⟩ : ee = .returned (.tuple #[.agg #[.int .i64 op, .int .i64 xa, .int .i64 xb, .int .i64 xc, .int .i64 xn, .string ⟨xs.toArray⟩], .int .i64 e, .agg #[.int .i64 fe, .int .i64 fa]]) ∧ Sat W w4 _ := hp4
          clear HRC H7
          have H9 := (H8.alloc #[.int .i64 op, .int .i64 xa, .int .i64 xb, .int .i64 xc, .int .i64 xn, .string ⟨xs.toArray⟩] 26).alloc #[.int .i64 fe, .int .i64 fa] 29
          by_cases h1 : fe = 0
          · subst h1
            have hm := hmore _ _ _ rfl
            have HM := Lib.hid hm
            clear hm hmore hbad
            have H10 := H9.alloc (Ins.cs ⟨op, xa, xb, xc, xn, xs⟩).toArray 26
            have hrd2 : Rd _ (some ⟨_, 0, none⟩) (Ins.cs ⟨op, xa, xb, xc, xn, xs⟩) := RdL.pt _ H10
            have hpl2 := HLP.out
            go_wp2_with (first
              | (refine wpList_buildSlice_one rfl (.tmp 53) 45 rfl 26 iS _ (Ins.cs ⟨op, xa, xb, xc, xn, xs⟩) rfl Try.underlying45 hiS hS0 rfl hS1 (by simp [Ins.cs]) (by simp [Ins.cs]) ?_)
              | (refine wpList_append_sl rfl (.tmp 52) (.tmp 54) 45 rfl 26 iS _ zI 56 Try.underlying45 hiS hS0 rfl hS1 hS2 (by simp) zI_like _ out.length _ rfl (H10.pull 3) _ 1 1 (Ins.cs ⟨op, xa, xb, xc, xn, xs⟩) rfl rfl hrd2 (ins_one _) (ins_typed _) (by unfold maxLen; omega) (by omega) ?_
                 intro A6 c6 w6 H13
                 have H14 := H13.alloc #[.int .i64 pl] 3
                 have hrd3 : Rd _ (some ⟨w6.heap.size, 0, none⟩) [.int .i64 pl] := RdL.pt _ H14)
              | (refine wpList_append_sl rfl (.tmp 56) (.tmp 58) 85 rfl 3 iI _ zN 8 Try.underlying85 hiI hI0 rfl hI1 hI2 (by simp) zN_like _ pls.length _ rfl (H14.pull 5) _ 1 1 [.int .i64 pl] rfl rfl hrd3 (by simp [Value.oneCell']) (Typed.ints [pl]) (by unfold maxLen; omega) (by omega) ?_
                 intro A7 c7 w7 H15))
            have H16 := (((H15.swap.tail.pull 2).tail.pull 2).tail.pull 2).tail.swap
            have hcl : (out ++ [⟨op, xa, xb, xc, xn, xs⟩] : List Ins).length = out.length + 1 := by simp
            have hcp : (pls ++ [pl] : List Int).length = pls.length + 1 := by simp
            have hcc : insC (out ++ [⟨op, xa, xb, xc, xn, xs⟩]) = insC out ++ Ins.cs ⟨op, xa, xb, xc, xn, xs⟩ := by rw [insC_append, insC_one]
            have hmm : (pls ++ [pl]).map IV = pls.map IV ++ [.int .i64 pl] := by rw [List.map_append]; rfl
            refine ⟨⟨j + 1, A6, c6, A7, c7, by omega, by go_num, ?_, ?_, ?_, ?_, ?_⟩, by simp [intOf]; omega⟩
            · rw [HM.out]
            · rw [HM.out]; dsimp only; rw [hcl]
            · rw [HM.out]; dsimp only; rw [hcp]
            · show _ = _; rw [HM.out]
            · rw [HM.out]
              dsimp only
              rw [hcl, hcc, hcp, hmm]
              exact H16
          · have hb1 : fe ≠ 0 → (accP bs tpl n).fe = fe ∧ (accP bs tpl n).fa = fa := hbad _ _ _ _ rfl
            obtain rfl : T = ([], fe, fa) := by rw [HT3.out, endP, if_pos (by rw [(hb1 h1).1]; exact h1), (hb1 h1).1, (hb1 h1).2]
            have e1 : (fe != 0) = true := by simpa using h1
            clear hbad hmore hb1 h1
            simp only [World.size_alloc] at H9
            go_wp2
            generalize w4.heap.size + 1 = q13 at H9 ⊢
            generalize (w4.alloc (.cells #[.int .i64 op, .int .i64 xa, .int .i64 xb, .int .i64 xc, .int .i64 xn, .string ⟨xs.toArray⟩] 26)).alloc (.cells #[.int .i64 fe, .int .i64 fa] 29) = w5 at H9 ⊢
            have m0 : w5.cell? ⟨q13, 0, none⟩ = some (.int .i64 fe) := H9.cell 0
            have m1 : w5.cell? ⟨q13, 1, none⟩ = some (.int .i64 fa) := H9.cell 1
            have hne : q3 ≠ q13 := (H9.pull 4).ne
            have hne' : q13 ≠ q3 := fun h => hne h.symm
            have z30 : w5.cell? ⟨q3, 0, none⟩ = some (.int .i64 0) := (H9.pull 4).cell 0
            have z31 : w5.cell? ⟨q3, 1, none⟩ = some (.int .i64 0) := (H9.pull 4).cell 1
            have f30 := (H9.pull 4).frz 0
            have f31 := (H9.pull 4).frz 1
            go_region_law (fail)
            all_goals
              have HZ := (((H9.pull 4).setCell 0 (.int .i64 (fe))).setCell 1 (.int .i64 (fa))).drew
              generalize ((w5.setCell ⟨q3, 0, none⟩ (.int .i64 (fe))).setCell ⟨q3, 1, none⟩ (.int .i64 (fa))).drew = wz at HZ ⊢
              have y0 : wz.cell? ⟨q3, 0, none⟩ = some (.int .i64 (fe)) := HZ.cell 0
              have y1 : wz.cell? ⟨q3, 1, none⟩ = some (.int .i64 (fa)) := HZ.cell 1
              go_wp2
              refine bodyPost_ret (v := .tuple #[.slice none 0 0, .agg #[.int .i64 (fe), .int .i64 (fa)]]) ?_ rfl ⟨none, 0, rfl, HZ.tail.tail.tail.tail.tail.nil _ _⟩
              simp [results, Try.results30, go_sem, y0, y1]
        · obtain rfl : j = n := by omega
          generalize hst : accP bs tpl j = st at *
          obtain ⟨out, pls, pl, fe0, fa0⟩ := st
          have hF' : fe0 = 0 := hF.out
          subst hF'
          dsimp only at hlen H7 HT3 ⊢
          obtain ⟨hlo, hlp⟩ := hlen
          subst hlo
          have hT4 : T = (if pl < bs.length then (([] : List Ins), (4 : Int), pl) else match firstP (passB out) out.length with
            | some k => ([], 5, pls.getD k 0)
            | none => (out, 0, 0)) := by rw [HT3.out, endP, if_neg (by simp)] <;> rfl
          have HT4 := Lib.hid hT4
          have HLP := Lib.hid hlp
          have HLP2 := Lib.hid (show pls.length ≤ 60 by omega)
          clear hT4 hst hF HT3 hlp
          by_cases hpl : pl < bs.length
          · obtain rfl : T = ([], 4, pl) := by rw [HT4.out, if_pos hpl]
            have z30 : wr.cell? ⟨q3, 0, none⟩ = some (.int .i64 0) := (H7.pull 2).cell 0
            have z31 : wr.cell? ⟨q3, 1, none⟩ = some (.int .i64 0) := (H7.pull 2).cell 1
            have f30 := (H7.pull 2).frz 0
            have f31 := (H7.pull 2).frz 1
            go_wp2
            all_goals
              have HZ := (((H7.pull 2).setCell 0 (.int .i64 (4))).setCell 1 (.int .i64 (pl)))
              generalize ((wr.setCell ⟨q3, 0, none⟩ (.int .i64 (4))).setCell ⟨q3, 1, none⟩ (.int .i64 (pl))) = wz at HZ ⊢
              have y0 : wz.cell? ⟨q3, 0, none⟩ = some (.int .i64 (4)) := HZ.cell 0
              have y1 : wz.cell? ⟨q3, 1, none⟩ = some (.int .i64 (pl)) := HZ.cell 1
              refine bodyPost_ret (v := .tuple #[.slice none 0 0, .agg #[.int .i64 (4), .int .i64 (pl)]]) ?_ rfl ⟨none, 0, rfl, HZ.tail.tail.tail.nil _ _⟩
              simp [results, Try.results30, go_sem, y0, y1]
          · have HT5 : Hid (T = (match firstP (passB out) out.length with
              | some k => ([], 5, pls.getD k 0)
              | none => (out, 0, 0))) := by show _ = _; rw [HT4.out, if_neg hpl]
            clear HT4
            have hol : out.length ≤ maxLen := by unfold maxLen; omega
            go_wp2
            go_loop [13] (fun i => ∃ k : Nat, k ≤ out.length ∧ i = .int .i64 k ∧ Hid (∀ m, m < k → passB out m = false)) (fun i => out.length - (intOf i).toNat)
            case atStart => exact ⟨0, by omega, rfl, (fun m hm => by omega)⟩
            case round =>
              obtain ⟨k, hk0, rfl, hN⟩ := hrel
              by_cases hk : k < out.length
              · have hp := qbeyond_any A' c' out k hk hol H7.rd
                have HP := Lib.hid hp
                clear hp
                cases hb2 : passB out k with
                | true =>
                  rw [hb2] at HP
                  have hT6 : T = ([], 5, pls.getD k 0) := by rw [HT5.out, firstP_some hk hb2 hN.out]
                  have hkp : k < pls.length := by rw [HLP.out]; exact hk
                  have hpk : pls[k]? = some (pls.getD k 0) := by simp [List.getD, hkp]
                  have hck : (pls.map IV)[k]? = some (IV (pls.getD k 0)) := by rw [List.getElem?_map, hpk]; rfl
                  obtain ⟨g2, hg2⟩ := H7.swap.row_some (by omega)
                  subst hg2
                  have hcell : wr.cell? ⟨g2, k, none⟩ = some (.int .i64 (pls.getD k 0)) := H7.swap.row_cell k hck
                  generalize pls.getD k 0 = pk at *
                  subst hT6
                  clear hpk hck HT5 hb2
                  go_wp2_with fail
                  refine HP.out.mono ?_
                  rintro ee _ ⟨rfl, rfl⟩
                  clear HP
                  go_wp2
                  have z30 : wr.cell? ⟨q3, 0, none⟩ = some (.int .i64 0) := (H7.pull 2).cell 0
                  have z31 : wr.cell? ⟨q3, 1, none⟩ = some (.int .i64 0) := (H7.pull 2).cell 1
                  have f30 := (H7.pull 2).frz 0
                  have f31 := (H7.pull 2).frz 1
                  go_region_law (fail)
                  all_goals
                    have HZ := (((H7.pull 2).setCell 0 (.int .i64 (5))).setCell 1 (.int .i64 (pk))).drew
                    generalize ((wr.setCell ⟨q3, 0, none⟩ (.int .i64 (5))).setCell ⟨q3, 1, none⟩ (.int .i64 (pk))).drew = wz at HZ ⊢
                    have y0 : wz.cell? ⟨q3, 0, none⟩ = some (.int .i64 (5)) := HZ.cell 0
                    have y1 : wz.cell? ⟨q3, 1, none⟩ = some (.int .i64 (pk)) := HZ.cell 1
                    go_wp2
                    refine bodyPost_ret (v := .tuple #[.slice none 0 0, .agg #[.int .i64 (5), .int .i64 (pk)]]) ?_ rfl ⟨none, 0, rfl, HZ.tail.tail.tail.nil _ _⟩
                    simp [results, Try.results30, go_sem, y0, y1]
                | false =>
                  rw [hb2] at HP
                  go_wp2_with fail
                  refine HP.out.mono ?_
                  rintro ee _ ⟨rfl, rfl⟩
                  clear HP
                  go_wp2
                  exact ⟨⟨k + 1, by omega, by go_num, fun m hm => by
                    rcases Nat.lt_or_ge m k with h | h
                    · exact hN.out m h
                    · obtain rfl : m = k := by omega
                      exact hb2⟩, by simp [intOf]; omega⟩
              · obtain rfl : k = out.length := by omega
                obtain rfl : T = (out, 0, 0) := by rw [HT5.out, firstP_none hN.out]
                clear HT5
                have z30 : wr.cell? ⟨q3, 0, none⟩ = some (.int .i64 0) := (H7.pull 2).cell 0
                have z31 : wr.cell? ⟨q3, 1, none⟩ = some (.int .i64 0) := (H7.pull 2).cell 1
                have f30 := (H7.pull 2).frz 0
                have f31 := (H7.pull 2).frz 1
                go_wp2
                all_goals
                  have HZ := (((H7.pull 2).setCell 0 (.int .i64 (0))).setCell 1 (.int .i64 (0)))
                  generalize ((wr.setCell ⟨q3, 0, none⟩ (.int .i64 (0))).setCell ⟨q3, 1, none⟩ (.int .i64 (0))) = wz at HZ ⊢
                  have y0 : wz.cell? ⟨q3, 0, none⟩ = some (.int .i64 (0)) := HZ.cell 0
                  have y1 : wz.cell? ⟨q3, 1, none⟩ = some (.int .i64 (0)) := HZ.cell 1
                  refine bodyPost_ret (v := .tuple #[.slice A' out.length c', .agg #[.int .i64 (0), .int .i64 (0)]]) ?_ rfl ⟨A', c', rfl, HZ.tail.swap.tail⟩
                  simp [results, Try.results30, go_sem, y0, y1]
    · have e0 : (tfe != 0) = true := by simpa using h0
      obtain rfl : T = ([], tfe, tfa) := by rw [HT2.out, if_pos h0]
      have hne : q3 ≠ r := (H3.pull 1).ne
      have hne' : r ≠ q3 := fun h => hne h.symm
      go_wp2
      have z30 : w2.cell? ⟨q3, 0, none⟩ = some (.int .i64 0) := (H3.pull 1).cell 0
      have z31 : w2.cell? ⟨q3, 1, none⟩ = some (.int .i64 0) := (H3.pull 1).cell 1
      have f30 := (H3.pull 1).frz 0
      have f31 := (H3.pull 1).frz 1
      go_region_law (fail)
      all_goals
        have HZ := (((H3.pull 1).setCell 0 (.int .i64 (tfe))).setCell 1 (.int .i64 (tfa))).drew
        generalize ((w2.setCell ⟨q3, 0, none⟩ (.int .i64 (tfe))).setCell ⟨q3, 1, none⟩ (.int .i64 (tfa))).drew = wz at HZ ⊢
        have y0 : wz.cell? ⟨q3, 0, none⟩ = some (.int .i64 (tfe)) := HZ.cell 0
        have y1 : wz.cell? ⟨q3, 1, none⟩ = some (.int .i64 (tfa)) := HZ.cell 1
        go_wp2
        refine bodyPost_ret (v := .tuple #[.slice none 0 0, .agg #[.int .i64 (tfe), .int .i64 (tfa)]]) ?_ rfl ⟨none, 0, rfl, HZ.tail.tail.nil _ _⟩
        simp [results, Try.results30, go_sem, y0, y1]
end Go.Proofs.Ytflcmhmbmippfaa

/- The laws' helpers on transactions: this fault, the chapter's examples. -/
namespace Go.Proofs.Ytflcmhmbmippfaa
open Go.RowKit Go.Rt

set_option maxRecDepth 100000 in
theorem phalt_any {W w : World} {L : List SL} (H : Sat W w L) : Calls Try.prog 38 #[] w fun e w' => e = .returned (.agg #[.int .i64 15, .int .i64 0, .int .i64 0, .int .i64 0, .int .i64 0, .string ⟨#[]⟩]) ∧ Sat W w' L := by
  go_enter Try.func38, Try.ntmps38
  go_wp2
  refine bodyPost_ret (v := .agg #[.int .i64 15, .int .i64 0, .int .i64 0, .int .i64 0, .int .i64 0, .string ⟨#[]⟩]) ?_ rfl ⟨rfl, H.alloc' _⟩
  simp [results, Try.results38, go_sem]
set_option maxRecDepth 100000 in
theorem pjump_any {W w : World} {L : List SL} (n : Int) (H : Sat W w L) : Calls Try.prog 40 #[.int .i64 n] w fun e w' => e = .returned (.agg #[.int .i64 13, .int .i64 0, .int .i64 0, .int .i64 0, .int .i64 n, .string ⟨#[]⟩]) ∧ Sat W w' L := by
  go_enter Try.func40, Try.ntmps40
  go_wp2
  refine bodyPost_ret (v := .agg #[.int .i64 13, .int .i64 0, .int .i64 0, .int .i64 0, .int .i64 n, .string ⟨#[]⟩]) ?_ rfl ⟨rfl, H.alloc' _⟩
  simp [results, Try.results40, go_sem]

set_option maxRecDepth 100000 in
set_option maxHeartbeats 4000000 in
theorem pfails_true {W w : World} {l : List SL} (A : Option Addr) (c : Nat) (bs : List UInt8) (hA : Bsl A bs.length c) (hr : RdL W l A (bs.map B)) (hb : bs.length ≤ 1000000000) (we wa : Int) (h : readP bs = ([], we, wa)) (H : Sat W w l) :
    Calls Try.prog 41 #[.slice A bs.length c, .agg #[.int .i64 we, .int .i64 wa]] w fun e w' => e = .returned (.bool true) ∧ Sat W w' l := by
  have hc := pRead_any (W := W) (w := w.alloc (.cells #[.int .i64 we, .int .i64 wa] 29)) (L := pt w.heap.size #[.int .i64 we, .int .i64 wa] 29 :: l) A c bs hA (RdL.tail hr) hb (H.alloc _ _)
  rw [h] at hc
  have HC := Lib.hid hc
  clear hc h
  go_enter Try.func41, Try.ntmps41
  go_wp2_with fail
  refine HC.out.mono ?_
  rintro e w1 ⟨A1, c1, hp, H1⟩
  obtain rfl : e = .returned (.tuple #[.slice A1 0 c1, .agg #[.int .i64 we, .int .i64 wa]]) := hp
  clear HC
  generalize w.heap.size = ff at H1 ⊢
  have f0 : w1.cell? ⟨ff, 0, none⟩ = some (.int .i64 we) := H1.swap.cell 0
  have f1 : w1.cell? ⟨ff, 1, none⟩ = some (.int .i64 wa) := H1.swap.cell 1
  have hlt := H1.swap.lt
  go_wp2
  go_ret
  exact ⟨rfl, H1.tail.tail.alloc' _⟩

set_option maxRecDepth 100000 in
set_option maxHeartbeats 4000000 in
theorem pawake_any {W w : World} {l : List SL} (H : Sat W w l) :
    Calls Try.prog 28 #[] w fun e w' => e = .returned (.bool true) ∧ Sat W w' l := by
  obtain ⟨iS, hiS, hS0, hS1, hS2⟩ := info_parts infoIns
  go_enter Try.func28, Try.ntmps28
  go_wp2_with fail
  refine (pjump_any 1 H).mono ?_
  rintro e w1 ⟨rfl, H1⟩
  clear H
  go_wp2_with fail
  refine (phalt_any H1).mono ?_
  rintro e w2 ⟨rfl, H2⟩
  clear H1
  have H3 : Sat W (w2.alloc (.cells #[.int .i64 13, .int .i64 0, .int .i64 0, .int .i64 0, .int .i64 1, .string ⟨#[]⟩, .int .i64 15, .int .i64 0, .int .i64 0, .int .i64 0, .int .i64 0, .string ⟨#[]⟩] 26)) (pt w2.heap.size (insC [⟨13, 0, 0, 0, 1, []⟩, ⟨15, 0, 0, 0, 0, []⟩]).toArray 26 :: l) := H2.alloc _ _
  go_wp2_with fail
  refine (pBytes_any (some ⟨w2.heap.size, 0, none⟩) 2 [⟨13, 0, 0, 0, 1, []⟩, ⟨15, 0, 0, 0, 0, []⟩] (by intro x hx; simp at hx; rcases hx with rfl | rfl <;> simp [maxLen]) (by simp [maxLen]) RdL.pt H3).mono ?_
  rintro e w4 ⟨A4, c4, rfl, H4⟩
  rw [show outP [⟨13, 0, 0, 0, 1, []⟩, ⟨15, 0, 0, 0, 0, []⟩] = [2, 13, 1, 15] from by kernel_rfl] at H4 ⊢
  rw [show (checkP [⟨13, 0, 0, 0, 1, []⟩, ⟨15, 0, 0, 0, 0, []⟩]).1 = 0 from by kernel_rfl]
  clear H3
  go_wp2_with fail
  refine (pjump_any 1 H4).mono ?_
  rintro e w5 ⟨rfl, H5⟩
  clear H4
  have H6 : Sat W (w5.alloc (.cells #[.int .i64 13, .int .i64 0, .int .i64 0, .int .i64 0, .int .i64 1, .string ⟨#[]⟩] 26)) (pt w5.heap.size (insC [⟨13, 0, 0, 0, 1, []⟩]).toArray 26 :: _) := H5.alloc _ _
  go_wp2_with fail
  refine (pBytes_any (some ⟨w5.heap.size, 0, none⟩) 1 [⟨13, 0, 0, 0, 1, []⟩] (by intro x hx; simp at hx; subst hx; simp [maxLen]) (by simp [maxLen]) RdL.pt H6).mono ?_
  rintro e w7 ⟨A7, c7, rfl, H7⟩
  rw [show outP [⟨13, 0, 0, 0, 1, []⟩] = [] from by kernel_rfl] at H7 ⊢
  rw [show (checkP [⟨13, 0, 0, 0, 1, []⟩]).1 = 5 from by kernel_rfl]
  clear H6
  have H8 : Sat W (w7.alloc (.cells (([2, 13, 1, 15] : List UInt8).map B).toArray 5)) _ := H7.alloc _ _
  go_wp2_with fail
  refine (same_any A4 (some ⟨w7.heap.size, 0, none⟩) c4 4 [2, 13, 1, 15] [2, 13, 1, 15] _ (H8.pull 3).rd (RdL.pt _ H8)).mono ?_
  rintro e _ ⟨rfl, rfl⟩
  have H9 : Sat W ((w7.alloc (.cells (([2, 13, 1, 15] : List UInt8).map B).toArray 5)).alloc (.cells (([1, 13, 1] : List UInt8).map B).toArray 5)) _ := H8.alloc _ _
  simp only [World.size_alloc] at H9
  go_wp2_with fail
  refine (pfails_true (some ⟨w7.heap.size + 1, 0, none⟩) 3 [1, 13, 1] ⟨by decide, by simp, by decide⟩ RdL.pt (by decide) 5 1 (by kernel_rfl) H9).mono ?_
  rintro e w10 ⟨rfl, H10⟩
  go_wp2
  go_ret
  exact ⟨rfl, H10.tail.tail.tail.tail.tail.tail⟩
end Go.Proofs.Ytflcmhmbmippfaa

/- Plain laws on transactions: a beginning of one, one behind another one. No program in sight. -/
namespace Go.Proofs.Ytflcmhmbmippfaa

theorem sev_small (n : Nat) (h : n < 128) : (sev n).length = 1 := sevF_one 8 n h
theorem insN_take (l : List Ins) (t k : Nat) (h : k < t) : insN (l.take t) k = insN l k := by
  unfold insN
  simp [List.getD, h]
theorem insN_left (l m : List Ins) (k : Nat) (h : k < l.length) : insN (l ++ m) k = insN l k := by
  unfold insN
  simp [List.getD, List.getElem?_append_left h]
theorem insN_right (l m : List Ins) (k : Nat) (h : l.length ≤ k) : insN (l ++ m) k = insN m (k - l.length) := by
  unfold insN
  simp [List.getD, List.getElem?_append_right h]
theorem insN_mem {l : List Ins} {k : Nat} (h : k < l.length) : insN l k ∈ l := by
  have : insN l k = l[k] := by simp [insN, List.getD, h]
  rw [this]; exact List.getElem_mem h
theorem progBytes_len (l : List Ins) (h : l.length < 128) : (progBytes l).length = 1 + (l.map fun i => (insBytes i).length).sum := by
  unfold progBytes
  rw [List.length_append, List.length_flatMap, sev_small _ h]
theorem sum_take (l : List Ins) (t : Nat) : ((l.take t).map fun i => (insBytes i).length).sum ≤ (l.map fun i => (insBytes i).length).sum := by
  have h : l.map (fun i => (insBytes i).length) = (l.take t).map (fun i => (insBytes i).length) ++ (l.drop t).map (fun i => (insBytes i).length) := by
    rw [← List.map_append, List.take_append_drop]
  rw [h, List.sum_append]; omega
/-- What comes of a beginning. -/
theorem take_law (l : List Ins) (t : Nat) (ht : t ≤ l.length) (h : (checkP l).1 = 0) :
    (checkP (l.take t) = (0, 0) ∧ (progBytes (l.take t)).length ≤ (progBytes l).length) ∨ ∃ k : Nat, k < t ∧ checkP (l.take t) = (5, (k : Int)) := by
  obtain ⟨g0, g1, g2, g3, _⟩ := checkP_fine h
  have hlt : (l.take t).length = t := by rw [List.length_take]; omega
  have hs := sum_take l t
  have hp1 := progBytes_len l (by omega)
  have hp2 := progBytes_len (l.take t) (by omega)
  have hm : ∀ x ∈ l.take t, mayB x = true := fun x hx => g1 x (List.mem_of_mem_take hx)
  cases hf : firstP (passB (l.take t)) (l.take t).length with
  | some k =>
    right
    refine ⟨k, by have := (firstP_is hf).1; omega, ?_⟩
    unfold checkP
    rw [if_neg (by omega), firstP_none (p := fun k => !mayB (insN (l.take t) k)) (fun k hk => by rw [hm _ (insN_mem hk)]; rfl)]
    dsimp only
    rw [hf]
  | none =>
    left
    exact ⟨checkP_ok (by omega) hm (firstP_no hf) (by omega), by omega⟩
/-- One behind another one may be, if there is room. -/
theorem append_law (l m : List Ins) (h : (checkP l).1 = 0) (h' : (checkP m).1 = 0) (hn : l.length + m.length ≤ 60) (hb : (progBytes l).length + (progBytes m).length ≤ 512) : checkP (l ++ m) = (0, 0) := by
  obtain ⟨g0, g1, g2, g3, _⟩ := checkP_fine h
  obtain ⟨k0, k1, k2, k3, _⟩ := checkP_fine h'
  refine checkP_ok (by rw [List.length_append]; exact hn) (fun x hx => ?_) (fun k hk => ?_) ?_
  · rcases List.mem_append.1 hx with h | h
    · exact g1 x h
    · exact k1 x h
  · rw [List.length_append] at hk
    by_cases hkl : k < l.length
    · have h1 := g2 k hkl
      unfold passB at h1 ⊢
      rw [insN_left l m k hkl, List.length_append]
      rw [Bool.and_eq_false_iff] at h1 ⊢
      rcases h1 with h1 | h1
      · exact .inl h1
      · right
        simp only [decide_eq_false_iff_not] at h1 ⊢
        omega
    · have h1 := k2 (k - l.length) (by omega)
      unfold passB at h1 ⊢
      rw [insN_right l m k (by omega), List.length_append]
      rw [Bool.and_eq_false_iff] at h1 ⊢
      rcases h1 with h1 | h1
      · exact .inl h1
      · right
        simp only [decide_eq_false_iff_not] at h1 ⊢
        omega
  · rw [progBytes_len (l ++ m) (by rw [List.length_append]; omega), List.map_append, List.sum_append]
    rw [progBytes_len l (by omega), progBytes_len m (by omega)] at hb
    omega
theorem sameP_app (l m : List Ins) : sameP l (l ++ m) = decide (m.length = 0) := by
  rw [Bool.eq_iff_iff, sameP_iff, decide_eq_true_eq]
  constructor
  · intro h
    have := congrArg List.length h
    rw [List.length_append] at this
    omega
  · intro h
    rw [List.eq_nil_of_length_eq_zero h, List.append_nil]
theorem insC_take (l : List Ins) (t : Nat) : insC (l.take t) = (insC l).take (t * 6) := by
  induction l generalizing t with
  | nil => simp [insC]
  | cons x l ih =>
    cases t with
    | zero => simp [insC]
    | succ t =>
      have e : insC (x :: l) = x.cs ++ insC l := rfl
      rw [List.take_succ_cons, show insC (x :: l.take t) = x.cs ++ insC (l.take t) from rfl, ih, e, List.take_append, List.take_of_length_le (show x.cs.length ≤ (t + 1) * 6 by show 6 ≤ _; omega)]
      congr 1
      rw [show (t + 1) * 6 - x.cs.length = t * 6 by show (t + 1) * 6 - 6 = _; omega]
end Go.Proofs.Ytflcmhmbmippfaa

/- A slice that came in, opened element by element. -/
namespace Go.Proofs.Ytflcmhmbmippfaa
open Go.ChangeShapes Go.WideShapes Go.RowKit Go.Rt Go.Deep
section
variable {H : Type} {enc : TypeId × Value → H} {w : World} {base : Nat} {spare : Nat → Bool} {held : Bool}
/-- Each element opened, so is the slice: what its cells are. -/
theorem open_list {α : Type} {tS tE : TypeId} (cs : α → List Value) (sz : Nat) (ok : α → Prop) (x0 : α) (wt : α → Nat) (ht : Try.prog.underlying tS = some (.slice tE)) (hc : Try.prog.cellsOf tE = sz) (hlen : ∀ x, ok x → (cs x).length = sz)
    (hel : ∀ {n : Nat} {c : List Value} {y : DataW H × List MemPlace}, DataW.trod enc Try.prog w base spare held n tE c = some y → ∃ x, ok x ∧ c = cs x ∧ wt x ∈ y.1.weights Try.prog tE)
    {fuel : Nat} {v : Value} {y : DataW H × List MemPlace} (h : DataW.trod enc Try.prog w base spare held fuel tS [v] = some y) :
    ∃ (A : Option Addr) (c : Nat) (ts : List α), v = .slice A ts.length c ∧ Bsl A ts.length c ∧ (∀ x ∈ ts, ok x) ∧ Rd w A (ts.flatMap cs) ∧ ∀ x ∈ ts, wt x ∈ y.1.weights Try.prog tS := by
  rcases open_slice ht h with ⟨h1, _⟩ | ⟨a, len, cap, m, n, D, Pl, h1, _, hl, hcap, hm, hy, hi⟩
  · exact ⟨none, 0, [], by simpa using h1, ⟨Nat.le_refl _, fun _ => rfl, by unfold maxLen; omega⟩, by simp, Rd.nil _ _, by simp⟩
  · have hlm : len ≤ m := by rw [hm]; split <;> omega
    have hx : ∀ i, ∃ x : α, i < len → ok x ∧ w.cells? base (a.add (i * sz)) sz = some (cs x) ∧ wt x ∈ (D i).weights Try.prog tE := fun i => by
      by_cases hil : i < len
      · obtain ⟨cs', hc', ht'⟩ := hi i (by omega)
        rw [hc] at hc'
        obtain ⟨x, h2, rfl, h4⟩ := hel ht'
        exact ⟨x, fun _ => ⟨h2, hc', h4⟩⟩
      · exact ⟨x0, fun h => absurd h hil⟩
    obtain ⟨f, hf⟩ := Classical.axiomOfChoice hx
    have hC : ∀ x ∈ (List.range len).map f, ok x := fun x hx => by
      simp only [List.mem_map, List.mem_range] at hx
      obtain ⟨i, hil, rfl⟩ := hx
      exact (hf i hil).1
    have hL : ((List.range len).map f).length = len := by simp
    refine ⟨some a, cap, (List.range len).map f, by rw [hL]; simpa using h1, ⟨by rw [hL]; exact hl, nofun, hcap⟩, hC, rd_of_cells a _ fun j u hu => ?_, fun x hx => ?_⟩
    rotate_left
    · simp only [List.mem_map, List.mem_range] at hx
      obtain ⟨i, hil, rfl⟩ := hx
      rw [hy]
      simp only [DataW.weights, ht]
      exact List.mem_cons_of_mem _ (List.mem_append_left _ (mem_weightsAll (List.mem_map.2 ⟨i, List.mem_range.2 hil, rfl⟩) (hf i hil).2.2))
    have hflen := flat_len cs sz ((List.range len).map f) fun x hx => hlen x (hC x hx)
    rw [hL] at hflen
    have hj : j < len * sz := by have := (List.getElem?_eq_some_iff.1 hu).1; omega
    have hsz : 0 < sz := by
      rcases Nat.eq_zero_or_pos sz with h | h
      · rw [h] at hj; omega
      · exact h
    have hq : j / sz < len := Nat.div_lt_of_lt_mul (by rw [Nat.mul_comm]; exact hj)
    have hr : j % sz < sz := Nat.mod_lt _ hsz
    have hd : j / sz * sz + j % sz = j := by rw [Nat.mul_comm]; exact Nat.div_add_mod j sz
    have hat := flat_at cs sz ((List.range len).map f) (fun x hx => hlen x (hC x hx)) (j / sz) (f (j / sz)) (by simp [hq])
    obtain ⟨_, _, hce⟩ := World.cells?_some (hf (j / sz) hq).2.1
    have h5 := hce (j % sz) hr
    have h6 : (cs (f (j / sz)))[j % sz]? = some u := by
      rw [← hat, List.getElem?_take, if_pos hr, List.getElem?_drop, hd, hu]
    rw [h6, add_add, hd] at h5
    exact h5
end
end Go.Proofs.Ytflcmhmbmippfaa

/- An instruction that came in, opened. -/
namespace Go.Proofs.Ytflcmhmbmippfaa
open Go.ChangeShapes Go.WideShapes Go.RowKit Go.Rt Go.Deep

section
variable {H : Type} {enc : TypeId × Value → H} {w : World} {base : Nat} {spare : Nat → Bool} {held : Bool}

set_option maxRecDepth 100000 in
theorem ins_of_trod {fuel : Nat} {cs : List Value} {y : DataW H × List MemPlace} (h : DataW.trod enc Try.prog w base spare held fuel 26 cs = some y) : ∃ x : Ins, x.s.length ≤ maxLen ∧ cs = x.cs := by
  have c6 : Try.prog.cellsOf 26 = 6 := by kernel_rfl
  have c3 : Try.prog.cellsOf 3 = 1 := by kernel_rfl
  have c9 : Try.prog.cellsOf 9 = 1 := by kernel_rfl
  obtain ⟨xs, n, rfl, hy, hlen, hxl, hf⟩ := DataW.trod_struct Try.underlying26 h
  rw [c6] at hlen
  match cs, hlen with
  | [a, b, c, d, e, f], _ =>
    match xs, hxl with
    | [y0, y1, y2, y3, y4, y5], _ =>
      have f0 : DataW.trod enc Try.prog w base spare held n 3 (([a, b, c, d, e, f].drop 0).take (Try.prog.cellsOf 3)) = some y0 := hf 0 _ rfl
      have f1 : DataW.trod enc Try.prog w base spare held n 3 (([a, b, c, d, e, f].drop 1).take (Try.prog.cellsOf 3)) = some y1 := hf 1 _ rfl
      have f2 : DataW.trod enc Try.prog w base spare held n 3 (([a, b, c, d, e, f].drop 2).take (Try.prog.cellsOf 3)) = some y2 := hf 2 _ rfl
      have f3 : DataW.trod enc Try.prog w base spare held n 3 (([a, b, c, d, e, f].drop 3).take (Try.prog.cellsOf 3)) = some y3 := hf 3 _ rfl
      have f4 : DataW.trod enc Try.prog w base spare held n 3 (([a, b, c, d, e, f].drop 4).take (Try.prog.cellsOf 3)) = some y4 := hf 4 _ rfl
      have f5 : DataW.trod enc Try.prog w base spare held n 9 (([a, b, c, d, e, f].drop 5).take (Try.prog.cellsOf 9)) = some y5 := hf 5 _ rfl
      rw [c3] at f0 f1 f2 f3 f4
      rw [c9] at f5
      obtain ⟨k0, e0, _, w0⟩ := DataW.trod_int Try.underlying3 f0
      obtain ⟨k1, e1, _, w1⟩ := DataW.trod_int Try.underlying3 f1
      obtain ⟨k2, e2, _, w2⟩ := DataW.trod_int Try.underlying3 f2
      obtain ⟨k3, e3, _, w3⟩ := DataW.trod_int Try.underlying3 f3
      obtain ⟨k4, e4, _, w4⟩ := DataW.trod_int Try.underlying3 f4
      obtain ⟨s, e5, z5, w5⟩ := DataW.trod_string Try.underlying9 f5
      simp at e0 e1 e2 e3 e4 e5
      refine ⟨⟨k0, k1, k2, k3, k4, s.data.toList⟩, ?_, by rw [e0, e1, e2, e3, e4, e5]; rfl⟩
      show s.data.toList.length ≤ maxLen
      rw [Array.length_toList]
      exact w5
end
end Go.Proofs.Ytflcmhmbmippfaa

/- A list of instructions that came in, opened. -/
namespace Go.Proofs.Ytflcmhmbmippfaa
open Go.ChangeShapes Go.WideShapes Go.RowKit Go.Rt Go.Deep

section
variable {H : Type} {enc : TypeId × Value → H} {w : World} {base : Nat} {spare : Nat → Bool} {held : Bool}

set_option maxRecDepth 100000 in
theorem ins_weighs {fuel : Nat} {cs : List Value} {y : DataW H × List MemPlace} (h : DataW.trod enc Try.prog w base spare held fuel 26 cs = some y) : ∃ x : Ins, True ∧ cs = x.cs ∧ x.s.length ∈ y.1.weights Try.prog 26 := by
  have c6 : Try.prog.cellsOf 26 = 6 := by kernel_rfl
  have c9 : Try.prog.cellsOf 9 = 1 := by kernel_rfl
  obtain ⟨x, _, hx⟩ := ins_of_trod h
  refine ⟨x, trivial, hx, ?_⟩
  obtain ⟨xs, n, rfl, hy, hlen, hxl, hf⟩ := DataW.trod_struct Try.underlying26 h
  subst hx
  match xs, hxl with
  | [y0, y1, y2, y3, y4, y5], _ =>
    have f5 : DataW.trod enc Try.prog w base spare held n 9 ((x.cs.drop 5).take (Try.prog.cellsOf 9)) = some y5 := hf 5 _ rfl
    rw [c9] at f5
    obtain ⟨s, e5, z5, _⟩ := DataW.trod_string Try.underlying9 f5
    have hs : s = ⟨x.s.toArray⟩ := by simp [Ins.cs] at e5; exact e5.symm
    subst hs
    rw [hy]
    show _ ∈ DataW.weights Try.prog 26 (.agg [y0.1, y1.1, y2.1, y3.1, y4.1, y5.1])
    rw [z5]
    simp [DataW.weights, DataW.weightsEach, Try.underlying26]

theorem open_insl {fuel : Nat} {v : Value} {y : DataW H × List MemPlace} (h : DataW.trod enc Try.prog w base spare held fuel 45 [v] = some y) :
    ∃ (A : Option Addr) (c : Nat) (ts : List Ins), v = .slice A ts.length c ∧ Bsl A ts.length c ∧ Rd w A (insC ts) ∧ ∀ x ∈ ts, x.s.length ∈ y.1.weights Try.prog 45 := by
  obtain ⟨A, c, ts, hv, hb, _, hr, hw⟩ := open_list Ins.cs 6 (fun _ => True) Ins.zero (fun x => x.s.length) Try.underlying45 (by kernel_rfl) (fun _ _ => rfl) ins_weighs h
  exact ⟨A, c, ts, hv, hb, hr, hw⟩
end
end Go.Proofs.Ytflcmhmbmippfaa
