/- Package word's reader: what is beneath its methods. -/
import Derived.Test.YtflcmhmbmippfaaWdD
import Derived.Test.YtflcmhmbmippfaaWdP
namespace Go.Proofs.Ytflcmhmbmippfaa
open Go.RowKit Go.Rt

/-- A reader: its block, its bytes, its place, its fault. -/
def rdr (p : Nat) (bs : List UInt8) (pl : Nat) (fe fa : Int) : SL := ex fun Ac : Option Addr × Nat =>
  sep (pt p #[.bool true, .slice Ac.1 bs.length Ac.2, .int .i64 fe, .int .i64 fa, .int .i64 pl] 105) (row 5 zB (.slice Ac.1 bs.length Ac.2) bs.length (bs.map B))
theorem rdr_open {W w : World} {l : List SL} {p : Nat} {bs : List UInt8} {pl : Nat} {fe fa : Int} (H : Sat W w (rdr p bs pl fe fa :: l)) :
    ∃ A c, Sat W w (pt p #[.bool true, .slice A bs.length c, .int .i64 fe, .int .i64 fa, .int .i64 pl] 105 :: row 5 zB (.slice A bs.length c) bs.length (bs.map B) :: l) :=
  let ⟨Ac, h⟩ := Sat.ex H; ⟨Ac.1, Ac.2, h.sep⟩
theorem rdr_shut {W w : World} {l : List SL} {p : Nat} {bs : List UInt8} {pl : Nat} {fe fa : Int} {A : Option Addr} {c : Nat}
    (H : Sat W w (pt p #[.bool true, .slice A bs.length c, .int .i64 fe, .int .i64 fa, .int .i64 pl] 105 :: row 5 zB (.slice A bs.length c) bs.length (bs.map B) :: l)) : Sat W w (rdr p bs pl fe fa :: l) :=
  Sat.unex (A := fun Ac : Option Addr × Nat => sep (pt p #[.bool true, .slice Ac.1 bs.length Ac.2, .int .i64 fe, .int .i64 fa, .int .i64 pl] 105) (row 5 zB (.slice Ac.1 bs.length Ac.2) bs.length (bs.map B))) (A, c) H.unsep

set_option maxRecDepth 100000 in
theorem open_any {W w : World} {l : List SL} (A : Option Addr) (c : Nat) (xs : List UInt8) (hx : RdL W l A (xs.map B)) (hb : xs.length ≤ 1000000000) (H : Sat W w l) :
    Calls Try.prog 42 #[.slice A xs.length c] w fun e w' => ∃ p, e = .returned (.pointer (some ⟨p, 0, none⟩)) ∧ Sat W w' (rdr p xs 0 0 0 :: l) := by
  obtain ⟨i0, hi, hz0, hz1, hz2⟩ := info_parts infoU8
  have hr : Rd w A (xs.map B) := hx _ H
  go_enter Try.func42, Try.ntmps42
  go_wp2_with (first
    | (at_builtin
       refine wpList_append_sl rfl (.tmp 3) (.tmp 4) 22 rfl 5 i0 (.int .u8 0) zB 1 Try.underlying22 hi hz0 rfl hz1 hz2 (by simp) zB_like _ 0 [] rfl (H.made #[] 5 zB 0 0 (by omega) (by unfold maxLen; omega) rfl (Typed.nil _)) A xs.length c (xs.map B) rfl (by simp) (hr.below ((Below.refl _ _).alloc (Nat.le_refl _) _)) (B_one xs) (Typed.bytes xs) (by unfold maxLen; omega) (by omega) ?_
       intro A2 c2 w2 H2))
  go_ret
  refine ⟨w2.heap.size, by simp, rdr_shut (A := A2) (c := c2) ?_⟩
  simpa using H2.alloc #[.bool true, .slice A2 xs.length c2, .int .i64 0, .int .i64 0, .int .i64 0] 105

/-- What is thrown where the bytes tell nothing. -/
def gone (e a : Int) : List PanicEntry := [{ v := .iface 124 (.agg #[.int .i64 e, .int .i64 a]), recovered := false }]

set_option maxRecDepth 100000 in
theorem some_short {W w : World} {l : List SL} {p : Nat} {bs : List UInt8} {pl : Nat} (n : Nat) (hp : pl ≤ bs.length) (hb : bs.length ≤ 1000000000) (hn : bs.length - pl < n) (H : Sat W w (rdr p bs pl 0 0 :: l)) :
    Calls Try.prog 80 #[.pointer (some ⟨p, 0, none⟩), .int .i64 n] w fun e w' => e = .panicked (gone 4 bs.length) ∧ Sat W w' (rdr p bs pl 0 0 :: l) := by
  obtain ⟨A, c, H1⟩ := rdr_open H
  have hc1 : w.cell? ⟨p, 1, none⟩ = some (.slice A bs.length c) := H1.cell 1
  have hc4 : w.cell? ⟨p, 4, none⟩ = some (.int .i64 pl) := H1.cell 4
  have hs1 : IntKind.i64.wrap ((bs.length : Int) - pl) = (bs.length : Int) - pl := IntWalk.i64_in _ (by omega)
  have hd : decide ((bs.length : Int) - pl < n) = true := by simp; omega
  go_enter Try.func80, Try.ntmps80
  go_wp2
  go_quiet (fail)
  go_wp2
  exact ⟨rfl, rfl, H.drewN _⟩

set_option maxRecDepth 100000 in
theorem some_fits {W w : World} {l : List SL} {p : Nat} {bs : List UInt8} {pl : Nat} (n : Nat) (hp : pl ≤ bs.length) (hb : bs.length ≤ 1000000000) (hn : n ≤ bs.length - pl) (H : Sat W w (rdr p bs pl 0 0 :: l)) :
    Calls Try.prog 80 #[.pointer (some ⟨p, 0, none⟩), .int .i64 n] w fun e w' => ∃ A c, e = .returned (.slice A n c) ∧ Sat W w' (rdr p bs (pl + n) 0 0 :: l) ∧ Rd w' A (((bs.drop pl).take n).map B) := by
  obtain ⟨A, c, H1⟩ := rdr_open H
  have hc1 : w.cell? ⟨p, 1, none⟩ = some (.slice A bs.length c) := H1.cell 1
  have hc4 : w.cell? ⟨p, 4, none⟩ = some (.int .i64 pl) := H1.cell 4
  have hf4 := H1.frz 4
  have hs1 : IntKind.i64.wrap ((bs.length : Int) - pl) = (bs.length : Int) - pl := IntWalk.i64_in _ (by omega)
  have hs2 : IntKind.i64.wrap ((pl : Int) + n) = (pl : Int) + n := IntWalk.i64_in _ (by omega)
  have hs3 : IntKind.i64.wrap ((pl : Int) + n - n) = (pl : Int) := by rw [Int.add_sub_cancel]; exact IntWalk.i64_in _ (by omega)
  have hd : decide ((bs.length : Int) - pl < n) = false := by simp; omega
  go_enter Try.func80, Try.ntmps80
  go_wp2
  obtain ⟨_, A0, c0, hv, hcl, hcm, hA0, hA1⟩ := (H1.swap).slice
  cases hv
  unfold maxLen at hcm
  go_quiet (fail)
  go_wp2
  have H2 := (H1.drewN nq).setCell 4 (.int .i64 ((pl : Int) + n))
  generalize (w.drewN nq).setCell ⟨p, 4, none⟩ (.int .i64 ((pl : Int) + n)) = wo at H2 ⊢
  clear hc1 hc4 hf4 hs2 hd
  have hc1 : wo.cell? ⟨p, 1, none⟩ = some (.slice A bs.length c) := H2.cell 1
  have hc4 : wo.cell? ⟨p, 4, none⟩ = some (.int .i64 ((pl : Int) + n)) := H2.cell 4
  have h0 : (0 : Int) ≤ (pl : Int) := by omega
  have h1 : (pl : Int) ≤ (pl : Int) + n := by omega
  have h2 : (pl : Int) + n ≤ (c : Int) := by omega
  have h3 : ((pl : Int) + n).toNat = pl + n := by omega
  cases A with
  | none =>
    obtain ⟨hc0, hl0⟩ := hA0 rfl
    obtain rfl : c = 0 := hc0
    obtain rfl : n = 0 := by omega
    obtain rfl : pl = 0 := by omega
    go_quiet (fail)
    go_wp2
    go_ret
    exact ⟨none, ⟨_, rfl⟩, rdr_shut (A := none) (c := 0) (by simpa using H2.drewN _), Rd.nil _ _⟩
  | some ad =>
    obtain ⟨e0, e1, _, _⟩ := hA1 ad rfl
    obtain ⟨g, off, sp⟩ := ad
    dsimp only at e0 e1
    subst e0 e1
    have hr : Rd wo (some ⟨g, 0, none⟩) (bs.map B) := H2.swap.rd
    by_cases hcp : c = pl
    · subst hcp
      obtain rfl : n = 0 := by omega
      clear hA0 hA1
      go_quiet (fail)
      go_wp2
      go_ret
      exact ⟨some ⟨g, 0, none⟩, ⟨_, rfl⟩, rdr_shut (A := some ⟨g, 0, none⟩) (c := c) (by simpa using H2.drewN nq), Rd.nil _ _⟩
    · clear hA0 hA1
      go_quiet (fail)
      go_wp2
      go_ret
      refine ⟨some ⟨g, pl, none⟩, ⟨_, rfl⟩, rdr_shut (A := some ⟨g, 0, none⟩) (c := c) (by simpa using H2.drewN nq), ?_⟩
      have := ((hr.drop pl).take n).drewN nq
      rwa [Nat.zero_add] at this

set_option maxRecDepth 100000 in
theorem number1_any (a b : Nat) (e : Int) (pl : Int) (w : World) (hc : w.cell? ⟨b, a, none⟩ = some (.int .i64 pl)) :
    Calls Try.prog 94 #[.int .i64 e, .pointer (some ⟨b, a, none⟩)] w fun e' w' => e' = .panicked (gone e pl) ∧ w = w' := by
  go_enter Try.func94, Try.ntmps94
  go_wp2
  exact ⟨rfl, rfl, rfl⟩

/-- What the bytes at a place say: a number and how many bytes it has, or why there is none. -/
inductive Dec where
  | ok (n k : Nat)
  | short
  | zero
  | long

def decF : Nat → List UInt8 → Nat → Nat → Dec
  | 0, _, _, _ => .long
  | _ + 1, [], _, _ => .short
  | f + 1, c :: r, j, acc =>
    if c.toNat < 128 then (if c.toNat = 0 ∧ 0 < j then .zero else .ok (acc + c.toNat * 128 ^ j) (j + 1))
    else if f = 0 then .long else decF f r (j + 1) (acc + (c.toNat % 128) * 128 ^ j)
def dec (bs : List UInt8) : Dec := decF 9 bs 0 0

/-- What a number asked for comes to: it and how many bytes it has, or a fault. -/
inductive Num where
  | ok (n k : Nat)
  | bad (e a : Int)
def numAt (bs : List UInt8) (pl : Nat) (low high above : Int) : Num :=
  match dec (bs.drop pl) with
  | .short => .bad 4 bs.length
  | .zero => .bad 4 pl
  | .long => .bad 5 pl
  | .ok n k => if (n : Int) < low then .bad 5 pl else if high < (n : Int) then .bad above pl else .ok n k

/-- What becomes of a number that is taken. -/
def NumPost (W : World) (l : List SL) (p : Nat) (bs : List UInt8) (pl : Nat) : Num → Ending → World → Prop
  | .ok n k, e, w' => e = .returned (.int .i64 n) ∧ Sat W w' (rdr p bs (pl + k) 0 0 :: l) ∧ pl + k ≤ bs.length
  | .bad fe fa, e, w' => e = .panicked (gone fe fa) ∧ ∃ pl', Sat W w' (rdr p bs pl' 0 0 :: l)

theorem decF_end (f j acc : Nat) : decF (f + 1) [] j acc = .short := rfl

set_option maxRecDepth 100000 in
set_option maxHeartbeats 1600000 in
theorem number_any {W w : World} {l : List SL} {p : Nat} {bs : List UInt8} {pl : Nat} (low high above : Int) (hp : pl ≤ bs.length) (hb : bs.length ≤ 1000000000) (H : Sat W w (rdr p bs pl 0 0 :: l)) :
    Calls Try.prog 78 #[.pointer (some ⟨p, 0, none⟩), .int .i64 low, .int .i64 high, .int .i64 above] w fun e w' => NumPost W l p bs pl (numAt bs pl low high above) e w' := by
  have hc4 : w.cell? ⟨p, 4, none⟩ = some (.int .i64 pl) := by obtain ⟨A, c, H⟩ := rdr_open H; exact H.cell 4
  have hmf : ∀ (fn : Fn) (first cap : Array Value) (w : World), (Instr.makeFunc fn first cap).run Try.prog w = .ok (.func fn first cap) w := fun _ _ _ _ => rfl
  go_enter Try.func78, Try.ntmps78
  go_wp2
  clear hmf hc4
  have H0 := H.alloc #[.int .i64 (pl : Int)] 3
  generalize w.heap.size = q at H0 ⊢
  go_loopw [10, 11] (fun x y wc => ∃ (j acc : Nat), x = .int .i64 acc ∧ y = .int .i64 j ∧ j ≤ 8 ∧ acc < 128 ^ j ∧ pl + j ≤ bs.length ∧ Hid (dec (bs.drop pl) = decF (9 - j) (bs.drop (pl + j)) j acc) ∧
      Sat W wc (pt q #[.int .i64 (pl : Int)] 3 :: rdr p bs (pl + j) 0 0 :: l)) (fun _ y _ => 9 - (intOf y).toNat)
  case atStart => exact ⟨0, 0, rfl, rfl, by omega, by omega, by omega, rfl, H0⟩
  case round =>
    obtain ⟨j, acc, rfl, rfl, hj, hacc, hpj, HS, H'⟩ := hrel
    clear H0
    by_cases hend : pl + j = bs.length
    · go_wp2_with (go_at_call 80; refine (some_short 1 hpj hb (by omega) H'.swap).mono ?_; rintro e w1 ⟨rfl, H1⟩)
      have hd : dec (bs.drop pl) = .short := by
        rw [HS.out, hend, List.drop_length, show 9 - j = (8 - j) + 1 by omega]; rfl
      refine ⟨rfl, ?_⟩
      simp only [numAt, hd]
      exact ⟨rfl, pl + j, (H1.swap).tail⟩
    · obtain ⟨b, hbj⟩ : ∃ b, bs[pl + j]? = some b := ⟨bs[pl + j]'(by omega), List.getElem?_eq_getElem _⟩
      have hdrop : bs.drop (pl + j) = b :: bs.drop (pl + (j + 1)) := by
        obtain ⟨h1, h2⟩ := List.getElem?_eq_some_iff.1 hbj
        rw [List.drop_eq_getElem_cons h1, h2]; rfl
      have HD := Lib.hid hdrop
      clear hdrop hbj
      have hlt := b.toNat_lt
      by_cases h128 : (b.toNat : Int) < 128
      · by_cases h0 : b.toNat = 0 ∧ 0 < j
        · obtain ⟨h00, hj0⟩ := h0
          have hz1 : ((b.toNat : Int) == 0) = true := by simp [h00]
          have hz2 : decide (1 < (j : Int) + 1) = true := by simp; omega
          have hd : Hid (dec (bs.drop pl) = .zero) := by
            show _ = _
            rw [HS.out, HD.out, show 9 - j = (8 - j) + 1 by omega]; simp only [decF]
            rw [if_pos (by omega), if_pos ⟨h00, hj0⟩]
          clear h00
          go_wp2_with (first
            | (go_at_call 80; refine (some_fits 1 hpj hb (by omega) H'.swap).mono ?_; rintro e w1 ⟨A, c, rfl, H1, hr⟩; rw [HD.out] at hr; obtain ⟨g, o, rfl⟩ := hr.open (by simp); have hcb : w1.cell? ⟨g, o, none⟩ = some (.int .u8 (b.toNat : Int)) := hr.at 0 rfl; have hcq : w1.cell? ⟨q, 0, none⟩ = some (.int .i64 (pl : Int)) := H1.swap.cell 0)
            | (go_at_call 94; refine (number1_any 0 q 4 pl _ hcq).mono ?_; rintro e w2 ⟨rfl, rfl⟩))
          refine ⟨rfl, ?_⟩
          simp only [numAt, hd.out]
          exact ⟨rfl, pl + j + 1, H1.swap.tail⟩
        · have hN := acc_step acc b j hj hacc
          have hd : Hid (dec (bs.drop pl) = .ok (acc + (b.toNat % 128) * 128 ^ j) (j + 1)) := by
            show _ = _
            rw [HS.out, HD.out, show 9 - j = (8 - j) + 1 by omega]; simp only [decF]
            rw [if_pos (by omega), if_neg h0, Nat.mod_eq_of_lt (show b.toNat < 128 by omega)]
          generalize acc + (b.toNat % 128) * 128 ^ j = N at hN hd
          have hbz : (((b.toNat : Int) == 0) = true ∧ decide (1 < (j : Int) + 1) = false) ∨ (((b.toNat : Int) == 0) = false ∧ (0 : Int) < 1) := by
            by_cases e : b.toNat = 0
            · exact .inl ⟨by simp [e], by simp; omega⟩
            · exact .inr ⟨by simp [e], by omega⟩
          clear h0
          by_cases hl : (N : Int) < low
          · have hln : Hid (numAt bs pl low high above = .bad 5 pl) := by show _ = _; simp only [numAt, hd.out]; rw [if_pos hl]
            rcases hbz with ⟨hz1, hz2⟩ | ⟨hz1, hz2⟩
            all_goals
              go_wp2_with (first
                | (go_at_call 80; refine (some_fits 1 hpj hb (by omega) H'.swap).mono ?_; rintro e w1 ⟨A, c, rfl, H1, hr⟩; rw [HD.out] at hr; obtain ⟨g, o, rfl⟩ := hr.open (by simp); have hcb : w1.cell? ⟨g, o, none⟩ = some (.int .u8 (b.toNat : Int)) := hr.at 0 rfl; have hcq : w1.cell? ⟨q, 0, none⟩ = some (.int .i64 (pl : Int)) := H1.swap.cell 0)
                | (go_at_call 94; refine (number1_any 0 q 5 pl _ hcq).mono ?_; rintro e w2 ⟨rfl, rfl⟩))
              refine ⟨rfl, ?_⟩
              rw [hln.out]
              exact ⟨rfl, pl + j + 1, H1.swap.tail⟩
          · by_cases hh : high < (N : Int)
            · have hln : Hid (numAt bs pl low high above = .bad above pl) := by show _ = _; simp only [numAt, hd.out]; rw [if_neg hl, if_pos hh]
              rcases hbz with ⟨hz1, hz2⟩ | ⟨hz1, hz2⟩
              all_goals
                go_wp2_with (first
                  | (go_at_call 80; refine (some_fits 1 hpj hb (by omega) H'.swap).mono ?_; rintro e w1 ⟨A, c, rfl, H1, hr⟩; rw [HD.out] at hr; obtain ⟨g, o, rfl⟩ := hr.open (by simp); have hcb : w1.cell? ⟨g, o, none⟩ = some (.int .u8 (b.toNat : Int)) := hr.at 0 rfl; have hcq : w1.cell? ⟨q, 0, none⟩ = some (.int .i64 (pl : Int)) := H1.swap.cell 0)
                  | (go_at_call 94; refine (number1_any 0 q above pl _ hcq).mono ?_; rintro e w2 ⟨rfl, rfl⟩))
                refine ⟨rfl, ?_⟩
                rw [hln.out]
                exact ⟨rfl, pl + j + 1, H1.swap.tail⟩
            · have hln : Hid (numAt bs pl low high above = .ok N (j + 1)) := by show _ = _; simp only [numAt, hd.out]; rw [if_neg hl, if_neg hh]
              rcases hbz with ⟨hz1, hz2⟩ | ⟨hz1, hz2⟩
              all_goals
                go_wp2_with (go_at_call 80; refine (some_fits 1 hpj hb (by omega) H'.swap).mono ?_; rintro e w1 ⟨A, c, rfl, H1, hr⟩; rw [HD.out] at hr; obtain ⟨g, o, rfl⟩ := hr.open (by simp); have hcb : w1.cell? ⟨g, o, none⟩ = some (.int .u8 (b.toNat : Int)) := hr.at 0 rfl; have hcq : w1.cell? ⟨q, 0, none⟩ = some (.int .i64 (pl : Int)) := H1.swap.cell 0)
                go_ret
                rw [hln.out]
                exact ⟨rfl, H1.swap.tail, by omega⟩
      · by_cases h8 : j = 8
        · subst h8
          go_wp2_with (first
            | (go_at_call 80; refine (some_fits 1 hpj hb (by omega) H'.swap).mono ?_; rintro e w1 ⟨A, c, rfl, H1, hr⟩; rw [HD.out] at hr; obtain ⟨g, o, rfl⟩ := hr.open (by simp); have hcb : w1.cell? ⟨g, o, none⟩ = some (.int .u8 (b.toNat : Int)) := hr.at 0 rfl; have hcq : w1.cell? ⟨q, 0, none⟩ = some (.int .i64 (pl : Int)) := H1.swap.cell 0)
            | (go_at_call 94; refine (number1_any 0 q 5 pl _ hcq).mono ?_; rintro e w2 ⟨rfl, rfl⟩))
          have hd : dec (bs.drop pl) = .long := by
            rw [HS.out, HD.out]; simp only [decF]
            rw [if_neg (by omega)]; simp
          refine ⟨rfl, ?_⟩
          simp only [numAt, hd]
          exact ⟨rfl, pl + 8 + 1, H1.swap.tail⟩
        · have h9 : ((j : Int) + 1 == 9) = false := by simp; omega
          go_wp2_with (go_at_call 80; refine (some_fits 1 hpj hb (by omega) H'.swap).mono ?_; rintro e w1 ⟨A, c, rfl, H1, hr⟩; rw [HD.out] at hr; obtain ⟨g, o, rfl⟩ := hr.open (by simp); have hcb : w1.cell? ⟨g, o, none⟩ = some (.int .u8 (b.toNat : Int)) := hr.at 0 rfl; have hcq : w1.cell? ⟨q, 0, none⟩ = some (.int .i64 (pl : Int)) := H1.swap.cell 0)
          refine ⟨⟨j + 1, acc + (b.toNat % 128) * 128 ^ j, ?_, by go_num, by omega, ?_, by omega, ?_, ?_⟩, by simp [intOf]; omega⟩
          · rw [acc_step acc b j hj hacc]
          · exact acc_lt acc _ j hacc (Nat.mod_lt _ (by omega))
          · show _ = _
            rw [HS.out, HD.out, show 9 - j = (8 - j) + 1 by omega]; simp only [decF]
            rw [if_neg (by omega), if_neg (by omega), show 8 - j = 9 - (j + 1) by omega]
          · exact H1.swap
end Go.Proofs.Ytflcmhmbmippfaa
