/- A pack of texts: WdD, WdE, WeQ -/
import Derived.Test.YtodbmeklbamcfaaGreatPkKnownQ
import Derived.Test.YtodbmeklbamcfaaGreatPkKnownE
import Derived.Deep.RegionHeld3
/- Bytes that are lent, and held against what they were. -/
namespace Go.Proofs.YtodbmeklbamcfaaGreat
open Go.RowKit Go.Rt

/-- What a copy with marks behind it is. -/
def lent (bs : List UInt8) : List UInt8 := bs ++ [UInt8.ofNat (160 + bs.length % 90), UInt8.ofNat (160 + (bs.length + 1) % 90), UInt8.ofNat (160 + (bs.length + 2) % 90)]
def lentF (bs : List UInt8) (k : Nat) : List Value := bs.map B ++ (List.range 3).map fun j => if j < k then B (UInt8.ofNat (160 + (bs.length + j) % 90)) else .int .u8 0
theorem zeros_bytes (n : Nat) : (Builtin.zeroCells zB.toArray n).toList = List.replicate n (.int .u8 0) := by
  simp [Builtin.zeroCells, Nat.mod_one]
  induction n with
  | zero => rfl
  | succ n ih => rw [List.range_succ, List.map_append, ih, List.replicate_succ']; rfl
theorem lentF_end (bs : List UInt8) : lentF bs 3 = (lent bs).map B := by simp [lentF, lent, List.range_succ]
theorem lentF_len (bs : List UInt8) (k : Nat) : (lentF bs k).length = bs.length + 3 := by simp [lentF]
theorem lentF_step (bs : List UInt8) (k : Nat) (hk : k < 3) : (lentF bs k).set (bs.length + k) (B (UInt8.ofNat (160 + (bs.length + k) % 90))) = lentF bs (k + 1) := by
  unfold lentF
  rw [List.set_append_right _ _ (by simp)]
  congr 1
  have : k = 0 ∨ k = 1 ∨ k = 2 := by omega
  rcases this with rfl | rfl | rfl <;> simp [List.range_succ]
theorem lentF_at (bs : List UInt8) (k : Nat) (hk : k < 3) : (lentF bs k)[bs.length + k]? = some (.int .u8 0) := by
  unfold lentF
  rw [List.getElem?_append_right (by simp)]
  have : k = 0 ∨ k = 1 ∨ k = 2 := by omega
  rcases this with rfl | rfl | rfl <;> simp [List.range_succ]

theorem lent_mark (bs : List UInt8) (j : Nat) : Value.int .u8 (160 + ((bs.length : Int) + j) % 90) = B (UInt8.ofNat (160 + (bs.length + j) % 90)) := by
  unfold B
  rw [UInt8.toNat_ofNat']
  congr 1
  omega

set_option maxRecDepth 100000 in
theorem lent_any {W w : World} {l : List SL} (A : Option Addr) (c : Nat) (xs : List UInt8) (hx : RdL W l A (xs.map B)) (hb : xs.length ≤ 1000000000) (H : Sat W w l) :
    Calls Tryz.prog 30 #[.slice A xs.length c] w fun e w' => ∃ g, e = .returned (.slice (some ⟨g, 0, none⟩) xs.length (xs.length + 3)) ∧ Sat W w' (row 5 zB (.slice (some ⟨g, 0, none⟩) (xs.length + 3) (xs.length + 3)) (xs.length + 3) ((lent xs).map B) :: l) := by
  obtain ⟨i0, hi, hz0, hz1, hz2⟩ := info_parts infoU8
  go_enter Tryz.func30, Tryz.ntmps30
  go_wp2_with (first
    | (at_make
       refine wpList_make_sl rfl (.tmp 7) (.tmp 7) 30 rfl 5 i0 (.int .u8 0) zB Tryz.underlying30 hi hz0 rfl hz1 zB_like .i64 .i64 _ _ (xs.length + 3) (xs.length + 3) rfl rfl (by omega) (by omega) (Nat.le_refl _) (by rw [hz2]; omega) (by unfold maxLen; omega) H ?_
       intro w1 H1)
    | (refine wpList_copy_sl rfl (.tmp 9) (.tmp 10) 30 30 rfl 5 i0 zB Tryz.underlying30 hi hz1 w.heap.size (xs.length + 3) (xs.length + 3) _ rfl H1 A xs.length c (xs.map B) rfl (by simp) (hx _ H1.tail) (B_one xs) (Typed.bytes xs) (by omega) ?_
       intro w2 H2))
  have e0 : xs.map B ++ (Builtin.zeroCells zB.toArray (xs.length + 3)).toList.drop (xs.length * zB.length) = lentF xs 0 := by
    rw [zeros_bytes, List.drop_replicate, List.length_singleton, Nat.mul_one, Nat.add_sub_cancel_left]; rfl
  rw [e0] at H2
  clear e0 H1
  generalize w.heap.size = g at H2 ⊢
  go_loopw [4] (fun i wc => ∃ (j : Nat), j ≤ 3 ∧ i = .int .i64 ((xs.length + j : Nat) : Int) ∧ Sat W wc (row 5 zB (.slice (some ⟨g, 0, none⟩) (xs.length + 3) (xs.length + 3)) (xs.length + 3) (lentF xs j) :: l)) (fun i _ => xs.length + 3 - (intOf i).toNat)
  case atStart => exact ⟨0, by omega, rfl, H2⟩
  case round =>
    obtain ⟨j, hj, rfl, H'⟩ := hrel
    clear H2
    by_cases hlt : j < 3
    · have hc := H'.row_cell (xs.length + j) (lentF_at xs j hlt)
      have hf := H'.row_frz (xs.length + j)
      go_wp2
      refine ⟨⟨j + 1, by omega, by go_num, ?_⟩, by simp [intOf]; omega⟩
      rw [lent_mark xs j, ← lentF_step xs j hlt]
      exact H'.row_set _ _ (zB_at _ _)
    · have ej : j = 3 := by omega
      subst ej
      go_wp2
      go_ret
      refine ⟨g, by simp, ?_⟩
      rw [← lentF_end]
      exact H'

set_option maxRecDepth 100000 in
theorem kept_any {W w : World} {l : List SL} (A A' : Option Addr) (c' : Nat) (zs ys : List UInt8) (hz : RdL W l A (zs.map B)) (hy : RdL W l A' (ys.map B)) (hzl : ys.length ≤ zs.length) (hb : zs.length ≤ 1000000000) (H : Sat W w l) :
    Calls Tryz.prog 33 #[.slice A ys.length zs.length, .slice A' ys.length c'] w fun e w' => e = .returned (.bool (zs == lent ys)) ∧ Sat W w' l := by
  have hs : zs.length ≤ 1000000000 := hb
  go_enter Tryz.func33, Tryz.ntmps33
  go_wp2
  have hsum : IntKind.i64.wrap ((ys.length : Int) + 3) = (ys.length : Int) + 3 := IntWalk.i64_in _ (by omega)
  have hsum0 : (0 : Int) ≤ (ys.length : Int) + 3 := by omega
  have hsumN : ((ys.length : Int) + 3).toNat = ys.length + 3 := by omega
  go_region_held3 (fun _ => True) (exact trivial) (first
    | (go_at_call 30; refine (lent_any A' c' ys hy (by omega) H.drew).mono ?_
       rintro e w1 ⟨g, rfl, H1⟩
       have hll : Hid (ys.length + 3 = (lent ys).length) := by show _ = _; simp [lent]
       have h2 : Rd w1 (some ⟨g, 0, none⟩) ((lent ys).map B) := H1.rd
       have h1 : Rd w1 A (zs.map B) := hz _ H1.tail)
    | (go_at_call 19; rw [hll.out]; refine (same_any A (some ⟨g, 0, none⟩) zs.length (lent ys).length zs (lent ys) _ h1 h2).mono ?_
       rintro e w2 ⟨rfl, rfl⟩))
  go_wp2
  go_ret
  exact ⟨rfl, H1.tail⟩
end Go.Proofs.YtodbmeklbamcfaaGreat

/- Package word's reader: what is beneath its methods. -/
namespace Go.Proofs.YtodbmeklbamcfaaGreat
open Go.RowKit Go.Rt

/-- A reader: its block, its bytes, its place, its fault. -/
def rdr (p : Nat) (bs : List UInt8) (pl : Nat) (fe fa : Int) : SL := ex fun Ac : Option Addr × Nat =>
  sep (pt p #[.bool true, .slice Ac.1 bs.length Ac.2, .int .i64 fe, .int .i64 fa, .int .i64 pl] 160) (row 5 zB (.slice Ac.1 bs.length Ac.2) bs.length (bs.map B))
theorem rdr_open {W w : World} {l : List SL} {p : Nat} {bs : List UInt8} {pl : Nat} {fe fa : Int} (H : Sat W w (rdr p bs pl fe fa :: l)) :
    ∃ A c, Sat W w (pt p #[.bool true, .slice A bs.length c, .int .i64 fe, .int .i64 fa, .int .i64 pl] 160 :: row 5 zB (.slice A bs.length c) bs.length (bs.map B) :: l) :=
  let ⟨Ac, h⟩ := Sat.ex H; ⟨Ac.1, Ac.2, h.sep⟩
theorem rdr_shut {W w : World} {l : List SL} {p : Nat} {bs : List UInt8} {pl : Nat} {fe fa : Int} {A : Option Addr} {c : Nat}
    (H : Sat W w (pt p #[.bool true, .slice A bs.length c, .int .i64 fe, .int .i64 fa, .int .i64 pl] 160 :: row 5 zB (.slice A bs.length c) bs.length (bs.map B) :: l)) : Sat W w (rdr p bs pl fe fa :: l) :=
  Sat.unex (A := fun Ac : Option Addr × Nat => sep (pt p #[.bool true, .slice Ac.1 bs.length Ac.2, .int .i64 fe, .int .i64 fa, .int .i64 pl] 160) (row 5 zB (.slice Ac.1 bs.length Ac.2) bs.length (bs.map B))) (A, c) H.unsep

set_option maxRecDepth 100000 in
theorem open_any {W w : World} {l : List SL} (A : Option Addr) (c : Nat) (xs : List UInt8) (hx : RdL W l A (xs.map B)) (hb : xs.length ≤ 1000000000) (H : Sat W w l) :
    Calls Tryz.prog 83 #[.slice A xs.length c] w fun e w' => ∃ p, e = .returned (.pointer (some ⟨p, 0, none⟩)) ∧ Sat W w' (rdr p xs 0 0 0 :: l) := by
  obtain ⟨i0, hi, hz0, hz1, hz2⟩ := info_parts infoU8
  have hr : Rd w A (xs.map B) := hx _ H
  go_enter Tryz.func83, Tryz.ntmps83
  go_wp2_with (first
    | (at_builtin
       refine wpList_append_sl rfl (.tmp 3) (.tmp 4) 30 rfl 5 i0 (.int .u8 0) zB 1 Tryz.underlying30 hi hz0 rfl hz1 hz2 (by simp) zB_like _ 0 [] rfl (H.made #[] 5 zB 0 0 (by omega) (by unfold maxLen; omega) rfl (Typed.nil _)) A xs.length c (xs.map B) rfl (by simp) (hr.below ((Below.refl _ _).alloc (Nat.le_refl _) _)) (B_one xs) (Typed.bytes xs) (by unfold maxLen; omega) (by omega) ?_
       intro A2 c2 w2 H2))
  go_ret
  refine ⟨w2.heap.size, by simp, rdr_shut (A := A2) (c := c2) ?_⟩
  simpa using H2.alloc #[.bool true, .slice A2 xs.length c2, .int .i64 0, .int .i64 0, .int .i64 0] 160

/-- What is thrown where the bytes tell nothing. -/
def gone (e a : Int) : List PanicEntry := [{ v := .iface 200 (.agg #[.int .i64 e, .int .i64 a]), recovered := false }]

set_option maxRecDepth 100000 in
theorem some_short {W w : World} {l : List SL} {p : Nat} {bs : List UInt8} {pl : Nat} (n : Nat) (hp : pl ≤ bs.length) (hb : bs.length ≤ 1000000000) (hn : bs.length - pl < n) (H : Sat W w (rdr p bs pl 0 0 :: l)) :
    Calls Tryz.prog 167 #[.pointer (some ⟨p, 0, none⟩), .int .i64 n] w fun e w' => e = .panicked (gone 4 bs.length) ∧ Sat W w' (rdr p bs pl 0 0 :: l) := by
  obtain ⟨A, c, H1⟩ := rdr_open H
  have hc1 : w.cell? ⟨p, 1, none⟩ = some (.slice A bs.length c) := H1.cell 1
  have hc4 : w.cell? ⟨p, 4, none⟩ = some (.int .i64 pl) := H1.cell 4
  have hs1 : IntKind.i64.wrap ((bs.length : Int) - pl) = (bs.length : Int) - pl := IntWalk.i64_in _ (by omega)
  have hd : decide ((bs.length : Int) - pl < n) = true := by simp; omega
  go_enter Tryz.func167, Tryz.ntmps167
  go_wp2
  go_quiet (fail)
  go_wp2
  exact ⟨rfl, rfl, H.drewN _⟩

set_option maxRecDepth 100000 in
theorem some_fits {W w : World} {l : List SL} {p : Nat} {bs : List UInt8} {pl : Nat} (n : Nat) (hp : pl ≤ bs.length) (hb : bs.length ≤ 1000000000) (hn : n ≤ bs.length - pl) (H : Sat W w (rdr p bs pl 0 0 :: l)) :
    Calls Tryz.prog 167 #[.pointer (some ⟨p, 0, none⟩), .int .i64 n] w fun e w' => ∃ A c, e = .returned (.slice A n c) ∧ Sat W w' (rdr p bs (pl + n) 0 0 :: l) ∧ Rd w' A (((bs.drop pl).take n).map B) := by
  obtain ⟨A, c, H1⟩ := rdr_open H
  have hc1 : w.cell? ⟨p, 1, none⟩ = some (.slice A bs.length c) := H1.cell 1
  have hc4 : w.cell? ⟨p, 4, none⟩ = some (.int .i64 pl) := H1.cell 4
  have hf4 := H1.frz 4
  have hs1 : IntKind.i64.wrap ((bs.length : Int) - pl) = (bs.length : Int) - pl := IntWalk.i64_in _ (by omega)
  have hs2 : IntKind.i64.wrap ((pl : Int) + n) = (pl : Int) + n := IntWalk.i64_in _ (by omega)
  have hs3 : IntKind.i64.wrap ((pl : Int) + n - n) = (pl : Int) := by rw [Int.add_sub_cancel]; exact IntWalk.i64_in _ (by omega)
  have hd : decide ((bs.length : Int) - pl < n) = false := by simp; omega
  go_enter Tryz.func167, Tryz.ntmps167
  go_wp2
  obtain ⟨_, A0, c0, hv, hcl, hcm, hA0, hA1⟩ := (H1.swap).slice
  cases hv
  unfold maxLen at hcm
  go_quiet (fail)
  go_wp2
  have H2 := (H1.drewN nq).setCell 4 (.int .i64 ((pl : Int) + n))
  generalize (w.drewN nq).setCell ⟨p, 4, none⟩ (.int .i64 ((pl : Int) + n)) = wo at H2 ⊢
  clear hc1 hc4 hf4 hs2 hd
  have hc1 : wo.cell? ⟨p, 1, none⟩ = some (.slice A bs.length c) := H2.cell 1
  have hc4 : wo.cell? ⟨p, 4, none⟩ = some (.int .i64 ((pl : Int) + n)) := H2.cell 4
  have h0 : (0 : Int) ≤ (pl : Int) := by omega
  have h1 : (pl : Int) ≤ (pl : Int) + n := by omega
  have h2 : (pl : Int) + n ≤ (c : Int) := by omega
  have h3 : ((pl : Int) + n).toNat = pl + n := by omega
  cases A with
  | none =>
    obtain ⟨hc0, hl0⟩ := hA0 rfl
    obtain rfl : c = 0 := hc0
    obtain rfl : n = 0 := by omega
    obtain rfl : pl = 0 := by omega
    go_quiet (fail)
    go_wp2
    go_ret
    exact ⟨none, ⟨_, rfl⟩, rdr_shut (A := none) (c := 0) (by simpa using H2.drewN _), Rd.nil _ _⟩
  | some ad =>
    obtain ⟨e0, e1, _, _⟩ := hA1 ad rfl
    obtain ⟨g, off, sp⟩ := ad
    dsimp only at e0 e1
    subst e0 e1
    have hr : Rd wo (some ⟨g, 0, none⟩) (bs.map B) := H2.swap.rd
    by_cases hcp : c = pl
    · subst hcp
      obtain rfl : n = 0 := by omega
      clear hA0 hA1
      go_quiet (fail)
      go_wp2
      go_ret
      exact ⟨some ⟨g, 0, none⟩, ⟨_, rfl⟩, rdr_shut (A := some ⟨g, 0, none⟩) (c := c) (by simpa using H2.drewN nq), Rd.nil _ _⟩
    · clear hA0 hA1
      go_quiet (fail)
      go_wp2
      go_ret
      refine ⟨some ⟨g, pl, none⟩, ⟨_, rfl⟩, rdr_shut (A := some ⟨g, 0, none⟩) (c := c) (by simpa using H2.drewN nq), ?_⟩
      have := ((hr.drop pl).take n).drewN nq
      rwa [Nat.zero_add] at this

set_option maxRecDepth 100000 in
theorem number1_any (a b : Nat) (e : Int) (pl : Int) (w : World) (hc : w.cell? ⟨b, a, none⟩ = some (.int .i64 pl)) :
    Calls Tryz.prog 166 #[.int .i64 e, .pointer (some ⟨b, a, none⟩)] w fun e' w' => e' = .panicked (gone e pl) ∧ w = w' := by
  go_enter Tryz.func166, Tryz.ntmps166
  go_wp2
  exact ⟨rfl, rfl, rfl⟩

/-- What the bytes at a place say: a number and how many bytes it has, or why there is none. -/
inductive Dec where
  | ok (n k : Nat)
  | short
  | zero
  | long

def decF : Nat → List UInt8 → Nat → Nat → Dec
  | 0, _, _, _ => .long
  | _ + 1, [], _, _ => .short
  | f + 1, c :: r, j, acc =>
    if c.toNat < 128 then (if c.toNat = 0 ∧ 0 < j then .zero else .ok (acc + c.toNat * 128 ^ j) (j + 1))
    else if f = 0 then .long else decF f r (j + 1) (acc + (c.toNat % 128) * 128 ^ j)
def dec (bs : List UInt8) : Dec := decF 9 bs 0 0

/-- What a number asked for comes to: it and how many bytes it has, or a fault. -/
inductive Num where
  | ok (n k : Nat)
  | bad (e a : Int)
def numAt (bs : List UInt8) (pl : Nat) (low high above : Int) : Num :=
  match dec (bs.drop pl) with
  | .short => .bad 4 bs.length
  | .zero => .bad 4 pl
  | .long => .bad 5 pl
  | .ok n k => if (n : Int) < low then .bad 5 pl else if high < (n : Int) then .bad above pl else .ok n k

/-- What becomes of a number that is taken. -/
def NumPost (W : World) (l : List SL) (p : Nat) (bs : List UInt8) (pl : Nat) : Num → Ending → World → Prop
  | .ok n k, e, w' => e = .returned (.int .i64 n) ∧ Sat W w' (rdr p bs (pl + k) 0 0 :: l) ∧ pl + k ≤ bs.length
  | .bad fe fa, e, w' => e = .panicked (gone fe fa) ∧ ∃ pl', Sat W w' (rdr p bs pl' 0 0 :: l)

theorem decF_end (f j acc : Nat) : decF (f + 1) [] j acc = .short := rfl

set_option maxRecDepth 100000 in
set_option maxHeartbeats 1600000 in
theorem number_any {W w : World} {l : List SL} {p : Nat} {bs : List UInt8} {pl : Nat} (low high above : Int) (hp : pl ≤ bs.length) (hb : bs.length ≤ 1000000000) (H : Sat W w (rdr p bs pl 0 0 :: l)) :
    Calls Tryz.prog 123 #[.pointer (some ⟨p, 0, none⟩), .int .i64 low, .int .i64 high, .int .i64 above] w fun e w' => NumPost W l p bs pl (numAt bs pl low high above) e w' := by
  have hc4 : w.cell? ⟨p, 4, none⟩ = some (.int .i64 pl) := by obtain ⟨A, c, H⟩ := rdr_open H; exact H.cell 4
  have hmf : ∀ (fn : Fn) (first cap : Array Value) (w : World), (Instr.makeFunc fn first cap).run Tryz.prog w = .ok (.func fn first cap) w := fun _ _ _ _ => rfl
  go_enter Tryz.func123, Tryz.ntmps123
  go_wp2
  clear hmf hc4
  have H0 := H.alloc #[.int .i64 (pl : Int)] 3
  generalize w.heap.size = q at H0 ⊢
  go_loopw [10, 11] (fun x y wc => ∃ (j acc : Nat), x = .int .i64 acc ∧ y = .int .i64 j ∧ j ≤ 8 ∧ acc < 128 ^ j ∧ pl + j ≤ bs.length ∧ Hid (dec (bs.drop pl) = decF (9 - j) (bs.drop (pl + j)) j acc) ∧
      Sat W wc (pt q #[.int .i64 (pl : Int)] 3 :: rdr p bs (pl + j) 0 0 :: l)) (fun _ y _ => 9 - (intOf y).toNat)
  case atStart => exact ⟨0, 0, rfl, rfl, by omega, by omega, by omega, rfl, H0⟩
  case round =>
    obtain ⟨j, acc, rfl, rfl, hj, hacc, hpj, HS, H'⟩ := hrel
    clear H0
    by_cases hend : pl + j = bs.length
    · go_wp2_with (go_at_call 167; refine (some_short 1 hpj hb (by omega) H'.swap).mono ?_; rintro e w1 ⟨rfl, H1⟩)
      have hd : dec (bs.drop pl) = .short := by
        rw [HS.out, hend, List.drop_length, show 9 - j = (8 - j) + 1 by omega]; rfl
      refine ⟨rfl, ?_⟩
      simp only [numAt, hd]
      exact ⟨rfl, pl + j, (H1.swap).tail⟩
    · obtain ⟨b, hbj⟩ : ∃ b, bs[pl + j]? = some b := ⟨bs[pl + j]'(by omega), List.getElem?_eq_getElem _⟩
      have hdrop : bs.drop (pl + j) = b :: bs.drop (pl + (j + 1)) := by
        obtain ⟨h1, h2⟩ := List.getElem?_eq_some_iff.1 hbj
        rw [List.drop_eq_getElem_cons h1, h2]; rfl
      have HD := Lib.hid hdrop
      clear hdrop hbj
      have hlt := b.toNat_lt
      by_cases h128 : (b.toNat : Int) < 128
      · by_cases h0 : b.toNat = 0 ∧ 0 < j
        · obtain ⟨h00, hj0⟩ := h0
          have hz1 : ((b.toNat : Int) == 0) = true := by simp [h00]
          have hz2 : decide (1 < (j : Int) + 1) = true := by simp; omega
          have hd : Hid (dec (bs.drop pl) = .zero) := by
            show _ = _
            rw [HS.out, HD.out, show 9 - j = (8 - j) + 1 by omega]; simp only [decF]
            rw [if_pos (by omega), if_pos ⟨h00, hj0⟩]
          clear h00
          go_wp2_with (first
            | (go_at_call 167; refine (some_fits 1 hpj hb (by omega) H'.swap).mono ?_; rintro e w1 ⟨A, c, rfl, H1, hr⟩; rw [HD.out] at hr; obtain ⟨g, o, rfl⟩ := hr.open (by simp); have hcb : w1.cell? ⟨g, o, none⟩ = some (.int .u8 (b.toNat : Int)) := hr.at 0 rfl; have hcq : w1.cell? ⟨q, 0, none⟩ = some (.int .i64 (pl : Int)) := H1.swap.cell 0)
            | (go_at_call 166; refine (number1_any 0 q 4 pl _ hcq).mono ?_; rintro e w2 ⟨rfl, rfl⟩))
          refine ⟨rfl, ?_⟩
          simp only [numAt, hd.out]
          exact ⟨rfl, pl + j + 1, H1.swap.tail⟩
        · have hN := acc_step acc b j hj hacc
          have hd : Hid (dec (bs.drop pl) = .ok (acc + (b.toNat % 128) * 128 ^ j) (j + 1)) := by
            show _ = _
            rw [HS.out, HD.out, show 9 - j = (8 - j) + 1 by omega]; simp only [decF]
            rw [if_pos (by omega), if_neg h0, Nat.mod_eq_of_lt (show b.toNat < 128 by omega)]
          generalize acc + (b.toNat % 128) * 128 ^ j = N at hN hd
          have hbz : (((b.toNat : Int) == 0) = true ∧ decide (1 < (j : Int) + 1) = false) ∨ (((b.toNat : Int) == 0) = false ∧ (0 : Int) < 1) := by
            by_cases e : b.toNat = 0
            · exact .inl ⟨by simp [e], by simp; omega⟩
            · exact .inr ⟨by simp [e], by omega⟩
          clear h0
          by_cases hl : (N : Int) < low
          · have hln : Hid (numAt bs pl low high above = .bad 5 pl) := by show _ = _; simp only [numAt, hd.out]; rw [if_pos hl]
            rcases hbz with ⟨hz1, hz2⟩ | ⟨hz1, hz2⟩
            all_goals
              go_wp2_with (first
                | (go_at_call 167; refine (some_fits 1 hpj hb (by omega) H'.swap).mono ?_; rintro e w1 ⟨A, c, rfl, H1, hr⟩; rw [HD.out] at hr; obtain ⟨g, o, rfl⟩ := hr.open (by simp); have hcb : w1.cell? ⟨g, o, none⟩ = some (.int .u8 (b.toNat : Int)) := hr.at 0 rfl; have hcq : w1.cell? ⟨q, 0, none⟩ = some (.int .i64 (pl : Int)) := H1.swap.cell 0)
                | (go_at_call 166; refine (number1_any 0 q 5 pl _ hcq).mono ?_; rintro e w2 ⟨rfl, rfl⟩))
              refine ⟨rfl, ?_⟩
              rw [hln.out]
              exact ⟨rfl, pl + j + 1, H1.swap.tail⟩
          · by_cases hh : high < (N : Int)
            · have hln : Hid (numAt bs pl low high above = .bad above pl) := by show _ = _; simp only [numAt, hd.out]; rw [if_neg hl, if_pos hh]
              rcases hbz with ⟨hz1, hz2⟩ | ⟨hz1, hz2⟩
              all_goals
                go_wp2_with (first
                  | (go_at_call 167; refine (some_fits 1 hpj hb (by omega) H'.swap).mono ?_; rintro e w1 ⟨A, c, rfl, H1, hr⟩; rw [HD.out] at hr; obtain ⟨g, o, rfl⟩ := hr.open (by simp); have hcb : w1.cell? ⟨g, o, none⟩ = some (.int .u8 (b.toNat : Int)) := hr.at 0 rfl; have hcq : w1.cell? ⟨q, 0, none⟩ = some (.int .i64 (pl : Int)) := H1.swap.cell 0)
                  | (go_at_call 166; refine (number1_any 0 q above pl _ hcq).mono ?_; rintro e w2 ⟨rfl, rfl⟩))
                refine ⟨rfl, ?_⟩
                rw [hln.out]
                exact ⟨rfl, pl + j + 1, H1.swap.tail⟩
            · have hln : Hid (numAt bs pl low high above = .ok N (j + 1)) := by show _ = _; simp only [numAt, hd.out]; rw [if_neg hl, if_neg hh]
              rcases hbz with ⟨hz1, hz2⟩ | ⟨hz1, hz2⟩
              all_goals
                go_wp2_with (go_at_call 167; refine (some_fits 1 hpj hb (by omega) H'.swap).mono ?_; rintro e w1 ⟨A, c, rfl, H1, hr⟩; rw [HD.out] at hr; obtain ⟨g, o, rfl⟩ := hr.open (by simp); have hcb : w1.cell? ⟨g, o, none⟩ = some (.int .u8 (b.toNat : Int)) := hr.at 0 rfl; have hcq : w1.cell? ⟨q, 0, none⟩ = some (.int .i64 (pl : Int)) := H1.swap.cell 0)
                go_ret
                rw [hln.out]
                exact ⟨rfl, H1.swap.tail, by omega⟩
      · by_cases h8 : j = 8
        · subst h8
          go_wp2_with (first
            | (go_at_call 167; refine (some_fits 1 hpj hb (by omega) H'.swap).mono ?_; rintro e w1 ⟨A, c, rfl, H1, hr⟩; rw [HD.out] at hr; obtain ⟨g, o, rfl⟩ := hr.open (by simp); have hcb : w1.cell? ⟨g, o, none⟩ = some (.int .u8 (b.toNat : Int)) := hr.at 0 rfl; have hcq : w1.cell? ⟨q, 0, none⟩ = some (.int .i64 (pl : Int)) := H1.swap.cell 0)
            | (go_at_call 166; refine (number1_any 0 q 5 pl _ hcq).mono ?_; rintro e w2 ⟨rfl, rfl⟩))
          have hd : dec (bs.drop pl) = .long := by
            rw [HS.out, HD.out]; simp only [decF]
            rw [if_neg (by omega)]; simp
          refine ⟨rfl, ?_⟩
          simp only [numAt, hd]
          exact ⟨rfl, pl + 8 + 1, H1.swap.tail⟩
        · have h9 : ((j : Int) + 1 == 9) = false := by simp; omega
          go_wp2_with (go_at_call 167; refine (some_fits 1 hpj hb (by omega) H'.swap).mono ?_; rintro e w1 ⟨A, c, rfl, H1, hr⟩; rw [HD.out] at hr; obtain ⟨g, o, rfl⟩ := hr.open (by simp); have hcb : w1.cell? ⟨g, o, none⟩ = some (.int .u8 (b.toNat : Int)) := hr.at 0 rfl; have hcq : w1.cell? ⟨q, 0, none⟩ = some (.int .i64 (pl : Int)) := H1.swap.cell 0)
          refine ⟨⟨j + 1, acc + (b.toNat % 128) * 128 ^ j, ?_, by go_num, by omega, ?_, by omega, ?_, ?_⟩, by simp [intOf]; omega⟩
          · rw [acc_step acc b j hj hacc]
          · exact acc_lt acc _ j hacc (Nat.mod_lt _ (by omega))
          · show _ = _
            rw [HS.out, HD.out, show 9 - j = (8 - j) + 1 by omega]; simp only [decF]
            rw [if_neg (by omega), if_neg (by omega), show 8 - j = 9 - (j + 1) by omega]
          · exact H1.swap
end Go.Proofs.YtodbmeklbamcfaaGreat

/- The plain law of the numbers' bytes: what is written is read, and what is read was written. No program in sight. -/
namespace Go.Proofs.YtodbmeklbamcfaaGreat

theorem dec_sev (f m j acc : Nat) (rest : List UInt8) (hm : m < 128 ^ f) (hf : 0 < f) (hz : m ≠ 0 ∨ j = 0) :
    decF f (sevF f m ++ rest) j acc = .ok (acc + m * 128 ^ j) (j + (sevF f m).length) := by
  induction f generalizing m j acc with
  | zero => omega
  | succ f ih =>
    by_cases h : m < 128
    · have hc : (UInt8.ofNat m).toNat = m := by rw [UInt8.toNat_ofNat']; omega
      rw [sevF_last _ _ h]
      simp only [List.cons_append, List.nil_append, decF, hc, if_pos h, List.length_singleton]
      rw [if_neg (by omega)]
    · have hc : (UInt8.ofNat (m % 128 + 128)).toNat = m % 128 + 128 := by rw [UInt8.toNat_ofNat']; omega
      rw [sevF_more _ _ (by omega)]
      simp only [List.cons_append, decF, hc, List.length_cons]
      have hf0 : f ≠ 0 := by rintro rfl; simp at hm; omega
      rw [if_neg (by omega), if_neg hf0, show (m % 128 + 128) % 128 = m % 128 by omega]
      have hd : m / 128 < 128 ^ f := by
        rw [Nat.div_lt_iff_lt_mul (by decide)]
        rw [Nat.pow_succ] at hm
        exact hm
      rw [ih (m / 128) (j + 1) _ hd (by omega) (.inl (by omega))]
      have e : (m % 128) * 128 ^ j + m / 128 * 128 ^ (j + 1) = m * 128 ^ j := by
        rw [Nat.pow_succ, Nat.mul_comm (128 ^ j) 128, ← Nat.mul_assoc, ← Nat.add_mul]
        congr 1
        omega
      congr 1
      · rw [Nat.add_assoc, e]
      · omega

/-- What is told was written so. -/
theorem dec_inv (f : Nat) (bs : List UInt8) (j acc N K : Nat) (h : decF f bs j acc = .ok N K) :
    ∃ m, N = acc + m * 128 ^ j ∧ K = j + (sevF f m).length ∧ (∃ rest, bs = sevF f m ++ rest) ∧ m < 128 ^ f ∧ (m ≠ 0 ∨ j = 0) := by
  induction f generalizing bs j acc with
  | zero => simp [decF] at h
  | succ f ih =>
    cases bs with
    | nil => simp [decF] at h
    | cons c r =>
      have hlt := c.toNat_lt
      simp only [decF] at h
      by_cases h1 : c.toNat < 128
      · rw [if_pos h1] at h
        by_cases h2 : c.toNat = 0 ∧ 0 < j
        · rw [if_pos h2] at h; cases h
        · rw [if_neg h2] at h
          cases h
          refine ⟨c.toNat, rfl, by rw [sevF_last _ _ h1]; rfl, ⟨r, by rw [sevF_last _ _ h1, UInt8.ofNat_toNat]; rfl⟩, Nat.lt_of_lt_of_le h1 (Nat.le_self_pow (by omega) 128), by omega⟩
      · rw [if_neg h1] at h
        by_cases h2 : f = 0
        · rw [if_pos h2] at h; cases h
        · rw [if_neg h2] at h
          obtain ⟨m, rfl, rfl, ⟨rest, rfl⟩, hm, hz⟩ := ih _ _ _ h
          have hm0 : m ≠ 0 := by omega
          have h128 : 128 ≤ c.toNat % 128 + 128 * m := by omega
          have hmod : (c.toNat % 128 + 128 * m) % 128 = c.toNat % 128 := by omega
          have hdiv : (c.toNat % 128 + 128 * m) / 128 = m := by omega
          have hcc : UInt8.ofNat (c.toNat % 128 + 128) = c := by
            rw [show c.toNat % 128 + 128 = c.toNat by omega, UInt8.ofNat_toNat]
          have hs : sevF (f + 1) (c.toNat % 128 + 128 * m) = c :: sevF f m := by rw [sevF_more _ _ h128, hmod, hdiv, hcc]
          refine ⟨c.toNat % 128 + 128 * m, ?_, by rw [hs, List.length_cons]; omega, ⟨rest, by rw [hs]; rfl⟩, ?_, .inl (by omega)⟩
          · rw [Nat.pow_succ, Nat.add_mul, Nat.add_assoc, Nat.mul_comm (128 ^ j) 128, ← Nat.mul_assoc, Nat.mul_comm m 128]
          · rw [Nat.pow_succ]; omega

theorem dec_of_sev (n : Nat) (hn : n < 9223372036854775808) (rest : List UInt8) : dec (sev n ++ rest) = .ok n (sev n).length := by
  have h := dec_sev 9 n 0 0 rest (by omega) (by omega) (.inr rfl)
  simpa [dec, sev] using h
theorem sev_of_dec (bs : List UInt8) (N K : Nat) (h : dec bs = .ok N K) : K = (sev N).length ∧ (∃ rest, bs = sev N ++ rest) ∧ N < 9223372036854775808 := by
  obtain ⟨m, h1, h2, h3, h4, _⟩ := dec_inv 9 bs 0 0 N K h
  have e : N = m := by simpa using h1
  subst e
  exact ⟨by simpa [sev] using h2, h3, by simpa using h4⟩
end Go.Proofs.YtodbmeklbamcfaaGreat
