/- The document's own reader: a number at its place. -/
import Derived.Test.YtflcmhmbmippfaaWdV
import Derived.Test.YtflcmhmbmippfaaWeY
namespace Go.Proofs.Ytflcmhmbmippfaa
open Go.RowKit Go.Rt

set_option maxRecDepth 100000 in
theorem ypeek_stuck {W w : World} {l : List SL} (p : Nat) (A : Option Addr) (n c : Nat) (pl : Nat) (fe fa : Int) (hf : ¬ fe = 0) (low high above : Int) (H : Sat W w (yrd p A n c pl fe fa :: l)) :
    Calls Try.prog 82 #[.pointer (some ⟨p, 0, none⟩), .int .i64 low, .int .i64 high, .int .i64 above] w fun e w' => e = .returned (.tuple #[.int .i64 0, .int .i64 0]) ∧ w = w' := by
  have c2 : w.cell? ⟨p, 2, none⟩ = some (.int .i64 fe) := H.cell 2
  have e1 : (fe != 0) = true := by simpa using hf
  go_enter Try.func82, Try.ntmps82
  go_wp2
  go_ret2
  exact ⟨rfl, rfl⟩

set_option maxRecDepth 100000 in
set_option maxHeartbeats 1600000 in
theorem ypeek_zero {W w : World} {l : List SL} (p : Nat) (A : Option Addr) (c : Nat) (bs : List UInt8) (pl : Nat) (hp : pl ≤ bs.length) (hb : bs.length ≤ 1000000000) (hr : RdL W l A (bs.map B)) (low high above : Int) (er a : Int) (hS : sizeAt bs pl = (0, er, a)) (H : Sat W w (yrd p A bs.length c pl 0 0 :: l)) :
    Calls Try.prog 82 #[.pointer (some ⟨p, 0, none⟩), .int .i64 low, .int .i64 high, .int .i64 above] w fun e w' => e = .returned (.tuple #[.int .i64 0, .int .i64 0]) ∧ Sat W w' (yrd p A bs.length c pl er a :: l) := by
  have c2 : w.cell? ⟨p, 2, none⟩ = some (.int .i64 0) := H.cell 2
  have hs := ysize_any p A c bs pl 0 0 hp hb hr H
  rw [hS] at hs
  have HS := Lib.hid hs
  clear hs hS
  go_enter Try.func82, Try.ntmps82
  go_wp2_with fail
  refine HS.out.mono ?_
  rintro e w1 ⟨rfl, H1⟩
  have H2 : Sat W (w1.alloc (.cells #[.int .i64 er, .int .i64 a] 29)) (pt w1.heap.size #[.int .i64 er, .int .i64 a] 29 :: yrd p A bs.length c pl 0 0 :: l) := H1.alloc _ _
  clear H1
  go_wp2
  generalize w1.heap.size = q at H2 ⊢
  go_loopw [12, 13] (fun x y wc => x = .int .i64 0 ∧ y = .int .i64 (-1) ∧ Sat W wc (pt q #[.int .i64 er, .int .i64 a] 29 :: yrd p A bs.length c pl 0 0 :: l)) (fun _ _ _ => 0)
  case atStart => exact ⟨rfl, rfl, H2⟩
  case round =>
    obtain ⟨rfl, rfl, H3⟩ := hrel
    have q0 : wr.cell? ⟨q, 0, none⟩ = some (.int .i64 er) := H3.cell 0
    have q1 : wr.cell? ⟨q, 1, none⟩ = some (.int .i64 a) := H3.cell 1
    have p2 : wr.cell? ⟨p, 2, none⟩ = some (.int .i64 0) := H3.swap.cell 2
    have p3 : wr.cell? ⟨p, 3, none⟩ = some (.int .i64 0) := H3.swap.cell 3
    have f2 := H3.swap.frz 2
    have f3 := H3.swap.frz 3
    go_wp2
    go_ret2
    exact ⟨rfl, (H3.tail.setCell 2 (.int .i64 er)).setCell 3 (.int .i64 a)⟩

def PeekPost (W : World) (l : List SL) (p : Nat) (A : Option Addr) (n c : Nat) (pl : Nat) : Num → Ending → World → Prop
  | .ok N k, e, w' => e = .returned (.tuple #[.int .i64 N, .int .i64 k]) ∧ Sat W w' (yrd p A n c pl 0 0 :: l)
  | .bad er a, e, w' => e = .returned (.tuple #[.int .i64 0, .int .i64 0]) ∧ Sat W w' (yrd p A n c pl er a :: l)

set_option maxRecDepth 100000 in
set_option maxHeartbeats 3200000 in
theorem ypeek_any {W w : World} {l : List SL} (p : Nat) (A : Option Addr) (c : Nat) (bs : List UInt8) (pl : Nat) (hp : pl ≤ bs.length) (hb : bs.length ≤ 1000000000) (hr : RdL W l A (bs.map B)) (low high above : Int) (H : Sat W w (yrd p A bs.length c pl 0 0 :: l)) :
    Calls Try.prog 82 #[.pointer (some ⟨p, 0, none⟩), .int .i64 low, .int .i64 high, .int .i64 above] w fun e w' => PeekPost W l p A bs.length c pl (numAt bs pl low high above) e w' := by
  cases hd : dec (bs.drop pl) with
  | short => rw [show numAt bs pl low high above = .bad 4 bs.length by simp only [numAt, hd]]; exact ypeek_zero p A c bs pl hp hb hr low high above 4 bs.length (by simp only [sizeAt, hd]) H
  | zero => rw [show numAt bs pl low high above = .bad 4 pl by simp only [numAt, hd]]; exact ypeek_zero p A c bs pl hp hb hr low high above 4 pl (by simp only [sizeAt, hd]) H
  | long => rw [show numAt bs pl low high above = .bad 5 pl by simp only [numAt, hd]]; exact ypeek_zero p A c bs pl hp hb hr low high above 5 pl (by simp only [sizeAt, hd]) H
  | ok N k =>
    obtain ⟨R, HR⟩ : ∃ R, Hid (numAt bs pl low high above = R) := ⟨_, rfl⟩
    have hR := HR.out
    simp only [numAt, hd] at hR
    have HRR := Lib.hid hR
    rw [HR.out]
    clear HR hR
    obtain ⟨hk1, hk9, hkl, hN⟩ := dec_val _ _ _ hd
    have HN := Lib.hid hN
    have c2 : w.cell? ⟨p, 2, none⟩ = some (.int .i64 0) := H.cell 2
    have hs := ysize_any p A c bs pl 0 0 hp hb hr H
    rw [show sizeAt bs pl = (k, 0, 0) by simp only [sizeAt, hd]] at hs
    have HS := Lib.hid hs
    clear hs hd hN
    rw [List.length_drop] at hkl
    go_enter Try.func82, Try.ntmps82
    go_wp2_with fail
    refine HS.out.mono ?_
    rintro e w1 ⟨rfl, H1⟩
    have H2 : Sat W (w1.alloc (.cells #[.int .i64 0, .int .i64 0] 29)) (pt w1.heap.size #[.int .i64 0, .int .i64 0] 29 :: yrd p A bs.length c pl 0 0 :: l) := H1.alloc _ _
    clear H1 HS
    go_wp2
    generalize w1.heap.size = q at H2 ⊢
    go_loopw [12, 13] (fun x y wc => ∃ (t n : Nat), t ≤ k ∧ y = .int .i64 ((t : Int) - 1) ∧ x = .int .i64 n ∧ Hid (n = dval (((bs.drop pl).take k).drop t)) ∧ Sat W wc (pt q #[.int .i64 0, .int .i64 0] 29 :: yrd p A bs.length c pl 0 0 :: l)) (fun _ y _ => (intOf y + 1).toNat)
    case atStart => exact ⟨k, 0, Nat.le_refl _, rfl, rfl, by show _ = _; rw [List.drop_eq_nil_of_le (by rw [List.length_take]; exact Nat.min_le_left _ _)]; rfl, H2⟩
    case round =>
      obtain ⟨t, n, ht, rfl, rfl, hn, H3⟩ := hrel
      clear H2
      have H4 := H3.swap
      have p0 : wr.cell? ⟨p, 0, none⟩ = some (.slice A bs.length c) := H4.cell 0
      have p1 : wr.cell? ⟨p, 1, none⟩ = some (.int .i64 pl) := H4.cell 1
      cases t with
      | zero =>
        obtain rfl : n = N := by rw [hn.out, HN.out, List.drop_zero]
        have p2 : wr.cell? ⟨p, 2, none⟩ = some (.int .i64 0) := H4.cell 2
        have p3 : wr.cell? ⟨p, 3, none⟩ = some (.int .i64 0) := H4.cell 3
        have f2 := H4.frz 2
        have f3 := H4.frz 3
        have hk0 : ((k : Int) == 0) = false := by simp; omega
        clear H4
        by_cases hl : (n : Int) < low
        · obtain rfl : Num.bad 5 pl = R := by have := HRR.out; rwa [if_pos hl] at this
          go_wp2
          go_ret2
          exact ⟨rfl, (H3.tail.setCell 2 (.int .i64 5)).setCell 3 (.int .i64 pl)⟩
        · by_cases hh : high < (n : Int)
          · obtain rfl : Num.bad above pl = R := by have := HRR.out; rwa [if_neg hl, if_pos hh] at this
            go_wp2
            go_ret2
            exact ⟨rfl, (H3.tail.setCell 2 (.int .i64 above)).setCell 3 (.int .i64 pl)⟩
          · obtain rfl : Num.ok n k = R := by have := HRR.out; rwa [if_neg hl, if_neg hh] at this
            go_wp2
            go_ret2
            exact ⟨rfl, H3.tail⟩
      | succ u =>
        obtain ⟨x, hx⟩ : ∃ x, bs[pl + u]? = some x := ⟨bs[pl + u]'(by omega), List.getElem?_eq_getElem _⟩
        have hxk : ((bs.drop pl).take k)[u]? = some x := by
          rw [List.getElem?_take, if_pos (by omega), List.getElem?_drop, hx]
        have hstep := dval_step _ _ _ hxk
        have hbd := dval_lt (((bs.drop pl).take k).drop u)
        have hlen : (((bs.drop pl).take k).drop u).length ≤ 9 := by rw [List.length_drop, List.length_take]; omega
        have hbd9 : dval (((bs.drop pl).take k).drop u) < 9223372036854775808 := Nat.lt_of_lt_of_le hbd (by have := Nat.pow_le_pow_right (show 0 < 128 by decide) hlen; exact Nat.le_trans this (by decide))
        rw [← hn.out] at hstep
        have HST := Lib.hid hstep
        have hrd := hr _ H3.tail.tail
        have hne : bs.map B ≠ [] := by
          intro h
          have h0 : bs.length = 0 := by simpa using congrArg List.length h
          omega
        obtain ⟨b, o, rfl⟩ := hrd.open hne
        have hcx : wr.cell? ⟨b, o + (pl + u), none⟩ = some (.int .u8 (x.toNat : Int)) := hrd.at (pl + u) (by rw [List.getElem?_map, hx]; rfl)
        have hlt := x.toNat_lt
        rw [hstep] at hbd9
        clear hstep hne hbd hlen hx hxk hrd hn H4
        have hu : (((u + 1 : Nat) : Int) - 1) = u := by omega
        rw [hu]
        clear hu
        go_wp2
        have w1 : IntKind.i64.wrap (128 * (n : Int)) = 128 * (n : Int) := IntWalk.i64_in _ (by omega)
        have w2 : IntKind.i64.wrap ((pl : Int) + (u : Int)) = (pl : Int) + (u : Int) := IntWalk.i64_in _ (by omega)
        have w3 : (0 : Int) ≤ (pl : Int) + (u : Int) := by omega
        have w4 : ((pl : Int) + (u : Int)).toNat = pl + u := by omega
        have w5 : (pl : Int) + (u : Int) < (bs.length : Int) := by omega
        have w6 : Int.tmod (x.toNat : Int) 128 = ((x.toNat % 128 : Nat) : Int) := by rw [Int.tmod_eq_emod_of_nonneg (by omega)]; omega
        have w7 : IntKind.i64.wrap (128 * (n : Int) + ((x.toNat % 128 : Nat) : Int)) = 128 * (n : Int) + ((x.toNat % 128 : Nat) : Int) := IntWalk.i64_in _ (by omega)
        go_quiet (fail)
        clear w1 w2 w3 w4 w5 w6 w7
        go_wp2
        refine ⟨⟨u, x.toNat % 128 + 128 * n, by omega, rfl, by congr 1; omega, ?_, H3.drewN nq⟩, by simp [intOf]⟩
        show _ = _
        rw [HST.out]
end Go.Proofs.Ytflcmhmbmippfaa
