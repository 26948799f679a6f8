/- The document's own reader, function by function: how a number lies in bytes. -/
import Derived.Test.YtflcmhmbmippfaaWeQ
import Derived.Test.YtflcmhmbmippfaaWdK
import Derived.Test.YtflcmhmbmippfaaRtE
namespace Go.Proofs.Ytflcmhmbmippfaa
open Go.RowKit Go.Rt

/-- The document's reader: its block; its bytes lie where A says. -/
def yrd (p : Nat) (A : Option Addr) (n c : Nat) (pl : Nat) (fe fa : Int) : SL := pt p #[.slice A n c, .int .i64 pl, .int .i64 fe, .int .i64 fa] 72

set_option maxRecDepth 100000 in
theorem xOpen_any {W w : World} {l : List SL} (A : Option Addr) (n c : Nat) (H : Sat W w l) :
    Calls Try.prog 64 #[.slice A n c] w fun e w' => e = .returned (.pointer (some ⟨w.heap.size, 0, none⟩)) ∧ Sat W w' (yrd w.heap.size A n c 0 0 0 :: l) := by
  go_enter Try.func64, Try.ntmps64
  go_wp2
  go_ret
  exact ⟨rfl, H.alloc _ _⟩

/-- How many bytes the number at a place has; 0: there is a fault, which one. -/
def sizeAt (bs : List UInt8) (pl : Nat) : Nat × Int × Int :=
  match dec (bs.drop pl) with
  | .ok _ k => (k, 0, 0)
  | .short => (0, 4, bs.length)
  | .zero => (0, 4, pl)
  | .long => (0, 5, pl)

set_option maxRecDepth 100000 in
set_option maxHeartbeats 1600000 in
theorem ysize_any {W w : World} {l : List SL} (p : Nat) (A : Option Addr) (c : Nat) (bs : List UInt8) (pl : Nat) (fe fa : Int) (hp : pl ≤ bs.length) (hb : bs.length ≤ 1000000000) (hr : RdL W l A (bs.map B)) (H : Sat W w (yrd p A bs.length c pl fe fa :: l)) :
    Calls Try.prog 95 #[.pointer (some ⟨p, 0, none⟩)] w fun e w' => e = .returned (.tuple #[.int .i64 (sizeAt bs pl).1, .agg #[.int .i64 (sizeAt bs pl).2.1, .int .i64 (sizeAt bs pl).2.2]]) ∧ Sat W w' (yrd p A bs.length c pl fe fa :: l) := by
  obtain ⟨S, HT⟩ : ∃ S, Hid (sizeAt bs pl = S) := ⟨_, rfl⟩
  rw [HT.out]
  have H0 : Sat W (w.alloc (.cells #[.int .i64 0, .int .i64 0] 29)) (pt w.heap.size #[.int .i64 0, .int .i64 0] 29 :: yrd p A bs.length c pl fe fa :: l) := H.alloc _ _
  go_enter Try.func95, Try.ntmps95
  go_wp2
  generalize w.heap.size = q at H0 ⊢
  go_loopw [4] (fun k wc => ∃ (j acc : Nat), k = .int .i64 ((j : Int) + 1) ∧ j ≤ 9 ∧ pl + j ≤ bs.length ∧ Hid (dec (bs.drop pl) = decF (9 - j) (bs.drop (pl + j)) j acc) ∧
      Sat W wc (pt q #[.int .i64 0, .int .i64 0] 29 :: yrd p A bs.length c pl fe fa :: l)) (fun k _ => 10 - (intOf k).toNat)
  case atStart => exact ⟨0, 0, rfl, by omega, by omega, rfl, H0⟩
  case round =>
    obtain ⟨j, acc, rfl, hj, hpj, HS, H1⟩ := hrel
    clear H0
    have H2 := H1.swap
    have c0 : wr.cell? ⟨p, 0, none⟩ = some (.slice A bs.length c) := H2.cell 0
    have c1 : wr.cell? ⟨p, 1, none⟩ = some (.int .i64 pl) := H2.cell 1
    have q0 : wr.cell? ⟨q, 0, none⟩ = some (.int .i64 0) := H1.cell 0
    have q1 : wr.cell? ⟨q, 1, none⟩ = some (.int .i64 0) := H1.cell 1
    have f0 := H1.frz 0
    have f1 := H1.frz 1
    clear H2
    by_cases h9 : j = 9
    · subst h9
      obtain rfl : (0, 5, (pl : Int)) = S := by
        have : dec (bs.drop pl) = .long := by rw [HS.out]; rfl
        rw [← HT.out]
        simp only [sizeAt, this]
      go_wp2
      go_region_law (fail)
      have H2 : Sat W ((wr.setCell ⟨q, 0, none⟩ (.int .i64 5)).setCell ⟨q, 1, none⟩ (.int .i64 (pl : Int))).drew (pt q #[.int .i64 5, .int .i64 (pl : Int)] 29 :: yrd p A bs.length c pl fe fa :: l) := ((H1.setCell 0 (.int .i64 5)).setCell 1 (.int .i64 (pl : Int))).drew
      generalize ((wr.setCell ⟨q, 0, none⟩ (.int .i64 5)).setCell ⟨q, 1, none⟩ (.int .i64 (pl : Int))).drew = w2 at H2 ⊢
      have z0 : w2.cell? ⟨q, 0, none⟩ = some (.int .i64 5) := H2.cell 0
      have z1 : w2.cell? ⟨q, 1, none⟩ = some (.int .i64 pl) := H2.cell 1
      go_wp2
      exact bodyPost_ret (v := .tuple #[.int .i64 0, .agg #[.int .i64 5, .int .i64 (pl : Int)]]) (by simp [results, Try.results95, go_sem, z0, z1]) rfl ⟨rfl, H2.tail⟩
    · by_cases hend : pl + j = bs.length
      · obtain rfl : (0, 4, (bs.length : Int)) = S := by
          have : dec (bs.drop pl) = .short := by
            rw [HS.out, hend, List.drop_length, show 9 - j = (8 - j) + 1 by omega]; rfl
          rw [← HT.out]
          simp only [sizeAt, this]
        have hat : decide ((bs.length : Int) ≤ (pl : Int) + ((j : Int) + 1) - 1) = true := by simp; omega
        go_wp2
        go_region_law (fail)
        have H2 : Sat W ((wr.setCell ⟨q, 0, none⟩ (.int .i64 4)).setCell ⟨q, 1, none⟩ (.int .i64 (bs.length : Int))).drew (pt q #[.int .i64 4, .int .i64 (bs.length : Int)] 29 :: yrd p A bs.length c pl fe fa :: l) := ((H1.setCell 0 (.int .i64 4)).setCell 1 (.int .i64 (bs.length : Int))).drew
        generalize ((wr.setCell ⟨q, 0, none⟩ (.int .i64 4)).setCell ⟨q, 1, none⟩ (.int .i64 (bs.length : Int))).drew = w2 at H2 ⊢
        have z0 : w2.cell? ⟨q, 0, none⟩ = some (.int .i64 4) := H2.cell 0
        have z1 : w2.cell? ⟨q, 1, none⟩ = some (.int .i64 bs.length) := H2.cell 1
        go_wp2
        exact bodyPost_ret (v := .tuple #[.int .i64 0, .agg #[.int .i64 4, .int .i64 (bs.length : Int)]]) (by simp [results, Try.results95, go_sem, z0, z1]) rfl ⟨rfl, H2.tail⟩
      · obtain ⟨x, hx⟩ : ∃ x, bs[pl + j]? = some x := ⟨bs[pl + j]'(by omega), List.getElem?_eq_getElem _⟩
        have hdrop : bs.drop (pl + j) = x :: bs.drop (pl + (j + 1)) := by
          obtain ⟨h1, h2⟩ := List.getElem?_eq_some_iff.1 hx
          rw [List.drop_eq_getElem_cons h1, h2]; rfl
        have HD := Lib.hid hdrop
        have hlt := x.toNat_lt
        have hrd := hr _ H1.tail.tail
        have hne : bs.map B ≠ [] := by
          intro h
          have h0 : bs.length = 0 := by simpa using congrArg List.length h
          omega
        obtain ⟨b, o, rfl⟩ := hrd.open hne
        clear hne
        have hcx : wr.cell? ⟨b, o + (pl + j), none⟩ = some (.int .u8 (x.toNat : Int)) := hrd.at (pl + j) (by rw [List.getElem?_map, hx]; rfl)
        have hat : decide ((bs.length : Int) ≤ (pl : Int) + ((j : Int) + 1) - 1) = false := by simp; omega
        clear hdrop hx hrd
        by_cases h128 : (x.toNat : Int) < 128
        · have e128 : decide ((x.toNat : Int) < 128) = true := by simpa using h128
          by_cases hx0 : x.toNat = 0
          · have ez : ((x.toNat : Int) == 0) = true := by simp [hx0]
            by_cases hj0 : 0 < j
            · have e1 : decide (1 < (j : Int) + 1) = true := by simp; omega
              obtain rfl : (0, 4, (pl : Int)) = S := by
                have : dec (bs.drop pl) = .zero := by
                  rw [HS.out, HD.out, show 9 - j = (8 - j) + 1 by omega]; simp only [decF]
                  rw [if_pos (by omega), if_pos ⟨hx0, hj0⟩]
                rw [← HT.out]
                simp only [sizeAt, this]
              clear hx0
              go_wp2
              go_region_law (fail)
              have H2 : Sat W ((wr.setCell ⟨q, 0, none⟩ (.int .i64 4)).setCell ⟨q, 1, none⟩ (.int .i64 (pl : Int))).drew (pt q #[.int .i64 4, .int .i64 (pl : Int)] 29 :: yrd p (some ⟨b, o, none⟩) bs.length c pl fe fa :: l) := ((H1.setCell 0 (.int .i64 4)).setCell 1 (.int .i64 (pl : Int))).drew
              generalize ((wr.setCell ⟨q, 0, none⟩ (.int .i64 4)).setCell ⟨q, 1, none⟩ (.int .i64 (pl : Int))).drew = w2 at H2 ⊢
              have z0 : w2.cell? ⟨q, 0, none⟩ = some (.int .i64 4) := H2.cell 0
              have z1 : w2.cell? ⟨q, 1, none⟩ = some (.int .i64 pl) := H2.cell 1
              go_wp2
              exact bodyPost_ret (v := .tuple #[.int .i64 0, .agg #[.int .i64 4, .int .i64 (pl : Int)]]) (by simp [results, Try.results95, go_sem, z0, z1]) rfl ⟨rfl, H2.tail⟩
            · have e1 : decide (1 < (j : Int) + 1) = false := by simp; omega
              obtain rfl : (j + 1, 0, 0) = S := by
                rw [← HT.out]
                have : dec (bs.drop pl) = .ok (acc + x.toNat * 128 ^ j) (j + 1) := by
                  rw [HS.out, HD.out, show 9 - j = (8 - j) + 1 by omega]; simp only [decF]
                  rw [if_pos (by omega), if_neg (by omega)]
                simp only [sizeAt, this]
              have H2 : Sat W ((wr.setCell ⟨q, 0, none⟩ (.int .i64 0)).setCell ⟨q, 1, none⟩ (.int .i64 0)) (pt q #[.int .i64 0, .int .i64 0] 29 :: yrd p (some ⟨b, o, none⟩) bs.length c pl fe fa :: l) := (H1.setCell 0 (.int .i64 0)).setCell 1 (.int .i64 0)
              have z0 : ((wr.setCell ⟨q, 0, none⟩ (.int .i64 0)).setCell ⟨q, 1, none⟩ (.int .i64 0)).cell? ⟨q, 0, none⟩ = some (.int .i64 0) := H2.cell 0
              have z1 : ((wr.setCell ⟨q, 0, none⟩ (.int .i64 0)).setCell ⟨q, 1, none⟩ (.int .i64 0)).cell? ⟨q, 1, none⟩ = some (.int .i64 0) := H2.cell 1
              go_wp2
              exact bodyPost_ret (v := .tuple #[.int .i64 ((j + 1 : Nat) : Int), .agg #[.int .i64 0, .int .i64 0]]) (by simp [results, Try.results95, go_sem, z0, z1]) rfl ⟨rfl, H2.tail⟩
          · have ez : ((x.toNat : Int) == 0) = false := by simpa using hx0
            obtain rfl : (j + 1, 0, 0) = S := by
              rw [← HT.out]
              have : dec (bs.drop pl) = .ok (acc + x.toNat * 128 ^ j) (j + 1) := by
                rw [HS.out, HD.out, show 9 - j = (8 - j) + 1 by omega]; simp only [decF]
                rw [if_pos (by omega), if_neg (by omega)]
              simp only [sizeAt, this]
            have H2 : Sat W ((wr.setCell ⟨q, 0, none⟩ (.int .i64 0)).setCell ⟨q, 1, none⟩ (.int .i64 0)) (pt q #[.int .i64 0, .int .i64 0] 29 :: yrd p (some ⟨b, o, none⟩) bs.length c pl fe fa :: l) := (H1.setCell 0 (.int .i64 0)).setCell 1 (.int .i64 0)
            have z0 : ((wr.setCell ⟨q, 0, none⟩ (.int .i64 0)).setCell ⟨q, 1, none⟩ (.int .i64 0)).cell? ⟨q, 0, none⟩ = some (.int .i64 0) := H2.cell 0
            have z1 : ((wr.setCell ⟨q, 0, none⟩ (.int .i64 0)).setCell ⟨q, 1, none⟩ (.int .i64 0)).cell? ⟨q, 1, none⟩ = some (.int .i64 0) := H2.cell 1
            go_wp2
            exact bodyPost_ret (v := .tuple #[.int .i64 ((j + 1 : Nat) : Int), .agg #[.int .i64 0, .int .i64 0]]) (by simp [results, Try.results95, go_sem, z0, z1]) rfl ⟨rfl, H2.tail⟩
        · have e128 : decide ((x.toNat : Int) < 128) = false := by simpa using h128
          have ez : ((x.toNat : Int) == 0) = false := by simp; omega
          go_wp2
          refine ⟨⟨j + 1, acc + (x.toNat % 128) * 128 ^ j, by go_num, by omega, by omega, ?_, H1⟩, by simp [intOf]; omega⟩
          show _ = _
          rw [HS.out, HD.out, show 9 - j = (8 - j) + 1 by omega]; simp only [decF]
          rw [if_neg (by omega)]
          by_cases h8 : j = 8
          · subst h8; rfl
          · rw [if_neg (by omega), show 8 - j = 9 - (j + 1) by omega]
end Go.Proofs.Ytflcmhmbmippfaa
