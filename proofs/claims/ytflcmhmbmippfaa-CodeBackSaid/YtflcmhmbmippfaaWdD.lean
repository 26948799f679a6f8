/- Bytes that are lent, and held against what they were. -/
import Derived.Test.YtflcmhmbmippfaaWdC
import Derived.Test.YtflcmhmbmippfaaRtB
import Derived.Deep.RegionHeld3
namespace Go.Proofs.Ytflcmhmbmippfaa
open Go.RowKit Go.Rt

/-- What a copy with marks behind it is. -/
def lent (bs : List UInt8) : List UInt8 := bs ++ [UInt8.ofNat (160 + bs.length % 90), UInt8.ofNat (160 + (bs.length + 1) % 90), UInt8.ofNat (160 + (bs.length + 2) % 90)]
def lentF (bs : List UInt8) (k : Nat) : List Value := bs.map B ++ (List.range 3).map fun j => if j < k then B (UInt8.ofNat (160 + (bs.length + j) % 90)) else .int .u8 0
theorem zeros_bytes (n : Nat) : (Builtin.zeroCells zB.toArray n).toList = List.replicate n (.int .u8 0) := by
  simp [Builtin.zeroCells, Nat.mod_one]
  induction n with
  | zero => rfl
  | succ n ih => rw [List.range_succ, List.map_append, ih, List.replicate_succ']; rfl
theorem lentF_end (bs : List UInt8) : lentF bs 3 = (lent bs).map B := by simp [lentF, lent, List.range_succ]
theorem lentF_len (bs : List UInt8) (k : Nat) : (lentF bs k).length = bs.length + 3 := by simp [lentF]
theorem lentF_step (bs : List UInt8) (k : Nat) (hk : k < 3) : (lentF bs k).set (bs.length + k) (B (UInt8.ofNat (160 + (bs.length + k) % 90))) = lentF bs (k + 1) := by
  unfold lentF
  rw [List.set_append_right _ _ (by simp)]
  congr 1
  have : k = 0 ∨ k = 1 ∨ k = 2 := by omega
  rcases this with rfl | rfl | rfl <;> simp [List.range_succ]
theorem lentF_at (bs : List UInt8) (k : Nat) (hk : k < 3) : (lentF bs k)[bs.length + k]? = some (.int .u8 0) := by
  unfold lentF
  rw [List.getElem?_append_right (by simp)]
  have : k = 0 ∨ k = 1 ∨ k = 2 := by omega
  rcases this with rfl | rfl | rfl <;> simp [List.range_succ]

theorem lent_mark (bs : List UInt8) (j : Nat) : Value.int .u8 (160 + ((bs.length : Int) + j) % 90) = B (UInt8.ofNat (160 + (bs.length + j) % 90)) := by
  unfold B
  rw [UInt8.toNat_ofNat']
  congr 1
  omega

set_option maxRecDepth 100000 in
theorem lent_any {W w : World} {l : List SL} (A : Option Addr) (c : Nat) (xs : List UInt8) (hx : RdL W l A (xs.map B)) (hb : xs.length ≤ 1000000000) (H : Sat W w l) :
    Calls Try.prog 12 #[.slice A xs.length c] w fun e w' => ∃ g, e = .returned (.slice (some ⟨g, 0, none⟩) xs.length (xs.length + 3)) ∧ Sat W w' (row 5 zB (.slice (some ⟨g, 0, none⟩) (xs.length + 3) (xs.length + 3)) (xs.length + 3) ((lent xs).map B) :: l) := by
  obtain ⟨i0, hi, hz0, hz1, hz2⟩ := info_parts infoU8
  go_enter Try.func12, Try.ntmps12
  go_wp2_with (first
    | (at_make
       refine wpList_make_sl rfl (.tmp 7) (.tmp 7) 22 rfl 5 i0 (.int .u8 0) zB Try.underlying22 hi hz0 rfl hz1 zB_like .i64 .i64 _ _ (xs.length + 3) (xs.length + 3) rfl rfl (by omega) (by omega) (Nat.le_refl _) (by rw [hz2]; omega) (by unfold maxLen; omega) H ?_
       intro w1 H1)
    | (refine wpList_copy_sl rfl (.tmp 9) (.tmp 10) 22 22 rfl 5 i0 zB Try.underlying22 hi hz1 w.heap.size (xs.length + 3) (xs.length + 3) _ rfl H1 A xs.length c (xs.map B) rfl (by simp) (hx _ H1.tail) (B_one xs) (Typed.bytes xs) (by omega) ?_
       intro w2 H2))
  have e0 : xs.map B ++ (Builtin.zeroCells zB.toArray (xs.length + 3)).toList.drop (xs.length * zB.length) = lentF xs 0 := by
    rw [zeros_bytes, List.drop_replicate, List.length_singleton, Nat.mul_one, Nat.add_sub_cancel_left]; rfl
  rw [e0] at H2
  clear e0 H1
  generalize w.heap.size = g at H2 ⊢
  go_loopw [4] (fun i wc => ∃ (j : Nat), j ≤ 3 ∧ i = .int .i64 ((xs.length + j : Nat) : Int) ∧ Sat W wc (row 5 zB (.slice (some ⟨g, 0, none⟩) (xs.length + 3) (xs.length + 3)) (xs.length + 3) (lentF xs j) :: l)) (fun i _ => xs.length + 3 - (intOf i).toNat)
  case atStart => exact ⟨0, by omega, rfl, H2⟩
  case round =>
    obtain ⟨j, hj, rfl, H'⟩ := hrel
    clear H2
    by_cases hlt : j < 3
    · have hc := H'.row_cell (xs.length + j) (lentF_at xs j hlt)
      have hf := H'.row_frz (xs.length + j)
      go_wp2
      refine ⟨⟨j + 1, by omega, by go_num, ?_⟩, by simp [intOf]; omega⟩
      rw [lent_mark xs j, ← lentF_step xs j hlt]
      exact H'.row_set _ _ (zB_at _ _)
    · have ej : j = 3 := by omega
      subst ej
      go_wp2
      go_ret
      refine ⟨g, by simp, ?_⟩
      rw [← lentF_end]
      exact H'

set_option maxRecDepth 100000 in
theorem kept_any {W w : World} {l : List SL} (A A' : Option Addr) (c' : Nat) (zs ys : List UInt8) (hz : RdL W l A (zs.map B)) (hy : RdL W l A' (ys.map B)) (hzl : ys.length ≤ zs.length) (hb : zs.length ≤ 1000000000) (H : Sat W w l) :
    Calls Try.prog 15 #[.slice A ys.length zs.length, .slice A' ys.length c'] w fun e w' => e = .returned (.bool (zs == lent ys)) ∧ Sat W w' l := by
  have hs : zs.length ≤ 1000000000 := hb
  go_enter Try.func15, Try.ntmps15
  go_wp2
  have hsum : IntKind.i64.wrap ((ys.length : Int) + 3) = (ys.length : Int) + 3 := IntWalk.i64_in _ (by omega)
  have hsum0 : (0 : Int) ≤ (ys.length : Int) + 3 := by omega
  have hsumN : ((ys.length : Int) + 3).toNat = ys.length + 3 := by omega
  go_region_held3 (fun _ => True) (exact trivial) (first
    | (go_at_call 12; refine (lent_any A' c' ys hy (by omega) H.drew).mono ?_
       rintro e w1 ⟨g, rfl, H1⟩
       have hll : Hid (ys.length + 3 = (lent ys).length) := by show _ = _; simp [lent]
       have h2 : Rd w1 (some ⟨g, 0, none⟩) ((lent ys).map B) := H1.rd
       have h1 : Rd w1 A (zs.map B) := hz _ H1.tail)
    | (go_at_call 18; rw [hll.out]; refine (same_any A (some ⟨g, 0, none⟩) zs.length (lent ys).length zs (lent ys) _ h1 h2).mono ?_
       rintro e w2 ⟨rfl, rfl⟩))
  go_wp2
  go_ret
  exact ⟨rfl, H1.tail⟩
end Go.Proofs.Ytflcmhmbmippfaa
