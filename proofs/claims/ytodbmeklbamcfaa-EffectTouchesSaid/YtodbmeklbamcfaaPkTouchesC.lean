/- A pack of texts: KeB, KeC, RtS, KiB, ShS, KiC, KiD, KeD, KeE, KeF, KeG, RtO, KeH, KiF, KfB, KfC, KfD, KiJ, KiG, WdA, KgC -/
import Derived.Test.YtodbmeklbamcfaaPkTouchesB
import Derived.Test.YtodbmeklbamcfaaPkTouchesA
import Derived.Lib.SliceRun
import Derived.Shelf.SlSortCmp.WholeK
import Derived.Shelf.SlSortCmp.NoneTotal
import Derived.Test.YtodbmeklbamcfaaProg
import Derived.Deep.RegionHeld3
import Derived.Maps.Own
import Derived.Maps.OwnSet
import Derived.Sort.KeysCollected
import Derived.Deep.DeepCutAuto
import Derived.WalkLawsBesides
import Derived.WalkSpells
import Derived.BigQuiet
import Derived.Deep.QuietTactic
import Derived.Deep.LoopGhost
import Derived.Deep.DeepFit
import Derived.Deep.RegionLaw
import Derived.Laws.BytesArg
/- Lists of writes: their cells; held against each other, written over, too long. -/
namespace Go.Proofs.Ytodbmeklbamcfaa
open Go.RowKit Go.Rt

def Wt.cs (x : Wt) : List Value := [.string ⟨x.k.toArray⟩, .string ⟨x.v.toArray⟩, .bool x.d]
def wtC (l : List Wt) : List Value := l.flatMap Wt.cs
abbrev zWt : List Value := [.string ⟨#[]⟩, .string ⟨#[]⟩, .bool false]
theorem wtC_len (l : List Wt) : (wtC l).length = l.length * 3 := flat_len Wt.cs 3 l fun _ _ => rfl
theorem wtC_append (l m : List Wt) : wtC (l ++ m) = wtC l ++ wtC m := by simp [wtC]
theorem wtC_single (x : Wt) : wtC [x] = x.cs := by simp [wtC]
theorem wtC_nil : wtC [] = [] := rfl
theorem zWt_like : LikeZ zWt := by
  intro j u h
  match j, h with
  | 0, h | 1, h | 2, h => simp at h; subst h; rfl
  | j + 3, h => simp at h
theorem wt_typed (x : Wt) : Typed zWt x.cs := by
  intro j u h
  match j, h with
  | 0, h | 1, h | 2, h => simp [Wt.cs] at h; subst h; rfl
  | j + 3, h => simp [Wt.cs] at h
theorem wt_one (x : Wt) : ∀ u ∈ x.cs, u.oneCell' = true := by
  intro u hu
  simp only [Wt.cs, List.mem_cons, List.not_mem_nil, or_false] at hu
  rcases hu with rfl | rfl | rfl <;> rfl
theorem wtC_one (l : List Wt) : ∀ u ∈ wtC l, u.oneCell' = true := by
  intro u hu
  obtain ⟨x, _, h⟩ := List.mem_flatMap.1 hu
  exact wt_one x u h
theorem wtC_typed (l : List Wt) : Typed zWt (wtC l) := by
  induction l with
  | nil => exact Typed.nil _
  | cons x l ih => exact Typed.append (wt_typed x) ih (show 3 % 3 = 0 from rfl)
theorem infoWt : (Try.prog.info? 115).map (fun i => (i.zero, i.size, i.bytes)) = some (some (.agg #[.string ⟨#[]⟩, .string ⟨#[]⟩, .bool false]), 3, 40) := by kernel_rfl
theorem wt_size : (Try.prog.info? 115).map (·.size) = some 3 := by kernel_rfl
theorem wt_cells {w : World} {A : Option Addr} {l : List Wt} (h : Rd w A (wtC l)) (j : Nat) (x : Wt) (hj : l[j]? = some x) : ∃ b o, A = some ⟨b, o, none⟩ ∧ w.cell? ⟨b, o + j * 3, none⟩ = some (.string ⟨x.k.toArray⟩) ∧ w.cell? ⟨b, o + j * 3 + 1, none⟩ = some (.string ⟨x.v.toArray⟩) ∧ w.cell? ⟨b, o + j * 3 + 2, none⟩ = some (.bool x.d) ∧ Rd w (some ⟨b, o + j * 3, none⟩) x.cs := by
  obtain ⟨b, o, hA, hr⟩ := rd_elem Wt.cs 3 (by omega) h (fun _ _ => rfl) j x hj
  exact ⟨b, o, hA, hr.at 0 rfl, hr.at 1 rfl, hr.at 2 rfl, hr⟩

theorem wt_equal (x y : Wt) (w : World) : (Op.equalIn 10000 115 (.agg #[.string ⟨x.k.toArray⟩, .string ⟨x.v.toArray⟩, .bool x.d]) (.agg #[.string ⟨y.k.toArray⟩, .string ⟨y.v.toArray⟩, .bool y.d])).run Try.prog w = .ok (decide (x = y)) w := by
  obtain ⟨x0, x1, x2⟩ := x
  obtain ⟨y0, y1, y2⟩ := y
  dsimp only
  go_simp
  by_cases h0 : x0 = y0 <;> by_cases h1 : x1 = y1 <;> by_cases h2 : x2 = y2 <;> simp [h0, h1, h2]

theorem wt_ext {l m : List Wt} (hl : l.length = m.length) (h : ∀ k, k < l.length → l[k]? = m[k]?) : l = m := by
  refine List.ext_getElem hl fun k h1 h2 => ?_
  have := h k h1
  simpa [h1, h2] using this

def bigWt (s : Wt) : Bool := decide (100 < s.k.length) || decide (100 < s.v.length)
def longWt (l : List Wt) (n : Nat) : Bool := decide (n < l.length) || (l.take (n + 1)).any bigWt
theorem longWt_no {l : List Wt} {n : Nat} (h : longWt l n = false) : l.length ≤ n ∧ ∀ x ∈ l, x.k.length ≤ 100 ∧ x.v.length ≤ 100 := by
  unfold longWt at h
  rw [Bool.or_eq_false_iff, decide_eq_false_iff_not] at h
  refine ⟨by omega, fun x hx => ?_⟩
  have h2 := h.2
  rw [List.any_eq_false, List.take_of_length_le (by omega)] at h2
  have h3 := h2 x hx
  unfold bigWt at h3
  rw [Bool.or_eq_true, decide_eq_true_iff, decide_eq_true_iff, not_or] at h3
  omega

set_option maxRecDepth 100000 in
set_option maxHeartbeats 1000000 in
theorem LongWrites_any {w : World} (A : Option Addr) (c : Nat) (l : List Wt) (n : Nat) (hn : n ≤ 1000000) (hl : l.length ≤ maxLen) (hr : Rd w A (wtC l)) :
    Calls Try.prog 48 #[.slice A l.length c, .int .i64 n] w fun e w' => e = .returned (.bool (longWt l n)) ∧ w = w' := by
  have hl' := hl
  unfold maxLen at hl'
  go_enter Try.func48, Try.ntmps48
  go_wp2
  go_loop [5] (fun i => ∃ j : Nat, j ≤ l.length ∧ j ≤ n + 1 ∧ i = .int .i64 j ∧ Hid (∀ k x, k < j → l[k]? = some x → bigWt x = false)) (fun i => n + 1 - (intOf i).toNat)
  case atStart => exact ⟨0, by omega, by omega, rfl, fun k x hk => by omega⟩
  case round =>
    obtain ⟨j, hj, hjn, rfl, hN⟩ := hrel
    by_cases hlt : j < l.length
    · by_cases hj2 : j ≤ n
      · obtain ⟨x, hx⟩ : ∃ x, l[j]? = some x := ⟨_, List.getElem?_eq_getElem hlt⟩
        obtain ⟨b, o, rfl, c0, c1, c2, _⟩ := wt_cells hr j x hx
        have hf : bigWt x = true → longWt l n = true := fun hq => by
          unfold longWt
          rw [Bool.or_eq_true, List.any_eq_true]
          right
          exact ⟨x, List.mem_of_getElem? (by rw [List.getElem?_take, if_pos (show j < n + 1 by omega)]; exact hx), hq⟩
        have HF := Lib.hid hf
        have HX := Lib.hid hx
        obtain ⟨lo, hi, f0⟩ := x
        dsimp only at c0 c1 c2
        clear hx hf
        by_cases hq : 100 < lo.length
        · have HG := Lib.hid (HF.out (by unfold bigWt; simp [hq]))
          have hq2 : (100 : Int) < (lo.length : Int) := by omega
          go_wp2
          go_ret
          exact ⟨by rw [HG.out]; rfl, rfl⟩
        · have hq2 : ¬ (100 : Int) < (lo.length : Int) := by omega
          by_cases hp : 100 < hi.length
          · have HG := Lib.hid (HF.out (by unfold bigWt; simp [hp]))
            have hp2 : (100 : Int) < (hi.length : Int) := by omega
            go_wp2
            go_ret
            exact ⟨by rw [HG.out]; rfl, rfl⟩
          · have hp2 : ¬ (100 : Int) < (hi.length : Int) := by omega
            have HG := Lib.hid (show bigWt ⟨lo, hi, f0⟩ = false by unfold bigWt; simp [hq, hp])
            clear hq hp
            go_wp2
            refine ⟨⟨j + 1, by omega, by omega, by go_num, fun k y hk hy => ?_⟩, by simp [intOf]; omega⟩
            rcases Nat.lt_or_ge k j with h | h
            · exact hN.out k y h hy
            · obtain rfl : k = j := by omega
              rw [HX.out] at hy; cases hy; exact HG.out
      · have hf : longWt l n = true := by unfold longWt; rw [Bool.or_eq_true]; left; simp; omega
        have HF := Lib.hid hf
        clear hf
        have hq3 : (n : Int) < (l.length : Int) := by omega
        go_wp2
        go_ret
        exact ⟨by rw [HF.out]; rfl, rfl⟩
    · obtain rfl : j = l.length := by omega
      have hf : longWt l n = decide (n < l.length) := by
        unfold longWt
        have : (l.take (n + 1)).any bigWt = false := by
          rw [List.any_eq_false]
          intro x hx
          obtain ⟨k, hk⟩ := List.getElem?_of_mem (List.mem_of_mem_take hx)
          have := hN.out k x (List.getElem?_eq_some_iff.1 hk).1 hk
          simp [this]
        rw [this, Bool.or_false]
      have HF := Lib.hid hf
      clear hf
      by_cases h9 : n < l.length
      · go_wp2
        go_ret
        exact ⟨by rw [HF.out]; simp [h9], rfl⟩
      · go_wp2
        go_ret
        exact ⟨by rw [HF.out]; simp [h9], rfl⟩

end Go.Proofs.Ytodbmeklbamcfaa

/- Lists of spans: their cells; copied, held against each other, written over. -/
namespace Go.Proofs.Ytodbmeklbamcfaa
open Go.RowKit Go.Rt

abbrev zSp : List Value := [.string ⟨#[]⟩, .string ⟨#[]⟩]
theorem spC_len (l : List Sp) : (spC l).length = l.length * 2 := flat_len Sp.cs 2 l fun _ _ => rfl
theorem spC_append (l m : List Sp) : spC (l ++ m) = spC l ++ spC m := by simp [spC]
theorem spC_single (x : Sp) : spC [x] = x.cs := by simp [spC]
theorem spC_nil : spC [] = [] := rfl
theorem zSp_like : LikeZ zSp := by
  intro j u h
  match j, h with
  | 0, h | 1, h => simp at h; subst h; rfl
  | j + 2, h => simp at h
theorem sp_typed (x : Sp) : Typed zSp x.cs := by
  intro j u h
  match j, h with
  | 0, h | 1, h => simp [Sp.cs] at h; subst h; rfl
  | j + 2, h => simp [Sp.cs] at h
theorem sp_one (x : Sp) : ∀ u ∈ x.cs, u.oneCell' = true := by
  intro u hu
  simp only [Sp.cs, List.mem_cons, List.not_mem_nil, or_false] at hu
  rcases hu with rfl | rfl <;> rfl
theorem spC_one (l : List Sp) : ∀ u ∈ spC l, u.oneCell' = true := by
  intro u hu
  obtain ⟨x, _, h⟩ := List.mem_flatMap.1 hu
  exact sp_one x u h
theorem spC_typed (l : List Sp) : Typed zSp (spC l) := by
  induction l with
  | nil => exact Typed.nil _
  | cons x l ih => exact Typed.append (sp_typed x) ih (show 2 % 2 = 0 from rfl)
theorem infoSp : (Try.prog.info? 111).map (fun i => (i.zero, i.size, i.bytes)) = some (some (.agg #[.string ⟨#[]⟩, .string ⟨#[]⟩]), 2, 32) := by kernel_rfl
theorem sp_size : (Try.prog.info? 111).map (·.size) = some 2 := by kernel_rfl
theorem sp_cells {w : World} {A : Option Addr} {l : List Sp} (h : Rd w A (spC l)) (j : Nat) (x : Sp) (hj : l[j]? = some x) : ∃ b o, A = some ⟨b, o, none⟩ ∧ w.cell? ⟨b, o + j * 2, none⟩ = some (.string ⟨x.lo.toArray⟩) ∧ w.cell? ⟨b, o + j * 2 + 1, none⟩ = some (.string ⟨x.hi.toArray⟩) ∧ Rd w (some ⟨b, o + j * 2, none⟩) x.cs := by
  obtain ⟨b, o, hA, hr⟩ := rd_elem Sp.cs 2 (by omega) h (fun _ _ => rfl) j x hj
  exact ⟨b, o, hA, hr.at 0 rfl, hr.at 1 rfl, hr⟩

theorem sp_equal (x y : Sp) (w : World) : (Op.equalIn 10000 111 (.agg #[.string ⟨x.lo.toArray⟩, .string ⟨x.hi.toArray⟩]) (.agg #[.string ⟨y.lo.toArray⟩, .string ⟨y.hi.toArray⟩])).run Try.prog w = .ok (decide (x = y)) w := by
  obtain ⟨x0, x1⟩ := x
  obtain ⟨y0, y1⟩ := y
  dsimp only
  go_simp
  by_cases h0 : x0 = y0 <;> by_cases h1 : x1 = y1 <;> simp [h0, h1]

set_option maxRecDepth 100000 in
theorem CopySpans_any {W w : World} {L : List SL} (A : Option Addr) (c : Nat) (l : List Sp) (hl : l.length ≤ 1000000000) (hr : Rd w A (spC l)) (H : Sat W w L) :
    Calls Try.prog 51 #[.slice A l.length c] w fun e w' => ∃ A' c', e = .returned (.slice A' l.length c') ∧ Sat W w' (row 111 zSp (.slice A' l.length c') l.length (spC l) :: L) := by
  obtain ⟨i0, hi, hz0, hz1, hz2⟩ := info_parts infoSp
  go_enter Try.func51, Try.ntmps51
  go_wp2_with (first
    | (at_builtin
       refine wpList_append_sl rfl (.tmp 3) (.tmp 4) 40 rfl 111 i0 _ zSp 32 Try.underlying40 hi hz0 rfl hz1 hz2 (by simp) zSp_like _ 0 [] rfl (H.made #[] 111 zSp 0 0 (by omega) (by unfold maxLen; omega) rfl (Typed.nil _)) A l.length c (spC l) rfl (spC_len l) (hr.below ((Below.refl _ _).alloc (Nat.le_refl _) _)) (spC_one l) (spC_typed l) (by unfold maxLen; omega) (by omega) ?_
       intro A2 c2 w2 H2))
  go_ret
  refine ⟨A2, c2, by simp, ?_⟩
  simpa using H2

theorem sp_ext {l m : List Sp} (hl : l.length = m.length) (h : ∀ k, k < l.length → l[k]? = m[k]?) : l = m := by
  refine List.ext_getElem hl fun k h1 h2 => ?_
  have := h k h1
  simpa [h1, h2] using this

end Go.Proofs.Ytodbmeklbamcfaa

/- Laws on a row of structs: an element written at a place, and what the row holds then; its tail cleared. No program in sight. -/
namespace Go.Rt
open Go.RowKit
theorem take_splice {cur xs cs : List Value} {k m n : Nat} (h : cur.take n = xs) (hk : k + m ≤ n) (hn : n ≤ cur.length) (hcs : cs.length = m) : (cur.take k ++ cs ++ cur.drop (k + m)).take n = xs.take k ++ cs ++ xs.drop (k + m) := by
  subst h
  have hl : (cur.take k ++ cs).length = k + m := by rw [List.length_append, List.length_take, hcs]; omega
  rw [List.take_append, hl, List.take_of_length_le (by omega), List.take_take, Nat.min_eq_left (by omega), List.drop_take]
theorem flat_set {α : Type} (cs : α → List Value) (sz : Nat) : ∀ (ts : List α) (j : Nat) (y : α), (∀ x ∈ ts, (cs x).length = sz) → j < ts.length → (ts.flatMap cs).take (j * sz) ++ cs y ++ (ts.flatMap cs).drop (j * sz + sz) = (ts.set j y).flatMap cs
  | [], j, y, _, hj => by simp at hj
  | x :: ts, 0, y, h, _ => by
    have h1 := h x (by simp)
    rw [List.flatMap_cons, Nat.zero_mul, List.take_zero, List.nil_append, Nat.zero_add, List.drop_left' h1, List.set_cons_zero, List.flatMap_cons]
  | x :: ts, j + 1, y, h, hj => by
    have h1 := h x (by simp)
    have ih := flat_set cs sz ts j y (fun z hz => h z (by simp [hz])) (by simpa using hj)
    rw [List.flatMap_cons, List.set_cons_succ, List.flatMap_cons, ← ih, Nat.succ_mul]
    rw [List.take_append, List.drop_append, List.take_of_length_le (by omega), List.drop_eq_nil_of_le (by omega), h1, List.nil_append]
    rw [show j * sz + sz - sz = j * sz by omega, show j * sz + sz + sz - sz = j * sz + sz by omega]
    simp

section
variable {P : Program} {W w : World} {l : List SL} {e : TypeId} {zc xs : List Value} {n c g : Nat}

/-- An element of several cells is written in a row: what the row holds then. -/
theorem wpList_store_elx {ops : Array Oper} {rest : List Oper} {o : Oper} {a : Act} {Q : Exit → Act → World → Prop} (hg : o.guard = none) (hdst : o.dst = none) (x y : Operand) (t : TypeId) (hop : o.op = Op.store t x y)
    (j : Nat) (hj : j < n) (cs : List Value) (hsz : (P.info? t).map (·.size) = some zc.length) (hcs : cs.length = zc.length) (hx : a.eval x = .pointer (some ⟨g, j * zc.length, none⟩)) (hy : a.eval y = .agg cs.toArray)
    (h1 : ∀ u ∈ cs, u.oneCell' = true) (hty : Typed zc cs) (H : Sat W w (row e zc (.slice (some ⟨g, 0, none⟩) n c) n xs :: l)) (hK : ∀ w', Sat W w' (row e zc (.slice (some ⟨g, 0, none⟩) n c) n (xs.take (j * zc.length) ++ cs ++ xs.drop (j * zc.length + zc.length)) :: l) → wpList P ops Q rest a w') : wpList P ops Q (o :: rest) a w := by
  refine wpList_plain hg fun K hK' => ?_
  obtain ⟨cur, hgg, hcur, hnc, H'⟩ := H.setEl j hj cs hcs hty
  obtain ⟨cur', hgg', _, _, _, htk, _⟩ := H.row_blk
  rw [hgg] at hgg'
  simp only [Option.some.injEq, Obj.cells.injEq, and_true] at hgg'
  obtain rfl := hgg'
  have hm : (j + 1) * zc.length ≤ n * zc.length := Nat.mul_le_mul_right _ (by omega)
  have hmc : n * zc.length ≤ c * zc.length := Nat.mul_le_mul_right _ (by omega)
  rw [Nat.succ_mul] at hm
  have hcl : cur.toList.length = c * zc.length := by simpa using hcur
  rw [take_splice htk hm (by omega) hcs] at H'
  have hst := run_storeCells_at P g (j * zc.length) e cs 0 cur w hgg (by omega) h1
  simp only [Nat.add_zero, hcs] at hst
  have hso : ∀ w, (sizeOf t).run P w = .ok zc.length w := fun w => by
    cases hi : P.info? t with
    | none => simp [hi] at hsz
    | some i => simp [hi] at hsz; simp [sizeOf, typeInfo, hi, Result.andThen, hsz]
  have hrun : (storeVar t ⟨g, j * zc.length, none⟩ (.agg cs.toArray)).run P w = .ok () (w.setRow g (cur.toList.take (j * zc.length) ++ cs ++ cur.toList.drop (j * zc.length + zc.length)).toArray) := by
    simp [storeVar, Value.cells, hso, hst, Result.andThen, hcs]
  unfold Oper.wp
  simp [execOp, hop, hx, hy, Instr.storeAt, Instr.sureAddr, hrun, Result.andThen]
  refine hK' _ _ ?_
  rw [hdst]
  exact hK _ (by simpa using H')

set_option maxRecDepth 100000 in
/-- 'clear(s[i:])': the row up to i. -/
theorem wpList_clear_row {ops : Array Oper} {rest : List Oper} {o : Oper} {a : Act} {Q : Exit → Act → World → Prop} (hg : o.guard = none) (hdst : o.dst = none) (x : Operand) (t : TypeId) (hop : o.op = Op.call { callee := Callee.builtin Builtin.clear, args := #[x], argTypes := #[t] })
    (ht : P.underlying t = some (.slice e)) (z : Value) (hv : ∀ w, (zeroValue e).run P w = .ok z w) (hzc : z.cells = zc.toArray) (hp : 0 < zc.length) (hz1 : ∀ u ∈ zc, u.oneCell' = true) (hzz : LikeZ zc) (i : Nat) (hi : i < n) (hx : a.eval x = .slice (subZ zc.length (some ⟨g, 0, none⟩) c i) (n - i) (c - i))
    (H : Sat W w (row e zc (.slice (some ⟨g, 0, none⟩) n c) n xs :: l)) (hK : ∀ w', Sat W w' (row e zc (.slice (some ⟨g, 0, none⟩) i c) i (xs.take (i * zc.length)) :: l) → wpList P ops Q rest a w') : wpList P ops Q (o :: rest) a w := by
  refine wpList_plain hg fun K hK' => ?_
  obtain ⟨cur, hgg, h1, h2, h3, h4, h5⟩ := H.row_blk
  have hA : subZ zc.length (some (⟨g, 0, none⟩ : Addr)) c i = some ⟨g, i * zc.length, none⟩ := by
    unfold subZ
    rw [if_neg (by omega)]
    simp only [Option.map_some, Option.some.injEq]
    unfold Addr.add
    split
    · rename_i h0; rw [h0]
    · simp
  rw [hA] at hx
  generalize hZ : (Builtin.zeroCells zc.toArray (n - i)).toList = Z at *
  have hZl : Z.length = (n - i) * zc.length := by rw [← hZ]; simp [Builtin.zeroCells]
  have hZt : Typed zc Z := by rw [← hZ]; exact Typed.zeros hzz _
  have hZ1 : ∀ u ∈ Z, u.oneCell' = true := by
    intro u hu
    obtain ⟨j, hj⟩ := List.getElem?_of_mem hu
    have h7 := Zeros.zeros zc (n - i) j u (by rw [hZ]; exact hj)
    have h8 : j % zc.length < zc.length := Nat.mod_lt _ hp
    rw [h7]
    refine hz1 _ ?_
    simp only [List.getD, List.getElem?_eq_getElem h8, Option.getD_some]
    exact List.getElem_mem h8
  have hcl : cur.toList.length = c * zc.length := by simpa using h3
  have hm1 : i * zc.length + (n - i) * zc.length = n * zc.length := by rw [← Nat.add_mul]; congr 1; omega
  have hm2 : n * zc.length ≤ c * zc.length := Nat.mul_le_mul_right _ (by omega)
  have hst := run_storeCells_at P g (i * zc.length) e Z 0 cur w hgg (by omega) hZ1
  simp only [Nat.add_zero, hZl] at hst
  have hti : (cur.toList.take (i * zc.length)).length = i * zc.length := by rw [List.length_take]; omega
  have H2 := H.setRow (cur.toList.take (i * zc.length) ++ Z ++ cur.toList.drop (i * zc.length + (n - i) * zc.length)).toArray i (by omega) (by simp only [List.size_toArray, List.length_append, hti, hZl, List.length_drop, hcl]; omega) (by
    refine Typed.append (Typed.append (Typed.take h5 _) hZt (by rw [hti]; exact Nat.mul_mod_left _ _)) (Typed.drop h5 _ ?_) ?_
    · rw [hm1]; exact Nat.mul_mod_left _ _
    · rw [List.length_append, hti, hZl, hm1]; exact Nat.mul_mod_left _ _)
  have e9 : (cur.toList.take (i * zc.length) ++ Z ++ cur.toList.drop (i * zc.length + (n - i) * zc.length)).take (i * zc.length) = xs.take (i * zc.length) := by
    rw [List.append_assoc, List.take_append_of_le_length (by omega), List.take_take, Nat.min_self, ← h4, List.take_take, Nat.min_eq_left (by omega)]
  rw [e9] at H2
  have hrun : ∀ ty, (Builtin.clear_ #[t] ty #[.slice (some ⟨g, i * zc.length, none⟩) (n - i) (c - i)]).run P w = .ok (.tuple #[]) (w.setRow g (cur.toList.take (i * zc.length) ++ Z ++ cur.toList.drop (i * zc.length + (n - i) * zc.length)).toArray) := fun ty => by
    obtain ⟨m, hm⟩ : ∃ m, n - i = m + 1 := ⟨n - i - 1, by omega⟩
    rw [hm] at hZ hst ⊢
    simp [Builtin.clear_, run_underlying ht, hv, hzc, hZ, hst]
  unfold Oper.wp
  simp [execOp, hop, resolve, invoke, builtin, hx, hrun, Result.andThen]
  refine hK' _ _ ?_
  rw [hdst]
  exact hK _ (by simpa using H2)
end
end Go.Rt

/- slices.Clone and slices.DeleteFunc at lists of spans: what is left are those that are not empty. -/
namespace Go.Proofs.Ytodbmeklbamcfaa
open Go.RowKit Go.Rt

def fullB (s : Sp) : Bool := !emptyB s
/-- Where the first empty span stands. -/
def firstE (l : List Sp) : Nat := (l.takeWhile fullB).length
theorem firstE_le (l : List Sp) : firstE l ≤ l.length := (List.takeWhile_prefix _).length_le
theorem firstE_at {l : List Sp} {j : Nat} {s : Sp} (hs : l[j]? = some s) (hj : j = firstE l) : emptyB s = true := by
  induction l generalizing j with
  | nil => simp at hs
  | cons x l ih =>
    unfold firstE at hj
    rw [List.takeWhile_cons] at hj
    split at hj
    · subst hj
      rw [List.length_cons] at hs
      exact ih (by simpa [firstE] using hs) rfl
    · rename_i h
      subst hj
      simp at hs
      subst hs
      unfold fullB at h
      simpa using h
theorem firstE_of {l : List Sp} {j : Nat} (hj : j ≤ l.length) (h1 : ∀ m s, m < j → l[m]? = some s → emptyB s = false) (h2 : ∀ s, l[j]? = some s → emptyB s = true) : firstE l = j := by
  induction l generalizing j with
  | nil => simp at hj; subst hj; rfl
  | cons x l ih =>
    unfold firstE
    rw [List.takeWhile_cons]
    cases j with
    | zero =>
      have := h2 x rfl
      unfold fullB
      simp [this]
    | succ j =>
      have h0 := h1 0 x (by omega) rfl
      rw [if_pos (by unfold fullB; simp [h0]), List.length_cons]
      congr 1
      exact ih (by simpa using hj) (fun m s hm hs => h1 (m + 1) s (by omega) (by simpa using hs)) (fun s hs => h2 s (by simpa using hs))
theorem firstE_all {l : List Sp} (h : firstE l = l.length) : l.filter fullB = l := by
  induction l with
  | nil => rfl
  | cons x l ih =>
    unfold firstE at h
    rw [List.takeWhile_cons] at h
    split at h
    · rename_i hx
      rw [List.filter_cons, if_pos hx, ih (by simpa [firstE] using h)]
    · simp at h

/-- What IndexFunc tells. -/
def idxE (l : List Sp) : Int := if firstE l < l.length then (firstE l : Int) else -1
set_option maxRecDepth 100000 in
set_option maxHeartbeats 4000000 in
theorem spIndexE_any {W w : World} {L : List SL} (A : Option Addr) (c : Nat) (l : List Sp) (hl : l.length ≤ maxLen) (hr : RdL W L A (spC l)) (H : Sat W w L) :
    Calls Try.prog 134 #[.slice A l.length c, .func (.func 138) #[] #[]] w fun e w' => e = .returned (.int .i64 (idxE l)) ∧ Sat W w' L := by
  have hl' := hl
  unfold maxLen at hl'
  go_enter Try.func134, Try.ntmps134
  go_wp2
  go_loopw [8] (fun i wc => ∃ j : Nat, j ≤ l.length ∧ i = .int .i64 j ∧ Hid (∀ m s, m < j → l[m]? = some s → emptyB s = false) ∧ Sat W wc L) (fun i _ => l.length - (intOf i).toNat)
  case atStart => exact ⟨0, by omega, rfl, (fun m s h => by omega), H⟩
  case round =>
    obtain ⟨j, hj, rfl, hN, H1⟩ := hrel
    by_cases hlt : j < l.length
    · obtain ⟨s, hs⟩ : ∃ x, l[j]? = some x := ⟨_, List.getElem?_eq_getElem (by omega)⟩
      obtain ⟨b, o, rfl, c0, c1⟩ := sp_rd (hr _ H1) j s hs
      have HS := Lib.hid (hs)
      obtain ⟨lo, hi⟩ := s
      dsimp only at c0 c1
      have HI := Lib.hid (spEmpty_any (W := W) (w := wr) (L := L) lo hi H1)
      clear hs
      cases hb : emptyB ⟨lo, hi⟩ with
      | true =>
        rw [hb] at HI
        have hf : idxE l = (j : Int) := by unfold idxE; rw [firstE_of hj hN.out (fun s hs => by rw [HS.out] at hs; cases hs; exact hb), if_pos hlt]
        have HF := Lib.hid (hf)
        clear hb hf
        go_wp2_with fail
        refine (HI.out).mono ?_
        rintro e w2 ⟨rfl, H2⟩
        go_wp2
        go_ret
        exact ⟨by rw [HF.out]; rfl, H2⟩
      | false =>
        rw [hb] at HI
        have HBB := Lib.hid (hb)
        clear hb
        go_wp2_with fail
        refine (HI.out).mono ?_
        rintro e w2 ⟨rfl, H2⟩
        go_wp2
        refine ⟨⟨j + 1, by omega, by go_num, fun m s hm hs => ?_, H2⟩, by simp [intOf]; omega⟩
        rcases Nat.lt_or_ge m j with h | h
        · exact hN.out m s h hs
        · obtain rfl : m = j := by omega
          rw [HS.out] at hs; cases hs; exact HBB.out
    · obtain rfl : j = l.length := by omega
      have hf : idxE l = -1 := by unfold idxE; rw [firstE_of (Nat.le_refl _) hN.out (fun s hs => by rw [List.getElem?_eq_none (Nat.le_refl _)] at hs; cases hs), if_neg (by omega)]
      have HF := Lib.hid (hf)
      clear hf
      go_wp2
      go_ret
      exact ⟨by rw [HF.out]; rfl, H1⟩

set_option maxRecDepth 100000 in
set_option maxHeartbeats 4000000 in
theorem spClone_any {W w : World} {L : List SL} (A : Option Addr) (c : Nat) (l : List Sp) (hl : l.length ≤ 1000000000) (hb : Bsl A l.length c) (hr : RdL W L A (spC l)) (H : Sat W w L) :
    Calls Try.prog 137 #[.slice A l.length c] w fun e w' => ∃ A' c', e = .returned (.slice A' l.length c') ∧ Sat W w' (row 111 zSp (.slice A' l.length c') l.length (spC l) :: L) := by
  obtain ⟨i0, hi, hz0, hz1, hz2⟩ := info_parts infoSp
  have hr0 := hr _ H
  have hq : ∀ (w : World) (a : Option Addr) (n c n' c' : Nat), (binOp .eql 40 (.slice a n c) (.slice none n' c')).run Try.prog w = .ok (.bool a.isNone) w := fun w a n c n' c' => Lib.run_eql_slice_nil w _ _ a n c n' c' Try.underlying40
  cases A with
  | none =>
    have h0 := hb.none rfl
    have h1 := hb.le
    obtain rfl : c = 0 := h0
    have hn : l = [] := List.eq_nil_of_length_eq_zero (by omega)
    subst hn
    clear hb h1
    go_enter Try.func137, Try.ntmps137
    go_wp2
    go_ret
    exact ⟨none, 0, rfl, H.nil _ _⟩
  | some a =>
    go_enter Try.func137, Try.ntmps137
    go_wp2_with (first
      | (at_builtin
         refine wpList_append_sl rfl (.tmp 5) (.tmp 6) 40 rfl 111 i0 _ zSp 32 Try.underlying40 hi hz0 rfl hz1 hz2 (by simp) zSp_like _ 0 [] rfl (H.made #[] 111 zSp 0 0 (by omega) (by unfold maxLen; omega) rfl (Typed.nil _)) (some a) l.length c (spC l) rfl (spC_len l) (hr0.below ((Below.refl _ _).alloc (Nat.le_refl _) _)) (spC_one l) (spC_typed l) (by unfold maxLen; omega) (by omega) ?_
         intro A2 c2 w2 H2))
    go_ret
    refine ⟨A2, c2, by simp, ?_⟩
    simpa using H2

/-- Where DeleteFunc's second loop stands: j of l have been looked at, i were kept; m is what the row holds. -/
structure DelAt (l m : List Sp) (i j : Nat) : Prop where
  len : m.length = l.length
  lt : i < j
  low : m.take i = (l.take j).filter fullB
  high : m.drop j = l.drop j
theorem DelAt.start {l : List Sp} {k : Nat} (hk : k < l.length) (h : firstE l = k) : DelAt l l k (k + 1) where
  len := rfl
  lt := by omega
  low := by
    obtain ⟨s, hs⟩ : ∃ s, l[k]? = some s := ⟨_, List.getElem?_eq_getElem hk⟩
    have h1 : l.take k = l.takeWhile fullB := by
      rw [← h]; unfold firstE
      exact (List.prefix_iff_eq_take.1 (List.takeWhile_prefix ..)).symm
    have h2 := firstE_at hs h.symm
    rw [List.take_add_one, hs, List.filter_append, h1]
    have h3 : (l.takeWhile fullB).filter fullB = l.takeWhile fullB := List.filter_eq_self.2 fun x hx => List.all_eq_true.1 (List.all_takeWhile (l := l) (p := fullB)) x hx
    have h4 : fullB s = false := by unfold fullB; rw [h2]; rfl
    rw [h3]
    simp [h4]
  high := rfl
theorem DelAt.skip {l m : List Sp} {i j : Nat} {s : Sp} (h : DelAt l m i j) (hs : l[j]? = some s) (he : emptyB s = true) : DelAt l m i (j + 1) where
  len := h.len
  lt := by have := h.lt; omega
  low := by rw [List.take_add_one, hs, List.filter_append, ← h.low]; simp [fullB, he]
  high := by rw [← List.drop_drop, h.high, List.drop_drop]
theorem DelAt.keep {l m : List Sp} {i j : Nat} {s : Sp} (h : DelAt l m i j) (hs : l[j]? = some s) (he : emptyB s = false) : DelAt l (m.set i s) (i + 1) (j + 1) where
  len := by rw [List.length_set]; exact h.len
  lt := by have := h.lt; omega
  low := by
    have hj := (List.getElem?_eq_some_iff.1 hs).1
    have h1 := h.lt
    have h2 := h.len
    rw [List.take_add_one, List.take_add_one, hs, List.filter_append, ← h.low, List.getElem?_set_self (by omega), List.take_set_of_le (Nat.le_refl _)]
    simp [fullB, he]
  high := by
    have h1 := h.lt
    rw [List.drop_set_of_lt (by omega), ← List.drop_drop, h.high, List.drop_drop]
theorem DelAt.at {l m : List Sp} {i j : Nat} {s : Sp} (h : DelAt l m i j) (hs : l[j]? = some s) : m[j]? = some s := by
  have h1 : (m.drop j)[0]? = (l.drop j)[0]? := by rw [h.high]
  simpa [hs] using h1
theorem DelAt.done {l m : List Sp} {i : Nat} (h : DelAt l m i l.length) : m.take i = l.filter fullB ∧ (l.filter fullB).length = i := by
  have h1 := h.low
  rw [List.take_length] at h1
  refine ⟨h1, ?_⟩
  rw [← h1, List.length_take]
  have := h.lt
  have := h.len
  omega
theorem zSp_one : ∀ u ∈ zSp, u.oneCell' = true := by intro u hu; simp at hu; subst hu; rfl
theorem zeroSp : ∀ w : World, (zeroValue 111).run Try.prog w = .ok (.agg #[.string ⟨#[]⟩, .string ⟨#[]⟩]) w := Try.zeroValue111
set_option maxRecDepth 100000 in
set_option maxHeartbeats 8000000 in
theorem spDel_any {W w : World} {L : List SL} (A : Option Addr) (c : Nat) (l : List Sp) (hl : l.length ≤ 1000000000) (H : Sat W w (row 111 zSp (.slice A l.length c) l.length (spC l) :: L)) :
    Calls Try.prog 136 #[.slice A l.length c, .func (.func 138) #[] #[]] w fun e w' => ∃ A' c', e = .returned (.slice A' (l.filter fullB).length c') ∧ Sat W w' (row 111 zSp (.slice A' (l.filter fullB).length c') (l.filter fullB).length (spC (l.filter fullB)) :: L) := by
  obtain ⟨i0, hi, hz0, hz1, hz2⟩ := info_parts infoSp
  have HI := spIndexE_any A c l (by unfold maxLen; omega) RdL.row H
  by_cases hlt : firstE l < l.length
  · rw [show idxE l = (firstE l : Int) from if_pos hlt] at HI
    have hst := DelAt.start hlt rfl
    generalize firstE l = k0 at *
    have HST := Lib.hid (hst)
    have HI2 := Lib.hid (HI)
    have HL := Lib.hid (show (Try.prog.info? 111).map (·.size) = some zSp.length from sp_size)
    have hne : ((k0 : Int) == -1) = false := beq_eq_false_iff_ne.2 (by omega)
    obtain ⟨_, A1, c1, hv, hnc, hcm, _, hA1⟩ := H.slice
    cases hv
    obtain ⟨g, rfl⟩ := H.row_some (by omega)
    unfold maxLen at hcm
    clear HI hst hA1
    go_enter Try.func136, Try.ntmps136
    go_wp2_with fail
    refine (HI2.out).mono ?_
    rintro e w2 ⟨rfl, H2⟩
    clear HI2 H
    go_wp2
    go_loopw [5, 6] (fun s5 s6 wc => ∃ (i j : Nat) (m : List Sp), s5 = .int .i64 i ∧ s6 = .int .i64 j ∧ j ≤ l.length ∧ Hid (DelAt l m i j) ∧ Sat W wc (row 111 zSp (.slice (some ⟨g, 0, none⟩) l.length c) l.length (spC m) :: L)) (fun _ s6 _ => l.length - (intOf s6).toNat)
    case atStart => exact ⟨k0, k0 + 1, l, rfl, by go_num, by omega, HST.out, H2⟩
    case round =>
      clear H2 HST
      obtain ⟨i, j, m, rfl, rfl, hj, hD, H⟩ := hrel
      have hij := hD.out.lt
      have hml := hD.out.len
      by_cases hlt2 : j < l.length
      · obtain ⟨s, hs⟩ : ∃ x, l[j]? = some x := ⟨_, List.getElem?_eq_getElem (by omega)⟩
        have hms := hD.out.at hs
        obtain ⟨b, o, hA, c0, c1, hrd⟩ := sp_cells H.rd j s hms
        cases hA
        simp only [Nat.zero_add] at c0 c1 hrd
        have HS := Lib.hid (hs)
        obtain ⟨lo, hi'⟩ := s
        dsimp only at c0 c1
        have H5 := H.alloc #[.string ⟨lo.toArray⟩, .string ⟨hi'.toArray⟩] 111
        have HE := spEmpty_any lo hi' H5
        clear hs hms
        cases hb : emptyB ⟨lo, hi'⟩ with
        | true =>
          rw [hb] at HE
          have HE2 := Lib.hid (HE)
          have HB := Lib.hid (hb)
          clear hb HE hml
          go_wp2_with fail
          refine (HE2.out).mono ?_
          rintro e w6 ⟨rfl, H6⟩
          go_wp2
          exact ⟨⟨i, j + 1, m, rfl, by go_num, by omega, hD.out.skip HS.out HB.out, H6.tail⟩, by simp [intOf]; omega⟩
        | false =>
          rw [hb] at HE
          have HE2 := Lib.hid (HE)
          have HB := Lib.hid (hb)
          have HML := Lib.hid (hml)
          clear hb HE hml
          go_wp2_with fail
          refine (HE2.out).mono ?_
          rintro e w6 ⟨rfl, H6⟩
          have d0 := H6.cell 0
          have d1 := H6.cell 1
          go_wp2_with (first
            | (refine wpList_store_elx rfl rfl (.tmp 33) (.tmp 32) 111 rfl i (by omega) [.string ⟨lo.toArray⟩, .string ⟨hi'.toArray⟩] HL.out rfl (by simp [Act.eval]) rfl (sp_one ⟨lo, hi'⟩) (sp_typed ⟨lo, hi'⟩) H6.swap ?_
               intro w7 H7))
          have hset := flat_set Sp.cs 2 m i ⟨lo, hi'⟩ (fun _ _ => rfl) (by have := HML.out; omega)
          refine ⟨⟨i + 1, j + 1, m.set i ⟨lo, hi'⟩, by go_num, by go_num, by omega, hD.out.keep HS.out HB.out, ?_⟩, by simp [intOf]; omega⟩
          have H8 := H7.swap.tail
          unfold spC
          rw [← hset]
          exact H8
      · obtain rfl : j = l.length := by omega
        have hdn := hD.out.done
        have hlm : i ≤ l.length := by omega
        have HDN := Lib.hid (hdn)
        clear hdn hml
        go_wp2_with (first
          | (refine wpList_slice_fromZ (by rfl) (.tmp 36) (.tmp 37) 40 rfl 111 i0 2 Try.underlying40 hi hz1 (some ⟨g, 0, none⟩) l.length c i rfl rfl (by omega) ?_)
          | (refine wpList_clear_row (zc := zSp) rfl rfl (.tmp 38) 40 rfl Try.underlying40 _ zeroSp rfl (by simp) zSp_one zSp_like i hij rfl H ?_
             intro w7 H7)
          | (refine wpList_slice_toZ (by rfl) (.tmp 39) (.tmp 40) 40 rfl 111 i0 Try.underlying40 hi (some ⟨g, 0, none⟩) i c i rfl rfl (by omega) ?_))
        go_ret
        refine ⟨some ⟨g, 0, none⟩, c, by rw [HDN.out.2]; rfl, ?_⟩
        have e1 : (spC m).take (i * zSp.length) = spC (l.filter fullB) := by
          rw [← HDN.out.1]
          unfold spC
          have e2 : m = m.take i ++ m.drop i := (List.take_append_drop i m).symm
          conv => lhs; rw [e2]
          rw [List.flatMap_append, List.take_left']
          rw [flat_len Sp.cs 2 _ fun _ _ => rfl, List.length_take, Nat.min_eq_left (by have := hD.out.len; omega)]
          rfl
        rw [e1] at H7
        rw [HDN.out.2]
        exact H7
  · rw [show idxE l = -1 from if_neg hlt] at HI
    have hf := firstE_all (l := l) (by have := firstE_le l; omega)
    have HI2 := Lib.hid (HI)
    rw [hf]
    clear HI hf hlt
    go_enter Try.func136, Try.ntmps136
    go_wp2_with fail
    refine (HI2.out).mono ?_
    rintro e w2 ⟨rfl, H2⟩
    go_wp2
    go_ret
    exact ⟨A, c, rfl, H2⟩
end Go.Proofs.Ytodbmeklbamcfaa

/- The shelf's contracts on slices.SortFunc at this seat, in plain words (lay-plain.mjs; THIS SEAT's NUMBERS). -/
namespace Go.Proofs
open Go.Shelf
def Try.sortF139_ren : Go.Shelf.Ren := ⟨fun | 6 => 139 | 15 => 145 | 14 => 146 | 28 => 157 | 29 => 158 | 20 => 159 | 21 => 160 | 22 => 161 | 23 => 162 | 24 => 163 | 25 => 164 | 26 => 165 | 27 => 166 | 46 => 172 | 47 => 168 | 48 => 169 | 49 => 173 | 50 => 174 | 57 => 176 | n => n, fun | 22 => 40 | 24 => 111 | 25 => 187 | 3 => 3 | 39 => 82 | 0 => 0 | 53 => 98 | 55 => 136 | 4 => 4 | 46 => 195 | 45 => 194 | 50 => 200 | 5 => 5 | 9 => 9 | 66 => 209 | 70 => 79 | 76 => 216 | 77 => 217 | n => n, fun | n => n⟩
theorem Try.sortF139 : Go.Proofs.SlLaysF0.n6 Try.prog Try.sortF139_ren := {
  mixed := by kernel_rfl
  f6 := ⟨Try.f139.name, by decide, Try.func139.trans (congrArg some (by kernel_rfl))⟩
  f14 := ⟨Try.f146.name, by decide, Try.func146.trans (congrArg some (by kernel_rfl))⟩
  f15 := Try.func145.trans (congrArg some (by kernel_rfl))
  f20 := ⟨Try.f159.name, by decide, Try.func159.trans (congrArg some (by kernel_rfl))⟩
  f21 := ⟨Try.f160.name, by decide, Try.func160.trans (congrArg some (by kernel_rfl))⟩
  f22 := ⟨Try.f161.name, by decide, Try.func161.trans (congrArg some (by kernel_rfl))⟩
  f23 := ⟨Try.f162.name, by decide, Try.func162.trans (congrArg some (by kernel_rfl))⟩
  f24 := ⟨Try.f163.name, by decide, Try.func163.trans (congrArg some (by kernel_rfl))⟩
  f25 := ⟨Try.f164.name, by decide, Try.func164.trans (congrArg some (by kernel_rfl))⟩
  f26 := ⟨Try.f165.name, by decide, Try.func165.trans (congrArg some (by kernel_rfl))⟩
  f27 := ⟨Try.f166.name, by decide, Try.func166.trans (congrArg some (by kernel_rfl))⟩
  f28 := Try.func157.trans (congrArg some (by kernel_rfl))
  f29 := Try.func158.trans (congrArg some (by kernel_rfl))
  f46 := ⟨Try.f172.name, by decide, Try.func172.trans (congrArg some (by kernel_rfl))⟩
  f47 := Try.func168.trans (congrArg some (by kernel_rfl))
  f48 := Try.func169.trans (congrArg some (by kernel_rfl))
  f49 := ⟨Try.f173.name, by decide, Try.func173.trans (congrArg some (by kernel_rfl))⟩
  f50 := ⟨Try.f174.name, by decide, Try.func174.trans (congrArg some (by kernel_rfl))⟩
  f57 := ⟨Try.f176.name, by decide, Try.func176.trans (congrArg some (by kernel_rfl))⟩
  t0 := Try.underlying0
  a0 := Try.isAgg0
  z0 := Try.sizeOf0
  v0 := Try.zeroValue0
  t3 := Try.underlying3
  a3 := Try.isAgg3
  z3 := Try.sizeOf3
  v3 := Try.zeroValue3
  t4 := Try.underlying4
  a4 := Try.isAgg4
  z4 := Try.sizeOf4
  v4 := Try.zeroValue4
  t5 := Try.underlying5
  a5 := Try.isAgg5
  z5 := Try.sizeOf5
  v5 := Try.zeroValue5
  t9 := Try.underlying9
  a9 := Try.isAgg9
  z9 := Try.sizeOf9
  v9 := Try.zeroValue9
  t22 := Try.underlying40
  a22 := Try.isAgg40
  z22 := Try.sizeOf40
  v22 := Try.zeroValue40
  t25 := Try.underlying187
  a25 := Try.isAgg187
  z25 := Try.sizeOf187
  v25 := Try.zeroValue187
  t39 := Try.underlying82
  a39 := Try.isAgg82
  z39 := Try.sizeOf82
  v39 := Try.zeroValue82
  t45 := Try.underlying194
  a45 := Try.isAgg194
  z45 := Try.sizeOf194
  v45 := Try.zeroValue194
  t46 := Try.underlying195
  a46 := Try.isAgg195
  z46 := Try.sizeOf195
  v46 := Try.zeroValue195
  t50 := Try.underlying200
  a50 := Try.isAgg200
  z50 := Try.sizeOf200
  v50 := Try.zeroValue200
  t53 := Try.underlying98
  a53 := Try.isAgg98
  z53 := Try.sizeOf98
  v53 := Try.zeroValue98
  t55 := Try.underlying136
  a55 := Try.isAgg136
  z55 := Try.sizeOf136
  v55 := Try.zeroValue136
  t66 := Try.underlying209
  a66 := Try.isAgg209
  z66 := Try.sizeOf209
  v66 := Try.zeroValue209
  t70 := Try.underlying79
  a70 := Try.isAgg79
  z70 := Try.sizeOf79
  v70 := Try.zeroValue79
  t76 := Try.underlying216
  a76 := Try.isAgg216
  z76 := Try.sizeOf216
  v76 := Try.zeroValue216
  t77 := Try.underlying217
  a77 := Try.isAgg217
  z77 := Try.sizeOf217
  v77 := Try.zeroValue217 }
end Go.Proofs

/- span.Join: spans that are sorted by the library, then joined. -/
namespace Go.Proofs.Ytodbmeklbamcfaa
open Go.RowKit Go.Rt Go.Sort Go.Shelf

/-- A world that has grown: draws and new blocks alone. -/
def Grew (W w : World) : Prop := ∃ q os, w = grow (W.drewN q) os
theorem Grew.refl (W : World) : Grew W W := ⟨0, #[], by rw [grow_empty]; rfl⟩
theorem Grew.alloc {W w : World} (h : Grew W w) (o : Obj) : Grew W (w.alloc o) := by
  obtain ⟨q, os, rfl⟩ := h
  exact ⟨q, os ++ #[o], by rw [alloc_eq_grow, grow_grow]⟩
theorem Grew.drew {W w : World} (h : Grew W w) : Grew W w.drew := by
  obtain ⟨q, os, rfl⟩ := h
  exact ⟨q + 1, os, rfl⟩

theorem cmpText_any {w : World} (a b : Str) : Calls Try.prog 142 #[.string ⟨a.toArray⟩, .string ⟨b.toArray⟩] w fun e w' => e = .returned (.int .i64 (cmpS a b)) ∧ w' = w := by
  have hn : ∀ (x : Str) (w : World), Calls Try.prog 147 #[.string ⟨x.toArray⟩] w fun e w' => e = .returned (.bool false) ∧ w' = w := fun x w => by
    have h1 := beq_yes (rfl : x = x)
    go_enter Try.func147, Try.ntmps147
    go_wp2
    go_ret
    exact ⟨by first | rfl | (rw [h1]; rfl) | simp, rfl⟩
  have HN := Lib.hid (hn)
  rcases str_total a b with h | h | h
  · rw [cmpS_lt h]
    have h1 := less_yes h
    clear h hn
    go_enter Try.func142, Try.ntmps142
    go_wp2_with fail
    refine (HN.out _ _).mono ?_
    rintro e w2 ⟨rfl, rfl⟩
    go_wp2_with fail
    refine (HN.out _ _).mono ?_
    rintro e w2 ⟨rfl, rfl⟩
    go_wp2
    go_ret
    exact ⟨rfl, rfl⟩
  · subst h
    rw [cmpS_self]
    have h1 := less_no (str_irrefl a)
    clear hn
    go_enter Try.func142, Try.ntmps142
    go_wp2_with fail
    refine (HN.out _ _).mono ?_
    rintro e w2 ⟨rfl, rfl⟩
    go_wp2_with fail
    refine (HN.out _ _).mono ?_
    rintro e w2 ⟨rfl, rfl⟩
    go_wp2
    go_ret
    exact ⟨rfl, rfl⟩
  · rw [cmpS_gt h]
    have h1 := less_no fun h' => str_irrefl _ (str_trans h h')
    have h2 := less_yes h
    have h3 : (a == b) = false := beq_no fun h' => str_irrefl b (by rw [h'] at h; exact h)
    clear h hn
    go_enter Try.func142, Try.ntmps142
    go_wp2_with fail
    refine (HN.out _ _).mono ?_
    rintro e w2 ⟨rfl, rfl⟩
    go_wp2_with fail
    refine (HN.out _ _).mono ?_
    rintro e w2 ⟨rfl, rfl⟩
    go_wp2
    go_ret
    exact ⟨rfl, rfl⟩
def orI (x y : Int) : Int := if x ≠ 0 then x else y
theorem cmpOr_any {w : World} (b : Nat) (x y : Int) (h0 : w.cell? ⟨b, 0, none⟩ = some (.int .i64 x)) (h1 : w.cell? ⟨b, 1, none⟩ = some (.int .i64 y)) :
    Calls Try.prog 141 #[.slice (some ⟨b, 0, none⟩) 2 2] w fun e w' => e = .returned (.int .i64 (orI x y)) ∧ w' = w := by
  unfold orI
  by_cases hx : x = 0
  · subst hx
    have e1 : ((0 : Int) != 0) = false := rfl
    rw [if_neg (by simp)]
    by_cases hy : y = 0
    · subst hy
      go_enter Try.func141, Try.ntmps141
      go_wp2
      refine wp_loop_rounds 3 ?_
      rw [rounds_succ]
      go_wp2
      rw [rounds_succ]
      go_wp2
      rw [rounds_succ]
      go_wp2
      go_ret
      exact ⟨rfl, rfl⟩
    · have e2 : (y != 0) = true := by simpa using hy
      clear hy
      go_enter Try.func141, Try.ntmps141
      go_wp2
      refine wp_loop_rounds 3 ?_
      rw [rounds_succ]
      go_wp2
      rw [rounds_succ]
      go_wp2
      go_ret
      exact ⟨rfl, rfl⟩
  · have e2 : (x != 0) = true := by simpa using hx
    rw [if_pos hx]
    clear hx
    go_enter Try.func141, Try.ntmps141
    go_wp2
    refine wp_loop_rounds 3 ?_
    rw [rounds_succ]
    go_wp2
    go_ret
    exact ⟨rfl, rfl⟩
theorem cmpSp_or (a b : Sp) : cmpSp a b = orI (cmpS a.lo b.lo) (cmpS a.hi b.hi) := rfl
set_option maxRecDepth 100000 in
set_option maxHeartbeats 4000000 in
theorem spjoin1_any (x y : Sp) (W : World) : Calls Try.prog 140 #[.agg x.cs.toArray, .agg y.cs.toArray] W fun e w' => e = .returned (.int .i64 (cmpSp x y)) ∧ ∃ q os', w' = grow (W.drewN q) os' := by
  obtain ⟨xl, xh⟩ := x
  obtain ⟨yl, yh⟩ := y
  rw [cmpSp_or]
  dsimp only [Sp.cs]
  have HC := Lib.hid (fun (w : World) (a b : Str) => cmpText_any (w := w) a b)
  have HO := Lib.hid (fun (w : World) (b : Nat) => cmpOr_any (w := w) b (cmpS xl yl) (cmpS xh yh))
  have H1 := (Sat.start W).alloc #[.string ⟨xl.toArray⟩, .string ⟨xh.toArray⟩] 111
  have H2 := H1.alloc #[.string ⟨yl.toArray⟩, .string ⟨yh.toArray⟩] 111
  have g2 := ((Grew.refl W).alloc (.cells #[.string ⟨xl.toArray⟩, .string ⟨xh.toArray⟩] 111)).alloc (.cells #[.string ⟨yl.toArray⟩, .string ⟨yh.toArray⟩] 111)
  have d0 := H2.cell 0
  have d1 := H2.cell 1
  have d2 := H2.swap.cell 0
  have d3 := H2.swap.cell 1
  simp only [World.size_alloc] at d0 d1
  clear H1 H2
  go_enter Try.func140, Try.ntmps140
  go_wp2
  generalize hW : (W.alloc (.cells #[.string ⟨xl.toArray⟩, .string ⟨xh.toArray⟩] 111)).alloc (.cells #[.string ⟨yl.toArray⟩, .string ⟨yh.toArray⟩] 111) = W2 at *
  clear hW
  go_region_held3 (fun w' => Grew W w' ∧ w'.cell? ⟨W.heap.size, 0, none⟩ = some (.string ⟨xl.toArray⟩) ∧ w'.cell? ⟨W.heap.size, 1, none⟩ = some (.string ⟨xh.toArray⟩) ∧ w'.cell? ⟨W.heap.size + 1, 0, none⟩ = some (.string ⟨yl.toArray⟩) ∧ w'.cell? ⟨W.heap.size + 1, 1, none⟩ = some (.string ⟨yh.toArray⟩)) (refine ⟨?_, ?_, ?_, ?_, ?_⟩ <;> first | with_reducible assumption | exact Grew.drew (by with_reducible assumption) | exact Grew.alloc (by with_reducible assumption) _ | exact Grew.drew (Grew.alloc (by with_reducible assumption) _) | assumption | exact Lib.cell?_alloc_some _ (by assumption)) (first
    | (go_at_call 142; refine (HC.out _ _ _).mono ?_; rintro e w9 ⟨rfl, rfl⟩)
    | (go_at_call 141; refine (HO.out _ _ (by simp) (by simp)).mono ?_; rintro e w9 ⟨rfl, rfl⟩))
  go_wp2
  go_ret
  exact ⟨rfl, (g2.alloc _).drew⟩

theorem spSort_any {W w : World} {L : List SL} (A : Option Addr) (c : Nat) (l : List Sp) (hl : l.length ≤ 1000000000) (H : Sat W w (row 111 zSp (.slice A l.length c) l.length (spC l) :: L)) :
    Calls Try.prog 139 #[.slice A l.length c, .func (.func 140) #[] #[]] w fun e w' => e = .returned (.tuple #[]) ∧ ∃ d : Array Sp, PermIn 0 l.toArray.size l.toArray d ∧ SortedIn (ltOf cmpSp) 0 l.toArray.size d ∧ Sat W w' (row 111 zSp (.slice A l.length c) l.length (spC d.toList) :: L) := by
  rcases Nat.eq_zero_or_pos l.length with h0 | h0
  · obtain rfl : l = [] := List.eq_nil_of_length_eq_zero h0
    have h := AnyF.slices_SortFunc_none Try.sortF139 A c (.func (.func 140) #[] #[]) w
    refine Calls.mono (show Calls Try.prog 139 _ _ _ from h) ?_
    rintro e w' ⟨rfl, rfl⟩
    exact ⟨rfl, #[], permIn_refl _ _ _, fun i j h1 h2 h3 => by simp at h3, H⟩
  · obtain ⟨g, rfl⟩ := H.row_some h0
    obtain ⟨hH, hg⟩ := H.row_holdsK Sp.cs (by simp) (fun _ => rfl) l
    have eg : ∀ args w, (callFunc 140 args).run Try.prog w = .ok (.enter 140 args) w := enters_of Try.func140 (by kernel_rfl) rfl
    have hcon := AnyQ.slices_SortFunc Try.sortF139 2 Try.isAgg111 Try.sizeOf111 Sp.cs (fun _ => rfl) sp_one cmpSp swoSp 140 #[] g 0 c l.toArray w eg (fun _ _ _ _ x y => spjoin1_any x y _) hH hg (by simp; omega)
    have hcon2 : Calls Try.prog 139 #[.slice (some ⟨g, 0, none⟩) l.toArray.size c, .func (.func 140) #[] #[]] w _ := hcon
    rw [List.size_toArray] at hcon2
    refine hcon2.mono ?_
    rintro e w' ⟨rfl, d, n, os, hp, hs, rfl⟩
    have hd : d.size = l.length := by have := (perm_of hp).length_eq; simpa using this
    exact ⟨rfl, d, hp, hs, H.row_sortedK Sp.cs (by simp) (fun _ => rfl) d hd (spC_typed _)⟩

theorem spC_set_hi (hi : Str) : ∀ (l : List Sp) (k : Nat) (z : Sp), l[k]? = some z → (spC l).set (k * 2 + 1) (.string ⟨hi.toArray⟩) = spC (l.set k ⟨z.lo, hi⟩)
  | [], k, z, h => by simp at h
  | x :: l, 0, z, h => by
    simp at h
    subst h
    rfl
  | x :: l, k + 1, z, h => by
    have ih := spC_set_hi hi l k z (by simpa using h)
    have e : spC (x :: l) = .string ⟨x.lo.toArray⟩ :: .string ⟨x.hi.toArray⟩ :: spC l := rfl
    rw [e, show (k + 1) * 2 + 1 = (k * 2 + 1) + 1 + 1 by omega, List.set_cons_succ, List.set_cons_succ, ih]
    rfl
theorem list_last {α : Type} {l : List α} (h : l ≠ []) : ∃ k z, l[k]? = some z ∧ l.length = k + 1 ∧ l = l.take k ++ [z] := by
  obtain ⟨p, z, rfl⟩ : ∃ p z, l = p ++ [z] := ⟨l.dropLast, l.getLast h, (List.dropLast_concat_getLast h).symm⟩
  refine ⟨p.length, z, by simp, by simp, by simp⟩
theorem set_same {α : Type} {l : List α} {k : Nat} {z : α} (h : l[k]? = some z) : l.set k z = l := by
  obtain ⟨h1, h2⟩ := List.getElem?_eq_some_iff.1 h
  rw [← h2, List.set_getElem_self]
theorem lset_last {α : Type} (p : List α) (z y : α) : (p ++ [z]).set p.length y = p ++ [y] := by
  induction p with
  | nil => rfl
  | cons x p ih => simp [ih]
theorem joinAcc_inK {l acc : List Sp} {j k : Nat} {s z : Sp} (h : l[j]? = some s) (h0 : joinAcc l j = acc) (hz : acc[k]? = some z) (hk : acc.length = k + 1) (hr : reach z.hi s.lo) : joinAcc l (j + 1) = acc.set k ⟨z.lo, greatE z.hi s.hi⟩ := by
  have e : acc = acc.take k ++ [z] := by
    rw [← take_succ_of hz, List.take_of_length_le (by omega)]
  have hl : (acc.take k).length = k := by rw [List.length_take]; omega
  rw [joinAcc_in h (by rw [h0]; exact e) hr]
  conv => rhs; rw [e]
  have := lset_last (acc.take k) z ⟨z.lo, greatE z.hi s.hi⟩
  rw [hl] at this
  exact this.symm
theorem joinAcc_outK {l acc : List Sp} {j k : Nat} {s z : Sp} (h : l[j]? = some s) (h0 : joinAcc l j = acc) (hz : acc[k]? = some z) (hk : acc.length = k + 1) (hr : ¬ reach z.hi s.lo) : joinAcc l (j + 1) = acc ++ [s] := by
  have e : acc = acc.take k ++ [z] := by
    rw [← take_succ_of hz, List.take_of_length_le (by omega)]
  rw [joinAcc_out h (by rw [h0]; exact e) hr, ← e]


set_option maxRecDepth 100000 in
set_option maxHeartbeats 16000000 in
theorem spjoin_any {W w : World} {L : List SL} (A : Option Addr) (c : Nat) (l : List Sp) (hl : l.length ≤ 1000000) (hb : Bsl A l.length c) (hr : RdL W L A (spC l)) (H : Sat W w L) :
    Calls Try.prog 130 #[.slice A l.length c] w fun e w' => ∃ A' c', e = .returned (.slice A' (joinS l).length c') ∧ Sat W w' (row 111 zSp (.slice A' (joinS l).length c') (joinS l).length (spC (joinS l)) :: L) := by
  obtain ⟨i0, hi, hz0, hz1, hz2⟩ := info_parts infoSp
  have HC := Lib.hid (spClone_any A c l (by omega) hb hr H)
  have HD := Lib.hid (fun (w0 : World) (A0 : Option Addr) (c0 : Nat) (h : Sat W w0 (row 111 zSp (.slice A0 l.length c0) l.length (spC l) :: L)) => spDel_any A0 c0 l (by omega) h)
  have hfl : (l.filter fullB).length ≤ l.length := List.length_filter_le _ _
  have HS := Lib.hid (fun (w0 : World) (A0 : Option Addr) (c0 : Nat) (h : Sat W w0 (row 111 zSp (.slice A0 (l.filter fullB).length c0) (l.filter fullB).length (spC (l.filter fullB)) :: L)) => spSort_any A0 c0 (l.filter fullB) (by omega) h)
  go_enter Try.func130, Try.ntmps130
  go_wp2_with fail
  refine (HC.out).mono ?_
  rintro e w2 ⟨A1, c1, rfl, H1⟩
  go_wp2_with fail
  refine (HD.out _ _ _ H1).mono ?_
  rintro e w3 ⟨A2, c2, rfl, H2⟩
  go_wp2_with fail
  refine (HS.out _ _ _ H2).mono ?_
  rintro e w4 ⟨rfl, d, hp, hs, H3⟩
  have hj := join_sorted (l := l) hp hs
  have hdl := (perm_of hp).length_eq
  rw [← joinAcc_all] at hj
  generalize hm : d.toList = m at *
  have hml : (l.filter fullB).length = m.length := hdl.symm
  have HJ := Lib.hid (hj)
  generalize (l.filter fullB).length = n0 at *
  subst hml
  clear H1 H2 HC HD HS hp hs hj hdl hm hb H hr
  go_wp2
  go_loopw [3, 15] (fun ou i wc => ∃ (j : Nat) (Ao : Option Addr) (n co : Nat) (acc : List Sp), j ≤ m.length ∧ i = .int .i64 j ∧ ou = .slice Ao n co ∧ Hid (joinAcc m j = acc ∧ acc.length = n) ∧ Sat W wc (row 111 zSp (.slice Ao n co) n (spC acc) :: row 111 zSp (.slice A2 m.length c2) m.length (spC m) :: L)) (fun _ i _ => m.length - (intOf i).toNat)
  case atStart => exact ⟨0, none, 0, 0, [], by omega, rfl, rfl, ⟨joinAcc_zero m, rfl⟩, H3.nil _ _⟩
  case round =>
    clear H3
    obtain ⟨j, Ao, n, co, acc, hj, rfl, rfl, hA, H⟩ := hrel
    by_cases hlt : j < m.length
    · obtain ⟨s, hs⟩ : ∃ x, m[j]? = some x := ⟨_, List.getElem?_eq_getElem (by omega)⟩
      obtain ⟨b, o, rfl, c0, c1, hrd⟩ := sp_cells H.tail.rd j s hs
      have hal : n ≤ j := by rw [← hA.out.2, ← hA.out.1]; exact joinAcc_len m j
      have HS := Lib.hid (hs)
      obtain ⟨lo, hi'⟩ := s
      dsimp only at c0 c1
      have H5 := H.alloc #[.string ⟨lo.toArray⟩, .string ⟨hi'.toArray⟩] 111
      have d0 := H5.cell 0
      have d1 := H5.cell 1
      clear hs hrd
      cases n with
      | zero =>
        obtain rfl : acc = [] := List.eq_nil_of_length_eq_zero hA.out.2
        have HF := Lib.hid (joinAcc_first HS.out hA.out.1)
        go_wp2
        go_quiet (fail)
        have e6 : ((wr.alloc (.cells #[.string ⟨lo.toArray⟩, .string ⟨hi'.toArray⟩] 111)).drewN nq).heap.size = wr.heap.size + 1 := World.size_alloc _ _
        have H6 := (H5.drewN nq).alloc #[.string ⟨lo.toArray⟩, .string ⟨hi'.toArray⟩] 111
        rw [e6] at H6
        go_wp2_with (first
          | (at_builtin
             refine wpList_append_sl rfl (.tmp 71) (.tmp 73) 40 rfl 111 i0 _ zSp 32 Try.underlying40 hi hz0 rfl hz1 hz2 (by simp) zSp_like _ 0 _ rfl ((H6.pull 2)) (some ⟨wr.heap.size + 1, 0, none⟩) 1 1 [.string ⟨lo.toArray⟩, .string ⟨hi'.toArray⟩] rfl rfl (RdL.pt _ H6) (sp_one ⟨lo, hi'⟩) (sp_typed ⟨lo, hi'⟩) (by unfold maxLen; omega) (by omega) ?_
             intro A7 c7 w7 H7))
        exact ⟨⟨j + 1, A7, 1, c7, [⟨lo, hi'⟩], by omega, by go_num, rfl, ⟨HF.out, rfl⟩, (H7.swap.tail).swap.tail⟩, by simp [intOf]; omega⟩
      | succ k =>
        obtain ⟨z, hz⟩ : ∃ z, acc[k]? = some z := ⟨_, List.getElem?_eq_getElem (by have := hA.out.2; omega)⟩
        obtain ⟨g, o', hAo, e0, e1, _⟩ := sp_cells H.rd k z hz
        obtain ⟨g', hAo'⟩ := H.row_some (by omega)
        rw [hAo'] at hAo
        cases hAo
        subst hAo'
        simp only [Nat.zero_add] at e0 e1
        have f1 := Lib.cell?_alloc_some (.cells #[.string ⟨lo.toArray⟩, .string ⟨hi'.toArray⟩] 111) e1
        have fz := H5.swap.row_frz (k * 2 + 1)
        have HIN := Lib.hid (fun (hr : reach z.hi lo) => joinAcc_inK HS.out hA.out.1 hz hA.out.2 hr)
        have HOUT := Lib.hid (fun (hr : ¬ reach z.hi lo) => joinAcc_outK HS.out hA.out.1 hz hA.out.2 hr)
        have HSET := Lib.hid (fun (hi : Str) => spC_set_hi hi acc k z hz)
        obtain ⟨zl, zh⟩ := z
        dsimp only at e0 e1 f1 HIN HOUT HSET
        have hs1 : IntKind.i64.wrap ((k : Int) + 1 - 1) = (k : Int) := by rw [IntWalk.i64_in _ (by omega)]; omega
        have hs2 : IntKind.i64.wrap (k : Int) = (k : Int) := by rw [IntWalk.i64_in _ (by omega)]
        have hgt : (0 : Int) < (k : Int) + 1 := by omega
        have HZ := Lib.hid (hz)
        clear hz e0 e1
        by_cases hze : zh = []
        · subst hze
          have HI := Lib.hid (HIN.out (.inl rfl))
          go_wp2
          go_quiet (fail)
          generalize nq = n1 at *
          go_wp2
          go_quiet (fail)
          go_wp2
          refine ⟨⟨j + 1, some ⟨g, 0, none⟩, k + 1, co, acc.set k ⟨zl, []⟩, by omega, by go_num, rfl, ⟨HI.out, by rw [List.length_set]; exact hA.out.2⟩, ?_⟩, by simp [intOf]; omega⟩
          have h8 : acc.set k ⟨zl, []⟩ = acc := set_same HZ.out
          rw [h8]
          exact (H5.drewN (n1 + nq)).tail
        · have hzE : zh.isEmpty = false := by cases zh with | nil => exact absurd rfl hze | cons x l => rfl
          by_cases hr : zh < lo
          · have HO := Lib.hid (HOUT.out (by unfold reach; simp [hze, hr]))
            have hb1 := less_no fun h' => str_irrefl _ (str_trans hr h')
            have hb2 : (lo == zh) = false := beq_no fun h' => str_irrefl lo (by rw [← h'] at hr; exact hr)
            clear hze hr
            go_wp2
            go_quiet (fail)
            have e6 : ((wr.alloc (.cells #[.string ⟨lo.toArray⟩, .string ⟨hi'.toArray⟩] 111)).drewN nq).heap.size = wr.heap.size + 1 := World.size_alloc _ _
            have H6 := (H5.drewN nq).alloc #[.string ⟨lo.toArray⟩, .string ⟨hi'.toArray⟩] 111
            rw [e6] at H6
            go_wp2_with (first
              | (at_builtin
                 refine wpList_append_sl rfl (.tmp 71) (.tmp 73) 40 rfl 111 i0 _ zSp 32 Try.underlying40 hi hz0 rfl hz1 hz2 (by simp) zSp_like _ (k+1) _ rfl ((H6.pull 2)) (some ⟨wr.heap.size + 1, 0, none⟩) 1 1 [.string ⟨lo.toArray⟩, .string ⟨hi'.toArray⟩] rfl rfl (RdL.pt _ H6) (sp_one ⟨lo, hi'⟩) (sp_typed ⟨lo, hi'⟩) (by unfold maxLen; omega) (by omega) ?_
                 intro A7 c7 w7 H7))
            refine ⟨⟨j + 1, A7, k + 1 + 1, c7, acc ++ [⟨lo, hi'⟩], by omega, by go_num, rfl, ⟨HO.out, by rw [List.length_append, hA.out.2]; rfl⟩, ?_⟩, by simp [intOf]; omega⟩
            rw [spC_append]
            exact (H7.swap.tail).swap.tail
          · have hre : reach zh lo := .inr hr
            have HI := Lib.hid (HIN.out hre)
            obtain ⟨bb, hb, hbb⟩ : ∃ bb, (Op.bytesLess lo zh || lo == zh) = bb ∧ bb = true := ⟨_, rfl, by
              rcases str_total lo zh with h | h | h
              · rw [less_yes h]; rfl
              · rw [beq_yes h, Bool.or_true]
              · exact absurd h hr⟩
            have hl2 : (Op.bytesLess lo zh = true) ∨ (Op.bytesLess lo zh = false ∧ (lo == zh) = true) := by
              cases h3 : Op.bytesLess lo zh with
              | true => exact .inl rfl
              | false => rw [h3, hbb] at hb; exact .inr ⟨rfl, hb⟩
            have HL2 := Lib.hid hl2
            clear hl2
            by_cases hie : hi' = []
            · subst hie
              have HG := Lib.hid (greatE_take hze (.inl (rfl : ([] : Str) = [])))
              clear hze hr hre
              go_wp2
              go_quiet (fail)
              generalize nq = n1 at *
              go_wp2
              go_quiet (fail)
              go_wp2
              refine ⟨⟨j + 1, some ⟨g, 0, none⟩, k + 1, co, acc.set k ⟨zl, []⟩, by omega, by go_num, rfl, ⟨by rw [HI.out, HG.out], by rw [List.length_set]; exact hA.out.2⟩, ?_⟩, by simp [intOf]; omega⟩
              have h8 := ((H5.drewN (n1 + nq)).swap.row_set (k * 2 + 1) (.string ⟨List.toArray []⟩) (by rw [show (k * 2 + 1) % zSp.length = 1 by show (k * 2 + 1) % 2 = 1; omega]; rfl)).swap.tail
              rw [HSET.out []] at h8
              exact h8
            · have hiE : hi'.isEmpty = false := by cases hi' with | nil => exact absurd rfl hie | cons x l => rfl
              by_cases hgr : zh < hi'
              · have HG := Lib.hid (greatE_take hze (.inr hgr))
                have hc1 := less_no fun h' => str_irrefl _ (str_trans hgr h')
                have hc2 : (hi' == zh) = false := beq_no fun h' => str_irrefl hi' (by rw [← h'] at hgr; exact hgr)
                clear hze hr hre hgr hie
                go_wp2
                go_quiet (fail)
                generalize nq = n1 at *
                go_wp2
                go_quiet (fail)
                go_wp2
                refine ⟨⟨j + 1, some ⟨g, 0, none⟩, k + 1, co, acc.set k ⟨zl, hi'⟩, by omega, by go_num, rfl, ⟨by rw [HI.out, HG.out], by rw [List.length_set]; exact hA.out.2⟩, ?_⟩, by simp [intOf]; omega⟩
                have h8 := ((H5.drewN (n1 + nq)).swap.row_set (k * 2 + 1) (.string ⟨List.toArray hi'⟩) (by rw [show (k * 2 + 1) % zSp.length = 1 by show (k * 2 + 1) % 2 = 1; omega]; rfl)).swap.tail
                rw [HSET.out hi'] at h8
                exact h8
              · have HG := Lib.hid (greatE_keep (a := zh) (b := hi') (.inr ⟨hie, hgr⟩))
                obtain ⟨cc, hc, hcc⟩ : ∃ cc, (Op.bytesLess hi' zh || hi' == zh) = cc ∧ cc = true := ⟨_, rfl, by
                  rcases str_total hi' zh with h | h | h
                  · rw [less_yes h]; rfl
                  · rw [beq_yes h, Bool.or_true]
                  · exact absurd h hgr⟩
                clear hze hr hre hgr hie
                go_wp2
                go_quiet (fail)
                generalize nq = n1 at *
                go_wp2
                go_quiet (fail)
                go_wp2
                refine ⟨⟨j + 1, some ⟨g, 0, none⟩, k + 1, co, acc.set k ⟨zl, zh⟩, by omega, by go_num, rfl, ⟨by rw [HI.out, HG.out], by rw [List.length_set]; exact hA.out.2⟩, ?_⟩, by simp [intOf]; omega⟩
                have h8 : acc.set k ⟨zl, zh⟩ = acc := set_same HZ.out
                rw [h8]
                exact (H5.drewN (n1 + nq)).tail
    · obtain rfl : j = m.length := by omega
      have hacc := hA.out.1.symm.trans HJ.out
      subst hacc
      have hn := hA.out.2
      subst hn
      go_wp2
      go_ret
      exact ⟨Ao, co, rfl, H.swap.tail⟩
end Go.Proofs.Ytodbmeklbamcfaa

/- span.Join; the document's sorted spans, its Join. -/
namespace Go.Proofs.Ytodbmeklbamcfaa
open Go.RowKit Go.Rt

set_option maxRecDepth 100000 in
set_option maxHeartbeats 4000000 in
theorem spJoin_any {W w : World} {L : List SL} (A : Option Addr) (c : Nat) (l : List Sp) (hl : l.length ≤ 1000000) (hb : Bsl A l.length c) (hr : RdL W L A (spC l)) (H : Sat W w L) :
    Calls Try.prog 113 #[.slice A l.length c] w fun e w' => ∃ A' c', e = .returned (.slice A' (joinS l).length c') ∧ Sat W w' (row 111 zSp (.slice A' (joinS l).length c') (joinS l).length (spC (joinS l)) :: L) := by
  have HJ := Lib.hid (spjoin_any A c l hl hb hr H)
  go_enter Try.func113, Try.ntmps113
  go_wp2_with fail
  refine (HJ.out).mono ?_
  rintro e w2 ⟨A1, c1, rfl, H1⟩
  go_wp2
  go_ret
  exact ⟨A1, c1, rfl, H1⟩

theorem sortAcc_len (l : List Sp) : ∀ j, (sortAcc l j).length ≤ j
  | 0 => Nat.le_refl _
  | j + 1 => by
    have ih := sortAcc_len l j
    cases hx : l[j]? with
    | none =>
      have e : sortAcc l (j + 1) = sortAcc l j := by unfold sortAcc; rw [List.take_add_one, hx, Option.toList, List.append_nil]
      rw [e]; omega
    | some s =>
      cases he : emptyB s with
      | true => rw [sortAcc_skip hx he]; omega
      | false =>
        have := (insLo_perm s (sortAcc l j)).length_eq
        rw [sortAcc_ins hx he, this, List.length_cons]; omega

theorem spC_take (l : List Sp) (k : Nat) (hk : k ≤ l.length) : spC (l.take k) = (spC l).take (k * 2) := by
  conv => rhs; rw [← List.take_append_drop k l, spC_append]
  rw [List.take_left']
  rw [spC_len, List.length_take, Nat.min_eq_left hk]
theorem spC_drop (l : List Sp) (k : Nat) (hk : k ≤ l.length) : spC (l.drop k) = (spC l).drop (k * 2) := by
  conv => rhs; rw [← List.take_append_drop k l, spC_append]
  rw [List.drop_left']
  rw [spC_len, List.length_take, Nat.min_eq_left hk]


end Go.Proofs.Ytodbmeklbamcfaa

/- cell.Key, cell.Check, and the document's. -/
namespace Go.Proofs.Ytodbmeklbamcfaa
open Go.RowKit Go.Rt

theorem goodP_bad {l : List Pr} {j : Nat} {p : Pr} (hp : l[j]? = some p) (h : okP p = false) : goodP l = false := by
  cases hg : goodP l with
  | false => rfl
  | true => have := ((goodP_iff l).1 hg).1 p (List.mem_of_getElem? hp); rw [h] at this; cases this
theorem goodP_fall {l : List Pr} {j : Nat} {p q : Pr} (hp : l[j]? = some p) (hq : l[j + 1]? = some q) (h : ¬ p.k < q.k) : goodP l = false := by
  unfold goodP
  rw [checkK_no (k := j) (by rw [List.getElem?_map, hp]; rfl) (by rw [List.getElem?_map, hq]; rfl) h, Bool.and_false]
theorem goodP_all {l : List Pr} (h1 : ∀ j p, j < l.length → l[j]? = some p → okP p = true) (h2 : ∀ j p q, j + 1 < l.length → l[j]? = some p → l[j + 1]? = some q → p.k < q.k) : goodP l = true := by
  unfold goodP
  rw [Bool.and_eq_true, List.all_eq_true, checkK_adj]
  refine ⟨fun p hp => ?_, fun k x y hx hy => ?_⟩
  · obtain ⟨j, hj⟩ := List.getElem?_of_mem hp
    exact h1 j p (List.getElem?_eq_some_iff.1 hj).1 hj
  · rw [List.getElem?_map] at hx hy
    cases ha : l[k]? with
    | none => rw [ha] at hx; cases hx
    | some p =>
      cases hb : l[k + 1]? with
      | none => rw [hb] at hy; cases hy
      | some q =>
        rw [ha] at hx; rw [hb] at hy
        simp at hx hy
        rw [← hx, ← hy]
        exact h2 k p q (List.getElem?_eq_some_iff.1 hb).1 ha hb
theorem checkS_of {l : List Pr} (h : l.length ≤ 65536) : checkS l = if goodP l then 0 else 2 := by
  unfold checkS
  rw [if_neg (by omega)]

set_option maxRecDepth 100000 in
set_option maxHeartbeats 4000000 in
theorem cKey_any {w : World} (k : Str) : Calls Try.prog 96 #[.string ⟨k.toArray⟩] w fun e w' => e = .returned (.bool (keyB k)) ∧ w' = w := by
  go_enter Try.func96, Try.ntmps96
  by_cases h1 : k.length = 0
  · have hk : k = [] := List.eq_nil_of_length_eq_zero h1
    subst hk
    go_wp2
    go_ret
    exact ⟨rfl, rfl⟩
  · have h2 : k.isEmpty = false := by cases k with | nil => exact absurd rfl h1 | cons x l => rfl
    have h3 : (1 : Int) ≤ (k.length : Int) := by omega
    by_cases h4 : k.length ≤ 32
    · have h5 : (k.length : Int) ≤ 32 := by omega
      go_wp2
      go_ret
      exact ⟨by simp [keyB]; omega, rfl⟩
    · have h5 : ¬ (k.length : Int) ≤ 32 := by omega
      go_wp2
      go_ret
      exact ⟨by simp [keyB]; omega, rfl⟩
theorem cKey_is (k : Str) (v : Bool) (hv : keyB k = v) (w : World) : Calls Try.prog 96 #[.string ⟨k.toArray⟩] w fun e w' => e = .returned (.bool v) ∧ w' = w := by subst hv; exact cKey_any k
end Go.Proofs.Ytodbmeklbamcfaa

/- Where a key stands: the program's binary search, the document's walk. -/
namespace Go.Proofs.Ytodbmeklbamcfaa
open Go.RowKit Go.Rt

/-- On which side of a pair a key lies. -/
def sideI (p : Pr) (k : Str) : Int := if k < p.k then -1 else if p.k < k then 1 else 0
theorem look_some {l : List Pr} (hl : RiseP l) (k : Str) : (lookP l k).isSome = match l[atP l k]? with
    | some p => decide (p.k = k)
    | none => false := by
  rw [look_atP hl]
  cases h : l[atP l k]? with
  | none => rfl
  | some p => by_cases e : p.k = k <;> simp [e]

end Go.Proofs.Ytodbmeklbamcfaa

/- What a key has: the program's answer, the document's. -/
namespace Go.Proofs.Ytodbmeklbamcfaa
open Go.RowKit Go.Rt

def getE (l : List Pr) (k : Str) : Str × Bool := if checkS l = 0 then ((lookP l k).getD [], (lookP l k).isSome) else ([], false)
theorem get_bad {l : List Pr} (k : Str) (h : checkS l ≠ 0) : getE l k = ([], false) := by unfold getE; rw [if_neg h]
theorem get_none {l : List Pr} {k : Str} (h : lookP l k = none) : getE l k = ([], false) := by unfold getE; rw [h]; split <;> rfl
theorem get_some {l : List Pr} {k v : Str} (h : checkS l = 0) (hv : lookP l k = some v) : getE l k = (v, true) := by unfold getE; rw [if_pos h, hv]; rfl
theorem look_at_some {l : List Pr} (hl : RiseP l) {k v : Str} (h : lookP l k = some v) : l[atP l k]? = some ⟨k, v⟩ := by
  rw [look_atP hl] at h
  cases hp : l[atP l k]? with
  | none => rw [hp] at h; cases h
  | some p =>
    rw [hp] at h
    simp only [Option.bind_some] at h
    split at h
    · rename_i e
      cases p
      simp at h e
      subst h e; rfl
    · cases h
theorem checkS_len {l : List Pr} (h : checkS l = 0) : l.length ≤ 65536 := ((checkS_ok l).1 h).1

end Go.Proofs.Ytodbmeklbamcfaa

/- Spans that are gone through: the program's answer, the document's. -/
namespace Go.Proofs.Ytodbmeklbamcfaa
open Go.RowKit Go.Rt

def scanE (l : List Pr) (s : Sp) (most : Nat) : List Pr := if checkS l = 0 then (l.filter fun p => inB s p.k).take most else []
theorem scan_bad {l : List Pr} (s : Sp) (n : Nat) (h : checkS l ≠ 0) : scanE l s n = [] := by unfold scanE; rw [if_neg h]
theorem takeWhile_take {m : List Pr} {p : Pr → Bool} {n j : Nat} (hall : ∀ i q, i < j → m[i]? = some q → p q = true) (hj : j ≤ n) (hm : j ≤ m.length) (hstop : j = m.length ∨ n ≤ j ∨ ∃ q, m[j]? = some q ∧ p q = false) : (m.takeWhile p).take n = m.take j := by
  induction m generalizing n j with
  | nil => simp
  | cons x m ih =>
    cases j with
    | zero =>
      rcases hstop with h | h | ⟨q, h1, h2⟩
      · simp at h
      · obtain rfl : n = 0 := by omega
        simp
      · simp at h1; subst h1; simp [h2]
    | succ j =>
      cases n with
      | zero => omega
      | succ n =>
        have h0 := hall 0 x (by omega) rfl
        have h1 := ih (n := n) (j := j) (fun i q hi hq => hall (i + 1) q (by omega) (by simpa using hq)) (by omega) (by simp at hm; omega) (by
          rcases hstop with h | h | ⟨q, h1, h2⟩
          · exact .inl (by simp at h; omega)
          · exact .inr (.inl (by omega))
          · exact .inr (.inr ⟨q, by simpa using h1, h2⟩))
        rw [List.takeWhile_cons_of_pos h0, List.take_succ_cons, List.take_succ_cons, h1]
theorem inB_lo {s : Sp} {k : Str} (h : k < s.lo) : inB s k = false := by unfold inB; rw [decide_eq_true h]; rfl
theorem inB_down {s : Sp} {x y : Str} (hx : ¬ x < s.lo) (h : x < y) (hy : inB s y = true) : inB s x = true := by
  unfold inB belowB at hy ⊢
  rw [decide_eq_false hx]
  simp only [Bool.and_eq_true, Bool.or_eq_true, decide_eq_true_eq, Bool.not_false, true_and] at hy ⊢
  rcases hy.2 with h1 | h1
  · exact .inl h1
  · exact .inr (str_trans h h1)
theorem filter_takeWhile {l : List Pr} (hl : RiseP l) (s : Sp) : (l.filter fun p => inB s p.k) = (l.drop (atP l s.lo)).takeWhile fun p => inB s p.k := by
  induction l with
  | nil => rfl
  | cons p l ih =>
    rw [atP_cons]
    by_cases h : p.k < s.lo
    · have h1 := inB_lo h
      rw [if_pos h, List.drop_succ_cons]
      simp only [List.filter_cons, h1, Bool.false_eq_true, if_false]
      exact ih hl.cons.2
    · rw [if_neg h, List.drop_zero]
      have hge : ∀ q ∈ l, ¬ q.k < s.lo := fun q hq h2 => h (str_trans (hl.cons.1 q hq) h2)
      have key : ∀ m : List Pr, RiseP m → (∀ q ∈ m, ¬ q.k < s.lo) → (m.filter fun p => inB s p.k) = m.takeWhile fun p => inB s p.k := fun m => by
        induction m with
        | nil => intro _ _; rfl
        | cons x m ihm =>
          intro hr hg
          cases hx : inB s x.k with
          | true =>
            simp only [List.filter_cons, List.takeWhile_cons, hx, if_true]
            rw [ihm hr.cons.2 fun q hq => hg q (by simp [hq])]
          | false =>
            simp only [List.filter_cons, List.takeWhile_cons, hx, Bool.false_eq_true, if_false]
            rw [List.filter_eq_nil_iff]
            intro q hq hb
            rw [inB_down (hg x (by simp)) (hr.cons.1 q hq) hb] at hx
            cases hx
      exact key _ hl (fun q hq => by
        rcases List.mem_cons.1 hq with rfl | hq
        · exact h
        · exact hge q hq)
theorem scan_at {l : List Pr} {s : Sp} {n j : Nat} (h0 : checkS l = 0) (hall : ∀ i q, i < j → (l.drop (atP l s.lo))[i]? = some q → inB s q.k = true) (hj : j ≤ n) (hm : j ≤ (l.drop (atP l s.lo)).length) (hstop : j = (l.drop (atP l s.lo)).length ∨ n ≤ j ∨ ∃ q, (l.drop (atP l s.lo))[j]? = some q ∧ inB s q.k = false) :
    scanE l s n = (l.drop (atP l s.lo)).take j := by
  unfold scanE
  rw [if_pos h0, filter_takeWhile (checkS_rise h0)]
  exact takeWhile_take hall hj hm hstop
theorem flat_drop {α : Type} (cs : α → List Value) (sz : Nat) (l : List α) (h : ∀ x ∈ l, (cs x).length = sz) (n : Nat) : (l.drop n).flatMap cs = (l.flatMap cs).drop (n * sz) := by
  induction l generalizing n with
  | nil => simp
  | cons p l ih =>
    cases n with
    | zero => simp
    | succ n =>
      have h1 := h p (by simp)
      have h2 : (cs p).drop (n * sz + sz) = [] := List.drop_eq_nil_of_le (by rw [h1]; omega)
      rw [List.drop_succ_cons, ih (fun x hx => h x (by simp [hx])), Nat.succ_mul, List.flatMap_cons, List.drop_append, h1, h2, List.nil_append]
      congr 1
      omega
theorem prC_drop (l : List Pr) (n : Nat) : prC (l.drop n) = (prC l).drop (n * 2) := flat_drop Pr.cs 2 l (fun _ _ => rfl) n
theorem prC_rdl {W : World} {L : List SL} {A : Option Addr} {l : List Pr} {c : Nat} (h : RdL W L A (prC l)) (hc : l.length ≤ c) (n : Nat) (hn : n ≤ l.length) : RdL W L (subZ 2 A c n) (prC (l.drop n)) := fun w H => by
  have h1 := subZ_rd (h w H) (prC_len l) hc n (l.length - n) (by omega)
  rw [prC_drop]
  rwa [List.take_of_length_le (by rw [List.length_drop, prC_len, Nat.sub_mul]; omega)] at h1

theorem filter_step (l : List Pr) (p : Pr → Bool) (j : Nat) (x : Pr) (h : l[j]? = some x) : (l.take (j + 1)).filter p = (l.take j).filter p ++ if p x then [x] else [] := by
  rw [List.take_add_one, h, List.filter_append]
  simp only [Option.toList_some, List.filter_cons, List.filter_nil]
theorem filter_take_of {l : List Pr} {p : Pr → Bool} {n j : Nat} (h : j = l.length ∨ n ≤ ((l.take j).filter p).length) (hn : ((l.take j).filter p).length ≤ n) : (l.filter p).take n = (l.take j).filter p := by
  rcases h with rfl | h
  · rw [List.take_length] at hn ⊢
    exact List.take_of_length_le hn
  · have e : l.filter p = (l.take j).filter p ++ (l.drop j).filter p := by rw [← List.filter_append, List.take_append_drop]
    rw [e, List.take_append_of_le_length (by omega), List.take_of_length_le hn]

end Go.Proofs.Ytodbmeklbamcfaa

/- Maps that the call owns: made, written, struck out, looked up, counted. No program in sight. -/
namespace Go.Rt
open Go.RowKit Go.Maps
open Go.WideElems (Fit rg)

/-- A map in a block of the call's own. -/
def mapS {H : Type} (P : Program) (k : TypeId) (R : Value → Option (DataW H × List MemPlace)) (b n : Nat) (D : DataW H) : SL := fun h =>
  ∃ es clock, h b = some (.map es clock) ∧ Fit P k R es clock ∧ es.size ≤ n ∧ D = .map ((es.toList.map (rg P k R)).foldr DataW.insert [])
section
variable {H : Type} {P : Program} {W w w' : World} {l : List SL} {k : TypeId} {R : Value → Option (DataW H × List MemPlace)} {b n n' : Nat} {D D' : DataW H}
theorem Sat.map_owns (S : Sat W w (mapS P k R b n D :: l)) : w.ownsMap P k R b n D := by
  obtain ⟨_, h, ⟨a, r, d, rfl, ⟨es, clock, h1, h2⟩, _⟩, hh⟩ := S
  exact ⟨es, clock, (hh b _ (join_left h1)).2, h2⟩
theorem Sat.map_ge (S : Sat W w (mapS P k R b n D :: l)) : W.heap.size ≤ b := by
  obtain ⟨_, h, ⟨a, r, d, rfl, ⟨es, clock, h1, h2⟩, _⟩, hh⟩ := S
  exact (hh b _ (join_left h1)).1
theorem Sat.map_made (S : Sat W w l) (P : Program) (k : TypeId) (R : Value → Option (DataW H × List MemPlace)) : Sat W (w.alloc (.map #[] 0)) (mapS P k R w.heap.size 0 (.map []) :: l) := by
  obtain ⟨es, clock, h1, h2, h3, h4⟩ := World.ownsMap_made w P k R
  rw [heap_new w (.map #[] 0)] at h1
  cases h1
  refine S.add (a := fun j => if j = w.heap.size then some (.map #[] 0) else none) _ ((Below.refl _ _).alloc (Nat.le_refl _) _) ⟨#[], 0, by simp, h2, h3, h4⟩ fun j o e => ?_
  by_cases hj : j = w.heap.size
  · subst hj
    simp at e
    subst e
    exact ⟨Nat.le_refl _, heap_new w _⟩
  · simp [hj] at e
theorem Sat.map_grown (S : Sat W w (mapS P k R b n D :: l)) (hgb : w.grownBy w' (some b)) (ho : w'.ownsMap P k R b n' D') : Sat W w' (mapS P k R b n' D' :: l) := by
  have hge := S.map_ge
  obtain ⟨es', clock', g1, g2, g3, g4⟩ := ho
  refine S.put (S.bel.grown hgb S.bel.size fun j e => by cases e; exact hge) fun a ⟨es, clock, h1, _⟩ hh => ⟨fun j => if j = b then some (.map es' clock') else none, ⟨es', clock', by simp, g2, g3, g4⟩, fun j hj => ?_, fun j o e => ?_, fun j hj hj2 => ?_⟩
  · by_cases e : j = b
    · subst e; left; rw [h1]; simp
    · simp [e] at hj
  · by_cases e1 : j = b
    · subst e1
      simp at e
      subst e
      exact ⟨hge, g1⟩
    · simp [e1] at e
  · exact hgb.block j hj2 (by intro e; cases e; rw [h1] at hj; cases hj)
theorem Sat.map_mono (S : Sat W w (mapS P k R b n D :: l)) (h : n ≤ n') : Sat W w (mapS P k R b n' D :: l) := S.head fun _ ⟨es, clock, h1, h2, h3, h4⟩ => ⟨es, clock, h1, h2, Nat.le_trans h3 h, h4⟩

set_option maxRecDepth 100000 in
theorem wpList_map_store {ops : Array Oper} {rest : List Oper} {o : Oper} {a : Act} {Q : Exit → Act → World → Prop} (hg : o.guard = none) (m x v : Operand) (t : TypeId) (hop : o.op = Op.mapUpdate t m x v)
    (e : TypeId) (K : Keyed P k) (ht : P.underlying t = some (.map k e)) (hm : a.eval m = .map (some b)) (S : Sat W w (mapS P k R b n D :: l)) (hn : n < maxLen) (key val : Value) (kl : Lit) (hx : a.eval x = key) (hv : a.eval v = val) (hkey : keyOf P k key = some kl)
    (d : DataW H) (hval : R val = some (d, []))
    (hK : ∀ w', Sat W w' (mapS P k R b (n + 1) (D.put kl d) :: l) → wpList P ops Q rest (a.put o.dst undef) w') : wpList P ops Q (o :: rest) a w :=
  wpList_mapUpdate_own w hg m x v t hop k e K ht R b n D hm S.map_owns hn key val kl hx hv hkey d [] hval fun w' r1 r2 => hK w' (S.map_grown r2 r1)
set_option maxRecDepth 100000 in
theorem wpList_map_delete {ops : Array Oper} {rest : List Oper} {o : Oper} {a : Act} {Q : Exit → Act → World → Prop} (hg : o.guard = none) (m x : Operand) (t k' : TypeId) (hop : o.op = Op.call { callee := Callee.builtin Builtin.delete, args := #[m, x], argTypes := #[t, k'] }) (hkk : k' = k)
    (e : TypeId) (K : Keyed P k) (ht : P.underlying t = some (.map k e)) (hm : a.eval m = .map (some b)) (S : Sat W w (mapS P k R b n D :: l)) (key : Value) (kl : Lit) (hx : a.eval x = key) (hkey : keyOf P k key = some kl)
    (hK : ∀ w', Sat W w' (mapS P k R b n (D.del kl) :: l) → wpList P ops Q rest (a.put o.dst (.tuple #[])) w') : wpList P ops Q (o :: rest) a w := by
  subst hkk
  exact wpList_delete_own w hg m x t k' hop e K ht R b n D hm S.map_owns key kl hx hkey fun w' r1 r2 => hK w' (S.map_grown r2.grown r1)
end
/-- A datum of a map whose keys are texts: what each has. -/
structure MapOf (D : DataW Unit) (f : List UInt8 → Option (DataW Unit)) : Prop where
  tidy : Maps.Tidy D
  has : ∀ x, Maps.has D (.string x) = (f x).isSome
  look : ∀ x d, f x = some d → ∀ z, D.atKey (.string x) z = d
theorem str_lit_ne {x y : List UInt8} (h : ¬ x = y) : (Lit.string x) ≠ .string y := fun e => h (by cases e; rfl)
theorem key_lit (x : List UInt8) : WideAt.IsKeyLit (Lit.string x) := trivial
theorem MapOf.nil : MapOf (.map []) fun _ => none := ⟨Maps.tidy_empty, fun _ => rfl, fun _ _ h => by cases h⟩
theorem MapOf.put {D : DataW Unit} {f : List UInt8 → Option (DataW Unit)} (h : MapOf D f) (x : List UInt8) (d : DataW Unit) : MapOf (D.put (.string x) d) fun y => if x = y then some d else f y := by
  refine ⟨h.tidy.put (key_lit x) d, fun y => ?_, fun y d' hy z => ?_⟩
  · by_cases e : x = y
    · subst e; rw [if_pos rfl, Maps.has_put_same h.tidy.isMap (key_lit x)]; rfl
    · rw [if_neg e, Maps.has_put_other (str_lit_ne fun h => e h.symm), h.has]
  · by_cases e : x = y
    · subst e; rw [if_pos rfl] at hy; cases hy; exact Maps.atKey_put_same h.tidy.isMap (key_lit x) _ _
    · rw [if_neg e] at hy; rw [Maps.atKey_put_other (str_lit_ne fun h => e h.symm)]; exact h.look y d' hy z
theorem MapOf.del {D : DataW Unit} {f : List UInt8 → Option (DataW Unit)} (h : MapOf D f) (x : List UInt8) : MapOf (D.del (.string x)) fun y => if x = y then none else f y := by
  refine ⟨h.tidy.del _, fun y => ?_, fun y d' hy z => ?_⟩
  · by_cases e : x = y
    · subst e; rw [if_pos rfl, Maps.has_del_same]; rfl
    · rw [if_neg e, Maps.has_del_other (str_lit_ne fun h => e h.symm), h.has]
  · by_cases e : x = y
    · subst e; rw [if_pos rfl] at hy; cases hy
    · rw [if_neg e] at hy; rw [Maps.atKey_del_other (str_lit_ne fun h => e h.symm)]; exact h.look y d' hy z
theorem MapOf.congr {D : DataW Unit} {f g : List UInt8 → Option (DataW Unit)} (h : MapOf D f) (e : ∀ x, f x = g x) : MapOf D g := by
  have : f = g := funext e
  exact this ▸ h
end Go.Rt

/- Writes: may one be; one laid on the program's table. -/
namespace Go.Proofs.Ytodbmeklbamcfaa
open Go.RowKit Go.Rt Go.Maps

/-- How a table's value reads. -/
def Rv (v : Value) : Option (DataW Unit × List MemPlace) := match v with
  | .agg a => match a.toList with
    | [.string s] => some (.lit (.string s.data.toList), [])
    | _ => none
  | _ => none
theorem Rv_mk (x : Str) : Rv (.agg #[.string ⟨x.toArray⟩]) = some (.lit (.string x), []) := rfl
theorem Rv_inv {v : Value} {d : DataW Unit} {ps : List MemPlace} (h : Rv v = some (d, ps)) : ∃ x : Str, v = .agg #[.string ⟨x.toArray⟩] ∧ d = .lit (.string x) := by
  unfold Rv at h
  split at h
  · rename_i a
    split at h
    · rename_i s hs
      refine ⟨s.data.toList, ?_, by cases h; rfl⟩
      have : a = #[.string s] := by apply Array.toList_inj.1; rw [hs]
      rw [this]
    · cases h
  · cases h
/-- What a table has of a key, as a datum. -/
def litO (o : Option Str) : Option (DataW Unit) := o.map fun v => .lit (.string v)
abbrev tabS (b n : Nat) (D : DataW Unit) : SL := mapS Try.prog 9 Rv b n D

end Go.Proofs.Ytodbmeklbamcfaa

/- effect's functions that ask: may a write be, spans, an effect; which keys it wrote; does it meet keys. -/
namespace Go.Proofs.Ytodbmeklbamcfaa
open Go.RowKit Go.Rt

/-- An effect's cells: where its lists lie, and how much room they have. -/
structure EfAt where
  A : Option Addr
  c : Nat
  A' : Option Addr
  c' : Nat
  A'' : Option Addr
  c'' : Nat
def Ef.cs (x : Ef) (p : EfAt) : List Value := [.int .i64 x.why, .int .i64 x.steps, .slice p.A x.rs.length p.c, .slice p.A' x.ss.length p.c', .slice p.A'' x.ws.length p.c'']
def Ef.v (x : Ef) (p : EfAt) : Value := .agg (x.cs p).toArray
/-- An effect's lists read, as long as the things of L are owned. -/
structure EfRd (W : World) (L : List SL) (x : Ef) (p : EfAt) : Prop where
  b : Bsl p.A x.rs.length p.c
  b' : Bsl p.A' x.ss.length p.c'
  b'' : Bsl p.A'' x.ws.length p.c''
  r : RdL W L p.A (tsC x.rs)
  r' : RdL W L p.A' (spC x.ss)
  r'' : RdL W L p.A'' (wtC x.ws)
theorem EfRd.tail {W : World} {L : List SL} {B : SL} {x : Ef} {p : EfAt} (h : EfRd W L x p) : EfRd W (B :: L) x p := ⟨h.b, h.b', h.b'', h.r.tail, h.r'.tail, h.r''.tail⟩
/-- An effect whose lists, and whose texts, are not too long. -/
structure EfOk (x : Ef) : Prop where
  rs : x.rs.length ≤ 100000
  ss : x.ss.length ≤ 100000
  ws : x.ws.length ≤ 100000
  ts : ∀ t ∈ x.rs, t.length ≤ 1000000
  sp : ∀ s ∈ x.ss, s.lo.length ≤ 1000000 ∧ s.hi.length ≤ 1000000
  wt : ∀ w ∈ x.ws, w.k.length ≤ 1000000 ∧ w.v.length ≤ 1000000

set_option maxRecDepth 100000 in
set_option maxHeartbeats 4000000 in
theorem efWrite_any {W w : World} {L : List SL} (x : Wt) (H : Sat W w L) :
    Calls Try.prog 97 #[.agg #[.string ⟨x.k.toArray⟩, .string ⟨x.v.toArray⟩, .bool x.d]] w fun e w' => e = .returned (.bool (mayW x)) ∧ Sat W w' L := by
  obtain ⟨k, v, d⟩ := x
  dsimp only
  have H1 := H.alloc #[.string ⟨k.toArray⟩, .string ⟨v.toArray⟩, .bool d] 115
  generalize hw0 : w.alloc (.cells #[.string ⟨k.toArray⟩, .string ⟨v.toArray⟩, .bool d] 115) = w0 at H1
  have c0 : w0.cell? ⟨w.heap.size, 0, none⟩ = some (.string ⟨k.toArray⟩) := H1.cell 0
  have c1 : w0.cell? ⟨w.heap.size, 1, none⟩ = some (.string ⟨v.toArray⟩) := H1.cell 1
  have c2 : w0.cell? ⟨w.heap.size, 2, none⟩ = some (.bool d) := H1.cell 2
  have QK := Lib.hid (fun v (hv : keyB k = v) (n : Nat) => cKey_is k v hv w0)
  unfold mayW
  dsimp only
  go_enter Try.func97, Try.ntmps97
  cases hk : keyB k with
  | false =>
    have QK1 := Lib.hid (QK.out false hk)
    clear QK hk
    go_wp2_with fail
    refine (QK1.out 0).mono ?_
    rintro e _ ⟨rfl, rfl⟩
    go_wp2
    go_ret
    exact ⟨rfl, H1.tail⟩
  | true =>
    have QK1 := Lib.hid (QK.out true hk)
    clear QK hk
    by_cases hv : v.length ≤ 64
    · have hv2 : decide ((v.length : Int) ≤ 64) = true := decide_eq_true (by omega)
      rw [decide_eq_true hv]
      clear hv
      cases d with
      | false =>
        go_wp2_with fail
        refine (QK1.out 0).mono ?_
        rintro e _ ⟨rfl, rfl⟩
        go_wp2
        go_ret
        exact ⟨rfl, H1.tail⟩
      | true =>
        by_cases hn : v = []
        · have e1 : v.isEmpty = true := by rw [hn]; rfl
          rw [decide_eq_true hn]
          clear hn
          go_wp2_with fail
          refine (QK1.out 0).mono ?_
          rintro e _ ⟨rfl, rfl⟩
          go_wp2
          go_ret
          exact ⟨rfl, H1.tail⟩
        · have e1 : v.isEmpty = false := by cases v with | nil => exact absurd rfl hn | cons x l => rfl
          rw [decide_eq_false hn]
          clear hn
          go_wp2_with fail
          refine (QK1.out 0).mono ?_
          rintro e _ ⟨rfl, rfl⟩
          go_wp2
          go_ret
          exact ⟨rfl, H1.tail⟩
    · have hv2 : decide ((v.length : Int) ≤ 64) = false := decide_eq_false (by omega)
      rw [decide_eq_false hv]
      clear hv
      go_wp2_with fail
      refine (QK1.out 0).mono ?_
      rintro e _ ⟨rfl, rfl⟩
      go_wp2
      go_ret
      exact ⟨rfl, H1.tail⟩

/-- Is a span the joined one of its place, and short? -/
def spOk (J : List Sp) (j : Nat) (s : Sp) : Bool := decide (J[j]? = some s) && (decide (s.lo.length ≤ 64) && decide (s.hi.length ≤ 64))
theorem spansB_len {l : List Sp} (h : (joinS l).length ≠ l.length) : spansB l = false := by
  unfold spansB
  rw [decide_eq_false (fun e => h (by rw [e]))]; rfl
theorem spansB_no {l : List Sp} {j : Nat} {s : Sp} (hs : l[j]? = some s) (h : spOk (joinS l) j s = false) : spansB l = false := by
  cases hb : spansB l with
  | false => rfl
  | true =>
    unfold spansB at hb
    rw [Bool.and_eq_true, decide_eq_true_eq, List.all_eq_true] at hb
    have h1 := hb.2 s (List.mem_of_getElem? hs)
    unfold spOk at h
    rw [hb.1, hs] at h
    rw [h1] at h
    simp at h
theorem spansB_yes {l : List Sp} (hl : (joinS l).length = l.length) (h : ∀ j s, j < l.length → l[j]? = some s → spOk (joinS l) j s = true) : spansB l = true := by
  unfold spansB
  rw [Bool.and_eq_true, decide_eq_true_eq, List.all_eq_true]
  refine ⟨sp_ext hl fun k hk => ?_, fun s hs => ?_⟩
  · have hs := List.getElem?_eq_getElem (l := l) (i := k) (by omega)
    have := h k _ (by omega) hs
    unfold spOk at this
    simp only [Bool.and_eq_true, decide_eq_true_eq] at this
    rw [this.1, hs]
  · obtain ⟨j, hj⟩ := List.getElem?_of_mem hs
    have := h j s (List.getElem?_eq_some_iff.1 hj).1 hj
    unfold spOk at this
    rw [Bool.and_eq_true] at this
    exact this.2

set_option maxRecDepth 100000 in
set_option maxHeartbeats 8000000 in
theorem efSpans_any {W w : World} {L : List SL} (A : Option Addr) (c : Nat) (l : List Sp) (hl : l.length ≤ 100000) (hb : Bsl A l.length c) (hr : RdL W L A (spC l)) (H : Sat W w L) :
    Calls Try.prog 95 #[.slice A l.length c] w fun e w' => e = .returned (.bool (spansB l)) ∧ Sat W w' L := by
  have HJ := Lib.hid (spJoin_any A c l (by omega) hb hr H)
  by_cases hlen : (joinS l).length = l.length
  · have hne : (((joinS l).length : Int) != (l.length : Int)) = false := by rw [hlen]; simp
    have hle : (joinS l).length ≤ 100000 := by omega
    have HNO := Lib.hid (fun (j : Nat) (s : Sp) (hs : l[j]? = some s) (h : spOk (joinS l) j s = false) => spansB_no hs h)
    have HYES := Lib.hid (fun (h : ∀ j s, j < l.length → l[j]? = some s → spOk (joinS l) j s = true) => spansB_yes hlen h)
    generalize spansB l = R at *
    generalize joinS l = J at *
    have HLEN := Lib.hid (hlen)
    clear H hb hlen
    go_enter Try.func95, Try.ntmps95
    go_wp2_with fail
    refine (HJ.out).mono ?_
    rintro e w2 ⟨A1, c1, rfl, H1⟩
    clear HJ
    go_wp2
    go_loopw [15] (fun i wc => ∃ j : Nat, j ≤ l.length ∧ i = .int .i64 j ∧ Hid (∀ k s, k < j → l[k]? = some s → spOk J k s = true) ∧ Sat W wc (row 111 zSp (.slice A1 J.length c1) J.length (spC J) :: L)) (fun i _ => l.length - (intOf i).toNat)
    case atStart => exact ⟨0, by omega, rfl, (fun k s h => by omega), H1⟩
    case round =>
      clear H1
      obtain ⟨j, hj, rfl, hN, H⟩ := hrel
      by_cases hlt : j < l.length
      · obtain ⟨s, hs⟩ : ∃ x, l[j]? = some x := ⟨_, List.getElem?_eq_getElem (by omega)⟩
        obtain ⟨t, ht⟩ : ∃ t, J[j]? = some t := ⟨_, List.getElem?_eq_getElem (by have := HLEN.out; omega)⟩
        have hjJ : j < J.length := by have := HLEN.out; omega
        obtain ⟨b, o, rfl, c0, c1', _⟩ := sp_cells (hr _ H.tail) j s hs
        obtain ⟨b', o', rfl, e0, e1, _⟩ := sp_cells H.rd j t ht
        have hE := sp_equal s t
        have HS := Lib.hid (hs)
        have HT := Lib.hid (ht)
        obtain ⟨lo, hi'⟩ := s
        obtain ⟨tl, th⟩ := t
        dsimp only at c0 c1' e0 e1 hE
        have H5 := H.alloc #[.string ⟨lo.toArray⟩, .string ⟨hi'.toArray⟩] 111
        have d0 := H5.cell 0
        have d1 := H5.cell 1
        have f0 := Lib.cell?_alloc_some (.cells #[.string ⟨lo.toArray⟩, .string ⟨hi'.toArray⟩] 111) e0
        have f1 := Lib.cell?_alloc_some (.cells #[.string ⟨lo.toArray⟩, .string ⟨hi'.toArray⟩] 111) e1
        clear hs ht e0 e1 hr
        by_cases hq : (Sp.mk lo hi') = ⟨tl, th⟩
        · rw [decide_eq_true hq] at hE
          have hq2 : J[j]? = some ⟨lo, hi'⟩ := by rw [HT.out, hq]
          have HQ := Lib.hid (hq2)
          clear hq hq2
          by_cases hlo : lo.length ≤ 64
          · have g1 : decide ((64 : Int) < (lo.length : Int)) = false := decide_eq_false (by omega)
            by_cases hhi : hi'.length ≤ 64
            · have g2 : decide ((64 : Int) < (hi'.length : Int)) = false := decide_eq_false (by omega)
              have hok : spOk J j ⟨lo, hi'⟩ = true := by unfold spOk; rw [decide_eq_true HQ.out, decide_eq_true hlo, decide_eq_true hhi]; rfl
              have HOK := Lib.hid (hok)
              clear hok hlo hhi
              go_wp2
              go_quiet (fail)
              go_wp2
              refine ⟨⟨j + 1, by omega, by go_num, fun k s hk hs => ?_, (H5.drewN nq).tail⟩, by simp [intOf]; omega⟩
              rcases Nat.lt_or_ge k j with h | h
              · exact hN.out k s h hs
              · obtain rfl : k = j := by omega
                rw [HS.out] at hs; cases hs; exact HOK.out
            · have g2 : decide ((64 : Int) < (hi'.length : Int)) = true := decide_eq_true (by omega)
              have hno := HNO.out j _ HS.out (by unfold spOk; rw [decide_eq_true HQ.out, decide_eq_true hlo, decide_eq_false hhi]; rfl)
              have HF := Lib.hid (hno)
              clear hno hlo hhi
              go_wp2
              go_quiet (fail)
              go_wp2
              go_ret
              exact ⟨by rw [HF.out]; rfl, (H5.drewN nq).tail.tail⟩
          · have g1 : decide ((64 : Int) < (lo.length : Int)) = true := decide_eq_true (by omega)
            have hno := HNO.out j _ HS.out (by unfold spOk; rw [decide_eq_true HQ.out, decide_eq_false hlo]; rfl)
            have HF := Lib.hid (hno)
            clear hno hlo
            go_wp2
            go_quiet (fail)
            go_wp2
            go_ret
            exact ⟨by rw [HF.out]; rfl, (H5.drewN nq).tail.tail⟩
        · rw [decide_eq_false hq] at hE
          have hno := HNO.out j _ HS.out (by unfold spOk; rw [HT.out, decide_eq_false (fun e => hq (by cases e; rfl))]; rfl)
          have HF := Lib.hid (hno)
          clear hno hq
          go_wp2
          go_quiet (fail)
          go_wp2
          go_ret
          exact ⟨by rw [HF.out]; rfl, (H5.drewN nq).tail.tail⟩
      · obtain rfl : j = l.length := by omega
        have hy := HYES.out hN.out
        have HF := Lib.hid (hy)
        clear hy
        go_wp2
        go_ret
        exact ⟨by rw [HF.out]; rfl, H.tail⟩
  · have hne : (((joinS l).length : Int) != (l.length : Int)) = true := bne_iff_ne.2 (by omega)
    rw [spansB_len hlen]
    clear hlen
    go_enter Try.func95, Try.ntmps95
    go_wp2_with fail
    refine (HJ.out).mono ?_
    rintro e w2 ⟨A1, c1, rfl, H1⟩
    go_wp2
    go_ret
    exact ⟨rfl, H1.tail⟩

theorem keys_take (l : List Wt) (j : Nat) (x : Wt) (h : l[j]? = some x) : tsC ((l.take (j + 1)).map Wt.k) = tsC ((l.take j).map Wt.k) ++ [.string ⟨x.k.toArray⟩] := by
  rw [List.take_add_one, h]
  simp [tsC, encStr]
set_option maxRecDepth 100000 in
set_option maxHeartbeats 4000000 in
theorem efKeys_any {W w : World} {L : List SL} (x : Ef) (p : EfAt) (hx : EfOk x) (hr : EfRd W L x p) (H : Sat W w L) :
    Calls Try.prog 94 #[x.v p] w fun e w' => ∃ A' c', e = .returned (.slice A' x.keys.length c') ∧ Sat W w' (seenS 9 (.slice A' x.keys.length c') x.keys.length (tsC x.keys) :: L) := by
  obtain ⟨i0, hi, hz0, hz1, hz2⟩ := info_parts infoStr
  have hl := hx.ws
  have hrw := hr.r''
  obtain ⟨why, steps, rs, ss, ws⟩ := x
  obtain ⟨A, c, A', c', A'', c''⟩ := p
  dsimp only at hl hrw
  have H1 := H.alloc #[.int .i64 why, .int .i64 steps, .slice A rs.length c, .slice A' ss.length c', .slice A'' ws.length c''] 43
  have c4 := H1.cell 4
  have hkl : (Ef.keys ⟨why, steps, rs, ss, ws⟩) = ws.map Wt.k := rfl
  rw [hkl]
  have hml : (ws.map Wt.k).length = ws.length := List.length_map ..
  rw [hml]
  clear hx hr hkl hml H
  show Calls Try.prog 94 #[.agg #[.int .i64 why, .int .i64 steps, .slice A rs.length c, .slice A' ss.length c', .slice A'' ws.length c'']] w _
  go_enter Try.func94, Try.ntmps94
  go_wp2
  go_loopw [3, 9] (fun ou i wc => ∃ (j : Nat) (Ao : Option Addr) (co : Nat), j ≤ ws.length ∧ i = .int .i64 j ∧ ou = .slice Ao j co ∧ Sat W wc (seenS 9 (.slice Ao j co) j (tsC ((ws.take j).map Wt.k)) :: pt w.heap.size #[.int .i64 why, .int .i64 steps, .slice A rs.length c, .slice A' ss.length c', .slice A'' ws.length c''] 43 :: L)) (fun _ i _ => ws.length - (intOf i).toNat)
  case atStart => exact ⟨0, none, 0, by omega, rfl, rfl, H1.new_nil _ _⟩
  case round =>
    clear H1
    obtain ⟨j, Ao, co, hj, rfl, rfl, H⟩ := hrel
    by_cases hlt : j < ws.length
    · obtain ⟨x, hx⟩ : ∃ x, ws[j]? = some x := ⟨_, List.getElem?_eq_getElem (by omega)⟩
      obtain ⟨b, o, rfl, c0, c1, c2, _⟩ := wt_cells (hrw _ H.tail.tail) j x hx
      have HK := Lib.hid (keys_take ws j x hx)
      obtain ⟨k, v, d⟩ := x
      dsimp only at c0 c1 c2 HK
      have H5 := H.alloc #[.string ⟨k.toArray⟩, .string ⟨v.toArray⟩, .bool d] 115
      have d0 := H5.cell 0
      have H6 := H5.alloc #[.string ⟨k.toArray⟩] 9
      rw [World.size_alloc] at H6
      clear hx hrw
      go_wp2_with (first
        | (at_builtin
           go_loud ((refine wpList_append_new rfl (.tmp 13) (.tmp 16) 39 rfl 9 i0 _ zS 16 Try.underlying39 hi hz0 rfl hz1 hz2 (by simp) _ j _ rfl (H6.pull 2) (some ⟨wr.heap.size + 1, 0, none⟩) 1 1 [.string ⟨k.toArray⟩] rfl rfl (RdL.pt _ H6) (by simp [Value.oneCell']) (by unfold maxLen; omega) (by omega) ?_); intro A7 c7 w7 H7)))
      refine ⟨⟨j + 1, A7, c7, by omega, by go_num, rfl, ?_⟩, by simp [intOf]; omega⟩
      rw [HK.out]
      exact (H7.swap.tail).swap.tail
    · obtain rfl : j = ws.length := by omega
      rw [List.take_length] at H
      go_wp2
      go_ret
      exact ⟨Ao, co, rfl, H.swap.tail⟩
end Go.Proofs.Ytodbmeklbamcfaa

/- The document's set of keys. -/
namespace Go.Proofs.Ytodbmeklbamcfaa
open Go.RowKit Go.Rt

theorem insS_skip {x : Str} : ∀ {os : List Str} {k : Nat}, (∀ m y, m < k → os[m]? = some y → y < x) → k ≤ os.length → insS x os = os.take k ++ insS x (os.drop k)
  | os, 0, _, _ => by simp
  | [], k + 1, _, hk => by simp at hk
  | y :: os, k + 1, h, hk => by
    have h0 := h 0 y (by omega) rfl
    have ih := insS_skip (os := os) (k := k) (fun m z hm hz => h (m + 1) z (by omega) (by simpa using hz)) (by simpa using hk)
    show (if y < x then y :: insS x os else if y = x then y :: os else x :: y :: os) = _
    rw [if_pos h0, ih]
    simp
theorem insS_end {x : Str} {os : List Str} (h : ∀ m y, m < os.length → os[m]? = some y → y < x) : insS x os = os.take os.length ++ [x] ++ os.drop os.length := by
  rw [insS_skip h (Nat.le_refl _)]
  simp [insS]
theorem insS_in {x y : Str} {os : List Str} {k : Nat} (h : ∀ m z, m < k → os[m]? = some z → z < x) (hy : os[k]? = some y) (h1 : ¬ y < x) (h2 : y ≠ x) : insS x os = os.take k ++ [x] ++ os.drop k := by
  have hk := (List.getElem?_eq_some_iff.1 hy).1
  rw [insS_skip h (by omega), List.append_assoc]
  congr 1
  have e : os.drop k = y :: os.drop (k + 1) := by rw [List.drop_eq_getElem_cons hk]; congr 1; rw [List.getElem?_eq_getElem hk] at hy; exact Option.some.inj hy
  rw [e]
  simp [insS, h1, h2]
theorem insS_eq {x y : Str} {os : List Str} {k : Nat} (h : ∀ m z, m < k → os[m]? = some z → z < x) (hy : os[k]? = some y) (h2 : y = x) : insS x os = os := by
  subst h2
  have hk := (List.getElem?_eq_some_iff.1 hy).1
  have h1 : ¬ y < y := str_irrefl y
  rw [insS_skip h (by omega)]
  have e : os.drop k = y :: os.drop (k + 1) := by rw [List.drop_eq_getElem_cons hk]; congr 1; rw [List.getElem?_eq_getElem hk] at hy; exact Option.some.inj hy
  conv => rhs; rw [← List.take_append_drop k os]
  congr 1
  rw [e]
  simp [insS, h1]
theorem sortS_snoc (l : List Str) (x : Str) : sortS (l ++ [x]) = insS x (sortS l) := by
  unfold sortS
  rw [List.foldl_append]
  rfl
theorem tsC_drop (l : List Str) (i : Nat) : (tsC l).drop i = tsC (l.drop i) := by
  unfold tsC
  rw [List.map_drop]

end Go.Proofs.Ytodbmeklbamcfaa

/- The document's answers on two lists of keys. -/
namespace Go.Proofs.Ytodbmeklbamcfaa
open Go.RowKit Go.Rt

end Go.Proofs.Ytodbmeklbamcfaa

/- Texts of a new slice written over, its spare room too. -/
namespace Go.Proofs.Ytodbmeklbamcfaa
open Go.RowKit Go.Rt

theorem _root_.Go.Rt.Sat.new_pt {W w : World} {L : List SL} {e : TypeId} {zc xs : List Value} {g n c : Nat} (H : Sat W w (newS e zc (.slice (some ⟨g, 0, none⟩) n c) n xs :: L)) :
    ∃ cur : Array Value, n ≤ c ∧ c ≤ maxLen ∧ cur.size = c * zc.length ∧ cur.toList.take (n * zc.length) = xs ∧ Zeros zc (cur.toList.drop (n * zc.length)) ∧ Sat W w (pt g cur e :: L) := by
  obtain ⟨cur, h1, h2, h3, h4, h5, h6⟩ := H.new_blk
  refine ⟨cur, h2, h3, h4, h5, h6, ?_⟩
  obtain ⟨hb, h, ⟨a, r, d, rfl, ⟨hx, ha⟩, hl⟩, hh⟩ := H
  rcases ha with ⟨hv, _⟩ | ⟨g', cap, cur', hv, hg, _⟩
  · cases hv
  · cases hv
    have := (hh g _ (join_left hg)).2
    rw [h1] at this
    cases this
    exact ⟨hb, _, ⟨a, r, d, rfl, hg, hl⟩, hh⟩
/-- Texts, none of them too long. -/
def Texts (cur : Array Value) (c : Nat) (f : Nat → Nat) : Prop := cur.size = c ∧ ∀ j u, cur[j]? = some u → ∃ s : Str, u = .string ⟨s.toArray⟩ ∧ s.length ≤ f j
theorem texts_new {cur : Array Value} {c n m : Nat} {xs : List Str} (h1 : cur.size = c * zS.length) (h2 : cur.toList.take (n * zS.length) = tsC xs) (h3 : Zeros zS (cur.toList.drop (n * zS.length))) (hx : ∀ x ∈ xs, x.length ≤ m) : Texts cur c (fun _ => m) := by
  refine ⟨by simpa using h1, fun j u hu => ?_⟩
  rw [← Array.getElem?_toList] at hu
  simp only [List.length_cons, List.length_nil, Nat.zero_add, Nat.mul_one] at h2 h3
  by_cases hj : j < n
  · have h4 : (tsC xs)[j]? = some u := by rw [← h2, List.getElem?_take, if_pos hj]; exact hu
    unfold tsC at h4
    rw [List.getElem?_map] at h4
    cases hl : xs[j]? with
    | none => rw [hl] at h4; cases h4
    | some x => rw [hl] at h4; exact ⟨x, (Option.some.inj h4).symm, hx x (List.mem_of_getElem? hl)⟩
  · have h4 := h3 (j - n) u (by rw [List.getElem?_drop, Nat.add_sub_cancel' (by omega)]; exact hu)
    exact ⟨[], by rw [h4]; simp [Nat.mod_one], by simp⟩
def once (m j : Nat) : Nat → Nat := fun k => if k < j then m + 1 else m
theorem Texts.set {cur : Array Value} {c m j : Nat} (h : Texts cur c (once m j)) (s : Str) (hs : s.length ≤ m + 1) : Texts (cur.setIfInBounds j (.string ⟨s.toArray⟩)) c (once m (j + 1)) := by
  refine ⟨by simp [h.1], fun k u hu => ?_⟩
  rw [Array.getElem?_setIfInBounds] at hu
  split at hu
  · rename_i e
    subst e
    split at hu
    · exact ⟨s, (Option.some.inj hu).symm, by unfold once; rw [if_pos (by omega)]; exact hs⟩
    · cases hu
  · obtain ⟨t, h1, h2⟩ := h.2 k u hu
    refine ⟨t, h1, Nat.le_trans h2 ?_⟩
    unfold once
    split <;> split <;> omega

end Go.Proofs.Ytodbmeklbamcfaa

/- The kit's functions on effects: too long, copied, held against each other, written over. -/
namespace Go.Proofs.Ytodbmeklbamcfaa
open Go.RowKit Go.Rt

theorem ef_size : (Try.prog.info? 43).map (·.size) = some 5 := by kernel_rfl
theorem ef_one (x : Ef) (p : EfAt) : ∀ u ∈ x.cs p, u.oneCell' = true := by
  intro u hu
  simp only [Ef.cs, List.mem_cons, List.not_mem_nil, or_false] at hu
  rcases hu with rfl | rfl | rfl | rfl | rfl <;> rfl

def longX (x : Ef) (n : Nat) : Bool := longK x.rs n || (longS x.ss n || longWt x.ws n)
theorem longX_ok {x : Ef} (h : longX x 70 = false) : EfOk x := by
  unfold longX at h
  rw [Bool.or_eq_false_iff, Bool.or_eq_false_iff] at h
  obtain ⟨h1, h2, h3⟩ := h
  have a1 := longK_no h1
  have a2 := longS_no h2
  have a3 := longWt_no h3
  refine ⟨by omega, by omega, by omega, fun t ht => ?_, fun s hs => ?_, fun w hw => ?_⟩
  · have := a1.2 t ht; omega
  · have := a2.2 s hs
    unfold bigSp at this
    simp only [Bool.or_eq_false_iff, decide_eq_false_iff_not] at this
    omega
  · have := a3.2 w hw; omega
set_option maxRecDepth 100000 in
set_option maxHeartbeats 4000000 in
theorem LongEffect_any {W w : World} {L : List SL} (x : Ef) (p : EfAt) (hr : EfRd W L x p) (H : Sat W w L) :
    Calls Try.prog 20 #[x.v p, .int .i64 70] w fun e w' => e = .returned (.bool (longX x 70)) ∧ Sat W w' L := by
  have b1 := hr.b.le
  have b2 := hr.b'.le
  have b3 := hr.b''.le
  have m1 := hr.b.max
  have m2 := hr.b'.max
  have m3 := hr.b''.max
  have r1 := hr.r
  have r2 := hr.r'
  have r3 := hr.r''
  obtain ⟨why, steps, rs, ss, ws⟩ := x
  obtain ⟨A, c, A', c', A'', c''⟩ := p
  dsimp only at b1 b2 b3 m1 m2 m3 r1 r2 r3
  have H1 := H.alloc #[.int .i64 why, .int .i64 steps, .slice A rs.length c, .slice A' ss.length c', .slice A'' ws.length c''] 43
  have c2 := H1.cell 2
  have c3 := H1.cell 3
  have c4 := H1.cell 4
  have K1 := LongKeys_any A c rs 70 (by omega) (Nat.le_trans b1 m1) (r1.tail _ H1)
  have K2 := LongSpans_any A' c' ss 70 (by omega) (Nat.le_trans b2 m2) (r2.tail _ H1)
  have K3 := LongWrites_any A'' c'' ws 70 (by omega) (Nat.le_trans b3 m3) (r3.tail _ H1)
  have e : longX ⟨why, steps, rs, ss, ws⟩ 70 = (longK rs 70 || (longS ss 70 || longWt ws 70)) := rfl
  rw [e]
  show Calls Try.prog 20 #[.agg #[.int .i64 why, .int .i64 steps, .slice A rs.length c, .slice A' ss.length c', .slice A'' ws.length c''], .int .i64 70] w _
  generalize longK rs 70 = q1 at *
  generalize longS ss 70 = q2 at *
  generalize longWt ws 70 = q3 at *
  have K1' := Lib.hid (K1)
  have K2' := Lib.hid (K2)
  have K3' := Lib.hid (K3)
  clear K1 K2 K3 r1 r2 r3 hr b1 b2 b3 m1 m2 m3 e
  go_enter Try.func20, Try.ntmps20
  go_wp2_with fail
  refine (K1'.out).mono ?_
  rintro e w2 ⟨rfl, rfl⟩
  cases q1 with
  | true =>
    go_wp2
    go_ret
    exact ⟨rfl, H1.tail⟩
  | false =>
    go_wp2_with fail
    refine (K2'.out).mono ?_
    rintro e w2 ⟨rfl, rfl⟩
    cases q2 with
    | true =>
      go_wp2
      go_ret
      exact ⟨rfl, H1.tail⟩
    | false =>
      go_wp2_with fail
      refine (K3'.out).mono ?_
      rintro e w2 ⟨rfl, rfl⟩
      go_wp2
      go_ret
      exact ⟨rfl, H1.tail⟩

theorem ef_ext {x y : Ef} : x = y ↔ x.why = y.why ∧ x.steps = y.steps ∧ x.rs = y.rs ∧ x.ss = y.ss ∧ x.ws = y.ws := by
  cases x; cases y; simp
instance : DecidableEq Ef := fun _ _ => decidable_of_iff _ ef_ext.symm
/-- An effect's lists, its own. -/
def efL (x : Ef) (q : EfAt) (L : List SL) : List SL := row 115 zWt (.slice q.A'' x.ws.length q.c'') x.ws.length (wtC x.ws) :: row 111 zSp (.slice q.A' x.ss.length q.c') x.ss.length (spC x.ss) :: row 9 zS (.slice q.A x.rs.length q.c) x.rs.length (tsC x.rs) :: L
theorem _root_.Go.Rt.Sat.bsl {W w : World} {l : List SL} {e : TypeId} {zc : List Value} {A : Option Addr} {n c : Nat} {xs : List Value} (H : Sat W w (row e zc (.slice A n c) n xs :: l)) : Bsl A n c := by
  obtain ⟨_, A', c', hv, h1, h2, h3, _⟩ := H.slice
  cases hv
  exact ⟨h1, fun h => (h3 h).1, h2⟩
theorem efL_rd {W w : World} {L : List SL} {x : Ef} {q : EfAt} (H : Sat W w (efL x q L)) : EfRd W (efL x q L) x q :=
  ⟨H.tail.tail.bsl, H.tail.bsl, H.bsl, RdL.tail (RdL.tail RdL.row), RdL.tail RdL.row, RdL.row⟩
set_option maxRecDepth 100000 in
set_option maxHeartbeats 8000000 in
theorem CopyEffect_any {W w : World} {L : List SL} (x : Ef) (p : EfAt) (hx : EfOk x) (hr : EfRd W L x p) (H : Sat W w L) :
    Calls Try.prog 23 #[x.v p] w fun e w' => ∃ q, e = .returned (x.v q) ∧ Sat W w' (efL x q L) := by
  obtain ⟨i0, hi, hz0, hz1, hz2⟩ := info_parts infoWt
  have l1 := hx.rs
  have l2 := hx.ss
  have l3 := hx.ws
  have r1 := hr.r
  have r2 := hr.r'
  have r3 := hr.r''
  obtain ⟨why, steps, rs, ss, ws⟩ := x
  obtain ⟨A, c, A', c', A'', c''⟩ := p
  dsimp only at l1 l2 l3 r1 r2 r3
  have H1 := (H.alloc #[.int .i64 why, .int .i64 steps, .slice A rs.length c, .slice A' ss.length c', .slice A'' ws.length c''] 43).alloc #[.int .i64 0, .int .i64 0, .slice none 0 0, .slice none 0 0, .slice none 0 0] 43
  rw [World.size_alloc] at H1
  have c2 := H1.swap.cell 2
  have K1 := Lib.hid (CopyTexts_any A c rs (by omega) (r1.tail.tail _ H1) H1)
  have K2 := Lib.hid (fun (w0 : World) (L0 : List SL) (h : Sat W w0 L0) (r : RdL W L0 A' (spC ss)) => CopySpans_any A' c' ss (by omega) (r _ h) h)
  have R2 := Lib.hid (r2)
  have R3 := Lib.hid (r3)
  clear r1 r2 r3 hr hx H
  show Calls Try.prog 23 #[.agg #[.int .i64 why, .int .i64 steps, .slice A rs.length c, .slice A' ss.length c', .slice A'' ws.length c'']] w _
  go_enter Try.func23, Try.ntmps23
  go_wp2_with fail
  refine (K1.out).mono ?_
  rintro e w2 ⟨A1, c1, rfl, H2⟩
  clear c2 K1
  have d2 := (H2.pull 2).cell 2
  have f2 := (H2.pull 2).frz 2
  have H3 := (H2.pull 2).setCell 2 (.slice A1 rs.length c1)
  generalize hw3 : w2.setCell ⟨w.heap.size, 2, none⟩ (.slice A1 rs.length c1) = w3 at H3
  have d3 : w3.cell? ⟨w.heap.size, 3, none⟩ = some (.slice A' ss.length c') := H3.cell 3
  go_wp2_with fail
  refine (K2.out _ _ H3 R2.out.tail.tail.tail).mono ?_
  rintro e w4 ⟨A2, c2, rfl, H4⟩
  clear d2 f2 hw3 d3 K2
  have d2 := (H4.pull 1).cell 3
  have f2 := (H4.pull 1).frz 3
  have H5 := (H4.pull 1).setCell 3 (.slice A2 ss.length c2)
  generalize hw5 : w4.setCell ⟨w.heap.size, 3, none⟩ (.slice A2 ss.length c2) = w5 at H5
  have d4 : w5.cell? ⟨w.heap.size, 4, none⟩ = some (.slice A'' ws.length c'') := H5.cell 4
  have H6 := H5.made #[] 115 zWt 0 0 (by omega) (by unfold maxLen; omega) rfl (Typed.nil _)
  have d5 : (w5.alloc (.cells #[] 115)).cell? ⟨w.heap.size, 4, none⟩ = some (.slice A'' ws.length c'') := Lib.cell?_alloc_some _ d4
  go_wp2_with (first
    | (at_builtin
       go_loud ((refine wpList_append_sl rfl (.tmp 11) (.tmp 13) 41 rfl 115 i0 _ zWt 40 Try.underlying41 hi hz0 rfl hz1 hz2 (by simp) zWt_like _ 0 [] rfl H6 A'' ws.length c'' (wtC ws) rfl (wtC_len ws) (R3.out.tail.tail.tail.tail.tail _ H6) (wtC_one ws) (wtC_typed ws) (by unfold maxLen; omega) (by omega) ?_); intro A3 c3 w7 H7; rw [Nat.zero_add, List.nil_append] at H7; rw [Nat.zero_add]; (have g4 := (H7.pull 1).cell 4); (have k4 := (H7.pull 1).frz 4); (have H8 := (H7.pull 1).setCell 4 (.slice A3 ws.length c3)); (generalize hw8 : w7.setCell ⟨w.heap.size, 4, none⟩ (.slice A3 ws.length c3) = w8 at H8); (have HR : Rd w8 (some ⟨w.heap.size, 0, none⟩) [.int .i64 why, .int .i64 steps, .slice A1 rs.length c1, .slice A2 ss.length c2, .slice A3 ws.length c3] := RdL.pt _ H8)))
    | (refine wpList_load_rd rfl (.tmp 1) 43 rfl w.heap.size 0 [.int .i64 why, .int .i64 steps, .slice A1 rs.length c1, .slice A2 ss.length c2, .slice A3 ws.length c3] (by rw [Try.underlying43]) ef_size (by simp [Act.eval]) HR ?_)
    | (go_loud ((refine wpList_store_pt rfl rfl (.tmp 2) (.tmp 16) 43 rfl (w.heap.size + 1) #[.int .i64 0, .int .i64 0, .slice none 0 0, .slice none 0 0, .slice none 0 0] 43 [.int .i64 why, .int .i64 steps, .slice A1 rs.length c1, .slice A2 ss.length c2, .slice A3 ws.length c3] ef_size rfl rfl rfl (ef_one ⟨why, steps, rs, ss, ws⟩ ⟨A1, c1, A2, c2, A3, c3⟩) (H8.pull 4) ?_); intro w9 H9)))
  exact bodyPost_ret (v := .agg (List.toArray [.int .i64 why, .int .i64 steps, .slice A1 rs.length c1, .slice A2 ss.length c2, .slice A3 ws.length c3])) (results_cell_row Try.results23 _ w9 (w.heap.size + 1) 43 (List.toArray [.int .i64 why, .int .i64 steps, .slice A1 rs.length c1, .slice A2 ss.length c2, .slice A3 ws.length c3]) (0, 0) _ rfl H9.heap Try.underlying43 rfl ef_size) rfl ⟨⟨A1, c1, A2, c2, A3, c3⟩, rfl, H9.tail.tail⟩
end Go.Proofs.Ytodbmeklbamcfaa

/- effect.Check and effect.Meets. -/
namespace Go.Proofs.Ytodbmeklbamcfaa
open Go.RowKit Go.Rt

set_option maxRecDepth 100000 in
set_option maxHeartbeats 4000000 in
theorem efMeets_any {W w : World} {L : List SL} (x : Ef) (p : EfAt) (hx : EfOk x) (hr : EfRd W L x p) (B : Option Addr) (cb : Nat) (l : List Str) (hl : l.length ≤ 100000) (hlt : ∀ t ∈ l, t.length ≤ 1000000) (hrl : RdL W L B (tsC l)) (H : Sat W w L) :
    Calls Try.prog 22 #[x.v p, .slice B l.length cb] w fun e w' => e = .returned (.bool (meetsX x l)) ∧ Sat W w' L := by
  have h1 := hx.rs
  have h2 := hx.ss
  have h3 := hx.ts
  have r1 := hr.r
  have r2 := hr.r'
  obtain ⟨why, steps, rs, ss, ws⟩ := x
  obtain ⟨A, c, A', c', A'', c''⟩ := p
  dsimp only at h1 h2 h3 r1 r2
  have hm : ∀ n : Nat, n ≤ 1000000 → n ≤ maxLen := fun n h => by unfold maxLen; omega
  have H1 := H.alloc #[.int .i64 why, .int .i64 steps, .slice A rs.length c, .slice A' ss.length c', .slice A'' ws.length c''] 43
  have c2 := H1.cell 2
  have c3 := H1.cell 3
  have HM := Lib.hid (eMeets_any B A A' cb c c' l rs ss (by omega) (fun t h => hm _ (hlt t h)) (by omega) (fun t h => hm _ (h3 t h)) (hm _ (by omega)) hrl.tail r1.tail r2.tail H1)
  have e1 : meetsX ⟨why, steps, rs, ss, ws⟩ l = meetsB l rs ss := rfl
  rw [e1]
  clear e1 hx hr h3 r1 r2 hlt hrl H H1
  show Calls Try.prog 22 #[.agg #[.int .i64 why, .int .i64 steps, .slice A rs.length c, .slice A' ss.length c', .slice A'' ws.length c''], .slice B l.length cb] w _
  go_enter Try.func22, Try.ntmps22
  go_wp2_with fail
  refine (HM.out).mono ?_
  rintro e w2 ⟨rfl, H2⟩
  go_wp2
  go_ret
  exact ⟨rfl, H2.tail⟩

/-- What of an effect is asked ahead of its keys and writes. -/
def fineH (x : Ef) : Bool := decide (0 ≤ x.why) && (decide (x.why ≤ 3) && (decide (0 ≤ x.steps) && (decide (x.steps ≤ 200) && (checkK x.rs && (checkK x.keys && spansB x.ss)))))
theorem fineX_of (x : Ef) : fineX x = (fineH x && (x.rs.all keyB && (x.ws.all mayW && (decide (x.why = 0) || x.ws.isEmpty)))) := by
  unfold fineX fineH
  rw [Bool.decide_and, Bool.decide_and]
  simp only [Bool.and_assoc]
theorem all_take {α : Type} {l : List α} {p : α → Bool} {j : Nat} {x : α} (h : l[j]? = some x) : (l.take (j + 1)).all p = ((l.take j).all p && p x) := by
  rw [List.take_add_one, h]; simp [List.all_append]

set_option maxRecDepth 100000 in
set_option maxHeartbeats 16000000 in
theorem efChk_any {W w : World} {L : List SL} (x : Ef) (p : EfAt) (hx : EfOk x) (hr : EfRd W L x p) (H : Sat W w L) :
    Calls Try.prog 71 #[x.v p] w fun e w' => e = .returned (.int .i64 (checkX x)) ∧ Sat W w' L := by
  have h1 := hx.rs
  have h2 := hx.ss
  have h3 := hx.ws
  have r1 := hr.r
  have r2 := hr.r'
  have r3 := hr.r''
  have b2 := hr.b'
  have hfx := fineX_of x
  have hck : checkX x = if 60 < x.rs.length + x.ss.length + x.ws.length then 3 else if fineX x then 0 else 2 := rfl
  have hfh : fineH x = (decide (0 ≤ x.why) && (decide (x.why ≤ 3) && (decide (0 ≤ x.steps) && (decide (x.steps ≤ 200) && (checkK x.rs && (checkK x.keys && spansB x.ss)))))) := rfl
  generalize checkX x = C at *
  generalize fineX x = fx at *
  generalize fineH x = fh at *
  have hkl : x.keys.length = x.ws.length := List.length_map ..
  have hv : x.v p = .agg (x.cs p).toArray := rfl
  obtain ⟨why, steps, rs, ss, ws⟩ := x
  obtain ⟨A, c, A', c', A'', c''⟩ := p
  dsimp only [Ef.cs] at h1 h2 h3 r1 r2 r3 b2 hfx hck hfh hv hkl
  rw [hv]
  have hkk : ∀ (w0 : World) (L0 : List SL), EfRd W L0 ⟨why, steps, rs, ss, ws⟩ ⟨A, c, A', c', A'', c''⟩ → Sat W w0 L0 → Calls Try.prog 94 #[.agg #[.int .i64 why, .int .i64 steps, .slice A rs.length c, .slice A' ss.length c', .slice A'' ws.length c'']] w0 fun e w' => ∃ A' c', e = .returned (.slice A' (Ef.keys ⟨why, steps, rs, ss, ws⟩).length c') ∧ Sat W w' (seenS 9 (.slice A' (Ef.keys ⟨why, steps, rs, ss, ws⟩).length c') (Ef.keys ⟨why, steps, rs, ss, ws⟩).length (tsC (Ef.keys ⟨why, steps, rs, ss, ws⟩)) :: L0) := fun w0 L0 hr h => efKeys_any (⟨why, steps, rs, ss, ws⟩ : Ef) (⟨A, c, A', c', A'', c''⟩ : EfAt) hx hr h
  have HKK := Lib.hid (hkk)
  clear hkk
  generalize Ef.keys ⟨why, steps, rs, ss, ws⟩ = ks at *
  have H1 := H.alloc #[.int .i64 why, .int .i64 steps, .slice A rs.length c, .slice A' ss.length c', .slice A'' ws.length c''] 43
  have H1r : EfRd W (pt w.heap.size #[.int .i64 why, .int .i64 steps, .slice A rs.length c, .slice A' ss.length c', .slice A'' ws.length c''] 43 :: L) ⟨why, steps, rs, ss, ws⟩ ⟨A, c, A', c', A'', c''⟩ := hr.tail
  have i0 := H1.cell 0
  have i1 := H1.cell 1
  have i2 := H1.cell 2
  have i3 := H1.cell 3
  have i4 := H1.cell 4
  have s1 : IntKind.i64.wrap ((rs.length : Int) + (ss.length : Int)) = (rs.length : Int) + (ss.length : Int) := IntWalk.i64_in _ (by omega)
  have s2 : IntKind.i64.wrap ((rs.length : Int) + (ss.length : Int) + (ws.length : Int)) = (rs.length : Int) + (ss.length : Int) + (ws.length : Int) := IntWalk.i64_in _ (by omega)
  by_cases hbig : 60 < rs.length + ss.length + ws.length
  · rw [if_pos hbig] at hck
    subst hck
    have g1 : (60 : Int) < (rs.length : Int) + (ss.length : Int) + (ws.length : Int) := by omega
    clear hbig hfx hfh hv hr hx
    go_enter Try.func71, Try.ntmps71
    go_wp2
    go_ret
    exact ⟨rfl, H1.tail⟩
  · rw [if_neg hbig] at hck
    have g1 : ¬ (60 : Int) < (rs.length : Int) + (ss.length : Int) + (ws.length : Int) := by omega
    have HC := Lib.hid (hck)
    have HFX := Lib.hid (hfx)
    have HFH := Lib.hid (hfh)
    clear hbig hck hfx hfh hv hr hx
    have hm : ∀ n : Nat, n ≤ 1000000 → n ≤ maxLen := fun n h => by unfold maxLen; omega
    have hE1 : ∀ (w0 : World), Sat W w0 (pt w.heap.size #[.int .i64 why, .int .i64 steps, .slice A rs.length c, .slice A' ss.length c', .slice A'' ws.length c''] 43 :: L) → Calls Try.prog 93 #[.slice A rs.length c] w0 fun e w' => e = .returned (.bool (checkK rs)) ∧ Below w0.heap.size w0 w' := fun w0 h => eCheck_any A c rs (hm _ (by omega)) (r1.tail _ h)
    have hE2 : ∀ (w0 : World) (A5 : Option Addr) (c5 : Nat), Rd w0 A5 (tsC ks) → Calls Try.prog 93 #[.slice A5 ks.length c5] w0 fun e w' => e = .returned (.bool (checkK ks)) ∧ Below w0.heap.size w0 w' := fun w0 A5 c5 h => eCheck_any A5 c5 ks (hm _ (by omega)) h
    have hE3 : ∀ (w0 : World) (L0 : List SL), RdL W L0 A' (spC ss) → Sat W w0 L0 → Calls Try.prog 95 #[.slice A' ss.length c'] w0 fun e w' => e = .returned (.bool (spansB ss)) ∧ Sat W w' L0 := fun w0 L0 hr h => efSpans_any A' c' ss h2 b2 hr h
    have HR2 := Lib.hid (r2)
    have HR1 := Lib.hid (H1r)
    generalize checkK rs = rb at *
    generalize checkK ks = kb at *
    generalize spansB ss = sb at *
    have HE1 := Lib.hid (hE1)
    have HE2 := Lib.hid (hE2)
    have HE3 := Lib.hid (hE3)
    clear hE1 hE2 hE3 hkl
    go_enter Try.func71, Try.ntmps71
    go_upto_region 3 with fail
    go_cut [3] (fun v wx => v = .bool fh ∧ Sat W wx (pt w.heap.size #[.int .i64 why, .int .i64 steps, .slice A rs.length c, .slice A' ss.length c', .slice A'' ws.length c''] 43 :: L))
    case first =>
      clear HC HFX r1 r2 r3
      by_cases a1 : 0 ≤ why
      · by_cases a2 : why ≤ 3
        · by_cases a3 : 0 ≤ steps
          · by_cases a4 : steps ≤ 200
            · have hfh2 : fh = (rb && (kb && sb)) := by rw [HFH.out]; simp [a1, a2, a3, a4]
              clear HFH
              subst hfh2
              go_wp2_with fail
              refine (HE1.out _ H1).mono ?_
              rintro e w2 ⟨rfl, hb2⟩
              have H2 := H1.below hb2
              clear i0 i1 i2 i3 i4 HE1
              cases rb with
              | false =>
                go_wp2_with fail
                go_meet
                exact ⟨rfl, H2⟩
              | true =>
                have j0 := H2.cell 0
                have j1 := H2.cell 1
                have j2 := H2.cell 2
                have j3 := H2.cell 3
                have j4 := H2.cell 4
                go_wp2_with fail
                refine (HKK.out _ _ HR1.out H2).mono ?_
                rintro e w3 ⟨A5, c5, rfl, H3⟩
                clear j0 j1 j2 j3 j4
                go_wp2_with fail
                refine (HE2.out _ A5 c5 H3.new_rd).mono ?_
                rintro e w4 ⟨rfl, hb4⟩
                have H4 := H3.below hb4
                have k3 := H4.tail.cell 3
                cases kb with
                | false =>
                  go_wp2_with fail
                  go_meet
                  exact ⟨rfl, H4.tail⟩
                | true =>
                  go_wp2_with fail
                  refine (HE3.out _ _ HR2.out.tail.tail H4).mono ?_
                  rintro e w5 ⟨rfl, H5⟩
                  go_wp2_with fail
                  go_meet
                  exact ⟨by simp, H5.tail⟩
            · obtain rfl : fh = false := by rw [HFH.out]; simp [a4]
              clear HE1 HE2 HE3 HFH
              go_wp2_with fail
              go_meet
              exact ⟨rfl, H1⟩
          · obtain rfl : fh = false := by rw [HFH.out]; simp [a3]
            clear HE1 HE2 HE3 HFH
            go_wp2_with fail
            go_meet
            exact ⟨rfl, H1⟩
        · obtain rfl : fh = false := by rw [HFH.out]; simp [a2]
          clear HE1 HE2 HE3 HFH
          go_wp2_with fail
          go_meet
          exact ⟨rfl, H1⟩
      · obtain rfl : fh = false := by rw [HFH.out]; simp [a1]
        clear HE1 HE2 HE3 HFH
        go_wp2_with fail
        go_meet
        exact ⟨rfl, H1⟩
    case rest =>
      obtain ⟨rfl, H2⟩ := hcut
      clear H1 H1r HKK HR1 HE1 HE2 HE3 HFH i0 i1 i2 i3 i4 HR2
      have i2 := H2.cell 2
      have hst1 : ∀ j k, rs[j]? = some k → (fh && (rs.take (j + 1)).all keyB) = ((fh && (rs.take j).all keyB) && keyB k) := fun j k h => by rw [all_take h, Bool.and_assoc]
      have HST1 := Lib.hid (hst1)
      clear hst1
      go_wp2
      go_loopw [3, 56] (fun f i wx => ∃ j : Nat, j ≤ rs.length ∧ i = .int .i64 j ∧ f = .bool (fh && (rs.take j).all keyB) ∧ Sat W wx (pt w.heap.size #[.int .i64 why, .int .i64 steps, .slice A rs.length c, .slice A' ss.length c', .slice A'' ws.length c''] 43 :: L)) (fun _ i _ => rs.length - (intOf i).toNat)
      case atStart => exact ⟨0, by omega, rfl, by simp, H2⟩
      case round =>
        clear H2 i2
        obtain ⟨j, hj, rfl, rfl, H⟩ := hrel
        by_cases hlt : j < rs.length
        · obtain ⟨k, hk⟩ : ∃ x, rs[j]? = some x := ⟨_, List.getElem?_eq_getElem (by omega)⟩
          obtain ⟨b, o, rfl, c0⟩ := ts_at (r1.tail _ H) j k hk
          have h9 := HST1.out j k hk
          generalize (fh && (rs.take j).all keyB) = g at *
          cases g with
          | false =>
            have H9 := Lib.hid (h9)
            clear hk h9 r1
            go_wp2
            exact ⟨⟨j + 1, by omega, by go_num, by rw [H9.out]; rfl, H⟩, by simp [intOf]; omega⟩
          | true =>
            rw [Bool.true_and] at h9
            have H9 := Lib.hid (h9)
            have hK := Lib.hid (cKey_is k _ rfl wr)
            generalize keyB k = v at *
            clear hk h9 r1
            go_wp2_with fail
            refine (hK.out).mono ?_
            rintro e _ ⟨rfl, rfl⟩
            go_wp2
            exact ⟨⟨j + 1, by omega, by go_num, by rw [H9.out], H⟩, by simp [intOf]; omega⟩
        · obtain rfl : j = rs.length := by omega
          rw [List.take_length]
          have i4 := H.cell 4
          have hfx : fx = ((fh && rs.all keyB) && (ws.all mayW && (decide (why = 0) || ws.isEmpty))) := by rw [HFX.out, Bool.and_assoc]
          have HFX2 := Lib.hid (hfx)
          clear HFX hfx HST1
          generalize (fh && rs.all keyB) = g1' at *
          have hst2 : ∀ j k, ws[j]? = some k → (g1' && (ws.take (j + 1)).all mayW) = ((g1' && (ws.take j).all mayW) && mayW k) := fun j k h => by rw [all_take h, Bool.and_assoc]
          have HST2 := Lib.hid (hst2)
          clear hst2
          go_wp2
          go_loopw [3, 69] (fun f i wx => ∃ j : Nat, j ≤ ws.length ∧ i = .int .i64 j ∧ f = .bool (g1' && (ws.take j).all mayW) ∧ Sat W wx (pt w.heap.size #[.int .i64 why, .int .i64 steps, .slice A rs.length c, .slice A' ss.length c', .slice A'' ws.length c''] 43 :: L)) (fun _ i _ => ws.length - (intOf i).toNat)
          case atStart => exact ⟨0, by omega, rfl, by simp, H⟩
          case round =>
            clear H i4
            obtain ⟨j, hj, rfl, rfl, H⟩ := hrel
            by_cases hlt : j < ws.length
            · obtain ⟨k, hk⟩ : ∃ x, ws[j]? = some x := ⟨_, List.getElem?_eq_getElem (by omega)⟩
              obtain ⟨b, o, rfl, c0, c1, c2, _⟩ := wt_cells (r3.tail _ H) j k hk
              have h9 := HST2.out j k hk
              generalize (g1' && (ws.take j).all mayW) = g at *
              obtain ⟨kk, kv, kd⟩ := k
              dsimp only at c0 c1 c2
              have H5 := H.alloc #[.string ⟨kk.toArray⟩, .string ⟨kv.toArray⟩, .bool kd] 115
              cases g with
              | false =>
                have H9 := Lib.hid (h9)
                clear hk h9 r3
                go_wp2
                exact ⟨⟨j + 1, by omega, by go_num, by rw [H9.out]; rfl, H5.tail⟩, by simp [intOf]; omega⟩
              | true =>
                rw [Bool.true_and] at h9
                have H9 := Lib.hid (h9)
                have d0 := H5.cell 0
                have d1 := H5.cell 1
                have d2 := H5.cell 2
                have HM := Lib.hid (efWrite_any ⟨kk, kv, kd⟩ H5)
                dsimp only at HM
                generalize mayW ⟨kk, kv, kd⟩ = v at *
                clear hk h9 r3
                go_wp2_with fail
                refine (HM.out).mono ?_
                rintro e w7 ⟨rfl, H7⟩
                go_wp2
                exact ⟨⟨j + 1, by omega, by go_num, by rw [H9.out], H7.tail⟩, by simp [intOf]; omega⟩
            · obtain rfl : j = ws.length := by omega
              rw [List.take_length]
              have i0 := H.cell 0
              have i4 := H.cell 4
              have hfx : fx = ((g1' && ws.all mayW) && (decide (why = 0) || ws.isEmpty)) := by rw [HFX2.out, Bool.and_assoc]
              clear HFX2 HST2
              generalize (g1' && ws.all mayW) = g2' at *
              cases g2' with
              | false =>
                have hc : C = 2 := by rw [HC.out, hfx]; rfl
                have HCC := Lib.hid (hc)
                clear hfx hc HC
                go_wp2
                go_ret
                exact ⟨by rw [HCC.out]; rfl, H.tail⟩
              | true =>
                by_cases hw : why = 0
                · have hc : C = 0 := by rw [HC.out, hfx, decide_eq_true hw]; rfl
                  have e1 : (why != 0) = false := by rw [hw]; rfl
                  have HCC := Lib.hid (hc)
                  clear hfx hc HC hw
                  go_wp2
                  go_ret
                  exact ⟨by rw [HCC.out]; rfl, H.tail⟩
                · have e1 : (why != 0) = true := by simpa using hw
                  rw [decide_eq_false hw] at hfx
                  by_cases hws : ws = []
                  · subst hws
                    have hc : C = 0 := by rw [HC.out, hfx]; rfl
                    have HCC := Lib.hid (hc)
                    clear hfx hc HC hw
                    go_wp2
                    go_ret
                    exact ⟨by rw [HCC.out]; rfl, H.tail⟩
                  · have e3 : ws.isEmpty = false := by cases ws with | nil => exact absurd rfl hws | cons y l => rfl
                    have hc : C = 2 := by rw [HC.out, hfx, e3]; rfl
                    have hlp : 0 < ws.length := by cases ws with | nil => exact absurd rfl hws | cons y l => simp
                    have e2 : decide ((0 : Int) < (ws.length : Int)) = true := decide_eq_true (by omega)
                    have HCC := Lib.hid (hc)
                    clear hfx hc HC hw hws e3
                    go_wp2
                    go_ret
                    exact ⟨by rw [HCC.out]; rfl, H.tail⟩
end Go.Proofs.Ytodbmeklbamcfaa

/- Package word's writer, function by function: what each call answers, and what becomes of the writer's bytes. -/
namespace Go.Proofs.Ytodbmeklbamcfaa
open Go.RowKit Go.Rt

theorem infoU8 : (Try.prog.info? 5).map (fun i => (i.zero, i.size, i.bytes)) = some (some (.int .u8 0), 1, 1) := by kernel_rfl

/-- A byte as a cell. -/
def B (b : UInt8) : Value := .int .u8 (b.toNat : Int)
theorem B_one (bs : List UInt8) : ∀ u ∈ bs.map B, u.oneCell' = true := by
  intro u hu
  simp only [List.mem_map] at hu
  obtain ⟨b, _, rfl⟩ := hu
  rfl

theorem nums_bytes (bs : List UInt8) : (bs.map fun b => (b.toNat : Int)).map (fun n => UInt8.ofNat n.toNat) = bs := by
  rw [List.map_map]
  induction bs with
  | nil => rfl
  | cons b l ih => rw [List.map_cons, ih]; simp
/-- Bytes as a string. -/
theorem run_str {P : Program} {w : World} (src dst e : TypeId) (hs : P.underlying src = some (.slice e)) (he : P.underlying e = some (.int .u8)) (hd : P.underlying dst = some .string)
    (A : Option Addr) (n c : Nat) (bs : List UInt8) (hn : bs.length = n) (hr : Rd w A (bs.map B)) : (convert src dst (.slice A n c)).run P w = .ok (.string ⟨bs.toArray⟩) w := by
  subst hn
  cases A with
  | none =>
    have : bs = [] := by
      cases bs with
      | nil => rfl
      | cons b l => obtain ⟨_, _, h⟩ := hr.open (by simp); cases h
    subst this
    exact run_convert_bytes_nil (P := P) (w := w) src e hs he 0 c dst hd
  | some ad =>
    rw [run_convert_bytes_string w src dst e _ _ c hs he hd]
    have hl : (loadCells ad bs.length).run P w = .ok ((bs.map fun b => (b.toNat : Int)).map (Value.int .u8)).toArray w := by
      have := run_loadCells_list (P := P) w ad (bs.map B) (fun j v hj => by
        obtain ⟨b, o, h1, h2⟩ := hr j v hj
        cases h1
        have hplain : (⟨b, o, none⟩ : Addr).add j = ⟨b, o + j, none⟩ := by unfold Addr.add; split <;> simp_all
        rw [hplain]; exact h2)
      have e1 : (bs.map fun b => (b.toNat : Int)).map (Value.int .u8) = bs.map B := by simp [B]
      rw [e1]
      simpa using this
    rw [run_bytesToString w _ _ c _ hl, foldl_push_bytes, nums_bytes]
    simp [ByteArray.empty, ByteArray.emptyWithCapacity]
    rfl

/-- A number by sevens, at most k of them. -/
def sevF : Nat → Nat → List UInt8
  | 0, _ => []
  | k + 1, n => if n < 128 then [UInt8.ofNat n] else UInt8.ofNat (n % 128 + 128) :: sevF k (n / 128)
def sev (n : Nat) : List UInt8 := sevF 9 n

theorem sevF_len (k n : Nat) : (sevF k n).length ≤ k := by
  induction k generalizing n with
  | zero => simp [sevF]
  | succ k ih => unfold sevF; split; simp; have := ih (n / 128); simp; omega

theorem ofInt_i64 (a : Nat) (ha : a < 9223372036854775808) : (BitVec.ofInt 64 (a : Int)).toNat = a := by
  rw [BitVec.ofInt_natCast, BitVec.toNat_ofNat]; exact Nat.mod_eq_of_lt (by omega)
theorem and_i64 (a b : Nat) (ha : a < 9223372036854775808) (hb : b < 9223372036854775808) : bits .and .i64 (a : Int) (b : Int) = ((a &&& b : Nat) : Int) := by
  have hx : a &&& b < 2 ^ 63 := Nat.and_lt_two_pow _ (by omega)
  show IntKind.i64.wrap ((BitVec.ofInt 64 (a : Int) &&& BitVec.ofInt 64 (b : Int)).toNat : Int) = _
  rw [BitVec.toNat_and, ofInt_i64 a ha, ofInt_i64 b hb, IntKind.wrap_i64]
  omega
theorem or_i64 (a b : Nat) (ha : a < 9223372036854775808) (hb : b < 9223372036854775808) : bits .or .i64 (a : Int) (b : Int) = ((a ||| b : Nat) : Int) := by
  have hx : a ||| b < 2 ^ 63 := Nat.or_lt_two_pow (by omega) (by omega)
  show IntKind.i64.wrap ((BitVec.ofInt 64 (a : Int) ||| BitVec.ofInt 64 (b : Int)).toNat : Int) = _
  rw [BitVec.toNat_or, ofInt_i64 a ha, ofInt_i64 b hb, IntKind.wrap_i64]
  omega
theorem and127 (m : Nat) : m &&& 127 = m % 128 := Nat.and_two_pow_sub_one_eq_mod m 7
theorem or128 : ∀ x, x < 128 → x ||| 128 = x + 128 := by decide
theorem byte_more (m : Nat) (hm : m < 9223372036854775808) : bits BinOp.or IntKind.i64 (bits BinOp.and IntKind.i64 (m : Int) 127) 128 % 256 = ((UInt8.ofNat (m % 128 + 128)).toNat : Int) := by
  have h1 := and_i64 m 127 hm (by omega)
  rw [show ((127 : Nat) : Int) = 127 from rfl] at h1
  rw [h1, and127]
  have h2 := or_i64 (m % 128) 128 (by omega) (by omega)
  rw [show ((128 : Nat) : Int) = 128 from rfl] at h2
  rw [h2, or128 _ (by omega), UInt8.toNat_ofNat']
  omega
theorem byte_last (m : Nat) (hm : m < 128) : Value.int .u8 (m : Int) = B (UInt8.ofNat m) := by
  unfold B; rw [UInt8.toNat_ofNat']; congr 1; omega
theorem sevF_more (k m : Nat) (hm : 128 ≤ m) : sevF (k + 1) m = UInt8.ofNat (m % 128 + 128) :: sevF k (m / 128) := by
  have h : ¬ m < 128 := by omega
  simp only [sevF, if_neg h]
theorem sevF_last (k m : Nat) (hm : m < 128) : sevF (k + 1) m = [UInt8.ofNat m] := by
  simp only [sevF, if_pos hm]

/-- A writer: its block, its bytes, whether a number below 0 was to be written. -/
def wr (p : Nat) (bs : List UInt8) (bad : Bool) : SL := ex fun Ac : Option Addr × Nat =>
  sep (pt p #[.bool true, .slice Ac.1 bs.length Ac.2, .int .i64 (if bad then 5 else 0), .int .i64 0] 89) (row 5 zB (.slice Ac.1 bs.length Ac.2) bs.length (bs.map B))
theorem wr_open {W w : World} {l : List SL} {p : Nat} {bs : List UInt8} {bad : Bool} (H : Sat W w (wr p bs bad :: l)) :
    ∃ A c, Sat W w (pt p #[.bool true, .slice A bs.length c, .int .i64 (if bad then 5 else 0), .int .i64 0] 89 :: row 5 zB (.slice A bs.length c) bs.length (bs.map B) :: l) :=
  let ⟨Ac, h⟩ := Sat.ex H; ⟨Ac.1, Ac.2, h.sep⟩
theorem wr_shut {W w : World} {l : List SL} {p : Nat} {bs : List UInt8} {bad : Bool} {A : Option Addr} {c : Nat}
    (H : Sat W w (pt p #[.bool true, .slice A bs.length c, .int .i64 (if bad then 5 else 0), .int .i64 0] 89 :: row 5 zB (.slice A bs.length c) bs.length (bs.map B) :: l)) : Sat W w (wr p bs bad :: l) :=
  Sat.unex (A := fun Ac : Option Addr × Nat => sep (pt p #[.bool true, .slice Ac.1 bs.length Ac.2, .int .i64 (if bad then 5 else 0), .int .i64 0] 89) (row 5 zB (.slice Ac.1 bs.length Ac.2) bs.length (bs.map B))) (A, c) H.unsep

set_option maxRecDepth 100000 in
theorem none_any (b o : Nat) (made : Bool) (w : World) (hc : w.cell? ⟨b, o, none⟩ = some (.bool made)) :
    Calls Try.prog 84 #[.pointer (some ⟨b, o, none⟩)] w fun e w' => e = .returned (.bool (!made)) ∧ w = w' := by
  go_enter Try.func84, Try.ntmps84
  go_wp2
  go_ret
  exact ⟨rfl, rfl⟩

set_option maxRecDepth 100000 in
theorem absent_any (b o : Nat) (made : Bool) (w : World) (hc : w.cell? ⟨b, o, none⟩ = some (.bool made)) :
    Calls Try.prog 60 #[.pointer (some ⟨b, o, none⟩)] w fun e w' => e = .returned (.bool (!made)) ∧ w = w' := by
  go_enter Try.func60, Try.ntmps60
  go_wp2_with (go_at_call 84; refine (none_any _ _ made _ hc).mono ?_; rintro e w' ⟨rfl, rfl⟩)
  go_ret
  exact ⟨rfl, rfl⟩

set_option maxRecDepth 100000 in
theorem absent_nil (w : World) :
    Calls Try.prog 60 #[.pointer none] w fun e w' => e = .returned (.bool true) ∧ w = w' := by
  go_enter Try.func60, Try.ntmps60
  go_wp2
  go_ret
  exact ⟨rfl, rfl⟩

set_option maxRecDepth 100000 in
theorem new_any {W w : World} {l : List SL} (H : Sat W w l) :
    Calls Try.prog 35 #[] w fun e w' => e = .returned (.pointer (some ⟨w.heap.size, 0, none⟩)) ∧ Sat W w' (wr w.heap.size [] false :: l) := by
  go_enter Try.func35, Try.ntmps35
  go_wp2
  go_ret
  exact ⟨rfl, wr_shut (((H.alloc _ _).nil 5 zB).swap)⟩

set_option maxRecDepth 100000 in
theorem wInt_any {W w : World} {l : List SL} {p : Nat} {bs : List UInt8} {bad : Bool} (n : Nat) (hn : n < 9223372036854775808) (hb : bs.length ≤ 1000000000) (H : Sat W w (wr p bs bad :: l)) :
    Calls Try.prog 36 #[.pointer (some ⟨p, 0, none⟩), .int .i64 n] w fun e w' => e = .returned (.tuple #[]) ∧ Sat W w' (wr p (bs ++ sev n) bad :: l) := by
  obtain ⟨i0, hi, hz0, hz1, hz2⟩ := info_parts infoU8
  obtain ⟨A, c, H⟩ := wr_open H
  have hc0 : w.cell? ⟨p, 0, none⟩ = some (.bool true) := H.cell 0
  have hneg : decide ((n : Int) < 0) = false := by simp
  go_enter Try.func36, Try.ntmps36
  go_wp2_with (go_at_call 60; refine (absent_any _ _ true _ hc0).mono ?_; rintro e w' ⟨rfl, rfl⟩)
  go_loopw [1] (fun x wc => ∃ (m k : Nat) (cs : List UInt8) (A' : Option Addr) (c' : Nat), x = .int .i64 m ∧ m < 128 ^ k ∧ 1 ≤ k ∧ k ≤ 9 ∧ cs.length + k ≤ bs.length + 9 ∧ Hid (bs ++ sev n = cs ++ sevF k m) ∧
      Sat W wc (pt p #[.bool true, .slice A' cs.length c', .int .i64 (if bad then 5 else 0), .int .i64 0] 89 :: row 5 zB (.slice A' cs.length c') cs.length (cs.map B) :: l)) (fun x _ => (intOf x).toNat)
  case atStart => exact ⟨n, 9, bs, A, c, rfl, by omega, by omega, by omega, by simp, rfl, H⟩
  case round =>
    obtain ⟨m, k, cs, A', c', rfl, hm, hk1, hk, hpk, HS, H'⟩ := hrel
    clear hc0
    have hc1 := H'.cell 1
    have hf1 := H'.frz 1
    by_cases hm7 : (127 : Int) < (m : Int)
    · have hmb : m < 9223372036854775808 := by
        have h1 : (128 : Nat) ^ k ≤ 128 ^ 9 := Nat.pow_le_pow_right (by omega) hk
        have h2 : (128 : Nat) ^ 9 = 9223372036854775808 := by decide
        omega
      obtain ⟨b, hby, HB⟩ : ∃ b : UInt8, bits BinOp.or IntKind.i64 (bits BinOp.and IntKind.i64 (m : Int) 127) 128 % 256 = (b.toNat : Int) ∧ Hid (b = UInt8.ofNat (m % 128 + 128)) := ⟨_, byte_more m hmb, rfl⟩
      go_wp2_with (at_builtin
                   refine wpList_append_sl rfl (.tmp 22) (.tmp 27) 29 rfl 5 i0 (.int .u8 0) zB 1 Try.underlying29 hi hz0 rfl hz1 hz2 (by simp) zB_like _ cs.length _ rfl (H'.swap.alloc' _) (some ⟨wr.heap.size, 0, none⟩) 1 1 [B b] rfl rfl (Rd.new wr #[B b] 5) (B_one [b]) (Typed.bytes [b]) (by unfold maxLen; omega) (by omega) ?_
                   intro A2 c2 w2 H2
                   have hc2 : w2.cell? ⟨p, 1, none⟩ = some (.slice A' cs.length c') := H2.swap.cell 1
                   have hf2 := H2.swap.frz 1)
      obtain ⟨k', rfl⟩ : ∃ k', k = k' + 2 := ⟨k - 2, by have : k ≠ 1 := by { rintro rfl; omega }; omega⟩
      refine ⟨⟨m / 128, k' + 1, cs ++ [b], A2, c2, rfl, ?_, by omega, by omega, by simp; omega, ?_, ?_⟩, by simp [intOf]; omega⟩
      · rw [Nat.pow_succ] at hm; omega
      · show _ = _
        rw [HS.out, sevF_more (k' + 1) m (by omega), HB.out]; simp
      · have := (H2.swap.setCell 1 (.slice A2 (cs.length + 1) c2))
        simpa using this
    · have hm8 : m < 128 := by omega
      go_wp2_with (at_builtin
                   refine wpList_append_sl rfl (.tmp 37) (.tmp 40) 29 rfl 5 i0 (.int .u8 0) zB 1 Try.underlying29 hi hz0 rfl hz1 hz2 (by simp) zB_like _ cs.length _ rfl (H'.swap.alloc' _) (some ⟨wr.heap.size, 0, none⟩) 1 1 [.int .u8 (m : Int)] rfl rfl (Rd.new wr #[.int .u8 (m : Int)] 5) (by simp [Value.oneCell']) (Typed.one _) (by unfold maxLen; omega) (by omega) ?_
                   intro A2 c2 w2 H2
                   have hc2 : w2.cell? ⟨p, 1, none⟩ = some (.slice A' cs.length c') := H2.swap.cell 1
                   have hf2 := H2.swap.frz 1)
      go_end0
      obtain ⟨k', rfl⟩ : ∃ k', k = k' + 1 := ⟨k - 1, by omega⟩
      refine ⟨rfl, wr_shut (A := A2) (c := c2) ?_⟩
      rw [HS.out, sevF_last k' m hm8]
      rw [byte_last m hm8] at H2
      simpa using (H2.swap.setCell 1 (.slice A2 (cs.length + 1) c2))

set_option maxRecDepth 100000 in
theorem wInt_neg {W w : World} {l : List SL} {p : Nat} {bs : List UInt8} {bad : Bool} (n : Int) (hn : n < 0) (H : Sat W w (wr p bs bad :: l)) :
    Calls Try.prog 36 #[.pointer (some ⟨p, 0, none⟩), .int .i64 n] w fun e w' => e = .returned (.tuple #[]) ∧ Sat W w' (wr p bs true :: l) := by
  obtain ⟨A, c, H⟩ := wr_open H
  have hc0 : w.cell? ⟨p, 0, none⟩ = some (.bool true) := H.cell 0
  have hc2 : w.cell? ⟨p, 2, none⟩ = some (.int .i64 (if bad then 5 else 0)) := H.cell 2
  have hf2 := H.frz 2
  go_enter Try.func36, Try.ntmps36
  go_wp2_with (go_at_call 60; refine (absent_any _ _ true _ hc0).mono ?_; rintro e w' ⟨rfl, rfl⟩)
  refine bodyPost_ret (results_none rfl _ _ _) rfl ⟨rfl, wr_shut (A := A) (c := c) ?_⟩
  simpa using H.setCell 2 (.int .i64 5)

/-- What a writer has behind an Int of any number. -/
def wrInt (n : Int) (bs : List UInt8) : List UInt8 := if n < 0 then bs else bs ++ sev n.toNat
theorem wInt_all {W w : World} {l : List SL} {p : Nat} {bs : List UInt8} {bad : Bool} (n : Int) (hn : n ≤ 9223372036854775807) (hb : bs.length ≤ 1000000000) (H : Sat W w (wr p bs bad :: l)) :
    Calls Try.prog 36 #[.pointer (some ⟨p, 0, none⟩), .int .i64 n] w fun e w' => e = .returned (.tuple #[]) ∧ Sat W w' (wr p (wrInt n bs) (bad || decide (n < 0)) :: l) := by
  by_cases h : n < 0
  · refine (wInt_neg n h H).mono ?_
    rintro e w' ⟨rfl, h'⟩
    refine ⟨rfl, ?_⟩
    simpa [wrInt, h] using h'
  · obtain ⟨m, rfl⟩ : ∃ m : Nat, n = m := ⟨n.toNat, by omega⟩
    refine (wInt_any m (by omega) hb H).mono ?_
    rintro e w' ⟨rfl, h'⟩
    refine ⟨rfl, ?_⟩
    simpa [wrInt, h] using h'

set_option maxRecDepth 100000 in
theorem wInt_none (n : Int) (w : World) : Calls Try.prog 36 #[.pointer none, .int .i64 n] w fun e w' => e = .returned (.tuple #[]) ∧ w = w' := by
  go_enter Try.func36, Try.ntmps36
  go_wp2_with (go_at_call 60; refine (absent_nil _).mono ?_; rintro e w' ⟨rfl, rfl⟩)
  exact bodyPost_ret (results_none rfl _ _ _) rfl ⟨rfl, rfl⟩
set_option maxRecDepth 100000 in
theorem wInt_off (p : Nat) (n : Int) (w : World) (hc0 : w.cell? ⟨p, 0, none⟩ = some (.bool false)) : Calls Try.prog 36 #[.pointer (some ⟨p, 0, none⟩), .int .i64 n] w fun e w' => e = .returned (.tuple #[]) ∧ w = w' := by
  go_enter Try.func36, Try.ntmps36
  go_wp2_with (go_at_call 60; refine (absent_any _ _ false _ hc0).mono ?_; rintro e w' ⟨rfl, rfl⟩)
  exact bodyPost_ret (results_none rfl _ _ _) rfl ⟨rfl, rfl⟩

theorem strC_len (s : ByteArray) : s.data.toList.length = s.size := by rw [Array.length_toList]; rfl

set_option maxRecDepth 100000 in
theorem wText_any {W w : World} {l : List SL} {p : Nat} {bs : List UInt8} {bad : Bool} (s : ByteArray) (hn : s.size ≤ 1000000000) (hb : bs.length ≤ 900000000) (H : Sat W w (wr p bs bad :: l)) :
    Calls Try.prog 61 #[.pointer (some ⟨p, 0, none⟩), .string s] w fun e w' => e = .returned (.tuple #[]) ∧ Sat W w' (wr p (bs ++ sev s.size ++ s.data.toList) bad :: l) := by
  obtain ⟨i0, hi, hz0, hz1, hz2⟩ := info_parts infoU8
  have hc0 : w.cell? ⟨p, 0, none⟩ = some (.bool true) := by obtain ⟨A, c, H⟩ := wr_open H; exact H.cell 0
  go_enter Try.func61, Try.ntmps61
  go_wp2_with (go_at_call 60; refine (absent_any _ _ true _ hc0).mono ?_; rintro e w' ⟨rfl, rfl⟩)
  refine (wInt_any s.size (by omega) (by omega) H).mono ?_
  rintro e w1 ⟨rfl, H1⟩
  have hl9 := sevF_len 9 s.size
  obtain ⟨cs, HC⟩ : ∃ cs, Hid (cs = bs ++ sev s.size) := ⟨_, rfl⟩
  rw [← HC.out] at H1
  have hcl : cs.length ≤ 1000000000 := by rw [HC.out, List.length_append]; unfold sev; omega
  obtain ⟨A, c, H1⟩ := wr_open H1
  clear hc0
  have hc1 : w1.cell? ⟨p, 1, none⟩ = some (.slice A cs.length c) := H1.cell 1
  have hf1 := H1.frz 1
  go_wp2_with (at_builtin
               refine wpList_append_str rfl (.tmp 15) (.tmp 16) 29 9 rfl 5 i0 Try.underlying29 Try.underlying9 hi hz0 hz1 hz2 _ cs.length _ rfl H1.swap s rfl (by unfold maxLen; omega) (by omega) ?_
               intro A2 c2 w2 H2
               have hc2 : w2.cell? ⟨p, 1, none⟩ = some (.slice A cs.length c) := H2.swap.cell 1
               have hf2 := H2.swap.frz 1)
  go_end0
  refine ⟨rfl, wr_shut (A := A2) (c := c2) ?_⟩
  rw [← HC.out]
  have := H2.swap.setCell 1 (.slice A2 (cs.length + s.size) c2)
  have e1 : (cs ++ s.data.toList).map B = cs.map B ++ strC s := by rw [List.map_append]; rfl
  rw [List.length_append, strC_len, e1]
  simpa using this

set_option maxRecDepth 100000 in
theorem wText_none (s : ByteArray) (w : World) : Calls Try.prog 61 #[.pointer none, .string s] w fun e w' => e = .returned (.tuple #[]) ∧ w = w' := by
  go_enter Try.func61, Try.ntmps61
  go_wp2_with (go_at_call 60; refine (absent_nil _).mono ?_; rintro e w' ⟨rfl, rfl⟩)
  exact bodyPost_ret (results_none rfl _ _ _) rfl ⟨rfl, rfl⟩
set_option maxRecDepth 100000 in
theorem wText_off (p : Nat) (s : ByteArray) (w : World) (hc0 : w.cell? ⟨p, 0, none⟩ = some (.bool false)) : Calls Try.prog 61 #[.pointer (some ⟨p, 0, none⟩), .string s] w fun e w' => e = .returned (.tuple #[]) ∧ w = w' := by
  go_enter Try.func61, Try.ntmps61
  go_wp2_with (go_at_call 60; refine (absent_any _ _ false _ hc0).mono ?_; rintro e w' ⟨rfl, rfl⟩)
  exact bodyPost_ret (results_none rfl _ _ _) rfl ⟨rfl, rfl⟩

set_option maxRecDepth 100000 in
theorem wOut_any {W w : World} {l : List SL} {p : Nat} {bs : List UInt8} (hb : bs.length ≤ 1000000000) (H : Sat W w (wr p bs false :: l)) :
    Calls Try.prog 37 #[.pointer (some ⟨p, 0, none⟩)] w fun e w' => ∃ A c, e = .returned (.tuple #[.slice A bs.length c, .int .i64 0]) ∧ Sat W w' (row 5 zB (.slice A bs.length c) bs.length (bs.map B) :: wr p bs false :: l) := by
  obtain ⟨i0, hi, hz0, hz1, hz2⟩ := info_parts infoU8
  obtain ⟨A, c, H⟩ := wr_open H
  have hc0 : w.cell? ⟨p, 0, none⟩ = some (.bool true) := H.cell 0
  have hc1 : w.cell? ⟨p, 1, none⟩ = some (.slice A bs.length c) := H.cell 1
  have hc2 : w.cell? ⟨p, 2, none⟩ = some (.int .i64 0) := H.cell 2
  have hlt := H.lt
  have hr : Rd w A (bs.map B) := H.swap.rd
  go_enter Try.func37, Try.ntmps37
  go_wp2_with (first
    | (go_at_call 60; refine (absent_any _ _ true _ hc0).mono ?_; rintro e w' ⟨rfl, rfl⟩)
    | (at_builtin
       refine wpList_append_sl rfl (.tmp 21) (.tmp 26) 29 rfl 5 i0 (.int .u8 0) zB 1 Try.underlying29 hi hz0 rfl hz1 hz2 (by simp) zB_like _ 0 [] rfl (H.made #[] 5 zB 0 0 (by omega) (by unfold maxLen; omega) rfl (Typed.nil _)) A bs.length c (bs.map B) rfl (by simp) (hr.below ((Below.refl _ _).alloc (Nat.le_refl _) _)) (B_one bs) (Typed.bytes bs) (by unfold maxLen; omega) (by omega) ?_
       intro A2 c2 w2 H2))
  go_ret2
  refine ⟨A2, c2, by simp, ?_⟩
  have := wr_shut ((H2.pull 2).pull 2)
  simpa [Go.Rt.pull] using this.swap

set_option maxRecDepth 100000 in
theorem wOut_bad {W w : World} {l : List SL} {p : Nat} {bs : List UInt8} (H : Sat W w (wr p bs true :: l)) :
    Calls Try.prog 37 #[.pointer (some ⟨p, 0, none⟩)] w fun e w' => e = .returned (.tuple #[.slice none 0 0, .int .i64 5]) ∧ ∃ n, w' = w.drewN n := by
  obtain ⟨A, c, H⟩ := wr_open H
  have hc0 : w.cell? ⟨p, 0, none⟩ = some (.bool true) := H.cell 0
  have hc2 : w.cell? ⟨p, 2, none⟩ = some (.int .i64 5) := H.cell 2
  go_enter Try.func37, Try.ntmps37
  go_wp2_with (go_at_call 60; refine (absent_any _ _ true _ hc0).mono ?_; rintro e w' ⟨rfl, rfl⟩)
  go_quiet (fail)
  go_wp2
  go_ret2
  exact ⟨rfl, _, rfl⟩

set_option maxRecDepth 100000 in
theorem wOut_none (w : World) : Calls Try.prog 37 #[.pointer none] w fun e w' => e = .returned (.tuple #[.slice none 0 0, .int .i64 1]) ∧ w = w' := by
  go_enter Try.func37, Try.ntmps37
  go_wp2_with (go_at_call 60; refine (absent_nil _).mono ?_; rintro e w' ⟨rfl, rfl⟩)
  go_ret2
  exact ⟨rfl, rfl⟩
set_option maxRecDepth 100000 in
theorem wOut_off (p : Nat) (w : World) (hc0 : w.cell? ⟨p, 0, none⟩ = some (.bool false)) : Calls Try.prog 37 #[.pointer (some ⟨p, 0, none⟩)] w fun e w' => e = .returned (.tuple #[.slice none 0 0, .int .i64 1]) ∧ w = w' := by
  go_enter Try.func37, Try.ntmps37
  go_wp2_with (go_at_call 60; refine (absent_any _ _ false _ hc0).mono ?_; rintro e w' ⟨rfl, rfl⟩)
  go_ret2
  exact ⟨rfl, rfl⟩

/-- An ID as the value that is handed over. -/
def idv (d : List UInt8) : Value := .agg (d.map B).toArray
end Go.Proofs.Ytodbmeklbamcfaa

/- As which bytes effects are told; how they are read. No program in sight. -/
namespace Go.Proofs.Ytodbmeklbamcfaa

def txtE (s : Str) : List UInt8 := sev s.length ++ s
def spE (s : Sp) : List UInt8 := txtE s.lo ++ txtE s.hi
def wtE (w : Wt) : List UInt8 := txtE w.k ++ if w.d then sev 1 else sev 0 ++ txtE w.v
def bytesX (x : Ef) : List UInt8 := sev x.why.toNat ++ (sev x.steps.toNat ++ (sev x.rs.length ++ (x.rs.flatMap txtE ++ (sev x.ss.length ++ (x.ss.flatMap spE ++ (sev x.ws.length ++ x.ws.flatMap wtE))))))
def bytesE (x : Ef) : List UInt8 × Int := if checkX x = 0 then (bytesX x, 0) else ([], checkX x)
end Go.Proofs.Ytodbmeklbamcfaa
