/- A pack of texts: WdU -/
import Derived.Test.YtodbmeklbamcfaaGreatPkReadsP
import Derived.Test.YtodbmeklbamcfaaGreatPkReadsE
import Derived.ChangeKeysEq
import Derived.BigFrame
/- Two arrays of bytes held against each other; a variable of several cells read behind a guard. -/
namespace Go.Proofs.YtodbmeklbamcfaaGreat
open Go.RowKit Go.Rt

theorem B_beq (a b : UInt8) : ((a.toNat : Int) == (b.toNat : Int)) = (a == b) := by
  rw [Bool.eq_iff_iff, beq_iff_eq, beq_iff_eq]
  constructor
  · intro h; exact UInt8.toNat_inj.1 (by omega)
  · intro h; rw [h]

section
variable {P : Program} {w : World}
theorem run_eqItems_bytes (e : TypeId) (he : P.underlying e = some (.int .u8)) (d : Nat) (us vs : List UInt8) (m : Nat) : ∀ k, us.length = k + m → vs.length = k + m →
    (Op.eqItems (d + 1) e 1 (us.map B).toArray (vs.map B).toArray (List.range' k m)).run P w = .ok (us.drop k == vs.drop k) w := by
  induction m with
  | zero =>
    intro k ha hb
    rw [List.drop_eq_nil_of_le (by omega), List.drop_eq_nil_of_le (by omega)]
    simp [Op.eqItems]
  | succ m ih =>
    intro k ha hb
    have hp : P.plainKey e = true := by unfold Program.plainKey; rw [he]
    obtain ⟨x, hx⟩ : ∃ x, us[k]? = some x := ⟨_, List.getElem?_eq_getElem (by omega)⟩
    obtain ⟨y, hy⟩ : ∃ y, vs[k]? = some y := ⟨_, List.getElem?_eq_getElem (by omega)⟩
    have h1 := run_part_plain (P := P) w hp (xs := (us.map B).toArray) (off := k * 1) (v := B x) (by simp [hx])
    have h2 := run_part_plain (P := P) w hp (xs := (vs.map B).toArray) (off := k * 1) (v := B y) (by simp [hy])
    have h3 := run_equalIn_int (P := P) w d e .u8 .u8 (x.toNat : Int) (y.toNat : Int) he
    have h3' : (Op.equalIn (d + 1) e (B x) (B y)).run P w = .ok (x == y) w := by rw [← B_beq]; exact h3
    have ea : us.drop k = x :: us.drop (k + 1) := by rw [List.drop_eq_getElem_cons (by omega)]; congr 1; exact Option.some.inj (by rw [← List.getElem?_eq_getElem, hx])
    have eb : vs.drop k = y :: vs.drop (k + 1) := by rw [List.drop_eq_getElem_cons (by omega)]; congr 1; exact Option.some.inj (by rw [← List.getElem?_eq_getElem, hy])
    simp only [List.range'_succ, Op.eqItems, Sem.run_bind, h1, h2, h3', Result.andThen_ok]
    rw [ea, eb]
    cases hxy : x == y with
    | true => simp only [Bool.not_true, Bool.false_eq_true, if_false]; rw [ih (k + 1) (by omega) (by omega)]; simp [hxy]
    | false => simp [hxy]

theorem run_equal_bytes (d : Nat) (t e : TypeId) (n : Nat) (i : TypeInfo) (hu : P.underlying t = some (.array n e)) (hi : P.info? e = some i) (hc : P.cellsOf e = 1) (he : P.underlying e = some (.int .u8)) (us vs : List UInt8) (ha : us.length = n) (hb : vs.length = n) :
    (Op.equalIn (d + 2) t (.agg (us.map B).toArray) (.agg (vs.map B).toArray)).run P w = .ok (us == vs) w := by
  rw [run_equalIn_array w (d + 1) _ _ hu hi, hc, List.range_eq_range']
  have := run_eqItems_bytes (P := P) (w := w) e he d us vs n 0 (by omega) (by omega)
  simpa using this

set_option maxRecDepth 100000 in
theorem wpList_eqb {ops : Array Oper} {rest : List Oper} {o : Oper} {a : Act} {Q : Exit → Act → World → Prop} (hw : Region.wanted o (yielded ops a.tmps) = true) (x y : Operand) (t t2 : TypeId) (neq : Bool) (hop : o.op = Op.binOp (if neq then .neq else .eql) t x y t2)
    (e : TypeId) (n : Nat) (i : TypeInfo) (hu : P.underlying t = some (.array n e)) (hi : P.info? e = some i) (hc : P.cellsOf e = 1) (he : P.underlying e = some (.int .u8)) (hm : P.eqGuardType P.depth t = false) (us vs : List UInt8) (ha : us.length = n) (hb : vs.length = n)
    (hx : a.eval x = .agg (us.map B).toArray) (hy : a.eval y = .agg (vs.map B).toArray) (hK : wpList P ops Q rest (a.put o.dst (.bool (xor neq (us == vs)))) w) : wpList P ops Q (o :: rest) a w := by
  refine BigFrame.wpList_want hw fun K hK' => ?_
  have h0 := run_equal_bytes (P := P) (w := w) 9998 t e n i hu hi hc he us vs ha hb
  have h1 : ∀ op, (eqGuard op t x y (.agg (us.map B).toArray) (.agg (vs.map B).toArray)).run P w = .ok () w := fun op => run_eqGuard_agg (P := P) w op t x y _ _ hm
  unfold Oper.wp
  cases neq with
  | true =>
    have h2 := run_neq_struct (P := P) w t (us.map B).toArray (vs.map B).toArray
    rw [h0] at h2
    simp only [Result.andThen_ok] at h2
    simp only [execOp, hop, if_true, hx, hy, Sem.run_bind, h1, h2, Result.andThen_ok]
    exact hK' _ _ (by simpa using hK)
  | false =>
    have h2 := run_eql_struct (P := P) w t (us.map B).toArray (vs.map B).toArray
    rw [h0] at h2
    simp only [Result.andThen_ok] at h2
    simp only [execOp, hop, Bool.false_eq_true, if_false, hx, hy, Sem.run_bind, h1, h2, Result.andThen_ok]
    exact hK' _ _ (by simpa using hK)

set_option maxRecDepth 100000 in
theorem wpList_load_rdw {ops : Array Oper} {rest : List Oper} {o : Oper} {a : Act} {Q : Exit → Act → World → Prop} (hw : Region.wanted o (yielded ops a.tmps) = true) (x : Operand) (t : TypeId) (hop : o.op = Op.load t x)
    (b off : Nat) (cs : List Value) (hagg : (match P.underlying t with | some (.struct _) | some (.array _ _) => true | _ => false) = true) (hsz : (P.info? t).map (·.size) = some cs.length) (ha : a.eval x = .pointer (some ⟨b, off, none⟩))
    (hr : Rd w (some ⟨b, off, none⟩) cs) (hK : wpList P ops Q rest (a.put o.dst (.agg cs.toArray)) w) : wpList P ops Q (o :: rest) a w := by
  refine BigFrame.wpList_want hw fun K hK' => ?_
  have h1 := run_loadVar_rd (P := P) t b off cs hagg hsz hr
  unfold Oper.wp
  simp [execOp, hop, ha, Instr.loadAt, Instr.sureAddr, h1, Result.andThen]
  exact hK' _ _ hK
theorem step_load_rd {ops : Array Oper} {o : Oper} {a : Act} {K : Act → World → Prop} {Q : Exit → Act → World → Prop} {E : Prop} (hg : o.guard = none) (x : Operand) (t : TypeId) (hop : o.op = Op.load t x)
    (b off : Nat) (cs : List Value) (hagg : (match P.underlying t with | some (.struct _) | some (.array _ _) => true | _ => false) = true) (hsz : (P.info? t).map (·.size) = some cs.length) (ha : a.eval x = .pointer (some ⟨b, off, none⟩))
    (hr : Rd w (some ⟨b, off, none⟩) cs) (h : K (a.put o.dst (.agg cs.toArray)) w) : if Region.wanted o (yielded ops a.tmps) = true then Oper.wp P o a w K Q else E := by
  have hw : Region.wanted o (yielded ops a.tmps) = true := by simp [Region.wanted, hg]
  rw [if_pos hw]
  have h1 := run_loadVar_rd (P := P) t b off cs hagg hsz hr
  unfold Oper.wp
  simp [execOp, hop, ha, Instr.loadAt, Instr.sureAddr, h1, Result.andThen]
  exact h

theorem step_eqb {ops : Array Oper} {o : Oper} {a : Act} {K : Act → World → Prop} {Q : Exit → Act → World → Prop} {E : Prop} (hg : o.guard = none) (x y : Operand) (t t2 : TypeId) (neq : Bool) (hop : o.op = Op.binOp (if neq then .neq else .eql) t x y t2)
    (e : TypeId) (n : Nat) (i : TypeInfo) (hu : P.underlying t = some (.array n e)) (hi : P.info? e = some i) (hc : P.cellsOf e = 1) (he : P.underlying e = some (.int .u8)) (hm : P.eqGuardType P.depth t = false) (us vs : List UInt8) (ha : us.length = n) (hb : vs.length = n)
    (hx : a.eval x = .agg (us.map B).toArray) (hy : a.eval y = .agg (vs.map B).toArray) (h : K (a.put o.dst (.bool (xor neq (us == vs)))) w) : if Region.wanted o (yielded ops a.tmps) = true then Oper.wp P o a w K Q else E := by
  have hw : Region.wanted o (yielded ops a.tmps) = true := by simp [Region.wanted, hg]
  rw [if_pos hw]
  have h0 := run_equal_bytes (P := P) (w := w) 9998 t e n i hu hi hc he us vs ha hb
  have h1 : ∀ op, (eqGuard op t x y (.agg (us.map B).toArray) (.agg (vs.map B).toArray)).run P w = .ok () w := fun op => run_eqGuard_agg (P := P) w op t x y _ _ hm
  unfold Oper.wp
  cases neq with
  | true =>
    have h2 := run_neq_struct (P := P) w t (us.map B).toArray (vs.map B).toArray
    rw [h0] at h2
    simp only [Result.andThen_ok] at h2
    simp only [execOp, hop, if_true, hx, hy, Sem.run_bind, h1, h2, Result.andThen_ok]
    show K (a.put o.dst _) w
    simpa using h
  | false =>
    have h2 := run_eql_struct (P := P) w t (us.map B).toArray (vs.map B).toArray
    rw [h0] at h2
    simp only [Result.andThen_ok] at h2
    simp only [execOp, hop, Bool.false_eq_true, if_false, hx, hy, Sem.run_bind, h1, h2, Result.andThen_ok]
    show K (a.put o.dst _) w
    simpa using h

set_option maxRecDepth 100000 in
theorem wpList_append_slw {W : World} {l : List SL} {ops : Array Oper} {rest : List Oper} {o : Oper} {a : Act} {Q : Exit → Act → World → Prop} (hw : Region.wanted o (yielded ops a.tmps) = true) (s x : Operand) (t : TypeId)
    (ho : o.op = .call { callee := .builtin .append, args := #[s, x], argTypes := #[t, t] })
    (e : TypeId) (i : TypeInfo) (z : Value) (zc : List Value) (bytes : Nat) (ht : P.underlying t = some (.slice e)) (hi : P.info? e = some i) (hz : i.zero = some z) (hzc : z.cells = zc.toArray)
    (hsize : i.size = zc.length) (hby : i.bytes = bytes) (hpos : 0 < zc.length) (hzz : LikeZ zc)
    (v : Value) (n : Nat) (xs : List Value) (hs : a.eval s = v) (H : Sat W w (row e zc v n xs :: l))
    (A : Option Addr) (m c : Nat) (news : List Value) (hx : a.eval x = .slice A m c) (hl : news.length = m * zc.length) (hr : Rd w A news) (h1 : ∀ u ∈ news, u.oneCell' = true) (hty : Typed zc news)
    (h63 : n + m ≤ maxLen) (hbytes : (n + m) * bytes ≤ 140737488355328)
    (h : ∀ A' c' w', Sat W w' (row e zc (.slice A' (n + m) c') (n + m) (xs ++ news) :: l) → wpList P ops Q rest (a.put o.dst (.slice A' (n + m) c')) w') : wpList P ops Q (o :: rest) a w :=
  BigFrame.wpList_want hw fun _ hK => wp_append_sl s x t ho e i z zc bytes ht hi hz hzc hsize hby hpos hzz v n xs hs H A m c news hx hl hr h1 hty h63 hbytes fun A' c' w' H' => hK _ _ (h A' c' w' H')
end
end Go.Proofs.YtodbmeklbamcfaaGreat
