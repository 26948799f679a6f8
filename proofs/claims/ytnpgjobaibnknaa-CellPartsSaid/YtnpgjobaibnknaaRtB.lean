/- More laws on what a call owns: make, copy. No program in sight. -/
import Derived.Test.YtnpgjobaibnknaaRt
namespace Go.Rt
open Go.RowKit

/-- What is read as long as the things of l are owned: memory that was there at the beginning, or a row of l. -/
def RdL (W : World) (l : List SL) (A : Option Addr) (xs : List Value) : Prop := ∀ w, Sat W w l → Rd w A xs
theorem RdL.old {W : World} {l : List SL} {A : Option Addr} {xs : List Value} (h : Rd W A xs) : RdL W l A xs := fun _ H => h.old H
theorem RdL.tail {W : World} {l : List SL} {B : SL} {A : Option Addr} {xs : List Value} (h : RdL W l A xs) : RdL W (B :: l) A xs := fun w H => h w H.tail
theorem RdL.row {W : World} {l : List SL} {e : TypeId} {zc : List Value} {A : Option Addr} {m n c : Nat} {xs : List Value} : RdL W (Go.Rt.row e zc (.slice A m c) n xs :: l) A xs := fun _ H => H.rd
theorem RdL.pull {W : World} {l : List SL} {A : Option Addr} {xs : List Value} (i : Nat) (h : RdL W (Go.Rt.pull i l) A xs) : RdL W l A xs := fun w H => h w (H.pull i)

theorem madeCells_eq (zc : List Value) (n : Nat) : madeCells zc.toArray (n * zc.length) = Builtin.zeroCells zc.toArray n := by
  simp [madeCells, Builtin.zeroCells]

section
variable {P : Program} {W w : World} {l : List SL}

set_option maxRecDepth 100000 in
/-- 'make([]T, n)' -/
theorem wpList_make_sl {ops : Array Oper} {rest : List Oper} {o : Oper} {a : Act} {Q : Exit → Act → World → Prop} (hg : o.guard = none) (lo co : Operand) (t : TypeId) (hop : o.op = Op.makeSlice t lo co)
    (e : TypeId) (i : TypeInfo) (z : Value) (zc : List Value) (h1 : P.underlying t = some (.slice e)) (h2 : P.info? e = some i) (h3 : i.zero = some z) (hzc : z.cells = zc.toArray) (h4 : i.size = zc.length) (hzz : LikeZ zc)
    (kl kc : IntKind) (L C : Int) (n c : Nat) (hl : a.eval lo = .int kl L) (hc : a.eval co = .int kc C) (hL : L = (n : Int)) (hC : C = (c : Int)) (hnc : n ≤ c) (b2 : i.bytes * c ≤ 281474976710656) (b3 : c ≤ maxLen)
    (H : Sat W w l)
    (hK : ∀ w', Sat W w' (row e zc (.slice (some ⟨w.heap.size, 0, none⟩) n c) n (Builtin.zeroCells zc.toArray n).toList :: l) → wpList P ops Q rest (a.put o.dst (.slice (some ⟨w.heap.size, 0, none⟩) n c)) w') :
    wpList P ops Q (o :: rest) a w := by
  refine wpList_plain hg fun K hK' => ?_
  subst hL hC
  have hb : (i.bytes : Int) * (c : Int) ≤ 281474976710656 := by
    have h : ((i.bytes * c : Nat) : Int) ≤ 281474976710656 := by omega
    rwa [Int.natCast_mul] at h
  have hrun := run_make (P := P) w t e i z h1 h2 h3 kl kc n c (by omega) (by omega) hb (by simp only [maxLen] at b3; omega)
  simp only [Int.toNat_natCast, hzc, h4, madeCells_eq] at hrun
  unfold Oper.wp
  simp [execOp, hop, hl, hc, hrun, Result.andThen]
  refine hK' _ _ (hK _ ?_)
  have hs := H.made (Builtin.zeroCells zc.toArray c) e zc n c hnc b3 (by simp [Builtin.zeroCells]) (Typed.zeros hzz c)
  have e1 : (Builtin.zeroCells zc.toArray c).toList.take (n * zc.length) = (Builtin.zeroCells zc.toArray n).toList := by
    simp only [Builtin.zeroCells, Array.toList_map, Array.toList_range, List.size_toArray, ← List.map_take]
    rw [List.take_range, Nat.min_eq_left (Nat.mul_le_mul_right _ hnc)]
  rw [e1] at hs
  exact hs

theorem run_copy_typed (dT sT ty e : TypeId) (i : TypeInfo) (zc : List Value) (hu : P.underlying dT = some (.slice e)) (hi : P.info? e = some i) (hsize : i.size = zc.length) 
    (g n c : Nat) (xs : List Value) (H : Sat W w (row e zc (.slice (some ⟨g, 0, none⟩) n c) n xs :: l))
    (A : Option Addr) (m c' : Nat) (news : List Value) (hl : news.length = m * zc.length) (hr : Rd w A news) (h1 : ∀ u ∈ news, u.oneCell' = true) (hty : Typed zc news) (hmn : m ≤ n) :
    ∃ w', (Builtin.copy_ #[dT, sT] ty #[.slice (some ⟨g, 0, none⟩) n c, .slice A m c']).run P w = .ok (goInt m) w' ∧ Sat W w' (row e zc (.slice (some ⟨g, 0, none⟩) n c) n (news ++ xs.drop (m * zc.length)) :: l) := by
  obtain ⟨cur, hg, hnc, _, hcs, htake, htc⟩ := H.row_blk
  have hmin : Nat.min m n = m := Nat.min_eq_left hmn
  have hf : (Builtin.firstCells i.size m (.slice A m c')).run P w = .ok news.toArray w := by
    cases A with
    | none =>
      have : news = [] := by
        cases news with
        | nil => rfl
        | cons x r => obtain ⟨_, _, h⟩ := hr.open (by simp); cases h
      subst this
      exact run_firstCells_none w _ _ _ _
    | some ad =>
      refine run_firstCells_some w i.size m ad m c' news (by rw [hsize]; exact hl) fun j u hu => ?_
      obtain ⟨b, o, h, hc⟩ := hr j u hu
      cases h
      unfold Addr.add
      split
      · rename_i hj; subst hj; simpa using hc
      · exact hc
  have hst := run_storeCells_at P g 0 e news 0 cur w hg (by rw [hl, hcs]; simpa using Nat.mul_le_mul_right _ (Nat.le_trans hmn hnc)) h1
  simp only [Nat.add_zero, Nat.zero_add, List.take_zero, List.nil_append] at hst
  refine ⟨_, by simp [Builtin.copy_, run_underlying hu, Builtin.lenOf, sizeOf, typeInfo, hi, hmin, hf, hst]; rfl, ?_⟩
  have hs := H.setRow (news ++ cur.toList.drop news.length).toArray n hnc ?_ ?_
  · have e1 : (news ++ cur.toList.drop news.length).toArray.toList.take (n * zc.length) = news ++ xs.drop (m * zc.length) := by
      show (news ++ cur.toList.drop news.length).take (n * zc.length) = _
      rw [List.take_append, List.take_of_length_le (by rw [hl]; exact Nat.mul_le_mul_right _ hmn), ← htake, List.drop_take, hl]
    rw [e1] at hs
    exact hs
  · simp only [List.size_toArray, List.length_append, List.length_drop]
    have : cur.toList.length = c * zc.length := by simpa using hcs
    rw [this, hl, Nat.add_sub_cancel' (Nat.mul_le_mul_right _ (Nat.le_trans hmn hnc))]
  · exact hty.append (htc.drop _ (by rw [hl]; simp)) (by rw [hl]; simp)

set_option maxRecDepth 100000 in
theorem wpList_copy_sl {ops : Array Oper} {rest : List Oper} {o : Oper} {a : Act} {Q : Exit → Act → World → Prop} (hgd : o.guard = none) (d s : Operand) (dT sT : TypeId)
    (ho : o.op = .call { callee := .builtin .copy, args := #[d, s], argTypes := #[dT, sT] })
    (e : TypeId) (i : TypeInfo) (zc : List Value) (hu : P.underlying dT = some (.slice e)) (hi : P.info? e = some i) (hsize : i.size = zc.length) 
    (g n c : Nat) (xs : List Value) (hd : a.eval d = .slice (some ⟨g, 0, none⟩) n c) (H : Sat W w (row e zc (.slice (some ⟨g, 0, none⟩) n c) n xs :: l))
    (A : Option Addr) (m c' : Nat) (news : List Value) (hx : a.eval s = .slice A m c') (hl : news.length = m * zc.length) (hr : Rd w A news) (h1 : ∀ u ∈ news, u.oneCell' = true) (hty : Typed zc news) (hmn : m ≤ n)
    (h : ∀ w', Sat W w' (row e zc (.slice (some ⟨g, 0, none⟩) n c) n (news ++ xs.drop (m * zc.length)) :: l) → wpList P ops Q rest (a.put o.dst (goInt m)) w') : wpList P ops Q (o :: rest) a w := by
  refine wpList_plain hgd fun K hK => ?_
  obtain ⟨w', hrun, H'⟩ := run_copy_typed (P := P) dT sT o.type e i zc hu hi hsize g n c xs H A m c' news hl hr h1 hty hmn
  unfold Oper.wp execOp
  simp only [ho, resolve, invoke, builtin, Sem.run_bind, Sem.run_pure, Result.andThen_ok, List.map_toArray, List.map_cons, List.map_nil, hd, hx, hrun]
  exact hK _ _ (h w' H')
end
end Go.Rt
