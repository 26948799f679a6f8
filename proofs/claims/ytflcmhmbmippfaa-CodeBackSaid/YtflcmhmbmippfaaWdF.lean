/- Package word's reader: 'try', its deferred closure, and what is tried. -/
import Derived.Test.YtflcmhmbmippfaaWdE
import Derived.WideLaws
import Derived.Deep.RegionHeld3
namespace Go.Proofs.Ytflcmhmbmippfaa
open Go.RowKit Go.Rt

theorem as_gone (e a : Int) (w : World) : (Instr.typeAssert (.iface 124 (.agg #[.int .i64 e, .int .i64 a])) 20 124 true).run Try.prog w = .ok (.tuple #[.agg #[.int .i64 e, .int .i64 a], .bool true]) w := by
  kernel_rfl

/-- recover, as a region of its own. -/
theorem wpS_recover {P : Program} {Q : Exit → Act → List Frame → World → Prop} {a : Act} {cs : List Frame} {w : World} {id d : Nat} {t : TypeId} {pos : String}
    (h : match recoverD cs with
      | some (v, cs') => Q .normal (a.put (some d) v) cs' w
      | none => Q .normal (a.put (some d) .nilIface) cs w) :
    (Code.region id #[{ dst := some d, op := .call { callee := .builtin .recover, args := #[], argTypes := #[] }, type := t, pos := pos, after := #[], guard := none }] false).wpS P Q a cs w := by
  apply wpS_region
  have hr : (execOp a.eval { dst := some d, op := .call { callee := .builtin .recover, args := #[], argTypes := #[] }, type := t, pos := pos, after := #[], guard := none }).run P w = .ok .recover w := by
    simp [execOp, resolve, invoke, builtin]
  show wpOpsS P _ Q [0] a cs w
  simp only [wpOpsS, List.getElem?_toArray, List.getElem?_cons_zero, Region.wanted, if_true, hr]
  cases hc : recoverD cs with
  | none => rw [hc] at h; exact h
  | some x => rw [hc] at h; exact h

theorem try1_idle {W w : World} {l : List SL} (fb ab rb : Nat) (x : Bool) (H : Sat W w (pt fb #[.bool x] 4 :: l)) :
    CallsD Try.prog 93 #[.pointer (some ⟨fb, 0, none⟩), .pointer (some ⟨ab, 0, none⟩), .pointer (some ⟨rb, 0, none⟩)] .returning w fun e u' w' =>
      e = .returned (.tuple #[]) ∧ u' = .returning ∧ Sat W w' (pt fb #[.bool true] 4 :: l) := by
  have hc : w.cell? ⟨fb, 0, none⟩ = some (.bool x) := H.cell 0
  have hf := H.frz 0
  refine callsD_of_wpS Try.func93 rfl fun c₀ cs hu => ?_
  apply wpS_seq
  apply wpS_recover
  have hrec : recoverD (c₀ :: cs) = none := by simp [recoverD, hu]
  rw [hrec]
  show Code.wpS _ _ _ _ _ _
  refine wpS_of_wp ?_
  simp only [Act.put, Try.ntmps93, List.size_toArray, List.length_cons, List.length_nil, Nat.reduceAdd, Nat.reduceSub, Array.replicate_succ,
     Array.replicate_zero, List.push_toArray, List.append_toArray, List.nil_append, List.cons_append]
  go_wp2
  exact ⟨rfl, .returning, by rw [← hu], _, results_none rfl _ _ _, rfl, rfl, by simpa using H.setCell 0 (.bool true)⟩

set_option maxRecDepth 100000 in
theorem try1_gone {W w : World} {l : List SL} (fb ab rb : Nat) (p : Nat) (bs : List UInt8) (pl pl' : Nat) (e a : Int) (x : Bool)
    (H : Sat W w (pt fb #[.bool x] 4 :: pt ab #[.int .i64 pl] 3 :: pt rb #[.pointer (some ⟨p, 0, none⟩)] 61 :: rdr p bs pl' 0 0 :: l)) :
    CallsD Try.prog 93 #[.pointer (some ⟨fb, 0, none⟩), .pointer (some ⟨ab, 0, none⟩), .pointer (some ⟨rb, 0, none⟩)] (.panicking (gone e a)) w fun en u' w' =>
      en = .returned (.tuple #[]) ∧ u' = .panicking [{ v := .iface 124 (.agg #[.int .i64 e, .int .i64 a]), recovered := true }] ∧
      Sat W w' (pt fb #[.bool x] 4 :: pt ab #[.int .i64 pl] 3 :: pt rb #[.pointer (some ⟨p, 0, none⟩)] 61 :: rdr p bs pl e a :: l) := by
  have hag := as_gone e a
  refine callsD_of_wpS Try.func93 rfl fun c₀ cs hu => ?_
  apply wpS_seq
  apply wpS_recover
  have hrec : recoverD (c₀ :: cs) = some (.iface 124 (.agg #[.int .i64 e, .int .i64 a]), { c₀ with mode := .panicking ({ v := .iface 124 (.agg #[.int .i64 e, .int .i64 a]), recovered := true } :: []) } :: cs) := by
    simp only [recoverD, hu, gone]
  rw [hrec]
  show Code.wpS _ _ _ _ _ _
  refine wpS_of_wp ?_
  simp only [Act.put, Try.ntmps93, List.size_toArray, List.length_cons, List.length_nil, Nat.reduceAdd, Nat.reduceSub, Array.replicate_succ,
     Array.replicate_zero, List.push_toArray, List.append_toArray, List.nil_append, List.cons_append]
  clear hrec hu
  go_wp2
  have H0 := H.alloc #[.int .i64 e, .int .i64 a] 124
  generalize w.heap.size = gb at H0 ⊢
  generalize w.alloc _ = wo at H0 ⊢
  clear hag H
  have hg0 : wo.cell? ⟨gb, 0, none⟩ = some (.int .i64 e) := H0.cell 0
  have hg1 : wo.cell? ⟨gb, 1, none⟩ = some (.int .i64 a) := H0.cell 1
  have hr : wo.cell? ⟨rb, 0, none⟩ = some (.pointer (some ⟨p, 0, none⟩)) := (H0.pull 3).cell 0
  have ha : wo.cell? ⟨ab, 0, none⟩ = some (.int .i64 pl) := (H0.pull 2).cell 0
  obtain ⟨A, c, H1⟩ := rdr_open (H0.pull 4)
  have h2 : wo.cell? ⟨p, 2, none⟩ = some (.int .i64 0) := H1.cell 2
  have h3 : wo.cell? ⟨p, 3, none⟩ = some (.int .i64 0) := H1.cell 3
  have h4 : wo.cell? ⟨p, 4, none⟩ = some (.int .i64 pl') := H1.cell 4
  have f2 := H1.frz 2
  have f3 := H1.frz 3
  have f4 := H1.frz 4
  go_region
  go_wp2
  refine ⟨rfl, _, rfl, _, results_none rfl _ _ _, rfl, rfl, ?_⟩
  have H2 := (((H1.setCell 4 (.int .i64 pl)).setCell 2 (.int .i64 e)).setCell 3 (.int .i64 a)).drew
  have H3 : Sat W _ (rdr p bs pl e a :: _) := rdr_shut (A := A) (c := c) (by simpa using H2)
  exact (H3.swap.tail).sink [pt fb #[.bool x] 4, pt ab #[.int .i64 pl] 3, pt rb #[.pointer (some ⟨p, 0, none⟩)] 61]

theorem perm_in (a b c r : SL) (X l : List SL) : (a :: b :: c :: r :: (X ++ l)).Perm (r :: (X ++ (a :: b :: c :: l))) := by
  have h1 : (X ++ (a :: b :: c :: l)).Perm (a :: b :: c :: (X ++ l)) :=
    List.perm_middle.trans ((List.perm_middle.trans ((List.perm_middle).cons b)).cons a)
  have h2 : (a :: b :: c :: r :: (X ++ l)).Perm (r :: a :: b :: c :: (X ++ l)) :=
    ((((List.Perm.swap r c _).cons b).trans (List.Perm.swap r b _)).cons a).trans (List.Perm.swap r a _)
  exact h2.trans ((h1.symm).cons r)

set_option maxRecDepth 100000 in
theorem try_fine {W w : World} {l : List SL} (p : Nat) (bs : List UInt8) (pl pl1 : Nat) (fid : Nat) (caps : Array Value) (X X1 : List SL)
    (hf : ∀ (L : List SL) (w1 : World), Sat W w1 (rdr p bs pl 0 0 :: (X ++ L)) → Calls Try.prog fid caps w1 fun e w' => e = .returned (.tuple #[]) ∧ Sat W w' (rdr p bs pl1 0 0 :: (X1 ++ L)))
    (hfn : ∀ w1 : World, (callFunc fid caps).run Try.prog w1 = .ok (.enter fid caps) w1)
    (H : Sat W w (rdr p bs pl 0 0 :: (X ++ l))) :
    Calls Try.prog 76 #[.pointer (some ⟨p, 0, none⟩), .func (.func fid) #[] caps] w fun e w' => e = .returned (.bool true) ∧ Sat W w' (rdr p bs pl1 0 0 :: (X1 ++ l)) := by
  have hmf : ∀ (fn : Fn) (first cap : Array Value) (w : World), (Instr.makeFunc fn first cap).run Try.prog w = .ok (.func fn first cap) w := fun _ _ _ _ => rfl
  have H0 := ((H.alloc #[.pointer (some ⟨p, 0, none⟩)] 61).alloc #[.bool false] 4)
  rw [World.size_alloc] at H0
  obtain ⟨A, c, H1⟩ := rdr_open (H0.pull 2)
  have hc0 := H1.cell 0
  have hc2 := H1.cell 2
  have hc4 := H1.cell 4
  have hcr := (H0.pull 1).cell 0
  have hcf := H0.cell 0
  have hff := H0.frz 0
  go_enter_defers Try.func76, Try.ntmps76
  go_wp2_with fail
  generalize (w.alloc _).alloc _ = wo at *
  generalize w.heap.size = q at *
  have hc0' : wo.cell? ⟨p, 0, none⟩ = some (.bool true) := hc0
  have hc2' : wo.cell? ⟨p, 2, none⟩ = some (.int .i64 0) := hc2
  have hc4' : wo.cell? ⟨p, 4, none⟩ = some (.int .i64 pl) := hc4
  have hcr' : wo.cell? ⟨q, 0, none⟩ = some (.pointer (some ⟨p, 0, none⟩)) := hcr
  have hcf' : wo.cell? ⟨q + 1, 0, none⟩ = some (.bool false) := hcf
  clear hc0 hc2 hc4 hcr hcf H1
  refine (none_any p 0 true wo hc0').mono ?_
  rintro e w' ⟨rfl, rfl⟩
  have HF := Lib.hid hf
  clear hf
  go_wp2_with fail
  have H3 := ((H0.alloc #[.int .i64 pl] 3).perm (perm_in _ _ _ _ X l))
  refine (HF.out _ _ H3).mono ?_
  rintro e w2 ⟨rfl, H4⟩
  go_wp2
  have H5 := H4.perm (perm_in _ _ _ _ X1 l).symm
  generalize wo.heap.size = q2 at *
  refine leaves_cons (f := 93) (args := #[.pointer (some ⟨q + 1, 0, none⟩), .pointer (some ⟨q2, 0, none⟩), .pointer (some ⟨q, 0, none⟩)]) (by simp) (by simp [go_sem]) ?_
  refine (try1_idle (q + 1) q2 q false H5.swap).mono ?_
  rintro e u' w3 ⟨rfl, rfl, H6⟩
  have hq : w3.cell? ⟨q + 1, 0, none⟩ = some (.bool true) := H6.cell 0
  refine ⟨.bool true, ?_, rfl, H6.tail.tail.tail⟩
  simp [results, Try.results76, go_sem, hq]
set_option maxRecDepth 100000 in
theorem try_gone {W w : World} {l : List SL} (p : Nat) (bs : List UInt8) (pl : Nat) (er ea : Int) (fid : Nat) (caps : Array Value) (X X1 : List SL)
    (hf : ∀ (L : List SL) (w1 : World), Sat W w1 (rdr p bs pl 0 0 :: (X ++ L)) → Calls Try.prog fid caps w1 fun e w' => e = .panicked (gone er ea) ∧ ∃ pl', Sat W w' (rdr p bs pl' 0 0 :: (X1 ++ L)))
    (hfn : ∀ w1 : World, (callFunc fid caps).run Try.prog w1 = .ok (.enter fid caps) w1)
    (H : Sat W w (rdr p bs pl 0 0 :: (X ++ l))) :
    Calls Try.prog 76 #[.pointer (some ⟨p, 0, none⟩), .func (.func fid) #[] caps] w fun e w' => e = .returned (.bool false) ∧ Sat W w' (rdr p bs pl er ea :: (X1 ++ l)) := by
  have hmf : ∀ (fn : Fn) (first cap : Array Value) (w : World), (Instr.makeFunc fn first cap).run Try.prog w = .ok (.func fn first cap) w := fun _ _ _ _ => rfl
  have H0 := ((H.alloc #[.pointer (some ⟨p, 0, none⟩)] 61).alloc #[.bool false] 4)
  rw [World.size_alloc] at H0
  obtain ⟨A, c, H1⟩ := rdr_open (H0.pull 2)
  have hc0 := H1.cell 0
  have hc2 := H1.cell 2
  have hc4 := H1.cell 4
  have hcr := (H0.pull 1).cell 0
  have hcf := H0.cell 0
  have hff := H0.frz 0
  go_enter_defers Try.func76, Try.ntmps76
  go_wp2_with fail
  generalize (w.alloc _).alloc _ = wo at *
  generalize w.heap.size = q at *
  have hc0' : wo.cell? ⟨p, 0, none⟩ = some (.bool true) := hc0
  have hc2' : wo.cell? ⟨p, 2, none⟩ = some (.int .i64 0) := hc2
  have hc4' : wo.cell? ⟨p, 4, none⟩ = some (.int .i64 pl) := hc4
  have hcr' : wo.cell? ⟨q, 0, none⟩ = some (.pointer (some ⟨p, 0, none⟩)) := hcr
  have hcf' : wo.cell? ⟨q + 1, 0, none⟩ = some (.bool false) := hcf
  clear hc0 hc2 hc4 hcr hcf H1
  refine (none_any p 0 true wo hc0').mono ?_
  rintro e w' ⟨rfl, rfl⟩
  have HF := Lib.hid hf
  clear hf
  go_wp2_with fail
  have H3 := ((H0.alloc #[.int .i64 pl] 3).perm (perm_in _ _ _ _ X l))
  refine (HF.out _ _ H3).mono ?_
  rintro e w2 ⟨rfl, pl', H4⟩
  have H5 := H4.perm (perm_in _ _ _ _ X1 l).symm
  generalize wo.heap.size = q2 at *
  go_wp2
  refine leaves_cons (f := 93) (args := #[.pointer (some ⟨q + 1, 0, none⟩), .pointer (some ⟨q2, 0, none⟩), .pointer (some ⟨q, 0, none⟩)]) (by simp) (by simp [go_sem]) ?_
  refine (try1_gone (q + 1) q2 q p bs pl pl' er ea false H5.swap).mono ?_
  rintro e u' w3 ⟨rfl, rfl, H6⟩
  have hq : w3.cell? ⟨q + 1, 0, none⟩ = some (.bool false) := H6.cell 0
  refine ⟨.bool false, ?_, rfl, H6.tail.tail.tail⟩
  simp [results, Try.results76, go_sem, hq]

set_option maxRecDepth 100000 in
/-- A reader with a fault, or that is none, tries nothing. -/
theorem try_stuck {W w : World} {l : List SL} (p : Nat) (bs : List UInt8) (pl : Nat) (er ea : Int) (f : Value) (hne : ¬ er = 0) (H : Sat W w (rdr p bs pl er ea :: l)) :
    Calls Try.prog 76 #[.pointer (some ⟨p, 0, none⟩), f] w fun e w' => e = .returned (.bool false) ∧ Sat W w' (rdr p bs pl er ea :: l) := by
  have H0 := ((H.alloc #[.pointer (some ⟨p, 0, none⟩)] 61).alloc #[.bool false] 4)
  rw [World.size_alloc] at H0
  obtain ⟨A, c, H1⟩ := rdr_open (H0.pull 2)
  have hc0 := H1.cell 0
  have hc2 := H1.cell 2
  have hcr := (H0.pull 1).cell 0
  have hcf := H0.cell 0
  have hff := H0.frz 0
  have hneb : (er == 0) = false := by simpa using hne
  go_enter_defers Try.func76, Try.ntmps76
  go_wp2_with fail
  generalize (w.alloc _).alloc _ = wo at *
  generalize w.heap.size = q at *
  have hc0' : wo.cell? ⟨p, 0, none⟩ = some (.bool true) := hc0
  have hc2' : wo.cell? ⟨p, 2, none⟩ = some (.int .i64 er) := hc2
  have hcr' : wo.cell? ⟨q, 0, none⟩ = some (.pointer (some ⟨p, 0, none⟩)) := hcr
  have hcf' : wo.cell? ⟨q + 1, 0, none⟩ = some (.bool false) := hcf
  clear hc0 hc2 hcr hcf H1
  refine (none_any p 0 true wo hc0').mono ?_
  rintro e w' ⟨rfl, rfl⟩
  go_wp2
  have H2 := H0.setCell 0 (.bool false)
  generalize wo.setCell _ _ = w2 at H2 ⊢
  have hq : w2.cell? ⟨q + 1, 0, none⟩ = some (.bool false) := H2.cell 0
  refine ⟨.bool false, ?_, rfl, H2.tail.tail⟩
  simp [results, Try.results76, go_sem, hq]

set_option maxRecDepth 100000 in
/-- No reader: nil, or one that Open did not make. -/
theorem try_none (f : Value) (w : World) : Calls Try.prog 76 #[.pointer none, f] w fun e w' => e = .returned (.bool false) ∧ Below w.heap.size w w' := by
  go_enter_defers Try.func76, Try.ntmps76
  go_wp2
  refine ⟨.bool false, ?_, rfl, ((Below.refl _ _).alloc (Nat.le_refl _) _).alloc (by simp) _⟩
  simp [results, Try.results76, go_sem]
set_option maxRecDepth 100000 in
theorem try_off (p : Nat) (f : Value) (w : World) (hc : w.cell? ⟨p, 0, none⟩ = some (.bool false)) : Calls Try.prog 76 #[.pointer (some ⟨p, 0, none⟩), f] w fun e w' => e = .returned (.bool false) ∧ Below w.heap.size w w' := by
  have hlt := World.block_lt_of_cell? _ _ hc
  have hc' : ((w.alloc (.cells #[.pointer (some ⟨p, 0, none⟩)] 61)).alloc (.cells #[.bool false] 4)).cell? ⟨p, 0, none⟩ = some (.bool false) := by
    rw [World.cell?_alloc_lt _ _ _ (show p < (w.alloc _).heap.size by rw [World.size_alloc]; exact Nat.lt_succ_of_lt hlt), World.cell?_alloc_lt _ _ _ hlt]; exact hc
  go_enter_defers Try.func76, Try.ntmps76
  go_wp2_with fail
  refine (none_any p 0 false _ hc').mono ?_
  rintro e w' ⟨rfl, rfl⟩
  go_wp2
  refine ⟨.bool false, ?_, rfl, ((Below.refl _ _).alloc (Nat.le_refl _) _).alloc (by simp) _⟩
  simp [results, Try.results76, go_sem]
end Go.Proofs.Ytflcmhmbmippfaa
